/- Kinds, signatures and loops of the functions that the laws reach, and what each computes. -/
import Derived.Test.YtnnoohfloniinaaGreatRfE
import Derived.Test.YtnnoohfloniinaaGreatProg
import Derived.KernelRfl
import Derived.Test.YtnnoohfloniinaaGreatShelf
import Derived.Test.YtnnoohfloniinaaGreatBack
import Derived.Test.YtnnoohfloniinaaGreatCmp
set_option linter.unusedVariables false
namespace Go.Proofs.YtnnoohfloniinaaGreat.R
open Go.Rf Go.Proofs
def tySaid : Ty := (.pair (.int .i64) (.int .i64))
abbrev DSaid := Int × Int
def tyLasso : Ty := (.pair (.sl (.int .i64)) (.sl (.int .i64)))
abbrev DLasso := (Bool × List Int) × Bool × List Int
def tyl1Cur : Ty := (.pair (.sl (.int .u8)) (.pair (.int .i64) (.int .u64)))
abbrev Dl1Cur := (Bool × List Int) × Int × Int
def tyEdge : Ty := (.pair (.int .i64) tySaid)
abbrev DEdge := Int × DSaid
def tyboundsError : Ty := (.pair (.int .i64) (.pair (.int .i64) (.pair .bool (.int .u8))))
abbrev DboundsError := Int × Int × Bool × Int
def tyAuto : Ty := (.pair (.int .i64) (.pair (.sl (.int .i64)) (.pair (.sl tyEdge) (.sl (.sl (.int .i64))))))
abbrev DAuto := Int × (Bool × List Int) × (Bool × List DEdge) × Bool × List (Bool × List Int)
noncomputable def h_laws_big : FnH := ⟨4, Tryz.f4, (.tup (.v (.sl (.int .u8))) (.tup (.v (.sl (.int .u8))) .unit)), (.tup (.v .bool) .unit), [], [], [], [], [], none⟩
noncomputable def h_spec_l1Cur_next : FnH := ⟨75, Tryz.f75, (.tup (.box 206849 (.pair (.v (.sl (.int .u8))) (.pair (.v (.int .i64)) (.v (.int .u64))))) .unit), (.tup (.box 206849 (.v tyl1Cur)) (.tup (.v (.int .i64)) .unit)), [206849], [], [], [], [], none⟩
noncomputable def h_spec_l1Cur_pick : FnH := ⟨44, Tryz.f44, (.tup (.box 206850 (.v tyl1Cur)) (.tup (.v (.int .i64)) .unit)), (.tup (.box 206850 (.v tyl1Cur)) (.tup (.v (.int .i64)) .unit)), [206850], [], [], [], [], none⟩
noncomputable def h_spec_l1Cur_one : FnH := ⟨52, Tryz.f52, (.tup (.box 206851 (.v tyl1Cur)) (.tup (.v (.int .i64)) .unit)), (.tup (.box 206851 (.v tyl1Cur)) (.tup (.v .bool) .unit)), [206851], [], [], [], [], none⟩
noncomputable def h_spec_l1Cur_among : FnH := ⟨53, Tryz.f53, (.tup (.box 206854 (.v tyl1Cur)) (.tup (.v (.sl (.int .i64))) .unit)), (.tup (.box 206854 (.v tyl1Cur)) (.tup (.v (.int .i64)) .unit)), [206854], [], [], [], [], none⟩
noncomputable def h_spec_l1Cur_formula : FnH := ⟨49, Tryz.f49, (.tup (.box 206852 (.v tyl1Cur)) (.tup (.v (.int .i64)) .unit)), (.tup (.box 206852 (.v tyl1Cur)) (.tup (.own 206853 tySaid true) .unit)), [206852], [], [], [], [], none⟩
noncomputable def h_spec_l1In : FnH := ⟨63, Tryz.f63, (.tup (.v (.int .i64)) (.tup (.v (.int .i64)) (.tup (.v (.int .i64)) .unit))), (.tup (.v .bool) .unit), [], [], [], [], [], none⟩
noncomputable def h_spec_l10Need : FnH := ⟨90, Tryz.f90, (.tup (.v (.int .i64)) .unit), (.tup (.v (.int .i64)) .unit), [], [], [], [], [], none⟩
noncomputable def h_spec_l10N : FnH := ⟨91, Tryz.f91, (.tup (.v tySaid) .unit), (.tup (.v .bool) .unit), [], [], [], [], [], none⟩
noncomputable def h_spec_GoodSaid : FnH := ⟨62, Tryz.f62, (.tup (.v (.sl tySaid)) .unit), (.tup (.v .bool) .unit), [], [], [(0, ⟨[(3, (.v (.int .i64))), (11, (.v (.sl tySaid))), (12, (.v (.int .i64))), (13, (.v (.int .i64)))], [(.ret, [(2, (.v .bool))]), (.exit 0, [(3, (.v (.int .i64)))])], []⟩)], [], [], none⟩
noncomputable def h_spec_l1Put : FnH := ⟨67, Tryz.f67, (.tup (.v (.sl (.int .i64))) (.tup (.v (.int .i64)) .unit)), (.tup (.v (.sl (.int .i64))) .unit), [], [], [(0, ⟨[(0, (.v (.sl (.int .i64)))), (1, (.v (.int .i64))), (5, (.v (.int .i64)))], [(.exit 0, [(5, (.v (.int .i64)))])], [0, 1]⟩)], [], [], none⟩
noncomputable def h_spec_l13Tracked : FnH := ⟨30, Tryz.f30, (.tup (.v (.sl tySaid)) .unit), (.tup (.v (.sl (.int .i64))) .unit), [], [], [(0, ⟨[(3, (.v (.sl (.int .i64)))), (10, (.v (.sl tySaid))), (11, (.v (.int .i64))), (12, (.v (.int .i64)))], [(.exit 0, [(3, (.v (.sl (.int .i64))))])], []⟩)], [], [], none⟩
noncomputable def h_spec_l13Good : FnH := ⟨27, Tryz.f27, (.tup (.v (.sl tySaid)) .unit), (.tup (.v .bool) .unit), [], [], [], [], [], none⟩
noncomputable def h_spec_l1Cur_said : FnH := ⟨50, Tryz.f50, (.tup (.box 206861 (.v tyl1Cur)) .unit), (.tup (.box 206861 (.v tyl1Cur)) (.tup (.own 206862 tySaid true) .unit)), [206861], [], [], [], [], none⟩
noncomputable def h_spec_l1Cur_tracked : FnH := ⟨19, Tryz.f19, (.tup (.box 206856 (.v tyl1Cur)) .unit), (.tup (.box 206856 (.v tyl1Cur)) (.tup (.own 206860 tySaid true) .unit)), [206856], [], [(0, ⟨[(0, (.box 206855 (.v tyl1Cur))), (3, (.v (.int .i64)))], [(.ret, [(2206855, (.box 206855 (.v tyl1Cur))), (2, (.own 206859 tySaid true))]), (.exit 0, [(2206855, (.box 206855 (.v tyl1Cur)))])], [0]⟩)], [], [], none⟩
noncomputable def h_spec_l1Cur_letters : FnH := ⟨51, Tryz.f51, (.tup (.box 206866 (.v tyl1Cur)) (.tup (.v (.int .i64)) .unit)), (.tup (.box 206866 (.v tyl1Cur)) (.tup (.own 206868 (.int .i64) true) .unit)), [206866], [], [(0, ⟨[(0, (.box 206865 (.v tyl1Cur))), (1, (.v (.int .i64))), (5, (.own 206864 (.int .i64) true))], [(.exit 0, [(2206865, (.box 206865 (.v tyl1Cur))), (5, (.own 206867 (.int .i64) true))])], []⟩)], [], [], none⟩
noncomputable def h_spec_l1Cur_lasso : FnH := ⟨20, Tryz.f20, (.tup (.box 206863 (.v tyl1Cur)) .unit), (.tup (.box 206863 (.v tyl1Cur)) (.tup (.pair (.own 206869 (.int .i64) true) (.own 206870 (.int .i64) true)) .unit)), [206863], [], [], [], [], none⟩
noncomputable def h_spec_DrawRunFor : FnH := ⟨5, Tryz.f5, (.tup (.v (.sl (.int .u8))) .unit), (.tup (.own 206871 tySaid true) (.tup (.pair (.own 206872 (.int .i64) true) (.own 206873 (.int .i64) true)) .unit)), [], [], [], [], [], none⟩
noncomputable def h_impl_operandsOfSaid : FnH := ⟨59, Tryz.f59, (.tup (.v (.int .i64)) .unit), (.tup (.v (.int .i64)) .unit), [], [], [], [], [], none⟩
noncomputable def h_impl_isSaid : FnH := ⟨79, Tryz.f79, (.tup (.v tySaid) .unit), (.tup (.v .bool) .unit), [], [], [], [], [], none⟩
noncomputable def h_impl_GoodSaid : FnH := ⟨54, Tryz.f54, (.tup (.v (.sl tySaid)) .unit), (.tup (.v .bool) .unit), [], [], [(0, ⟨[(3, (.v (.int .i64))), (15, (.v (.sl tySaid))), (16, (.v (.int .i64))), (17, (.v (.int .i64)))], [(.ret, [(2, (.v .bool))]), (.exit 0, [(3, (.v (.int .i64)))])], []⟩)], [], [], none⟩
noncomputable def h_slices_Clone_int : FnH := ⟨26, Tryz.f26, (.tup (.v (.sl (.int .i64))) .unit), (.tup (.own 206876 (.int .i64) true) .unit), [], [], [], [], [], none⟩
noncomputable def h_impl_operandIndexes : FnH := ⟨56, Tryz.f56, (.tup (.v (.sl tySaid)) .unit), (.tup (.own 206878 (.sl (.int .i64)) true) .unit), [], [], [(0, ⟨[(3, (.own 206874 (.sl (.int .i64)) true)), (4, (.own 206875 (.int .i64) true)), (10, (.v (.sl tySaid))), (11, (.v (.int .i64))), (12, (.v (.int .i64)))], [(.exit 0, [(3, (.own 206877 (.sl (.int .i64)) true))])], []⟩)], [], [], none⟩
noncomputable def h_slices_Sort_int : FnH := sortH 57 Tryz.f57 206881
noncomputable def h_slices_Compact_int : FnH := compactH 58 Tryz.f58 206882 206883
noncomputable def h_impl_tracked : FnH := ⟨23, Tryz.f23, (.tup (.v (.sl tySaid)) .unit), (.tup (.own 206884 (.int .i64) true) .unit), [], [], [(0, ⟨[(3, (.own 206879 (.int .i64) true)), (4, (.v (.sl (.sl (.int .i64))))), (13, (.v (.sl tySaid))), (14, (.v (.int .i64))), (15, (.v (.int .i64)))], [(.exit 0, [(3, (.own 206880 (.int .i64) true))])], []⟩)], [], [], none⟩
noncomputable def h_impl_isTracked : FnH := ⟨21, Tryz.f21, (.tup (.v (.sl tySaid)) .unit), (.tup (.v .bool) .unit), [], [], [], [], [], none⟩
noncomputable def h_impl_areLetters_1 : FnH := ⟨81, Tryz.f81, (.tup (.v (.int .i64)) .unit), (.tup (.v .bool) .unit), [], [], [], [], [], none⟩
noncomputable def h_slices_IndexFunc_int_by_areLetters_1 : FnH := ⟨100, Tryz.f100, (.tup (.v (.sl (.int .i64))) (.tup (.v (.fn 81 .nil)) .unit)), (.tup (.v (.int .i64)) .unit), [], [], [(0, ⟨[(0, (.v (.sl (.int .i64)))), (1, (.v (.fn 81 .nil))), (7, (.v (.int .i64))), (8, (.v (.int .i64)))], [(.ret, [(4, (.v (.int .i64)))]), (.exit 0, [])], []⟩)], [], [], none⟩
noncomputable def h_slices_ContainsFunc_int_by_areLetters_1 : FnH := ⟨80, Tryz.f80, (.tup (.v (.sl (.int .i64))) (.tup (.v (.fn 81 .nil)) .unit)), (.tup (.v .bool) .unit), [], [], [], [], [], none⟩
noncomputable def h_impl_areLetters : FnH := ⟨55, Tryz.f55, (.tup (.v (.sl (.int .i64))) .unit), (.tup (.v .bool) .unit), [], [], [], [], [], none⟩
noncomputable def h_impl_GoodLasso : FnH := ⟨22, Tryz.f22, (.tup (.v tyLasso) .unit), (.tup (.v .bool) .unit), [], [], [], [], [], none⟩
noncomputable def h_impl_subtree : FnH := ⟨25, Tryz.f25, (.tup (.v (.sl tySaid)) (.tup (.v (.int .i64)) .unit)), (.tup (.v (.sl tySaid)) .unit), [], [], [(0, ⟨[(0, (.v (.sl tySaid))), (1, (.v (.int .i64))), (5, (.v (.int .i64))), (6, (.v (.int .i64)))], [(.exit 0, [(5, (.v (.int .i64)))])], [0, 1]⟩)], [], [], none⟩
noncomputable def h_bits_Mul64 : FnH := ⟨136, Tryz.f136, (.tup (.v (.int .u64)) (.tup (.v (.int .u64)) .unit)), (.tup (.v (.int .u64)) (.tup (.v (.int .u64)) .unit)), [], [], [], [], [], none⟩
noncomputable def h_bits_Mul : FnH := ⟨129, Tryz.f129, (.tup (.v (.int .u64)) (.tup (.v (.int .u64)) .unit)), (.tup (.v (.int .u64)) (.tup (.v (.int .u64)) .unit)), [], [], [], [], [], none⟩
noncomputable def h_slices_Repeat_bool : FnH := ⟨112, Tryz.f112, (.tup (.v (.sl .bool)) (.tup (.v (.int .i64)) .unit)), (.tup (.own 206887 .bool true) .unit), [], [], [(0, ⟨[(7, (.own 206886 .bool true)), (8, (.v (.int .i64)))], [(.exit 0, [(1206886, (.own 206886 .bool true))])], [7]⟩)], [], [], none⟩
noncomputable def h_impl_Lasso_nextPlace : FnH := ⟨89, Tryz.f89, (.tup (.v tyLasso) (.tup (.v (.int .i64)) .unit)), (.tup (.v (.int .i64)) .unit), [], [], [], [], [], none⟩
noncomputable def h_impl_Lasso_holdsAlong_2 : FnH := ⟨85, Tryz.f85, (.tup (.v (.int .i64)) (.tup (.sp (.sl (.sl .bool))) .unit)), (.tup (.v .bool) .unit), [], [], [], [], [], none⟩
noncomputable def h_impl_Lasso_holdsAlong_1 : FnH := ⟨84, Tryz.f84, (.tup (.v (.int .i64)) (.tup (.sp (.sl (.sl .bool))) .unit)), (.tup (.v .bool) .unit), [], [], [], [], [], none⟩
noncomputable def h_impl_Lasso_holdsAlong_3 : FnH := ⟨87, Tryz.f87, (.tup (.v (.int .i64)) (.tup (.v .bool) (.tup (.sp (.fn 85 (.pair (.sl (.sl .bool)) .nil))) (.tup (.sp (.fn 84 (.pair (.sl (.sl .bool)) .nil))) .unit)))), (.tup (.v .bool) .unit), [], [], [], [], [], none⟩
noncomputable def h_impl_Lasso_fixed_by_Lasso_holdsAlong_3 : FnH := ⟨86, Tryz.f86, (.tup (.v tyLasso) (.tup (.v .bool) (.tup (.v (.fn 87 (.pair (.fn 85 (.pair (.sl (.sl .bool)) .nil)) (.pair (.fn 84 (.pair (.sl (.sl .bool)) .nil)) .nil)))) .unit))), (.tup (.own 206893 .bool true) .unit), [], [], [(0, ⟨[(3, (.sp tyLasso)), (5, (.sp (.fn 87 (.pair (.fn 85 (.pair (.sl (.sl .bool)) .nil)) (.pair (.fn 84 (.pair (.sl (.sl .bool)) .nil)) .nil))))), (6, (.v (.sl .bool))), (7, (.box 206891 (.own 206892 .bool true))), (19, (.v (.int .i64)))], [(.exit 0, [(2206891, (.box 206891 (.own 206892 .bool true)))])], [7]⟩), (2, ⟨[(3, (.sp tyLasso)), (5, (.sp (.fn 87 (.pair (.fn 85 (.pair (.sl (.sl .bool)) .nil)) (.pair (.fn 84 (.pair (.sl (.sl .bool)) .nil)) .nil))))), (7, (.box 206889 (.own 206890 .bool true))), (22, (.clo 130 (.tup (.box 206888 (.ref 206890)) .unit))), (23, (.v (.int .i64)))], [(.normal, [(2206889, (.box 206889 (.own 206890 .bool true)))])], [3, 5, 6, 7, 19]⟩)], [], [], none⟩
noncomputable def h_impl_Lasso_holdsAlong_4 : FnH := ⟨88, Tryz.f88, (.tup (.v (.int .i64)) (.tup (.v .bool) (.tup (.sp (.fn 85 (.pair (.sl (.sl .bool)) .nil))) (.tup (.sp (.fn 84 (.pair (.sl (.sl .bool)) .nil))) .unit)))), (.tup (.v .bool) .unit), [], [], [], [], [], none⟩
noncomputable def h_impl_Lasso_fixed_by_Lasso_holdsAlong_4 : FnH := ⟨86, Tryz.f86, (.tup (.v tyLasso) (.tup (.v .bool) (.tup (.v (.fn 88 (.pair (.fn 85 (.pair (.sl (.sl .bool)) .nil)) (.pair (.fn 84 (.pair (.sl (.sl .bool)) .nil)) .nil)))) .unit))), (.tup (.own 206900 .bool true) .unit), [], [], [(0, ⟨[(3, (.sp tyLasso)), (5, (.sp (.fn 88 (.pair (.fn 85 (.pair (.sl (.sl .bool)) .nil)) (.pair (.fn 84 (.pair (.sl (.sl .bool)) .nil)) .nil))))), (6, (.v (.sl .bool))), (7, (.box 206898 (.own 206899 .bool true))), (19, (.v (.int .i64)))], [(.exit 0, [(2206898, (.box 206898 (.own 206899 .bool true)))])], [7]⟩), (2, ⟨[(3, (.sp tyLasso)), (5, (.sp (.fn 88 (.pair (.fn 85 (.pair (.sl (.sl .bool)) .nil)) (.pair (.fn 84 (.pair (.sl (.sl .bool)) .nil)) .nil))))), (7, (.box 206896 (.own 206897 .bool true))), (22, (.clo 130 (.tup (.box 206895 (.ref 206897)) .unit))), (23, (.v (.int .i64)))], [(.normal, [(2206896, (.box 206896 (.own 206897 .bool true)))])], [3, 5, 6, 7, 19]⟩)], [], [], none⟩
noncomputable def h_impl_Lasso_letterAt : FnH := ⟨36, Tryz.f36, (.tup (.v tyLasso) (.tup (.v (.int .i64)) .unit)), (.tup (.v (.int .i64)) .unit), [], [], [], [], [], none⟩
noncomputable def h_impl_Lasso_holdsAlong : FnH := ⟨60, Tryz.f60, (.tup (.v tyLasso) (.tup (.v tySaid) (.tup (.v (.sl (.sl .bool))) .unit))), (.tup (.own 206894 .bool true) .unit), [], [(25, 10045)], [(1, ⟨[(3, (.sp tyLasso)), (4, (.sp tySaid)), (7, (.sp (.fn 84 (.pair (.sl (.sl .bool)) .nil)))), (8, (.sp (.fn 85 (.pair (.sl (.sl .bool)) .nil)))), (9, (.own 206901 .bool true)), (33, (.v (.int .i64))), (34, (.v (.int .i64)))], [(.exit 1, [(9, (.own 206902 .bool true))])], []⟩)], [], [], none⟩
noncomputable def h_impl_Lasso_along : FnH := ⟨24, Tryz.f24, (.tup (.v tyLasso) (.tup (.v (.sl tySaid)) .unit)), (.tup (.v (.sl .bool)) .unit), [], [], [(0, ⟨[(2, (.sp tyLasso)), (5, (.own 206885 (.sl .bool) false)), (10, (.v (.sl tySaid))), (11, (.v (.int .i64))), (12, (.v (.int .i64)))], [(.exit 0, [(5, (.own 206903 (.sl .bool) false))])], []⟩)], [], [], none⟩
noncomputable def h_impl_RunFor : FnH := ⟨6, Tryz.f6, (.tup (.v (.sl tySaid)) (.tup (.v tyLasso) .unit)), (.tup (.own 206906 (.int .i64) true) (.tup (.own 206907 (.int .i64) true) (.tup (.v .bool) .unit))), [], [], [(0, ⟨[(0, (.v (.sl tySaid))), (3, (.sp tyLasso)), (7, (.own 206905 (.int .i64) true)), (29, (.v (.sl (.int .i64)))), (30, (.v (.int .i64))), (31, (.v (.int .i64)))], [(.exit 0, [(1206905, (.own 206905 (.int .i64) true))])], [3, 7]⟩), (2, ⟨[(0, (.v (.sl tySaid))), (3, (.sp tyLasso)), (7, (.own 206904 (.int .i64) true)), (8, (.v (.int .i64))), (29, (.v (.sl (.int .i64)))), (30, (.v (.int .i64))), (31, (.v (.int .i64))), (40, (.v (.sl .bool))), (41, (.v (.int .i64))), (42, (.v (.int .i64)))], [(.exit 2, [(1206904, (.own 206904 (.int .i64) true))])], [0, 3, 7, 29, 30, 31]⟩)], [], [], none⟩
noncomputable def h_spec_l1All : FnH := ⟨64, Tryz.f64, (.tup (.v (.sl (.int .i64))) (.tup (.v (.int .i64)) (.tup (.v (.int .i64)) .unit))), (.tup (.v .bool) .unit), [], [], [(0, ⟨[(1, (.v (.int .i64))), (2, (.v (.int .i64))), (9, (.v (.sl (.int .i64)))), (10, (.v (.int .i64))), (11, (.v (.int .i64)))], [(.ret, [(6, (.v .bool))]), (.exit 0, [])], []⟩)], [], [], none⟩
noncomputable def h_spec_GoodLasso : FnH := ⟨28, Tryz.f28, (.tup (.v tyLasso) .unit), (.tup (.v .bool) .unit), [], [], [], [], [], none⟩
noncomputable def h_spec_l9At : FnH := ⟨66, Tryz.f66, (.tup (.v tyLasso) (.tup (.v (.int .i64)) .unit)), (.tup (.v (.int .i64)) .unit), [], [], [], [], [], none⟩
noncomputable def h_spec_l10From : FnH := ⟨78, Tryz.f78, (.tup (.v (.sl tySaid)) (.tup (.v (.int .i64)) .unit)), (.tup (.v (.int .i64)) .unit), [], [], [(0, ⟨[(0, (.v (.sl tySaid))), (5, (.v (.int .i64))), (6, (.v (.int .i64)))], [(.exit 0, [(5, (.v (.int .i64)))])], []⟩)], [], [], none⟩
noncomputable def h_spec_l10Cell : FnH := ⟨65, Tryz.f65, (.tup (.v (.sl tySaid)) (.tup (.v (.sl (.sl .bool))) (.tup (.v (.int .i64)) (.tup (.v (.int .i64)) (.tup (.v (.int .i64)) (.tup (.v (.int .i64)) (.tup (.v .bool) .unit))))))), (.tup (.v .bool) .unit), [], [], [], [], [], none⟩
noncomputable def h_spec_l10Table : FnH := ⟨29, Tryz.f29, (.tup (.v (.sl tySaid)) (.tup (.v tyLasso) .unit)), (.tup (.own 206913 (.sl .bool) true) .unit), [], [], [(0, ⟨[(0, (.v (.sl tySaid))), (3, (.sp tyLasso)), (5, (.v (.int .i64))), (6, (.own 206908 (.sl .bool) true)), (21, (.v (.sl tySaid))), (22, (.v (.int .i64))), (23, (.v (.int .i64)))], [(.exit 0, [(6, (.own 206912 (.sl .bool) true))])], []⟩), (2, ⟨[(0, (.v (.sl tySaid))), (3, (.sp tyLasso)), (5, (.v (.int .i64))), (6, (.v (.sl (.sl .bool)))), (7, (.v (.int .i64))), (8, (.sp tySaid)), (9, (.own 206909 .bool true)), (21, (.v (.sl tySaid))), (22, (.v (.int .i64))), (23, (.v (.int .i64))), (31, (.v (.int .i64))), (32, (.v (.int .i64)))], [(.exit 2, [(1206909, (.own 206909 .bool true))])], [0, 3, 5, 6, 7, 9, 21, 22, 23]⟩), (4, ⟨[(0, (.v (.sl tySaid))), (3, (.sp tyLasso)), (5, (.v (.int .i64))), (6, (.v (.sl (.sl .bool)))), (7, (.v (.int .i64))), (9, (.own 206911 .bool true)), (11, (.v (.int .i64))), (21, (.v (.sl tySaid))), (22, (.v (.int .i64))), (23, (.v (.int .i64)))], [(.exit 4, [(1206911, (.own 206911 .bool true))])], [0, 3, 5, 6, 9, 21, 22, 23]⟩), (6, ⟨[(0, (.v (.sl tySaid))), (3, (.sp tyLasso)), (5, (.v (.int .i64))), (6, (.v (.sl (.sl .bool)))), (7, (.v (.int .i64))), (9, (.own 206910 .bool true)), (11, (.v (.int .i64))), (12, (.v (.int .i64))), (21, (.v (.sl tySaid))), (22, (.v (.int .i64))), (23, (.v (.int .i64)))], [(.exit 6, [(1206910, (.own 206910 .bool true))])], [0, 3, 5, 6, 7, 9, 11, 21, 22, 23]⟩)], [], [], none⟩
noncomputable def h_spec_l2Bool : FnH := ⟨31, Tryz.f31, (.tup (.v .bool) .unit), (.tup (.v (.int .u64)) .unit), [], [], [], [], [], none⟩
noncomputable def h_spec_l1Own : FnH := ⟨32, Tryz.f32, (.tup (.v (.sl (.int .i64))) .unit), (.tup (.own 206916 (.int .i64) true) .unit), [], [], [], [], [], none⟩
noncomputable def h_spec_RunFor : FnH := ⟨7, Tryz.f7, (.tup (.v (.sl tySaid)) (.tup (.v tyLasso) .unit)), (.tup (.own 206917 (.int .i64) true) (.tup (.own 206918 (.int .i64) true) (.tup (.v .bool) .unit))), [], [], [(0, ⟨[(0, (.v (.sl tySaid))), (3, (.sp tyLasso)), (7, (.v (.sl (.sl .bool)))), (8, (.own 206914 (.int .i64) true)), (9, (.v (.int .i64)))], [(.exit 0, [(8, (.own 206915 (.int .i64) true))])], [3]⟩), (2, ⟨[(0, (.v (.sl tySaid))), (3, (.sp tyLasso)), (7, (.v (.sl (.sl .bool)))), (8, (.v (.sl (.int .i64)))), (9, (.v (.int .i64))), (10, (.v (.int .i64))), (36, (.v (.sl (.int .i64)))), (37, (.v (.int .i64))), (38, (.v (.int .i64)))], [(.exit 2, [(10, (.v (.int .i64)))])], [0, 3, 7, 8, 9]⟩)], [], [], none⟩
noncomputable def h_laws_sameInts : FnH := ⟨8, Tryz.f8, (.tup (.v (.sl (.int .i64))) (.tup (.v (.sl (.int .i64))) .unit)), (.tup (.v .bool) .unit), [], [], [(0, ⟨[(0, (.v (.sl (.int .i64)))), (1, (.v (.sl (.int .i64)))), (12, (.v (.int .i64))), (13, (.v (.int .i64)))], [(.ret, [(4, (.v .bool))]), (.exit 0, [])], []⟩)], [], [], none⟩
noncomputable def h_impl_guesses : FnH := ⟨68, Tryz.f68, (.tup (.v (.sl tySaid)) .unit), (.tup (.v (.int .i64)) .unit), [], [], [], [], [], none⟩
noncomputable def h_slices_Index_int : FnH := ⟨74, Tryz.f74, (.tup (.v (.sl (.int .i64))) (.tup (.v (.int .i64)) .unit)), (.tup (.v (.int .i64)) .unit), [], [], [(0, ⟨[(0, (.v (.sl (.int .i64)))), (1, (.v (.int .i64))), (7, (.v (.int .i64))), (8, (.v (.int .i64)))], [(.ret, [(4, (.v (.int .i64)))]), (.exit 0, [])], []⟩)], [], [], none⟩
noncomputable def h_impl_assumes : FnH := ⟨76, Tryz.f76, (.tup (.v (.sl (.int .i64))) (.tup (.v (.int .i64)) (.tup (.v (.int .i64)) .unit))), (.tup (.v .bool) .unit), [], [], [], [], [], none⟩
noncomputable def h_impl_rooted_1 : FnH := ⟨93, Tryz.f93, (.tup (.v (.int .i64)) (.tup (.sp (.sl (.int .i64))) (.tup (.sp (.sl tySaid)) (.tup (.sp .bool) .unit)))), (.tup (.v .bool) .unit), [], [], [], [], [], none⟩
noncomputable def h_impl_guessesWith_by_rooted_1 : FnH := ⟨92, Tryz.f92, (.tup (.v (.sl tySaid)) (.tup (.v (.fn 93 (.pair (.sl (.int .i64)) (.pair (.sl tySaid) (.pair .bool .nil))))) .unit)), (.tup (.own 206921 (.int .i64) true) .unit), [], [], [(0, ⟨[(1, (.v (.fn 93 (.pair (.sl (.int .i64)) (.pair (.sl tySaid) (.pair .bool .nil)))))), (5, (.own 206919 (.int .i64) true)), (9, (.v (.int .i64))), (10, (.v (.int .i64)))], [(.exit 0, [(5, (.own 206920 (.int .i64) true))])], []⟩)], [], [], none⟩
noncomputable def h_impl_rooted : FnH := ⟨69, Tryz.f69, (.tup (.v (.sl tySaid)) (.tup (.v .bool) .unit)), (.tup (.own 206922 (.int .i64) true) .unit), [], [], [], [], [], none⟩
noncomputable def h_impl_goalsOf_1 : FnH := ⟨94, Tryz.f94, (.tup (.v (.int .i64)) (.tup (.sp (.sl (.int .i64))) (.tup (.sp (.int .i64)) (.tup (.sp (.sl (.sl (.int .i64)))) (.tup (.sp tySaid) .unit))))), (.tup (.v .bool) .unit), [], [], [], [], [], none⟩
noncomputable def h_impl_guessesWith_by_goalsOf_1 : FnH := ⟨92, Tryz.f92, (.tup (.v (.sl tySaid)) (.tup (.v (.fn 94 (.pair (.sl (.int .i64)) (.pair (.int .i64) (.pair (.sl (.sl (.int .i64))) (.pair tySaid .nil)))))) .unit)), (.tup (.own 206926 (.int .i64) true) .unit), [], [], [(0, ⟨[(1, (.v (.fn 94 (.pair (.sl (.int .i64)) (.pair (.int .i64) (.pair (.sl (.sl (.int .i64))) (.pair tySaid .nil))))))), (5, (.own 206924 (.int .i64) true)), (9, (.v (.int .i64))), (10, (.v (.int .i64)))], [(.exit 0, [(5, (.own 206925 (.int .i64) true))])], []⟩)], [], [], none⟩
noncomputable def h_impl_goalsOf : FnH := ⟨70, Tryz.f70, (.tup (.v (.sl tySaid)) .unit), (.tup (.own 206928 (.sl (.int .i64)) true) .unit), [], [(31, 10067)], [(0, ⟨[(0, (.v (.sl tySaid))), (3, (.own 206923 (.sl (.int .i64)) true)), (4, (.sp (.sl (.sl (.int .i64))))), (5, (.sp (.sl (.int .i64)))), (13, (.v (.sl tySaid))), (14, (.v (.int .i64))), (15, (.v (.int .i64)))], [(.exit 0, [(3, (.own 206927 (.sl (.int .i64)) true))])], []⟩)], [], [], none⟩
noncomputable def h_impl_evalNow : FnH := ⟨45, Tryz.f45, (.tup (.v (.sl tySaid)) (.tup (.v (.int .i64)) (.tup (.v (.int .i64)) .unit))), (.tup (.own 206931 .bool true) .unit), [], [], [(0, ⟨[(1, (.v (.int .i64))), (2, (.v (.int .i64))), (7, (.own 206929 .bool true)), (8, (.v (.sl (.sl (.int .i64))))), (9, (.v (.sl (.int .i64)))), (18, (.v (.sl tySaid))), (19, (.v (.int .i64))), (20, (.v (.int .i64)))], [(.exit 0, [(7, (.own 206930 .bool true))])], []⟩)], [], [], none⟩
noncomputable def h_impl_guessOf : FnH := ⟨38, Tryz.f38, (.tup (.v (.sl tySaid)) (.tup (.v (.int .i64)) (.tup (.v (.int .i64)) .unit))), (.tup (.v (.int .i64)) .unit), [], [], [(0, ⟨[(7, (.v (.sl .bool))), (8, (.v (.int .i64))), (16, (.v (.sl (.int .i64)))), (17, (.v (.int .i64))), (18, (.v (.int .i64)))], [(.exit 0, [(8, (.v (.int .i64)))])], []⟩)], [], [], none⟩
noncomputable def h_slices_SortFunc_Edge_by_compareEdges : FnH := sortfH 71 Tryz.f71 206949 72
noncomputable def h_impl_autoFor : FnH := ⟨34, Tryz.f34, (.tup (.v (.sl tySaid)) (.tup (.v .bool) .unit)), (.tup (.pair (.v (.int .i64)) (.pair (.own 206950 (.int .i64) true) (.pair (.own 206951 tyEdge true) (.own 206952 (.sl (.int .i64)) true)))) .unit), [], [], [(0, ⟨[(0, (.v (.sl tySaid))), (4, (.sp tyAuto)), (5, (.box 206934 (.pair (.v (.int .i64)) (.pair (.own 206938 (.int .i64) true) (.pair (.own 206935 tyEdge true) (.own 206943 (.sl (.int .i64)) true)))))), (16, (.v (.int .i64)))], [(.exit 0, [(2206934, (.box 206934 (.pair (.v (.int .i64)) (.pair (.own 206946 (.int .i64) true) (.pair (.own 206947 tyEdge true) (.own 206948 (.sl (.int .i64)) true))))))])], [4, 5]⟩), (2, ⟨[(0, (.v (.sl tySaid))), (4, (.sp tyAuto)), (5, (.box 206932 (.pair (.v (.int .i64)) (.pair (.own 206939 (.int .i64) true) (.pair (.own 206933 tyEdge true) (.own 206944 (.sl (.int .i64)) true)))))), (6, (.v (.int .i64))), (16, (.v (.int .i64))), (20, (.v (.int .i64))), (21, (.v (.int .i64)))], [(.exit 2, [(2206932, (.box 206932 (.pair (.v (.int .i64)) (.pair (.own 206940 (.int .i64) true) (.pair (.own 206936 tyEdge true) (.own 206945 (.sl (.int .i64)) true))))))])], [0, 4, 5, 16]⟩)], [], [], none⟩
noncomputable def h_impl_isIncreasing : FnH := ⟨40, Tryz.f40, (.tup (.v (.sl (.int .i64))) (.tup (.v (.int .i64)) .unit)), (.tup (.v .bool) .unit), [], [], [(0, ⟨[(0, (.v (.sl (.int .i64)))), (1, (.v (.int .i64))), (7, (.v (.sl (.int .i64)))), (8, (.v (.int .i64))), (9, (.v (.int .i64)))], [(.ret, [(4, (.v .bool))]), (.exit 0, [])], []⟩)], [], [], none⟩
noncomputable def h_impl_areGoals_1 : FnH := ⟨99, Tryz.f99, (.tup (.v (.sl (.int .i64))) (.tup (.sp (.int .i64)) .unit)), (.tup (.v .bool) .unit), [], [], [], [], [], none⟩
noncomputable def h_slices_IndexFunc_int_by_areGoals_1 : FnH := ⟨123, Tryz.f123, (.tup (.v (.sl (.sl (.int .i64)))) (.tup (.v (.fn 99 (.pair (.int .i64) .nil))) .unit)), (.tup (.v (.int .i64)) .unit), [], [], [(0, ⟨[(0, (.v (.sl (.sl (.int .i64))))), (1, (.v (.fn 99 (.pair (.int .i64) .nil)))), (7, (.v (.int .i64))), (8, (.v (.int .i64)))], [(.ret, [(4, (.v (.int .i64)))]), (.exit 0, [])], []⟩)], [], [], none⟩
noncomputable def h_slices_ContainsFunc_int_by_areGoals_1 : FnH := ⟨98, Tryz.f98, (.tup (.v (.sl (.sl (.int .i64)))) (.tup (.v (.fn 99 (.pair (.int .i64) .nil))) .unit)), (.tup (.v .bool) .unit), [], [], [], [], [], none⟩
noncomputable def h_impl_areGoals : FnH := ⟨73, Tryz.f73, (.tup (.v (.sl (.sl (.int .i64)))) (.tup (.v (.int .i64)) .unit)), (.tup (.v .bool) .unit), [], [], [], [], [], none⟩
noncomputable def h_cmp_isNaN_int : FnH := ⟨122, Tryz.f122, (.tup (.v (.int .i64)) .unit), (.tup (.v .bool) .unit), [], [], [], [], [], none⟩
noncomputable def h_cmp_Compare_int : FnH := ⟨97, Tryz.f97, (.tup (.v (.int .i64)) (.tup (.v (.int .i64)) .unit)), (.tup (.v (.int .i64)) .unit), [], [], [], [], [], none⟩
noncomputable def h_cmp_Or_int : FnH := ⟨96, Tryz.f96, (.tup (.v (.sl (.int .i64))) .unit), (.tup (.v (.int .i64)) .unit), [], [], [(0, ⟨[(3, (.v (.int .i64))), (6, (.v (.sl (.int .i64)))), (7, (.v (.int .i64))), (8, (.v (.int .i64)))], [(.ret, [(2, (.v (.int .i64)))]), (.exit 0, [])], [3]⟩)], [], [], none⟩
noncomputable def h_impl_compareEdges : FnH := ⟨72, Tryz.f72, (.tup (.v tyEdge) (.tup (.v tyEdge) .unit)), (.tup (.v (.int .i64)) .unit), [], [], [], [], [], none⟩
noncomputable def h_impl_GoodAuto : FnH := ⟨39, Tryz.f39, (.tup (.v tyAuto) .unit), (.tup (.v .bool) .unit), [], [], [(0, ⟨[(1, (.sp tyAuto)), (36, (.v (.sl tyEdge))), (37, (.v (.int .i64))), (38, (.v (.int .i64)))], [(.ret, [(2, (.v .bool))]), (.exit 0, [])], []⟩)], [], [], none⟩
noncomputable def h_impl_checkedAuto : FnH := ⟨33, Tryz.f33, (.tup (.v tyAuto) .unit), (.tup (.v tyAuto) (.tup (.v .bool) .unit)), [], [], [], [], [], none⟩
noncomputable def h_impl_AutoFor : FnH := ⟨9, Tryz.f9, (.tup (.v (.sl tySaid)) .unit), (.tup (.v tyAuto) (.tup (.v .bool) .unit)), [], [], [], [], [], none⟩
noncomputable def h_impl_isIndex : FnH := ⟨35, Tryz.f35, (.tup (.v (.int .i64)) .unit), (.tup (.v .bool) .unit), [], [], [], [], [], none⟩
noncomputable def h_impl_LetterAt : FnH := ⟨10, Tryz.f10, (.tup (.v tyLasso) (.tup (.v (.int .i64)) .unit)), (.tup (.v (.int .i64)) (.tup (.v .bool) .unit)), [], [], [], [], [], none⟩
noncomputable def h_impl_isOneLetter : FnH := ⟨41, Tryz.f41, (.tup (.v (.int .i64)) .unit), (.tup (.v .bool) .unit), [], [], [], [], [], none⟩
noncomputable def h_impl_isNow : FnH := ⟨37, Tryz.f37, (.tup (.v (.sl tySaid)) (.tup (.v (.int .i64)) (.tup (.v (.int .i64)) .unit))), (.tup (.v .bool) .unit), [], [], [], [], [], none⟩
noncomputable def h_impl_GuessOf : FnH := ⟨11, Tryz.f11, (.tup (.v (.sl tySaid)) (.tup (.v (.int .i64)) (.tup (.v (.int .i64)) .unit))), (.tup (.v (.int .i64)) (.tup (.v .bool) .unit)), [], [], [], [], [], none⟩
noncomputable def h_slices_Contains_int : FnH := ⟨42, Tryz.f42, (.tup (.v (.sl (.int .i64))) (.tup (.v (.int .i64)) .unit)), (.tup (.v .bool) .unit), [], [], [], [], [], none⟩
noncomputable def h_impl_marked : FnH := ⟨43, Tryz.f43, (.tup (.v (.sl .bool)) .unit), (.tup (.own 206956 (.int .i64) true) .unit), [], [], [(0, ⟨[(3, (.own 206954 (.int .i64) true)), (7, (.v (.sl .bool))), (8, (.v (.int .i64))), (9, (.v (.int .i64)))], [(.exit 0, [(3, (.own 206955 (.int .i64) true))])], []⟩)], [], [], none⟩
noncomputable def h_impl_StepAuto : FnH := ⟨12, Tryz.f12, (.tup (.v tyAuto) (.tup (.v (.sl (.int .i64))) (.tup (.v (.int .i64)) .unit))), (.tup (.own 206957 (.int .i64) true) (.tup (.v .bool) .unit)), [], [], [(0, ⟨[(1, (.v (.sl (.int .i64)))), (2, (.v (.int .i64))), (8, (.own 206953 .bool true)), (30, (.v (.sl tyEdge))), (31, (.v (.int .i64))), (32, (.v (.int .i64)))], [(.exit 0, [(1206953, (.own 206953 .bool true))])], [8]⟩)], [], [], none⟩
noncomputable def h_laws_has : FnH := ⟨13, Tryz.f13, (.tup (.v (.sl (.int .i64))) (.tup (.v (.int .i64)) .unit)), (.tup (.v .bool) .unit), [], [], [(0, ⟨[(1, (.v (.int .i64))), (7, (.v (.sl (.int .i64)))), (8, (.v (.int .i64))), (9, (.v (.int .i64)))], [(.ret, [(4, (.v .bool))]), (.exit 0, [])], []⟩)], [], [], none⟩
noncomputable def h_spec_DrawEvalNow : FnH := ⟨14, Tryz.f14, (.tup (.v (.sl (.int .u8))) .unit), (.tup (.own 206958 tySaid true) (.tup (.v (.int .i64)) (.tup (.v (.int .i64)) .unit))), [], [], [], [], [], none⟩
noncomputable def h_impl_EvalNow : FnH := ⟨15, Tryz.f15, (.tup (.v (.sl tySaid)) (.tup (.v (.int .i64)) (.tup (.v (.int .i64)) .unit))), (.tup (.own 206959 .bool true) (.tup (.v .bool) .unit)), [], [], [], [], [], none⟩
noncomputable def h_spec_l13Asked : FnH := ⟨46, Tryz.f46, (.tup (.v (.sl tySaid)) (.tup (.v (.int .i64)) (.tup (.v (.int .i64)) .unit))), (.tup (.v .bool) .unit), [], [], [], [], [], none⟩
noncomputable def h_spec_l13Says : FnH := ⟨77, Tryz.f77, (.tup (.v (.sl (.int .i64))) (.tup (.v (.int .i64)) (.tup (.v (.int .i64)) .unit))), (.tup (.v .bool) .unit), [], [], [(0, ⟨[(1, (.v (.int .i64))), (2, (.v (.int .i64))), (9, (.v (.sl (.int .i64)))), (10, (.v (.int .i64))), (11, (.v (.int .i64)))], [(.ret, [(6, (.v .bool))]), (.exit 0, [])], []⟩)], [], [], none⟩
noncomputable def h_spec_l13Now : FnH := ⟨47, Tryz.f47, (.tup (.v (.sl tySaid)) (.tup (.v (.sl (.int .i64))) (.tup (.v (.int .i64)) (.tup (.v (.int .i64)) .unit)))), (.tup (.own 206962 .bool true) .unit), [], [], [(0, ⟨[(0, (.v (.sl tySaid))), (1, (.v (.sl (.int .i64)))), (2, (.v (.int .i64))), (3, (.v (.int .i64))), (9, (.own 206960 .bool true)), (13, (.v (.sl tySaid))), (14, (.v (.int .i64))), (15, (.v (.int .i64)))], [(.exit 0, [(9, (.own 206961 .bool true))])], []⟩)], [], [], none⟩
noncomputable def h_spec_EvalNow : FnH := ⟨16, Tryz.f16, (.tup (.v (.sl tySaid)) (.tup (.v (.int .i64)) (.tup (.v (.int .i64)) .unit))), (.tup (.own 206963 .bool true) (.tup (.v .bool) .unit)), [], [], [], [], [], none⟩
noncomputable def h_spec_l13Guess : FnH := ⟨48, Tryz.f48, (.tup (.v (.sl tySaid)) (.tup (.v (.sl (.int .i64))) (.tup (.v (.int .i64)) (.tup (.v (.int .i64)) .unit)))), (.tup (.v (.int .i64)) .unit), [], [], [(0, ⟨[(9, (.v (.sl .bool))), (10, (.v (.int .i64))), (18, (.v (.sl (.int .i64)))), (19, (.v (.int .i64))), (20, (.v (.int .i64)))], [(.exit 0, [(10, (.v (.int .i64)))])], []⟩)], [], [], none⟩
noncomputable def h_spec_GuessOf : FnH := ⟨17, Tryz.f17, (.tup (.v (.sl tySaid)) (.tup (.v (.int .i64)) (.tup (.v (.int .i64)) .unit))), (.tup (.v (.int .i64)) (.tup (.v .bool) .unit)), [], [], [], [], [], none⟩
noncomputable def h_laws_sameBools : FnH := ⟨18, Tryz.f18, (.tup (.v (.sl .bool)) (.tup (.v (.sl .bool)) .unit)), (.tup (.v .bool) .unit), [], [], [(0, ⟨[(0, (.v (.sl .bool))), (1, (.v (.sl .bool))), (12, (.v (.int .i64))), (13, (.v (.int .i64)))], [(.ret, [(4, (.v .bool))]), (.exit 0, [])], []⟩)], [], [], none⟩
noncomputable def h_laws_FnOnlyRun : FnH := ⟨3, Tryz.f3, (.tup (.v (.sl (.int .u8))) (.tup (.v (.sl (.int .u8))) .unit)), (.tup (.v .bool) .unit), [], [], [(0, ⟨[(1, (.v (.sl (.int .u8)))), (5, (.v (.sl tySaid))), (6, (.sp tyLasso)), (13, (.v (.sl (.int .i64)))), (14, (.sp tyAuto)), (15, (.v .bool)), (16, (.v (.int .i64)))], [(.ret, [(4, (.v .bool))]), (.exit 0, [])], [1]⟩)], [], [], none⟩
def extsL : List (Nat × ExtF) := [(61, .clone 47), (113, .backward 130)]
def tysL : List (Nat × Ty) := [(3, (.int .i64)), (4, .bool), (5, (.int .u8)), (22, (.sl (.int .u8))), (24, (.sl tySaid)), (25, (.sl (.int .i64))), (27, tyLasso), (33, (.sl tyEdge)), (34, (.sl (.sl (.int .i64)))), (36, tyAuto), (47, (.sl .bool)), (52, (.int .u64)), (54, tyl1Cur), (63, (.sl (.sl .bool))), (66, (.int .u64)), (75, tyEdge), (86, tySaid)]
def nfsL : List (Nat × Nat) := [(27, 2), (36, 4), (54, 3), (75, 3), (86, 2)]
def cellsL : List Nat := [69, 108]
def mtysL : List (Nat × (Nat × Nat)) := []
noncomputable def keysL : List (Nat × FnH) := [(4, h_laws_big), (75, h_spec_l1Cur_next), (44, h_spec_l1Cur_pick), (52, h_spec_l1Cur_one), (53, h_spec_l1Cur_among), (49, h_spec_l1Cur_formula), (63, h_spec_l1In), (90, h_spec_l10Need), (91, h_spec_l10N), (62, h_spec_GoodSaid), (67, h_spec_l1Put), (30, h_spec_l13Tracked), (27, h_spec_l13Good), (50, h_spec_l1Cur_said), (19, h_spec_l1Cur_tracked), (51, h_spec_l1Cur_letters), (20, h_spec_l1Cur_lasso), (5, h_spec_DrawRunFor), (59, h_impl_operandsOfSaid), (79, h_impl_isSaid), (54, h_impl_GoodSaid), (26, h_slices_Clone_int), (56, h_impl_operandIndexes), (57, h_slices_Sort_int), (58, h_slices_Compact_int), (23, h_impl_tracked), (21, h_impl_isTracked), (81, h_impl_areLetters_1), (100, h_slices_IndexFunc_int_by_areLetters_1), (80, h_slices_ContainsFunc_int_by_areLetters_1), (55, h_impl_areLetters), (22, h_impl_GoodLasso), (25, h_impl_subtree), (136, h_bits_Mul64), (129, h_bits_Mul), (112, h_slices_Repeat_bool), (89, h_impl_Lasso_nextPlace), (85, h_impl_Lasso_holdsAlong_2), (84, h_impl_Lasso_holdsAlong_1), (87, h_impl_Lasso_holdsAlong_3), (86, h_impl_Lasso_fixed_by_Lasso_holdsAlong_3), (88, h_impl_Lasso_holdsAlong_4), (10045, h_impl_Lasso_fixed_by_Lasso_holdsAlong_4), (36, h_impl_Lasso_letterAt), (60, h_impl_Lasso_holdsAlong), (24, h_impl_Lasso_along), (6, h_impl_RunFor), (64, h_spec_l1All), (28, h_spec_GoodLasso), (66, h_spec_l9At), (78, h_spec_l10From), (65, h_spec_l10Cell), (29, h_spec_l10Table), (31, h_spec_l2Bool), (32, h_spec_l1Own), (7, h_spec_RunFor), (8, h_laws_sameInts), (68, h_impl_guesses), (74, h_slices_Index_int), (76, h_impl_assumes), (93, h_impl_rooted_1), (92, h_impl_guessesWith_by_rooted_1), (69, h_impl_rooted), (94, h_impl_goalsOf_1), (10067, h_impl_guessesWith_by_goalsOf_1), (70, h_impl_goalsOf), (45, h_impl_evalNow), (38, h_impl_guessOf), (71, h_slices_SortFunc_Edge_by_compareEdges), (34, h_impl_autoFor), (40, h_impl_isIncreasing), (99, h_impl_areGoals_1), (123, h_slices_IndexFunc_int_by_areGoals_1), (98, h_slices_ContainsFunc_int_by_areGoals_1), (73, h_impl_areGoals), (122, h_cmp_isNaN_int), (97, h_cmp_Compare_int), (96, h_cmp_Or_int), (72, h_impl_compareEdges), (39, h_impl_GoodAuto), (33, h_impl_checkedAuto), (9, h_impl_AutoFor), (35, h_impl_isIndex), (10, h_impl_LetterAt), (41, h_impl_isOneLetter), (37, h_impl_isNow), (11, h_impl_GuessOf), (42, h_slices_Contains_int), (43, h_impl_marked), (12, h_impl_StepAuto), (13, h_laws_has), (14, h_spec_DrawEvalNow), (15, h_impl_EvalNow), (46, h_spec_l13Asked), (77, h_spec_l13Says), (47, h_spec_l13Now), (16, h_spec_EvalNow), (48, h_spec_l13Guess), (17, h_spec_GuessOf), (18, h_laws_sameBools), (3, h_laws_FnOnlyRun)]
def itersL : List (Nat × Nat) := [(130, 4)]
noncomputable def H : Hints := { extF := fun f => lookupN extsL f, ty := fun T => lookupN tysL T, nf := fun T => match lookupN nfsL T with | some n => n | none => 0, cell := fun T => hasN cellsL T, key := fun k => lookupN keysL k, mty := fun T => lookupN mtysL T, iter := fun f => lookupN itersL f }
noncomputable def laws_big (code : Bool × List Int) (more : Bool × List Int) : Option Bool := (inf H).call 4 (code, more)
noncomputable def spec_l1Cur_next (a0_0 : Bool × List Int) (a0_1 : Int) (a0_2 : Int) : Option (Dl1Cur × Int) := (inf H).call 75 (a0_0, (a0_1, a0_2))
noncomputable def spec_l1Cur_pick (c : Dl1Cur) (n : Int) : Option (Dl1Cur × Int) := (inf H).call 44 (c, n)
noncomputable def spec_l1Cur_one (c : Dl1Cur) (n : Int) : Option (Dl1Cur × Bool) := (inf H).call 52 (c, n)
noncomputable def spec_l1Cur_among (c : Dl1Cur) (list : Bool × List Int) : Option (Dl1Cur × Int) := (inf H).call 53 (c, list)
noncomputable def spec_l1Cur_formula (c : Dl1Cur) (deep : Int) : Option (Dl1Cur × Bool × List DSaid) := (inf H).call 49 (c, deep)
noncomputable def spec_l1In (n : Int) (lo : Int) (hi : Int) : Option Bool := (inf H).call 63 (n, (lo, hi))
noncomputable def spec_l10Need (op : Int) : Option Int := (inf H).call 90 op
noncomputable def spec_l10N (n : DSaid) : Option Bool := (inf H).call 91 n
noncomputable def spec_GoodSaid (f : Bool × List DSaid) : Option Bool := (inf H).call 62 f
theorem key_spec_GoodSaid : H.key 62 = some h_spec_GoodSaid := by kernel_rfl
noncomputable def spec_GoodSaid_L0 (pile : Int) (t11 : Bool × List DSaid) (t12 : Int) (t13 : Int) : Option (Bool ⊕ Int) := (inf H).loop 62 0 (loopCode Tryz.f62 0) (pile, (t11, (t12, t13)))
noncomputable def spec_l1Put (l : Bool × List Int) (n : Int) : Option (Bool × List Int) := (inf H).call 67 (l, n)
theorem key_spec_l1Put : H.key 67 = some h_spec_l1Put := by kernel_rfl
noncomputable def spec_l1Put_L0 (l : Bool × List Int) (n : Int) (k_ : Int) : Option Int := (inf H).loop 67 0 (loopCode Tryz.f67 0) (l, (n, k_))
noncomputable def spec_l13Tracked (f : Bool × List DSaid) : Option (Bool × List Int) := (inf H).call 30 f
theorem key_spec_l13Tracked : H.key 30 = some h_spec_l13Tracked := by kernel_rfl
noncomputable def spec_l13Tracked_L0 (out : Bool × List Int) (t10 : Bool × List DSaid) (t11 : Int) (t12 : Int) : Option (Bool × List Int) := (inf H).loop 30 0 (loopCode Tryz.f30 0) (out, (t10, (t11, t12)))
noncomputable def spec_l13Good (f : Bool × List DSaid) : Option Bool := (inf H).call 27 f
noncomputable def spec_l1Cur_said (c : Dl1Cur) : Option (Dl1Cur × Bool × List DSaid) := (inf H).call 50 c
noncomputable def spec_l1Cur_tracked (c : Dl1Cur) : Option (Dl1Cur × Bool × List DSaid) := (inf H).call 19 c
theorem key_spec_l1Cur_tracked : H.key 19 = some h_spec_l1Cur_tracked := by kernel_rfl
noncomputable def spec_l1Cur_tracked_L0 (c : Dl1Cur) (n : Int) : Option ((Dl1Cur × Bool × List DSaid) ⊕ Dl1Cur) := (inf H).loop 19 0 (loopCode Tryz.f19 0) (c, n)
noncomputable def spec_l1Cur_letters (c : Dl1Cur) (n : Int) : Option (Dl1Cur × Bool × List Int) := (inf H).call 51 (c, n)
theorem key_spec_l1Cur_letters : H.key 51 = some h_spec_l1Cur_letters := by kernel_rfl
noncomputable def spec_l1Cur_letters_L0 (c : Dl1Cur) (n : Int) (l : Bool × List Int) : Option (Dl1Cur × Bool × List Int) := (inf H).loop 51 0 (loopCode Tryz.f51 0) (c, (n, l))
noncomputable def spec_l1Cur_lasso (c : Dl1Cur) : Option (Dl1Cur × DLasso) := (inf H).call 20 c
noncomputable def spec_DrawRunFor (code : Bool × List Int) : Option ((Bool × List DSaid) × DLasso) := (inf H).call 5 code
noncomputable def impl_operandsOfSaid (op : Int) : Option Int := (inf H).call 59 op
noncomputable def impl_isSaid (x : DSaid) : Option Bool := (inf H).call 79 x
noncomputable def impl_GoodSaid (f : Bool × List DSaid) : Option Bool := (inf H).call 54 f
theorem key_impl_GoodSaid : H.key 54 = some h_impl_GoodSaid := by kernel_rfl
noncomputable def impl_GoodSaid_L0 (values : Int) (t15 : Bool × List DSaid) (t16 : Int) (t17 : Int) : Option (Bool ⊕ Int) := (inf H).loop 54 0 (loopCode Tryz.f54 0) (values, (t15, (t16, t17)))
noncomputable def slices_Clone_int (s : Bool × List Int) : Option (Bool × List Int) := (inf H).call 26 s
noncomputable def impl_operandIndexes (f : Bool × List DSaid) : Option (Bool × List (Bool × List Int)) := (inf H).call 56 f
theorem key_impl_operandIndexes : H.key 56 = some h_impl_operandIndexes := by kernel_rfl
noncomputable def impl_operandIndexes_L0 (out : Bool × List (Bool × List Int)) (stack : Bool × List Int) (t10 : Bool × List DSaid) (t11 : Int) (t12 : Int) : Option (Bool × List (Bool × List Int)) := (inf H).loop 56 0 (loopCode Tryz.f56 0) (out, (stack, (t10, (t11, t12))))
noncomputable def slices_Sort_int (s : Bool × List Int) : Option (Bool × List Int) := (inf H).call 57 s
noncomputable def slices_Compact_int (s : Bool × List Int) : Option (Bool × List Int) := (inf H).call 58 s
noncomputable def impl_tracked (f : Bool × List DSaid) : Option (Bool × List Int) := (inf H).call 23 f
theorem key_impl_tracked : H.key 23 = some h_impl_tracked := by kernel_rfl
noncomputable def impl_tracked_L0 (out : Bool × List Int) (operands : Bool × List (Bool × List Int)) (t13 : Bool × List DSaid) (t14 : Int) (t15 : Int) : Option (Bool × List Int) := (inf H).loop 23 0 (loopCode Tryz.f23 0) (out, (operands, (t13, (t14, t15))))
noncomputable def impl_isTracked (f : Bool × List DSaid) : Option Bool := (inf H).call 21 f
noncomputable def impl_areLetters_1 (n : Int) : Option Bool := (inf H).call 81 n
noncomputable def slices_IndexFunc_int_by_areLetters_1 (s : Bool × List Int) (f : Unit) : Option Int := (inf H).call 100 (s, f)
theorem key_slices_IndexFunc_int_by_areLetters_1 : H.key 100 = some h_slices_IndexFunc_int_by_areLetters_1 := by kernel_rfl
noncomputable def slices_IndexFunc_int_by_areLetters_1_L0 (s : Bool × List Int) (f : Unit) (t7 : Int) (t8 : Int) : Option (Int ⊕ Unit) := (inf H).loop 100 0 (loopCode Tryz.f100 0) (s, (f, (t7, t8)))
noncomputable def slices_ContainsFunc_int_by_areLetters_1 (s : Bool × List Int) (f : Unit) : Option Bool := (inf H).call 80 (s, f)
noncomputable def impl_areLetters (list : Bool × List Int) : Option Bool := (inf H).call 55 list
noncomputable def impl_GoodLasso (l : DLasso) : Option Bool := (inf H).call 22 l
noncomputable def impl_subtree (f : Bool × List DSaid) (node : Int) : Option (Bool × List DSaid) := (inf H).call 25 (f, node)
theorem key_impl_subtree : H.key 25 = some h_impl_subtree := by kernel_rfl
noncomputable def impl_subtree_L0 (f : Bool × List DSaid) (node : Int) (start : Int) (missing : Int) : Option Int := (inf H).loop 25 0 (loopCode Tryz.f25 0) (f, (node, (start, missing)))
noncomputable def bits_Mul64 (x : Int) (y : Int) : Option (Int × Int) := (inf H).call 136 (x, y)
noncomputable def bits_Mul (x : Int) (y : Int) : Option (Int × Int) := (inf H).call 129 (x, y)
noncomputable def slices_Repeat_bool (x : Bool × List Bool) (count : Int) : Option (Bool × List Bool) := (inf H).call 112 (x, count)
theorem key_slices_Repeat_bool : H.key 112 = some h_slices_Repeat_bool := by kernel_rfl
noncomputable def slices_Repeat_bool_L0 (newslice : Bool × List Bool) (n : Int) : Option (Bool × List Bool) := (inf H).loop 112 0 (loopCode Tryz.f112 0) (newslice, n)
noncomputable def impl_Lasso_nextPlace (l : DLasso) (k_ : Int) : Option Int := (inf H).call 89 (l, k_)
noncomputable def impl_Lasso_holdsAlong_2 (k_ : Int) (a1 : Bool × List (Bool × List Bool)) : Option Bool := (inf H).call 85 (k_, a1)
noncomputable def impl_Lasso_holdsAlong_1 (k_ : Int) (a1 : Bool × List (Bool × List Bool)) : Option Bool := (inf H).call 84 (k_, a1)
noncomputable def impl_Lasso_holdsAlong_3 (k_ : Int) (next : Bool) (a2 : (Bool × List (Bool × List Bool)) × Unit) (a3 : (Bool × List (Bool × List Bool)) × Unit) : Option Bool := (inf H).call 87 (k_, (next, (a2, a3)))
noncomputable def impl_Lasso_fixed_by_Lasso_holdsAlong_3 (l : DLasso) (from_ : Bool) (rule : ((Bool × List (Bool × List Bool)) × Unit) × ((Bool × List (Bool × List Bool)) × Unit) × Unit) : Option (Bool × List Bool) := (inf H).call 86 (l, (from_, rule))
theorem key_impl_Lasso_fixed_by_Lasso_holdsAlong_3 : H.key 86 = some h_impl_Lasso_fixed_by_Lasso_holdsAlong_3 := by kernel_rfl
noncomputable def impl_Lasso_fixed_by_Lasso_holdsAlong_3_L0 (l : DLasso) (rule : ((Bool × List (Bool × List Bool)) × Unit) × ((Bool × List (Bool × List Bool)) × Unit) × Unit) (t6 : Bool × List Bool) (out : Bool × List Bool) (t19 : Int) : Option (Bool × List Bool) := (inf H).loop 86 0 (loopCode Tryz.f86 0) (l, (rule, (t6, (out, t19))))
noncomputable def impl_Lasso_fixed_by_Lasso_holdsAlong_3_L2 (l : DLasso) (rule : ((Bool × List (Bool × List Bool)) × Unit) × ((Bool × List (Bool × List Bool)) × Unit) × Unit) (out : Bool × List Bool) (t23 : Int) : Option (Bool × List Bool) := (inf H).loop 86 2 (loopCode Tryz.f86 2) (l, (rule, (out, t23)))
noncomputable def impl_Lasso_holdsAlong_4 (k_ : Int) (next : Bool) (a2 : (Bool × List (Bool × List Bool)) × Unit) (a3 : (Bool × List (Bool × List Bool)) × Unit) : Option Bool := (inf H).call 88 (k_, (next, (a2, a3)))
noncomputable def impl_Lasso_fixed_by_Lasso_holdsAlong_4 (l : DLasso) (from_ : Bool) (rule : ((Bool × List (Bool × List Bool)) × Unit) × ((Bool × List (Bool × List Bool)) × Unit) × Unit) : Option (Bool × List Bool) := (inf H).call 10045 (l, (from_, rule))
theorem key_impl_Lasso_fixed_by_Lasso_holdsAlong_4 : H.key 10045 = some h_impl_Lasso_fixed_by_Lasso_holdsAlong_4 := by kernel_rfl
noncomputable def impl_Lasso_fixed_by_Lasso_holdsAlong_4_L0 (l : DLasso) (rule : ((Bool × List (Bool × List Bool)) × Unit) × ((Bool × List (Bool × List Bool)) × Unit) × Unit) (t6 : Bool × List Bool) (out : Bool × List Bool) (t19 : Int) : Option (Bool × List Bool) := (inf H).loop 10045 0 (loopCode Tryz.f86 0) (l, (rule, (t6, (out, t19))))
noncomputable def impl_Lasso_fixed_by_Lasso_holdsAlong_4_L2 (l : DLasso) (rule : ((Bool × List (Bool × List Bool)) × Unit) × ((Bool × List (Bool × List Bool)) × Unit) × Unit) (out : Bool × List Bool) (t23 : Int) : Option (Bool × List Bool) := (inf H).loop 10045 2 (loopCode Tryz.f86 2) (l, (rule, (out, t23)))
noncomputable def impl_Lasso_letterAt (l : DLasso) (k_ : Int) : Option Int := (inf H).call 36 (l, k_)
noncomputable def impl_Lasso_holdsAlong (l : DLasso) (x : DSaid) (operands : Bool × List (Bool × List Bool)) : Option (Bool × List Bool) := (inf H).call 60 (l, (x, operands))
theorem key_impl_Lasso_holdsAlong : H.key 60 = some h_impl_Lasso_holdsAlong := by kernel_rfl
noncomputable def impl_Lasso_holdsAlong_L1 (l : DLasso) (x : DSaid) (a : (Bool × List (Bool × List Bool)) × Unit) (b : (Bool × List (Bool × List Bool)) × Unit) (out : Bool × List Bool) (t33 : Int) (t34 : Int) : Option (Bool × List Bool) := (inf H).loop 60 1 (loopCode Tryz.f60 1) (l, (x, (a, (b, (out, (t33, t34))))))
noncomputable def impl_Lasso_along (l : DLasso) (f : Bool × List DSaid) : Option (Bool × List Bool) := (inf H).call 24 (l, f)
theorem key_impl_Lasso_along : H.key 24 = some h_impl_Lasso_along := by kernel_rfl
noncomputable def impl_Lasso_along_L0 (l : DLasso) (stack : Bool × List (Bool × List Bool)) (t10 : Bool × List DSaid) (t11 : Int) (t12 : Int) : Option (Bool × List (Bool × List Bool)) := (inf H).loop 24 0 (loopCode Tryz.f24 0) (l, (stack, (t10, (t11, t12))))
noncomputable def impl_RunFor (f : Bool × List DSaid) (l : DLasso) : Option ((Bool × List Int) × (Bool × List Int) × Bool) := (inf H).call 6 (f, l)
theorem key_impl_RunFor : H.key 6 = some h_impl_RunFor := by kernel_rfl
noncomputable def impl_RunFor_L0 (f : Bool × List DSaid) (l : DLasso) (run : Bool × List Int) (t29 : Bool × List Int) (t30 : Int) (t31 : Int) : Option (Bool × List Int) := (inf H).loop 6 0 (loopCode Tryz.f6 0) (f, (l, (run, (t29, (t30, t31)))))
noncomputable def impl_RunFor_L2 (f : Bool × List DSaid) (l : DLasso) (run : Bool × List Int) (i : Int) (t29 : Bool × List Int) (t30 : Int) (t31 : Int) (t40 : Bool × List Bool) (t41 : Int) (t42 : Int) : Option (Bool × List Int) := (inf H).loop 6 2 (loopCode Tryz.f6 2) (f, (l, (run, (i, (t29, (t30, (t31, (t40, (t41, t42)))))))))
noncomputable def spec_l1All (l : Bool × List Int) (lo : Int) (hi : Int) : Option Bool := (inf H).call 64 (l, (lo, hi))
theorem key_spec_l1All : H.key 64 = some h_spec_l1All := by kernel_rfl
noncomputable def spec_l1All_L0 (lo : Int) (hi : Int) (t9 : Bool × List Int) (t10 : Int) (t11 : Int) : Option (Bool ⊕ Unit) := (inf H).loop 64 0 (loopCode Tryz.f64 0) (lo, (hi, (t9, (t10, t11))))
noncomputable def spec_GoodLasso (l : DLasso) : Option Bool := (inf H).call 28 l
noncomputable def spec_l9At (l : DLasso) (k_ : Int) : Option Int := (inf H).call 66 (l, k_)
noncomputable def spec_l10From (f : Bool × List DSaid) (k_ : Int) : Option Int := (inf H).call 78 (f, k_)
theorem key_spec_l10From : H.key 78 = some h_spec_l10From := by kernel_rfl
noncomputable def spec_l10From_L0 (f : Bool × List DSaid) (from_ : Int) (many : Int) : Option Int := (inf H).loop 78 0 (loopCode Tryz.f78 0) (f, (from_, many))
noncomputable def spec_l10Cell (f : Bool × List DSaid) (parts_ : Bool × List (Bool × List Bool)) (i : Int) (letter : Int) (k_ : Int) (next : Int) (later : Bool) : Option Bool := (inf H).call 65 (f, (parts_, (i, (letter, (k_, (next, later))))))
noncomputable def spec_l10Table (f : Bool × List DSaid) (l : DLasso) : Option (Bool × List (Bool × List Bool)) := (inf H).call 29 (f, l)
theorem key_spec_l10Table : H.key 29 = some h_spec_l10Table := by kernel_rfl
noncomputable def spec_l10Table_L0 (f : Bool × List DSaid) (l : DLasso) (n : Int) (out : Bool × List (Bool × List Bool)) (t21 : Bool × List DSaid) (t22 : Int) (t23 : Int) : Option (Bool × List (Bool × List Bool)) := (inf H).loop 29 0 (loopCode Tryz.f29 0) (f, (l, (n, (out, (t21, (t22, t23))))))
noncomputable def spec_l10Table_L2 (f : Bool × List DSaid) (l : DLasso) (n : Int) (out : Bool × List (Bool × List Bool)) (i : Int) (x : DSaid) (row_ : Bool × List Bool) (t21 : Bool × List DSaid) (t22 : Int) (t23 : Int) (t31 : Int) (t32 : Int) : Option (Bool × List Bool) := (inf H).loop 29 2 (loopCode Tryz.f29 2) (f, (l, (n, (out, (i, (x, (row_, (t21, (t22, (t23, (t31, t32)))))))))))
noncomputable def spec_l10Table_L4 (f : Bool × List DSaid) (l : DLasso) (n : Int) (out : Bool × List (Bool × List Bool)) (i : Int) (row_ : Bool × List Bool) (turn : Int) (t21 : Bool × List DSaid) (t22 : Int) (t23 : Int) : Option (Bool × List Bool) := (inf H).loop 29 4 (loopCode Tryz.f29 4) (f, (l, (n, (out, (i, (row_, (turn, (t21, (t22, t23)))))))))
noncomputable def spec_l10Table_L6 (f : Bool × List DSaid) (l : DLasso) (n : Int) (out : Bool × List (Bool × List Bool)) (i : Int) (row_ : Bool × List Bool) (turn : Int) (k_ : Int) (t21 : Bool × List DSaid) (t22 : Int) (t23 : Int) : Option (Bool × List Bool) := (inf H).loop 29 6 (loopCode Tryz.f29 6) (f, (l, (n, (out, (i, (row_, (turn, (k_, (t21, (t22, t23))))))))))
noncomputable def spec_l2Bool (is : Bool) : Option Int := (inf H).call 31 is
noncomputable def spec_l1Own (l : Bool × List Int) : Option (Bool × List Int) := (inf H).call 32 l
noncomputable def spec_RunFor (f : Bool × List DSaid) (l : DLasso) : Option ((Bool × List Int) × (Bool × List Int) × Bool) := (inf H).call 7 (f, l)
theorem key_spec_RunFor : H.key 7 = some h_spec_RunFor := by kernel_rfl
noncomputable def spec_RunFor_L0 (f : Bool × List DSaid) (l : DLasso) (table : Bool × List (Bool × List Bool)) (all_ : Bool × List Int) (k_ : Int) : Option (Bool × List Int) := (inf H).loop 7 0 (loopCode Tryz.f7 0) (f, (l, (table, (all_, k_))))
noncomputable def spec_RunFor_L2 (f : Bool × List DSaid) (l : DLasso) (table : Bool × List (Bool × List Bool)) (all_ : Bool × List Int) (k_ : Int) (guess : Int) (t36 : Bool × List Int) (t37 : Int) (t38 : Int) : Option Int := (inf H).loop 7 2 (loopCode Tryz.f7 2) (f, (l, (table, (all_, (k_, (guess, (t36, (t37, t38))))))))
noncomputable def laws_sameInts (a : Bool × List Int) (b : Bool × List Int) : Option Bool := (inf H).call 8 (a, b)
theorem key_laws_sameInts : H.key 8 = some h_laws_sameInts := by kernel_rfl
noncomputable def laws_sameInts_L0 (a : Bool × List Int) (b : Bool × List Int) (t12 : Int) (t13 : Int) : Option (Bool ⊕ Unit) := (inf H).loop 8 0 (loopCode Tryz.f8 0) (a, (b, (t12, t13)))
noncomputable def impl_guesses (f : Bool × List DSaid) : Option Int := (inf H).call 68 f
noncomputable def slices_Index_int (s : Bool × List Int) (v : Int) : Option Int := (inf H).call 74 (s, v)
theorem key_slices_Index_int : H.key 74 = some h_slices_Index_int := by kernel_rfl
noncomputable def slices_Index_int_L0 (s : Bool × List Int) (v : Int) (t7 : Int) (t8 : Int) : Option (Int ⊕ Unit) := (inf H).loop 74 0 (loopCode Tryz.f74 0) (s, (v, (t7, t8)))
noncomputable def impl_assumes (list : Bool × List Int) (guess : Int) (node : Int) : Option Bool := (inf H).call 76 (list, (guess, node))
noncomputable def impl_rooted_1 (guess : Int) (a1 : Bool × List Int) (a2 : Bool × List DSaid) (a3 : Bool) : Option Bool := (inf H).call 93 (guess, (a1, (a2, a3)))
noncomputable def impl_guessesWith_by_rooted_1 (f : Bool × List DSaid) (holds : (Bool × List Int) × (Bool × List DSaid) × Bool × Unit) : Option (Bool × List Int) := (inf H).call 92 (f, holds)
theorem key_impl_guessesWith_by_rooted_1 : H.key 92 = some h_impl_guessesWith_by_rooted_1 := by kernel_rfl
noncomputable def impl_guessesWith_by_rooted_1_L0 (holds : (Bool × List Int) × (Bool × List DSaid) × Bool × Unit) (out : Bool × List Int) (t9 : Int) (t10 : Int) : Option (Bool × List Int) := (inf H).loop 92 0 (loopCode Tryz.f92 0) (holds, (out, (t9, t10)))
noncomputable def impl_rooted (f : Bool × List DSaid) (holds : Bool) : Option (Bool × List Int) := (inf H).call 69 (f, holds)
noncomputable def impl_goalsOf_1 (guess : Int) (a1 : Bool × List Int) (a2 : Int) (a3 : Bool × List (Bool × List Int)) (a4 : DSaid) : Option Bool := (inf H).call 94 (guess, (a1, (a2, (a3, a4))))
noncomputable def impl_guessesWith_by_goalsOf_1 (f : Bool × List DSaid) (holds : (Bool × List Int) × Int × (Bool × List (Bool × List Int)) × DSaid × Unit) : Option (Bool × List Int) := (inf H).call 10067 (f, holds)
theorem key_impl_guessesWith_by_goalsOf_1 : H.key 10067 = some h_impl_guessesWith_by_goalsOf_1 := by kernel_rfl
noncomputable def impl_guessesWith_by_goalsOf_1_L0 (holds : (Bool × List Int) × Int × (Bool × List (Bool × List Int)) × DSaid × Unit) (out : Bool × List Int) (t9 : Int) (t10 : Int) : Option (Bool × List Int) := (inf H).loop 10067 0 (loopCode Tryz.f92 0) (holds, (out, (t9, t10)))
noncomputable def impl_goalsOf (f : Bool × List DSaid) : Option (Bool × List (Bool × List Int)) := (inf H).call 70 f
theorem key_impl_goalsOf : H.key 70 = some h_impl_goalsOf := by kernel_rfl
noncomputable def impl_goalsOf_L0 (f : Bool × List DSaid) (out : Bool × List (Bool × List Int)) (operands : Bool × List (Bool × List Int)) (list : Bool × List Int) (t13 : Bool × List DSaid) (t14 : Int) (t15 : Int) : Option (Bool × List (Bool × List Int)) := (inf H).loop 70 0 (loopCode Tryz.f70 0) (f, (out, (operands, (list, (t13, (t14, t15))))))
noncomputable def impl_evalNow (f : Bool × List DSaid) (letter : Int) (next : Int) : Option (Bool × List Bool) := (inf H).call 45 (f, (letter, next))
theorem key_impl_evalNow : H.key 45 = some h_impl_evalNow := by kernel_rfl
noncomputable def impl_evalNow_L0 (letter : Int) (next : Int) (out : Bool × List Bool) (operands : Bool × List (Bool × List Int)) (list : Bool × List Int) (t18 : Bool × List DSaid) (t19 : Int) (t20 : Int) : Option (Bool × List Bool) := (inf H).loop 45 0 (loopCode Tryz.f45 0) (letter, (next, (out, (operands, (list, (t18, (t19, t20)))))))
noncomputable def impl_guessOf (f : Bool × List DSaid) (letter : Int) (next : Int) : Option Int := (inf H).call 38 (f, (letter, next))
theorem key_impl_guessOf : H.key 38 = some h_impl_guessOf := by kernel_rfl
noncomputable def impl_guessOf_L0 (values : Bool × List Bool) (guess : Int) (t16 : Bool × List Int) (t17 : Int) (t18 : Int) : Option Int := (inf H).loop 38 0 (loopCode Tryz.f38 0) (values, (guess, (t16, (t17, t18))))
noncomputable def slices_SortFunc_Edge_by_compareEdges (s : Bool × List DEdge) (f : Unit) : Option (Bool × List DEdge) := (inf H).call 71 (s, f)
noncomputable def impl_autoFor (f : Bool × List DSaid) (holds : Bool) : Option DAuto := (inf H).call 34 (f, holds)
theorem key_impl_autoFor : H.key 34 = some h_impl_autoFor := by kernel_rfl
noncomputable def impl_autoFor_L0 (f : Bool × List DSaid) (t4 : DAuto) (out_0 : Int) (out_1 : Bool × List Int) (out_2 : Bool × List DEdge) (out_3 : Bool × List (Bool × List Int)) (t16 : Int) : Option DAuto := (inf H).loop 34 0 (loopCode Tryz.f34 0) (f, (t4, (out_0, (out_1, (out_2, (out_3, t16))))))
noncomputable def impl_autoFor_L2 (f : Bool × List DSaid) (t4 : DAuto) (out_0 : Int) (out_1 : Bool × List Int) (out_2 : Bool × List DEdge) (out_3 : Bool × List (Bool × List Int)) (letter : Int) (t16 : Int) (t20 : Int) (t21 : Int) : Option DAuto := (inf H).loop 34 2 (loopCode Tryz.f34 2) (f, (t4, (out_0, (out_1, (out_2, (out_3, (letter, (t16, (t20, t21)))))))))
noncomputable def impl_isIncreasing (list : Bool × List Int) (bound : Int) : Option Bool := (inf H).call 40 (list, bound)
theorem key_impl_isIncreasing : H.key 40 = some h_impl_isIncreasing := by kernel_rfl
noncomputable def impl_isIncreasing_L0 (list : Bool × List Int) (bound : Int) (t7 : Bool × List Int) (t8 : Int) (t9 : Int) : Option (Bool ⊕ Unit) := (inf H).loop 40 0 (loopCode Tryz.f40 0) (list, (bound, (t7, (t8, t9))))
noncomputable def impl_areGoals_1 (list : Bool × List Int) (a1 : Int) : Option Bool := (inf H).call 99 (list, a1)
noncomputable def slices_IndexFunc_int_by_areGoals_1 (s : Bool × List (Bool × List Int)) (f : Int × Unit) : Option Int := (inf H).call 123 (s, f)
theorem key_slices_IndexFunc_int_by_areGoals_1 : H.key 123 = some h_slices_IndexFunc_int_by_areGoals_1 := by kernel_rfl
noncomputable def slices_IndexFunc_int_by_areGoals_1_L0 (s : Bool × List (Bool × List Int)) (f : Int × Unit) (t7 : Int) (t8 : Int) : Option (Int ⊕ Unit) := (inf H).loop 123 0 (loopCode Tryz.f123 0) (s, (f, (t7, t8)))
noncomputable def slices_ContainsFunc_int_by_areGoals_1 (s : Bool × List (Bool × List Int)) (f : Int × Unit) : Option Bool := (inf H).call 98 (s, f)
noncomputable def impl_areGoals (goals : Bool × List (Bool × List Int)) (bound : Int) : Option Bool := (inf H).call 73 (goals, bound)
noncomputable def cmp_isNaN_int (x : Int) : Option Bool := (inf H).call 122 x
noncomputable def cmp_Compare_int (x : Int) (y : Int) : Option Int := (inf H).call 97 (x, y)
noncomputable def cmp_Or_int (vals : Bool × List Int) : Option Int := (inf H).call 96 vals
theorem key_cmp_Or_int : H.key 96 = some h_cmp_Or_int := by kernel_rfl
noncomputable def cmp_Or_int_L0 (zero : Int) (t6 : Bool × List Int) (t7 : Int) (t8 : Int) : Option (Int ⊕ Unit) := (inf H).loop 96 0 (loopCode Tryz.f96 0) (zero, (t6, (t7, t8)))
noncomputable def impl_compareEdges (a : DEdge) (b : DEdge) : Option Int := (inf H).call 72 (a, b)
noncomputable def impl_GoodAuto (a : DAuto) : Option Bool := (inf H).call 39 a
theorem key_impl_GoodAuto : H.key 39 = some h_impl_GoodAuto := by kernel_rfl
noncomputable def impl_GoodAuto_L0 (a : DAuto) (t36 : Bool × List DEdge) (t37 : Int) (t38 : Int) : Option (Bool ⊕ Unit) := (inf H).loop 39 0 (loopCode Tryz.f39 0) (a, (t36, (t37, t38)))
noncomputable def impl_checkedAuto (a : DAuto) : Option (DAuto × Bool) := (inf H).call 33 a
noncomputable def impl_AutoFor (f : Bool × List DSaid) : Option (DAuto × Bool) := (inf H).call 9 f
noncomputable def impl_isIndex (k_ : Int) : Option Bool := (inf H).call 35 k_
noncomputable def impl_LetterAt (l : DLasso) (k_ : Int) : Option (Int × Bool) := (inf H).call 10 (l, k_)
noncomputable def impl_isOneLetter (n : Int) : Option Bool := (inf H).call 41 n
noncomputable def impl_isNow (f : Bool × List DSaid) (letter : Int) (next : Int) : Option Bool := (inf H).call 37 (f, (letter, next))
noncomputable def impl_GuessOf (f : Bool × List DSaid) (letter : Int) (next : Int) : Option (Int × Bool) := (inf H).call 11 (f, (letter, next))
noncomputable def slices_Contains_int (s : Bool × List Int) (v : Int) : Option Bool := (inf H).call 42 (s, v)
noncomputable def impl_marked (list : Bool × List Bool) : Option (Bool × List Int) := (inf H).call 43 list
theorem key_impl_marked : H.key 43 = some h_impl_marked := by kernel_rfl
noncomputable def impl_marked_L0 (out : Bool × List Int) (t7 : Bool × List Bool) (t8 : Int) (t9 : Int) : Option (Bool × List Int) := (inf H).loop 43 0 (loopCode Tryz.f43 0) (out, (t7, (t8, t9)))
noncomputable def impl_StepAuto (a : DAuto) (some_ : Bool × List Int) (letter : Int) : Option ((Bool × List Int) × Bool) := (inf H).call 12 (a, (some_, letter))
theorem key_impl_StepAuto : H.key 12 = some h_impl_StepAuto := by kernel_rfl
noncomputable def impl_StepAuto_L0 (some_ : Bool × List Int) (letter : Int) (to : Bool × List Bool) (t30 : Bool × List DEdge) (t31 : Int) (t32 : Int) : Option (Bool × List Bool) := (inf H).loop 12 0 (loopCode Tryz.f12 0) (some_, (letter, (to, (t30, (t31, t32)))))
noncomputable def laws_has (l : Bool × List Int) (n : Int) : Option Bool := (inf H).call 13 (l, n)
theorem key_laws_has : H.key 13 = some h_laws_has := by kernel_rfl
noncomputable def laws_has_L0 (n : Int) (t7 : Bool × List Int) (t8 : Int) (t9 : Int) : Option (Bool ⊕ Unit) := (inf H).loop 13 0 (loopCode Tryz.f13 0) (n, (t7, (t8, t9)))
noncomputable def spec_DrawEvalNow (code : Bool × List Int) : Option ((Bool × List DSaid) × DSaid) := (inf H).call 14 code
noncomputable def impl_EvalNow (f : Bool × List DSaid) (letter : Int) (next : Int) : Option ((Bool × List Bool) × Bool) := (inf H).call 15 (f, (letter, next))
noncomputable def spec_l13Asked (f : Bool × List DSaid) (letter : Int) (next : Int) : Option Bool := (inf H).call 46 (f, (letter, next))
noncomputable def spec_l13Says (tracked : Bool × List Int) (guess : Int) (node : Int) : Option Bool := (inf H).call 77 (tracked, (guess, node))
theorem key_spec_l13Says : H.key 77 = some h_spec_l13Says := by kernel_rfl
noncomputable def spec_l13Says_L0 (guess : Int) (node : Int) (t9 : Bool × List Int) (t10 : Int) (t11 : Int) : Option (Bool ⊕ Unit) := (inf H).loop 77 0 (loopCode Tryz.f77 0) (guess, (node, (t9, (t10, t11))))
noncomputable def spec_l13Now (f : Bool × List DSaid) (tracked : Bool × List Int) (letter : Int) (next : Int) : Option (Bool × List Bool) := (inf H).call 47 (f, (tracked, (letter, next)))
theorem key_spec_l13Now : H.key 47 = some h_spec_l13Now := by kernel_rfl
noncomputable def spec_l13Now_L0 (f : Bool × List DSaid) (tracked : Bool × List Int) (letter : Int) (next : Int) (out : Bool × List Bool) (t13 : Bool × List DSaid) (t14 : Int) (t15 : Int) : Option (Bool × List Bool) := (inf H).loop 47 0 (loopCode Tryz.f47 0) (f, (tracked, (letter, (next, (out, (t13, (t14, t15)))))))
noncomputable def spec_EvalNow (f : Bool × List DSaid) (letter : Int) (next : Int) : Option ((Bool × List Bool) × Bool) := (inf H).call 16 (f, (letter, next))
noncomputable def spec_l13Guess (f : Bool × List DSaid) (tracked : Bool × List Int) (letter : Int) (next : Int) : Option Int := (inf H).call 48 (f, (tracked, (letter, next)))
theorem key_spec_l13Guess : H.key 48 = some h_spec_l13Guess := by kernel_rfl
noncomputable def spec_l13Guess_L0 (now : Bool × List Bool) (guess : Int) (t18 : Bool × List Int) (t19 : Int) (t20 : Int) : Option Int := (inf H).loop 48 0 (loopCode Tryz.f48 0) (now, (guess, (t18, (t19, t20))))
noncomputable def spec_GuessOf (f : Bool × List DSaid) (letter : Int) (next : Int) : Option (Int × Bool) := (inf H).call 17 (f, (letter, next))
noncomputable def laws_sameBools (a : Bool × List Bool) (b : Bool × List Bool) : Option Bool := (inf H).call 18 (a, b)
theorem key_laws_sameBools : H.key 18 = some h_laws_sameBools := by kernel_rfl
noncomputable def laws_sameBools_L0 (a : Bool × List Bool) (b : Bool × List Bool) (t12 : Int) (t13 : Int) : Option (Bool ⊕ Unit) := (inf H).loop 18 0 (loopCode Tryz.f18 0) (a, (b, (t12, t13)))
noncomputable def laws_FnOnlyRun (code : Bool × List Int) (more : Bool × List Int) : Option Bool := (inf H).call 3 (code, more)
theorem key_laws_FnOnlyRun : H.key 3 = some h_laws_FnOnlyRun := by kernel_rfl
noncomputable def laws_FnOnlyRun_L0 (more : Bool × List Int) (f : Bool × List DSaid) (l : DLasso) (all_ : Bool × List Int) (a : DAuto) (one_ : Bool) (k_ : Int) : Option (Bool ⊕ Unit) := (inf H).loop 3 0 (loopCode Tryz.f3 0) (more, (f, (l, (all_, (a, (one_, k_))))))
theorem laws_big_eq (code : Bool × List Int) (more : Bool × List Int) : laws_big code more =
 bif decide ((code.2.length : Int) > 1048576) then
 some true
else 
 some (decide ((more.2.length : Int) > (IntKind.i64.wrap (1048576 - (code.2.length : Int))))) := Eq.trans (inf_call_eq (H := H) 4 (code, more)) (by kernel_rfl)
theorem spec_l1Cur_next_eq (a0_0 : Bool × List Int) (a0_1 : Int) (a0_2 : Int) : spec_l1Cur_next a0_0 a0_1 a0_2 =
 bif decide (a0_1 < (a0_0.2.length : Int)) then
 bif decide (0 ≤ a0_1) then
 bif decide (a0_1 < (a0_0.2.length : Int)) then
 bif decide ((IntKind.i64.wrap (a0_1 + 1)) ≤ (a0_0.2.length : Int)) then
 some ((a0_0, (IntKind.i64.wrap (a0_1 + 1), IntKind.u64.wrap ((IntKind.u64.wrap ((IntKind.u64.wrap (a0_2 * 6364136223846793005)) + (IntKind.u64.wrap (IntKind.i64.wrap (a0_0.2.getD (Int.toNat a0_1) 0))))) + 1442695040888963407))), IntKind.i64.wrap (a0_0.2.getD (Int.toNat a0_1) 0))
else 
 some ((a0_0, (IntKind.i64.wrap (a0_1 + 1), IntKind.u64.wrap ((IntKind.u64.wrap ((IntKind.u64.wrap (a0_2 * 6364136223846793005)) + (IntKind.u64.wrap (IntKind.i64.wrap (a0_0.2.getD (Int.toNat a0_1) 0))))) + 1442695040888963407))), IntKind.i64.wrap (bAnd .u64 (bShr .u64 (IntKind.u64.wrap ((IntKind.u64.wrap ((IntKind.u64.wrap (a0_2 * 6364136223846793005)) + (IntKind.u64.wrap (IntKind.i64.wrap (a0_0.2.getD (Int.toNat a0_1) 0))))) + 1442695040888963407)) 40) 255))
else none
else none
else 
 bif decide ((IntKind.i64.wrap (a0_1 + 1)) ≤ (a0_0.2.length : Int)) then
 some ((a0_0, (IntKind.i64.wrap (a0_1 + 1), IntKind.u64.wrap ((IntKind.u64.wrap ((IntKind.u64.wrap (a0_2 * 6364136223846793005)) + (IntKind.u64.wrap 0))) + 1442695040888963407))), 0)
else 
 some ((a0_0, (IntKind.i64.wrap (a0_1 + 1), IntKind.u64.wrap ((IntKind.u64.wrap ((IntKind.u64.wrap (a0_2 * 6364136223846793005)) + (IntKind.u64.wrap 0))) + 1442695040888963407))), IntKind.i64.wrap (bAnd .u64 (bShr .u64 (IntKind.u64.wrap ((IntKind.u64.wrap ((IntKind.u64.wrap (a0_2 * 6364136223846793005)) + (IntKind.u64.wrap 0))) + 1442695040888963407)) 40) 255)) := Eq.trans (inf_call_eq (H := H) 75 (a0_0, (a0_1, a0_2))) (by kernel_rfl)
theorem spec_l1Cur_pick_eq (c : Dl1Cur) (n : Int) : spec_l1Cur_pick c n =
 bif decide (n ≤ 1) then
 some (c, 0)
else 
(spec_l1Cur_next c.1 c.2.1 c.2.2).bind fun r =>
 bif decide (n > 200) then
(spec_l1Cur_next r.1.1 r.1.2.1 r.1.2.2).bind fun r1 =>
 bif (n == 0) then
 none
else 
 some (r1.1, Int.tmod (IntKind.i64.wrap ((IntKind.i64.wrap (r.2 * 256)) + r1.2)) n)
else 
 bif (n == 0) then
 none
else 
 some (r.1, Int.tmod r.2 n) := Eq.trans (inf_call_eq (H := H) 44 (c, n)) (by kernel_rfl)
theorem spec_l1Cur_one_eq (c : Dl1Cur) (n : Int) : spec_l1Cur_one c n =
(spec_l1Cur_pick c n).bind fun r =>
 some (r.1, (r.2 == 0)) := Eq.trans (inf_call_eq (H := H) 52 (c, n)) (by kernel_rfl)
theorem spec_l1Cur_among_eq (c : Dl1Cur) (list : Bool × List Int) : spec_l1Cur_among c list =
(spec_l1Cur_pick c (list.2.length : Int)).bind fun r =>
 bif decide (0 ≤ r.2) then
 bif decide (r.2 < (list.2.length : Int)) then
 some (r.1, (list.2.getD (Int.toNat r.2) 0))
else none
else none := Eq.trans (inf_call_eq (H := H) 53 (c, list)) (by kernel_rfl)
theorem spec_l1Cur_formula_eq (c : Dl1Cur) (deep : Int) : spec_l1Cur_formula c deep =
 bif (deep == 0) then
(spec_l1Cur_one c 12).bind fun r =>
 bif r.2 then
(spec_l1Cur_pick r.1 2).bind fun r1 =>
 some (r1.1, (false, [(2, r1.2)]))
else 
(spec_l1Cur_pick r.1 3).bind fun r2 =>
 some (r2.1, (false, [(1, r2.2)]))
else 
(spec_l1Cur_one c 6).bind fun r3 =>
 bif r3.2 then
(spec_l1Cur_one r3.1 12).bind fun r4 =>
 bif r4.2 then
(spec_l1Cur_pick r4.1 2).bind fun r5 =>
 some (r5.1, (false, [(2, r5.2)]))
else 
(spec_l1Cur_pick r4.1 3).bind fun r6 =>
 some (r6.1, (false, [(1, r6.2)]))
else 
(spec_l1Cur_one r3.1 3).bind fun r7 =>
 bif r7.2 then
(spec_l1Cur_formula r7.1 (IntKind.i64.wrap (deep - 1))).bind fun r8 =>
(spec_l1Cur_among r8.1 (false, [3, 3, 4])).bind fun r9 =>
 bif decide (r8.2.2.length + [(r9.2, 0)].length ≤ lim) then
 some (r9.1, ((r8.2.1 && false), (r8.2.2 ++ [(r9.2, 0)])))
else none
else 
(spec_l1Cur_among r7.1 (false, [5, 6, 7, 7, 8])).bind fun r10 =>
(spec_l1Cur_formula r10.1 (IntKind.i64.wrap (deep - 1))).bind fun r11 =>
(spec_l1Cur_formula r11.1 (IntKind.i64.wrap (deep - 1))).bind fun r12 =>
 bif decide (r11.2.2.length + r12.2.2.length ≤ lim) then
 bif decide ((r11.2.2 ++ r12.2.2).length + [(r10.2, 0)].length ≤ lim) then
 some (r12.1, (((r11.2.1 && r12.2.2.isEmpty) && false), ((r11.2.2 ++ r12.2.2) ++ [(r10.2, 0)])))
else none
else none := Eq.trans (inf_call_eq (H := H) 49 (c, deep)) (by kernel_rfl)
theorem spec_l1In_eq (n : Int) (lo : Int) (hi : Int) : spec_l1In n lo hi =
 bif decide (n ≥ lo) then
 some (decide (n ≤ hi))
else 
 some false := Eq.trans (inf_call_eq (H := H) 63 (n, (lo, hi))) (by kernel_rfl)
theorem spec_l10Need_eq (op : Int) : spec_l10Need op =
 bif (op == 1) then
 bif (op == 1) then
 some 0
else 
 bif (op == 3) then
 bif (op == 3) then
 some 1
else 
 bif (op == 5) then
 bif (op == 5) then
 some 2
else 
 some (-1)
else 
 bif (op == 6) then
 bif (op == 6) then
 some 2
else 
 some (-1)
else 
 bif (op == 7) then
 bif (op == 7) then
 some 2
else 
 some (-1)
else 
 bif (op == 8) then
 some 2
else 
 some (-1)
else 
 bif (op == 4) then
 some 1
else 
 bif (op == 5) then
 bif (op == 5) then
 some 2
else 
 some (-1)
else 
 bif (op == 6) then
 bif (op == 6) then
 some 2
else 
 some (-1)
else 
 bif (op == 7) then
 bif (op == 7) then
 some 2
else 
 some (-1)
else 
 bif (op == 8) then
 some 2
else 
 some (-1)
else 
 bif (op == 2) then
 some 0
else 
 bif (op == 3) then
 bif (op == 3) then
 some 1
else 
 bif (op == 5) then
 bif (op == 5) then
 some 2
else 
 some (-1)
else 
 bif (op == 6) then
 bif (op == 6) then
 some 2
else 
 some (-1)
else 
 bif (op == 7) then
 bif (op == 7) then
 some 2
else 
 some (-1)
else 
 bif (op == 8) then
 some 2
else 
 some (-1)
else 
 bif (op == 4) then
 some 1
else 
 bif (op == 5) then
 bif (op == 5) then
 some 2
else 
 some (-1)
else 
 bif (op == 6) then
 bif (op == 6) then
 some 2
else 
 some (-1)
else 
 bif (op == 7) then
 bif (op == 7) then
 some 2
else 
 some (-1)
else 
 bif (op == 8) then
 some 2
else 
 some (-1) := Eq.trans (inf_call_eq (H := H) 90 op) (by kernel_rfl)
theorem spec_l10N_eq (n : DSaid) : spec_l10N n =
 bif (n.1 == 1) then
(spec_l1In n.2 0 2).bind fun r =>
 some r
else 
 bif (n.1 == 2) then
(spec_l1In n.2 0 1).bind fun r1 =>
 some r1
else 
 some (n.2 == 0) := Eq.trans (inf_call_eq (H := H) 91 n) (by kernel_rfl)
theorem spec_GoodSaid_L0_eq (pile : Int) (t11 : Bool × List DSaid) (t12 : Int) (t13 : Int) : spec_GoodSaid_L0 pile t11 t12 t13 =
 bif decide (t13 < t12) then
 bif decide (0 ≤ t13) then
 bif decide (t13 < (t11.2.length : Int)) then
(spec_l10Need ((t11.2.getD (Int.toNat t13) (0, 0)).1)).bind fun r =>
 bif decide (r < 0) then
 some (.inl false)
else 
(spec_l10N (t11.2.getD (Int.toNat t13) (0, 0))).bind fun r1 =>
 bif !r1 then
 some (.inl false)
else 
 bif decide (pile < r) then
 some (.inl false)
else 
(spec_GoodSaid_L0 (IntKind.i64.wrap (pile + (IntKind.i64.wrap (1 - r)))) t11 t12 (IntKind.i64.wrap (t13 + 1))).bind fun r => some r
else none
else none
else 
 some (.inr pile) := Eq.trans (inf_loop_eq (H := H) 62 0 (loopCode Tryz.f62 0) (pile, (t11, (t12, t13))) key_spec_GoodSaid) (by kernel_rfl)
theorem spec_GoodSaid_eq (f : Bool × List DSaid) : spec_GoodSaid f =
(spec_l1In (f.2.length : Int) 1 16).bind fun r =>
 bif !r then
 some false
else 
(spec_GoodSaid_L0 0 f (f.2.length : Int) 0).bind fun r1 =>
 match r1 with
| .inl y =>
 some y
| .inr z =>
 some (z == 1) := Eq.trans (inf_call_eq (H := H) 62 f) (by kernel_rfl)
theorem spec_l1Put_L0_eq (l : Bool × List Int) (n : Int) (k_ : Int) : spec_l1Put_L0 l n k_ =
 bif decide (k_ < (l.2.length : Int)) then
 bif decide (0 ≤ k_) then
 bif decide (k_ < (l.2.length : Int)) then
 bif decide ((l.2.getD (Int.toNat k_) 0) < n) then
(spec_l1Put_L0 l n (IntKind.i64.wrap (k_ + 1))).bind fun r => some r
else 
 some k_
else none
else none
else 
 some k_ := Eq.trans (inf_loop_eq (H := H) 67 0 (loopCode Tryz.f67 0) (l, (n, k_)) key_spec_l1Put) (by kernel_rfl)
theorem spec_l1Put_eq (l : Bool × List Int) (n : Int) : spec_l1Put l n =
(spec_l1Put_L0 l n 0).bind fun r =>
 bif decide (r < (l.2.length : Int)) then
 bif decide (0 ≤ r) then
 bif decide (r < (l.2.length : Int)) then
 bif ((l.2.getD (Int.toNat r) 0) == n) then
 some l
else 
 bif decide (0 ≤ r) then
 bif decide (r ≤ (l.2.length : Int)) then
 bif decide (([] : List Int).length + ((l.2.take (Int.toNat r)).drop 0).length ≤ lim) then
 bif decide (([] ++ ((l.2.take (Int.toNat r)).drop 0)).length + [n].length ≤ lim) then
 bif decide (0 ≤ r) then
 bif decide (r ≤ (l.2.length : Int)) then
 bif decide ((([] ++ ((l.2.take (Int.toNat r)).drop 0)) ++ [n]).length + ((l.2.take l.2.length).drop (Int.toNat r)).length ≤ lim) then
 some (false, ((([] ++ ((l.2.take (Int.toNat r)).drop 0)) ++ [n]) ++ ((l.2.take l.2.length).drop (Int.toNat r))))
else none
else none
else none
else none
else none
else none
else none
else none
else none
else 
 bif decide (0 ≤ r) then
 bif decide (r ≤ (l.2.length : Int)) then
 bif decide (([] : List Int).length + ((l.2.take (Int.toNat r)).drop 0).length ≤ lim) then
 bif decide (([] ++ ((l.2.take (Int.toNat r)).drop 0)).length + [n].length ≤ lim) then
 bif decide (0 ≤ r) then
 bif decide (r ≤ (l.2.length : Int)) then
 bif decide ((([] ++ ((l.2.take (Int.toNat r)).drop 0)) ++ [n]).length + ((l.2.take l.2.length).drop (Int.toNat r)).length ≤ lim) then
 some (false, ((([] ++ ((l.2.take (Int.toNat r)).drop 0)) ++ [n]) ++ ((l.2.take l.2.length).drop (Int.toNat r))))
else none
else none
else none
else none
else none
else none
else none := Eq.trans (inf_call_eq (H := H) 67 (l, n)) (by kernel_rfl)
theorem spec_l13Tracked_L0_eq (out : Bool × List Int) (t10 : Bool × List DSaid) (t11 : Int) (t12 : Int) : spec_l13Tracked_L0 out t10 t11 t12 =
 bif decide (t12 < t11) then
 bif decide (0 ≤ t12) then
 bif decide (t12 < (t10.2.length : Int)) then
 bif (((t10.2.getD (Int.toNat t12) (0, 0)).1) == 7) then
 bif (((t10.2.getD (Int.toNat t12) (0, 0)).1) == 7) then
(spec_l1Put out t12).bind fun r =>
(spec_l1Put r (IntKind.i64.wrap (t12 - 1))).bind fun r1 =>
(spec_l13Tracked_L0 r1 t10 t11 (IntKind.i64.wrap (t12 + 1))).bind fun r => some r
else 
 bif (((t10.2.getD (Int.toNat t12) (0, 0)).1) == 4) then
(spec_l1Put out (IntKind.i64.wrap (t12 - 1))).bind fun r2 =>
(spec_l13Tracked_L0 r2 t10 t11 (IntKind.i64.wrap (t12 + 1))).bind fun r => some r
else 
(spec_l13Tracked_L0 out t10 t11 (IntKind.i64.wrap (t12 + 1))).bind fun r => some r
else 
 bif (((t10.2.getD (Int.toNat t12) (0, 0)).1) == 8) then
(spec_l1Put out t12).bind fun r3 =>
(spec_l1Put r3 (IntKind.i64.wrap (t12 - 1))).bind fun r4 =>
(spec_l13Tracked_L0 r4 t10 t11 (IntKind.i64.wrap (t12 + 1))).bind fun r => some r
else 
 bif (((t10.2.getD (Int.toNat t12) (0, 0)).1) == 4) then
(spec_l1Put out (IntKind.i64.wrap (t12 - 1))).bind fun r5 =>
(spec_l13Tracked_L0 r5 t10 t11 (IntKind.i64.wrap (t12 + 1))).bind fun r => some r
else 
(spec_l13Tracked_L0 out t10 t11 (IntKind.i64.wrap (t12 + 1))).bind fun r => some r
else none
else none
else 
 some out := Eq.trans (inf_loop_eq (H := H) 30 0 (loopCode Tryz.f30 0) (out, (t10, (t11, t12))) key_spec_l13Tracked) (by kernel_rfl)
theorem spec_l13Tracked_eq (f : Bool × List DSaid) : spec_l13Tracked f =
(spec_l13Tracked_L0 (false, [IntKind.i64.wrap ((f.2.length : Int) - 1)]) f (f.2.length : Int) 0).bind fun r =>
 some r := Eq.trans (inf_call_eq (H := H) 30 f) (by kernel_rfl)
theorem spec_l13Good_eq (f : Bool × List DSaid) : spec_l13Good f =
(spec_GoodSaid f).bind fun r =>
 bif r then
(spec_l13Tracked f).bind fun r1 =>
 some (decide ((r1.2.length : Int) ≤ 5))
else 
 some false := Eq.trans (inf_call_eq (H := H) 27 f) (by kernel_rfl)
theorem spec_l1Cur_said_eq (c : Dl1Cur) : spec_l1Cur_said c =
(spec_l1Cur_pick c 2).bind fun r =>
(spec_l1Cur_formula r.1 (IntKind.i64.wrap (2 + r.2))).bind fun r1 =>
 bif decide ((r1.2.2.length : Int) > 16) then
(spec_l1Cur_one r1.1 10).bind fun r2 =>
 bif !r2.2 then
(spec_l1Cur_formula r2.1 2).bind fun r3 =>
(spec_l1Cur_pick r3.1 40).bind fun r4 =>
 bif (r4.2 == 0) then
 bif decide (1 ≤ (r3.2.2.length : Int)) then
 some (r4.1, (r3.2.1, ((r3.2.2.take r3.2.2.length).drop 1)))
else none
else 
 bif (r4.2 == 1) then
 bif decide (0 < (r3.2.2.length : Int)) then
 some (r4.1, (r3.2.1, (r3.2.2.set 0 ((r3.2.2.getD 0 (0, 0)).1, 3))))
else none
else 
 bif (r4.2 == 2) then
(spec_l1Cur_pick r4.1 10).bind fun r5 =>
 bif decide (0 ≤ (IntKind.i64.wrap ((r3.2.2.length : Int) - 1))) then
 bif decide ((IntKind.i64.wrap ((r3.2.2.length : Int) - 1)) < (r3.2.2.length : Int)) then
 some (r5.1, (r3.2.1, (r3.2.2.set (Int.toNat (IntKind.i64.wrap ((r3.2.2.length : Int) - 1))) (r5.2, (r3.2.2.getD (Int.toNat (IntKind.i64.wrap ((r3.2.2.length : Int) - 1))) (0, 0)).2))))
else none
else none
else 
 some (r4.1, (r3.2.1, r3.2.2))
else 
(spec_l1Cur_pick r2.1 40).bind fun r6 =>
 bif (r6.2 == 0) then
 bif decide (1 ≤ (r1.2.2.length : Int)) then
 some (r6.1, (r1.2.1, ((r1.2.2.take r1.2.2.length).drop 1)))
else none
else 
 bif (r6.2 == 1) then
 bif decide (0 < (r1.2.2.length : Int)) then
 some (r6.1, (r1.2.1, (r1.2.2.set 0 ((r1.2.2.getD 0 (0, 0)).1, 3))))
else none
else 
 bif (r6.2 == 2) then
(spec_l1Cur_pick r6.1 10).bind fun r7 =>
 bif decide (0 ≤ (IntKind.i64.wrap ((r1.2.2.length : Int) - 1))) then
 bif decide ((IntKind.i64.wrap ((r1.2.2.length : Int) - 1)) < (r1.2.2.length : Int)) then
 some (r7.1, (r1.2.1, (r1.2.2.set (Int.toNat (IntKind.i64.wrap ((r1.2.2.length : Int) - 1))) (r7.2, (r1.2.2.getD (Int.toNat (IntKind.i64.wrap ((r1.2.2.length : Int) - 1))) (0, 0)).2))))
else none
else none
else 
 some (r6.1, (r1.2.1, r1.2.2))
else 
(spec_l1Cur_pick r1.1 40).bind fun r8 =>
 bif (r8.2 == 0) then
 bif decide (1 ≤ (r1.2.2.length : Int)) then
 some (r8.1, (r1.2.1, ((r1.2.2.take r1.2.2.length).drop 1)))
else none
else 
 bif (r8.2 == 1) then
 bif decide (0 < (r1.2.2.length : Int)) then
 some (r8.1, (r1.2.1, (r1.2.2.set 0 ((r1.2.2.getD 0 (0, 0)).1, 3))))
else none
else 
 bif (r8.2 == 2) then
(spec_l1Cur_pick r8.1 10).bind fun r9 =>
 bif decide (0 ≤ (IntKind.i64.wrap ((r1.2.2.length : Int) - 1))) then
 bif decide ((IntKind.i64.wrap ((r1.2.2.length : Int) - 1)) < (r1.2.2.length : Int)) then
 some (r9.1, (r1.2.1, (r1.2.2.set (Int.toNat (IntKind.i64.wrap ((r1.2.2.length : Int) - 1))) (r9.2, (r1.2.2.getD (Int.toNat (IntKind.i64.wrap ((r1.2.2.length : Int) - 1))) (0, 0)).2))))
else none
else none
else 
 some (r8.1, (r1.2.1, r1.2.2)) := Eq.trans (inf_call_eq (H := H) 50 c) (by kernel_rfl)
theorem spec_l1Cur_tracked_L0_eq (c : Dl1Cur) (n : Int) : spec_l1Cur_tracked_L0 c n =
 bif decide (n < 4) then
(spec_l1Cur_formula c 2).bind fun r =>
(spec_l13Good (r.2.1, r.2.2)).bind fun r1 =>
 bif r1 then
 some (.inl (r.1, (r.2.1, r.2.2)))
else 
(spec_l1Cur_tracked_L0 r.1 (IntKind.i64.wrap (n + 1))).bind fun r => some r
else 
 some (.inr c) := Eq.trans (inf_loop_eq (H := H) 19 0 (loopCode Tryz.f19 0) (c, n) key_spec_l1Cur_tracked) (by kernel_rfl)
theorem spec_l1Cur_tracked_eq (c : Dl1Cur) : spec_l1Cur_tracked c =
(spec_l1Cur_tracked_L0 c 0).bind fun r =>
 match r with
| .inl y =>
 some (y.1, (y.2.1, y.2.2))
| .inr z =>
(spec_l1Cur_said z).bind fun r1 =>
 some (r1.1, (r1.2.1, r1.2.2)) := Eq.trans (inf_call_eq (H := H) 19 c) (by kernel_rfl)
theorem spec_l1Cur_letters_L0_eq (c : Dl1Cur) (n : Int) (l : Bool × List Int) : spec_l1Cur_letters_L0 c n l =
 bif decide (n > 0) then
(spec_l1Cur_pick c 8).bind fun r =>
 bif decide (l.2.length + [r.2].length ≤ lim) then
(spec_l1Cur_letters_L0 r.1 (IntKind.i64.wrap (n - 1)) ((l.1 && false), (l.2 ++ [r.2]))).bind fun r => some r
else none
else 
 some (c, (l.1, l.2)) := Eq.trans (inf_loop_eq (H := H) 51 0 (loopCode Tryz.f51 0) (c, (n, l)) key_spec_l1Cur_letters) (by kernel_rfl)
theorem spec_l1Cur_letters_eq (c : Dl1Cur) (n : Int) : spec_l1Cur_letters c n =
(spec_l1Cur_letters_L0 c n (true, [])).bind fun r =>
 some (r.1, (r.2.1, r.2.2)) := Eq.trans (inf_call_eq (H := H) 51 (c, n)) (by kernel_rfl)
theorem spec_l1Cur_lasso_eq (c : Dl1Cur) : spec_l1Cur_lasso c =
(spec_l1Cur_pick c 6).bind fun r =>
(spec_l1Cur_letters r.1 r.2).bind fun r1 =>
(spec_l1Cur_pick r1.1 5).bind fun r2 =>
(spec_l1Cur_letters r2.1 (IntKind.i64.wrap (1 + r2.2))).bind fun r3 =>
(spec_l1Cur_one r3.1 4).bind fun r4 =>
 bif r4.2 then
 bif decide (r3.2.2.length + r3.2.2.length ≤ lim) then
(spec_l1Cur_one r4.1 4).bind fun r5 =>
 bif r5.2 then
 bif decide (r1.2.2.length + (r3.2.2 ++ r3.2.2).length ≤ lim) then
(spec_l1Cur_pick r5.1 40).bind fun r6 =>
 bif (r6.2 == 0) then
(spec_l1Cur_among r6.1 (false, [0, 24, 25])).bind fun r7 =>
(spec_l1Cur_letters r7.1 r7.2).bind fun r8 =>
 some (r8.1, (((r1.2.1 && (r3.2.2 ++ r3.2.2).isEmpty), (r1.2.2 ++ (r3.2.2 ++ r3.2.2))), (r8.2.1, r8.2.2)))
else 
 bif (r6.2 == 1) then
(spec_l1Cur_among r6.1 (false, [24, 25])).bind fun r9 =>
(spec_l1Cur_letters r9.1 r9.2).bind fun r10 =>
 some (r10.1, ((r10.2.1, r10.2.2), ((r3.2.1 && r3.2.2.isEmpty), (r3.2.2 ++ r3.2.2))))
else 
 bif (r6.2 == 2) then
(spec_l1Cur_among r6.1 (false, [(-1), 7, 8])).bind fun r11 =>
 bif decide (0 < ((r3.2.2 ++ r3.2.2).length : Int)) then
 some (r11.1, (((r1.2.1 && (r3.2.2 ++ r3.2.2).isEmpty), (r1.2.2 ++ (r3.2.2 ++ r3.2.2))), ((r3.2.1 && r3.2.2.isEmpty), ((r3.2.2 ++ r3.2.2).set 0 r11.2))))
else none
else 
 some (r6.1, (((r1.2.1 && (r3.2.2 ++ r3.2.2).isEmpty), (r1.2.2 ++ (r3.2.2 ++ r3.2.2))), ((r3.2.1 && r3.2.2.isEmpty), (r3.2.2 ++ r3.2.2))))
else none
else 
(spec_l1Cur_pick r5.1 40).bind fun r12 =>
 bif (r12.2 == 0) then
(spec_l1Cur_among r12.1 (false, [0, 24, 25])).bind fun r13 =>
(spec_l1Cur_letters r13.1 r13.2).bind fun r14 =>
 some (r14.1, ((r1.2.1, r1.2.2), (r14.2.1, r14.2.2)))
else 
 bif (r12.2 == 1) then
(spec_l1Cur_among r12.1 (false, [24, 25])).bind fun r15 =>
(spec_l1Cur_letters r15.1 r15.2).bind fun r16 =>
 some (r16.1, ((r16.2.1, r16.2.2), ((r3.2.1 && r3.2.2.isEmpty), (r3.2.2 ++ r3.2.2))))
else 
 bif (r12.2 == 2) then
(spec_l1Cur_among r12.1 (false, [(-1), 7, 8])).bind fun r17 =>
 bif decide (0 < ((r3.2.2 ++ r3.2.2).length : Int)) then
 some (r17.1, ((r1.2.1, r1.2.2), ((r3.2.1 && r3.2.2.isEmpty), ((r3.2.2 ++ r3.2.2).set 0 r17.2))))
else none
else 
 some (r12.1, ((r1.2.1, r1.2.2), ((r3.2.1 && r3.2.2.isEmpty), (r3.2.2 ++ r3.2.2))))
else none
else 
(spec_l1Cur_one r4.1 4).bind fun r18 =>
 bif r18.2 then
 bif decide (r1.2.2.length + r3.2.2.length ≤ lim) then
(spec_l1Cur_pick r18.1 40).bind fun r19 =>
 bif (r19.2 == 0) then
(spec_l1Cur_among r19.1 (false, [0, 24, 25])).bind fun r20 =>
(spec_l1Cur_letters r20.1 r20.2).bind fun r21 =>
 some (r21.1, (((r1.2.1 && r3.2.2.isEmpty), (r1.2.2 ++ r3.2.2)), (r21.2.1, r21.2.2)))
else 
 bif (r19.2 == 1) then
(spec_l1Cur_among r19.1 (false, [24, 25])).bind fun r22 =>
(spec_l1Cur_letters r22.1 r22.2).bind fun r23 =>
 some (r23.1, ((r23.2.1, r23.2.2), (r3.2.1, r3.2.2)))
else 
 bif (r19.2 == 2) then
(spec_l1Cur_among r19.1 (false, [(-1), 7, 8])).bind fun r24 =>
 bif decide (0 < (r3.2.2.length : Int)) then
 some (r24.1, (((r1.2.1 && r3.2.2.isEmpty), (r1.2.2 ++ r3.2.2)), (r3.2.1, (r3.2.2.set 0 r24.2))))
else none
else 
 some (r19.1, (((r1.2.1 && r3.2.2.isEmpty), (r1.2.2 ++ r3.2.2)), (r3.2.1, r3.2.2)))
else none
else 
(spec_l1Cur_pick r18.1 40).bind fun r25 =>
 bif (r25.2 == 0) then
(spec_l1Cur_among r25.1 (false, [0, 24, 25])).bind fun r26 =>
(spec_l1Cur_letters r26.1 r26.2).bind fun r27 =>
 some (r27.1, ((r1.2.1, r1.2.2), (r27.2.1, r27.2.2)))
else 
 bif (r25.2 == 1) then
(spec_l1Cur_among r25.1 (false, [24, 25])).bind fun r28 =>
(spec_l1Cur_letters r28.1 r28.2).bind fun r29 =>
 some (r29.1, ((r29.2.1, r29.2.2), (r3.2.1, r3.2.2)))
else 
 bif (r25.2 == 2) then
(spec_l1Cur_among r25.1 (false, [(-1), 7, 8])).bind fun r30 =>
 bif decide (0 < (r3.2.2.length : Int)) then
 some (r30.1, ((r1.2.1, r1.2.2), (r3.2.1, (r3.2.2.set 0 r30.2))))
else none
else 
 some (r25.1, ((r1.2.1, r1.2.2), (r3.2.1, r3.2.2))) := Eq.trans (inf_call_eq (H := H) 20 c) (by kernel_rfl)
theorem spec_DrawRunFor_eq (code : Bool × List Int) : spec_DrawRunFor code =
(spec_l1Cur_tracked (code, (0, 0))).bind fun r =>
(spec_l1Cur_lasso r.1).bind fun r1 =>
 some ((r.2.1, r.2.2), ((r1.2.1.1, r1.2.1.2), (r1.2.2.1, r1.2.2.2))) := Eq.trans (inf_call_eq (H := H) 5 code) (by kernel_rfl)
theorem impl_operandsOfSaid_eq (op : Int) : impl_operandsOfSaid op =
 bif (op == 1) then
 bif (op == 1) then
 some 0
else 
 bif (op == 3) then
 bif (op == 3) then
 some 1
else 
 bif (op == 5) then
 bif (op == 5) then
 some 2
else 
 some (-1)
else 
 bif (op == 6) then
 bif (op == 6) then
 some 2
else 
 some (-1)
else 
 bif (op == 7) then
 bif (op == 7) then
 some 2
else 
 some (-1)
else 
 bif (op == 8) then
 some 2
else 
 some (-1)
else 
 bif (op == 4) then
 some 1
else 
 bif (op == 5) then
 bif (op == 5) then
 some 2
else 
 some (-1)
else 
 bif (op == 6) then
 bif (op == 6) then
 some 2
else 
 some (-1)
else 
 bif (op == 7) then
 bif (op == 7) then
 some 2
else 
 some (-1)
else 
 bif (op == 8) then
 some 2
else 
 some (-1)
else 
 bif (op == 2) then
 some 0
else 
 bif (op == 3) then
 bif (op == 3) then
 some 1
else 
 bif (op == 5) then
 bif (op == 5) then
 some 2
else 
 some (-1)
else 
 bif (op == 6) then
 bif (op == 6) then
 some 2
else 
 some (-1)
else 
 bif (op == 7) then
 bif (op == 7) then
 some 2
else 
 some (-1)
else 
 bif (op == 8) then
 some 2
else 
 some (-1)
else 
 bif (op == 4) then
 some 1
else 
 bif (op == 5) then
 bif (op == 5) then
 some 2
else 
 some (-1)
else 
 bif (op == 6) then
 bif (op == 6) then
 some 2
else 
 some (-1)
else 
 bif (op == 7) then
 bif (op == 7) then
 some 2
else 
 some (-1)
else 
 bif (op == 8) then
 some 2
else 
 some (-1) := Eq.trans (inf_call_eq (H := H) 59 op) (by kernel_rfl)
theorem impl_isSaid_eq (x : DSaid) : impl_isSaid x =
 bif (x.1 == 1) then
 bif decide (x.2 ≥ 0) then
 some (decide (x.2 < 3))
else 
 some false
else 
 bif (x.1 == 2) then
 bif (x.2 == 0) then
 some true
else 
 some (x.2 == 1)
else 
(impl_operandsOfSaid x.1).bind fun r =>
 bif decide (r > 0) then
 some (x.2 == 0)
else 
 some false := Eq.trans (inf_call_eq (H := H) 79 x) (by kernel_rfl)
theorem impl_GoodSaid_L0_eq (values : Int) (t15 : Bool × List DSaid) (t16 : Int) (t17 : Int) : impl_GoodSaid_L0 values t15 t16 t17 =
 bif decide (t17 < t16) then
 bif decide (0 ≤ t17) then
 bif decide (t17 < (t15.2.length : Int)) then
(impl_operandsOfSaid ((t15.2.getD (Int.toNat t17) (0, 0)).1)).bind fun r =>
(impl_isSaid (t15.2.getD (Int.toNat t17) (0, 0))).bind fun r1 =>
 bif !r1 then
 some (.inl false)
else 
 bif decide (values < r) then
 some (.inl false)
else 
(impl_GoodSaid_L0 (IntKind.i64.wrap (values + (IntKind.i64.wrap (1 - r)))) t15 t16 (IntKind.i64.wrap (t17 + 1))).bind fun r => some r
else none
else none
else 
 some (.inr values) := Eq.trans (inf_loop_eq (H := H) 54 0 (loopCode Tryz.f54 0) (values, (t15, (t16, t17))) key_impl_GoodSaid) (by kernel_rfl)
theorem impl_GoodSaid_eq (f : Bool × List DSaid) : impl_GoodSaid f =
 bif decide ((f.2.length : Int) < 1) then
 some false
else 
 bif decide ((f.2.length : Int) > 16) then
 some false
else 
(impl_GoodSaid_L0 0 f (f.2.length : Int) 0).bind fun r =>
 match r with
| .inl y =>
 some y
| .inr z =>
 some (z == 1) := Eq.trans (inf_call_eq (H := H) 54 f) (by kernel_rfl)
theorem slices_Clone_int_eq (s : Bool × List Int) : slices_Clone_int s =
 bif s.1 then
 some (true, [])
else 
 bif decide (([] : List Int).length + s.2.length ≤ lim) then
 some (false, ([] ++ s.2))
else none := Eq.trans (inf_call_eq (H := H) 26 s) (by kernel_rfl)
theorem impl_operandIndexes_L0_eq (out : Bool × List (Bool × List Int)) (stack : Bool × List Int) (t10 : Bool × List DSaid) (t11 : Int) (t12 : Int) : impl_operandIndexes_L0 out stack t10 t11 t12 =
 bif decide (t12 < t11) then
 bif decide (0 ≤ t12) then
 bif decide (t12 < (t10.2.length : Int)) then
(impl_operandsOfSaid ((t10.2.getD (Int.toNat t12) (0, 0)).1)).bind fun r =>
 bif decide (0 ≤ (IntKind.i64.wrap ((stack.2.length : Int) - r))) then
 bif decide ((IntKind.i64.wrap ((stack.2.length : Int) - r)) ≤ (stack.2.length : Int)) then
(slices_Clone_int (stack.1, ((stack.2.take stack.2.length).drop (Int.toNat (IntKind.i64.wrap ((stack.2.length : Int) - r)))))).bind fun r1 =>
 bif decide (out.2.length + [(r1.1, r1.2)].length ≤ lim) then
 bif decide (0 ≤ (IntKind.i64.wrap ((stack.2.length : Int) - r))) then
 bif decide ((IntKind.i64.wrap ((stack.2.length : Int) - r)) ≤ (stack.2.length : Int)) then
 bif decide (((stack.2.take (Int.toNat (IntKind.i64.wrap ((stack.2.length : Int) - r)))).drop 0).length + [t12].length ≤ lim) then
(impl_operandIndexes_L0 ((out.1 && false), (out.2 ++ [(r1.1, r1.2)])) ((stack.1 && false), (((stack.2.take (Int.toNat (IntKind.i64.wrap ((stack.2.length : Int) - r)))).drop 0) ++ [t12])) t10 t11 (IntKind.i64.wrap (t12 + 1))).bind fun r => some r
else none
else none
else none
else none
else none
else none
else none
else none
else 
 some (out.1, out.2) := Eq.trans (inf_loop_eq (H := H) 56 0 (loopCode Tryz.f56 0) (out, (stack, (t10, (t11, t12)))) key_impl_operandIndexes) (by kernel_rfl)
theorem impl_operandIndexes_eq (f : Bool × List DSaid) : impl_operandIndexes f =
(impl_operandIndexes_L0 (false, []) (false, []) f (f.2.length : Int) 0).bind fun r =>
 some (r.1, r.2) := Eq.trans (inf_call_eq (H := H) 56 f) (by kernel_rfl)
theorem slices_Sort_int_eq (s : Bool × List Int) : slices_Sort_int s =
(sortI s).bind fun r => some r := Eq.trans (inf_call_eq (H := H) 57 s) (by kernel_rfl)
theorem slices_Compact_int_eq (s : Bool × List Int) : slices_Compact_int s =
(compactI s).bind fun r => some r := Eq.trans (inf_call_eq (H := H) 58 s) (by kernel_rfl)
theorem impl_tracked_L0_eq (out : Bool × List Int) (operands : Bool × List (Bool × List Int)) (t13 : Bool × List DSaid) (t14 : Int) (t15 : Int) : impl_tracked_L0 out operands t13 t14 t15 =
 bif decide (t15 < t14) then
 bif decide (0 ≤ t15) then
 bif decide (t15 < (t13.2.length : Int)) then
 bif (((t13.2.getD (Int.toNat t15) (0, 0)).1) == 7) then
 bif (((t13.2.getD (Int.toNat t15) (0, 0)).1) == 7) then
 bif decide (0 ≤ t15) then
 bif decide (t15 < (operands.2.length : Int)) then
 bif decide (1 < (((operands.2.getD (Int.toNat t15) (true, [])).2).length : Int)) then
 bif decide (out.2.length + ([t15, (((operands.2.getD (Int.toNat t15) (true, [])).2).getD 1 0)] : List Int).length ≤ lim) then
(impl_tracked_L0 ((out.1 && false), (out.2 ++ [t15, (((operands.2.getD (Int.toNat t15) (true, [])).2).getD 1 0)])) operands t13 t14 (IntKind.i64.wrap (t15 + 1))).bind fun r => some r
else none
else none
else none
else none
else 
 bif (((t13.2.getD (Int.toNat t15) (0, 0)).1) == 4) then
 bif decide (0 ≤ t15) then
 bif decide (t15 < (operands.2.length : Int)) then
 bif decide (0 < (((operands.2.getD (Int.toNat t15) (true, [])).2).length : Int)) then
 bif decide (out.2.length + ([(((operands.2.getD (Int.toNat t15) (true, [])).2).getD 0 0)] : List Int).length ≤ lim) then
(impl_tracked_L0 ((out.1 && false), (out.2 ++ [(((operands.2.getD (Int.toNat t15) (true, [])).2).getD 0 0)])) operands t13 t14 (IntKind.i64.wrap (t15 + 1))).bind fun r => some r
else none
else none
else none
else none
else 
(impl_tracked_L0 (out.1, out.2) operands t13 t14 (IntKind.i64.wrap (t15 + 1))).bind fun r => some r
else 
 bif (((t13.2.getD (Int.toNat t15) (0, 0)).1) == 8) then
 bif decide (0 ≤ t15) then
 bif decide (t15 < (operands.2.length : Int)) then
 bif decide (1 < (((operands.2.getD (Int.toNat t15) (true, [])).2).length : Int)) then
 bif decide (out.2.length + ([t15, (((operands.2.getD (Int.toNat t15) (true, [])).2).getD 1 0)] : List Int).length ≤ lim) then
(impl_tracked_L0 ((out.1 && false), (out.2 ++ [t15, (((operands.2.getD (Int.toNat t15) (true, [])).2).getD 1 0)])) operands t13 t14 (IntKind.i64.wrap (t15 + 1))).bind fun r => some r
else none
else none
else none
else none
else 
 bif (((t13.2.getD (Int.toNat t15) (0, 0)).1) == 4) then
 bif decide (0 ≤ t15) then
 bif decide (t15 < (operands.2.length : Int)) then
 bif decide (0 < (((operands.2.getD (Int.toNat t15) (true, [])).2).length : Int)) then
 bif decide (out.2.length + ([(((operands.2.getD (Int.toNat t15) (true, [])).2).getD 0 0)] : List Int).length ≤ lim) then
(impl_tracked_L0 ((out.1 && false), (out.2 ++ [(((operands.2.getD (Int.toNat t15) (true, [])).2).getD 0 0)])) operands t13 t14 (IntKind.i64.wrap (t15 + 1))).bind fun r => some r
else none
else none
else none
else none
else 
(impl_tracked_L0 (out.1, out.2) operands t13 t14 (IntKind.i64.wrap (t15 + 1))).bind fun r => some r
else none
else none
else 
 some (out.1, out.2) := Eq.trans (inf_loop_eq (H := H) 23 0 (loopCode Tryz.f23 0) (out, (operands, (t13, (t14, t15)))) key_impl_tracked) (by kernel_rfl)
theorem impl_tracked_eq (f : Bool × List DSaid) : impl_tracked f =
(impl_operandIndexes f).bind fun r =>
(impl_tracked_L0 (false, [IntKind.i64.wrap ((f.2.length : Int) - 1)]) (r.1, r.2) f (f.2.length : Int) 0).bind fun r1 =>
(slices_Sort_int (r1.1, r1.2)).bind fun r2 =>
(slices_Compact_int (r2.1, r2.2)).bind fun r3 =>
 some (r3.1, r3.2) := Eq.trans (inf_call_eq (H := H) 23 f) (by kernel_rfl)
theorem impl_isTracked_eq (f : Bool × List DSaid) : impl_isTracked f =
(impl_GoodSaid f).bind fun r =>
 bif r then
(impl_tracked f).bind fun r1 =>
 some (decide ((r1.2.length : Int) ≤ 5))
else 
 some false := Eq.trans (inf_call_eq (H := H) 21 f) (by kernel_rfl)
theorem impl_areLetters_1_eq (n : Int) : impl_areLetters_1 n =
 bif decide (n < 0) then
 some true
else 
 some (decide (n ≥ 8)) := Eq.trans (inf_call_eq (H := H) 81 n) (by kernel_rfl)
theorem slices_IndexFunc_int_by_areLetters_1_L0_eq (s : Bool × List Int) (f : Unit) (t7 : Int) (t8 : Int) : slices_IndexFunc_int_by_areLetters_1_L0 s f t7 t8 =
 bif decide (t8 < t7) then
 bif decide (0 ≤ t8) then
 bif decide (t8 < (s.2.length : Int)) then
(impl_areLetters_1 (s.2.getD (Int.toNat t8) 0)).bind fun r =>
 bif r then
 some (.inl t8)
else 
(slices_IndexFunc_int_by_areLetters_1_L0 s f t7 (IntKind.i64.wrap (t8 + 1))).bind fun r => some r
else none
else none
else 
 some (.inr ()) := Eq.trans (inf_loop_eq (H := H) 100 0 (loopCode Tryz.f100 0) (s, (f, (t7, t8))) key_slices_IndexFunc_int_by_areLetters_1) (by kernel_rfl)
theorem slices_IndexFunc_int_by_areLetters_1_eq (s : Bool × List Int) (f : Unit) : slices_IndexFunc_int_by_areLetters_1 s f =
(slices_IndexFunc_int_by_areLetters_1_L0 s f (s.2.length : Int) 0).bind fun r =>
 match r with
| .inl y =>
 some y
| .inr z =>
 some (-1) := Eq.trans (inf_call_eq (H := H) 100 (s, f)) (by kernel_rfl)
theorem slices_ContainsFunc_int_by_areLetters_1_eq (s : Bool × List Int) (f : Unit) : slices_ContainsFunc_int_by_areLetters_1 s f =
(slices_IndexFunc_int_by_areLetters_1 s f).bind fun r =>
 some (decide (r ≥ 0)) := Eq.trans (inf_call_eq (H := H) 80 (s, f)) (by kernel_rfl)
theorem impl_areLetters_eq (list : Bool × List Int) : impl_areLetters list =
(slices_ContainsFunc_int_by_areLetters_1 list ()).bind fun r =>
 some (!r) := Eq.trans (inf_call_eq (H := H) 55 list) (by kernel_rfl)
theorem impl_GoodLasso_eq (l : DLasso) : impl_GoodLasso l =
 bif decide ((l.1.2.length : Int) ≤ 24) then
 bif decide ((l.2.2.length : Int) ≥ 1) then
 bif decide ((l.2.2.length : Int) ≤ 24) then
(impl_areLetters l.1).bind fun r =>
 bif r then
(impl_areLetters l.2).bind fun r1 =>
 some r1
else 
 some false
else 
 some false
else 
 some false
else 
 some false := Eq.trans (inf_call_eq (H := H) 22 l) (by kernel_rfl)
theorem impl_subtree_L0_eq (f : Bool × List DSaid) (node : Int) (start : Int) (missing : Int) : impl_subtree_L0 f node start missing =
 bif decide (missing > 0) then
 bif decide (0 ≤ (IntKind.i64.wrap (start - 1))) then
 bif decide ((IntKind.i64.wrap (start - 1)) < (f.2.length : Int)) then
(impl_operandsOfSaid ((f.2.getD (Int.toNat (IntKind.i64.wrap (start - 1))) (0, 0)).1)).bind fun r =>
(impl_subtree_L0 f node (IntKind.i64.wrap (start - 1)) (IntKind.i64.wrap (missing + (IntKind.i64.wrap (r - 1))))).bind fun r => some r
else none
else none
else 
 some start := Eq.trans (inf_loop_eq (H := H) 25 0 (loopCode Tryz.f25 0) (f, (node, (start, missing))) key_impl_subtree) (by kernel_rfl)
theorem impl_subtree_eq (f : Bool × List DSaid) (node : Int) : impl_subtree f node =
 bif decide (0 ≤ node) then
 bif decide (node < (f.2.length : Int)) then
(impl_operandsOfSaid ((f.2.getD (Int.toNat node) (0, 0)).1)).bind fun r =>
(impl_subtree_L0 f node node r).bind fun r1 =>
 bif decide (0 ≤ (IntKind.i64.wrap (node + 1))) then
 bif decide ((IntKind.i64.wrap (node + 1)) ≤ (f.2.length : Int)) then
 bif decide (0 ≤ r1) then
 bif decide (r1 ≤ (IntKind.i64.wrap (node + 1))) then
 some (f.1, ((f.2.take (Int.toNat (IntKind.i64.wrap (node + 1)))).drop (Int.toNat r1)))
else none
else none
else none
else none
else none
else none := Eq.trans (inf_call_eq (H := H) 25 (f, node)) (by kernel_rfl)
theorem bits_Mul64_eq (x : Int) (y : Int) : bits_Mul64 x y =
 some (IntKind.u64.wrap ((IntKind.u64.wrap ((IntKind.u64.wrap ((bShr .u64 x 32) * (bShr .u64 y 32))) + (bShr .u64 (IntKind.u64.wrap ((IntKind.u64.wrap ((bShr .u64 x 32) * (bAnd .u64 y 4294967295))) + (bShr .u64 (IntKind.u64.wrap ((bAnd .u64 x 4294967295) * (bAnd .u64 y 4294967295))) 32))) 32))) + (bShr .u64 (IntKind.u64.wrap ((bAnd .u64 (IntKind.u64.wrap ((IntKind.u64.wrap ((bShr .u64 x 32) * (bAnd .u64 y 4294967295))) + (bShr .u64 (IntKind.u64.wrap ((bAnd .u64 x 4294967295) * (bAnd .u64 y 4294967295))) 32))) 4294967295) + (IntKind.u64.wrap ((bAnd .u64 x 4294967295) * (bShr .u64 y 32))))) 32)), IntKind.u64.wrap (x * y)) := Eq.trans (inf_call_eq (H := H) 136 (x, y)) (by kernel_rfl)
theorem bits_Mul_eq (x : Int) (y : Int) : bits_Mul x y =
(bits_Mul64 x y).bind fun r =>
 some (r.1, r.2) := Eq.trans (inf_call_eq (H := H) 129 (x, y)) (by kernel_rfl)
theorem slices_Repeat_bool_L0_eq (newslice : Bool × List Bool) (n : Int) : slices_Repeat_bool_L0 newslice n =
 bif decide (n < (newslice.2.length : Int)) then
 bif decide (0 ≤ n) then
 bif decide (n ≤ (newslice.2.length : Int)) then
 bif decide (0 ≤ n) then
 bif decide (n ≤ (newslice.2.length : Int)) then
(slices_Repeat_bool_L0 (newslice.1, (newslice.2.take (Int.toNat n) ++ (((newslice.2.take (Int.toNat n)).drop 0).take (newslice.2.length - (Int.toNat n)) ++ newslice.2.drop ((Int.toNat n) + (min ((newslice.2.take (Int.toNat n)).drop 0).length (newslice.2.length - (Int.toNat n))))))) (IntKind.i64.wrap (n + ((min ((newslice.2.take (Int.toNat n)).drop 0).length (newslice.2.length - (Int.toNat n)) : Nat) : Int)))).bind fun r => some r
else none
else none
else none
else none
else 
 some (newslice.1, newslice.2) := Eq.trans (inf_loop_eq (H := H) 112 0 (loopCode Tryz.f112 0) (newslice, n) key_slices_Repeat_bool) (by kernel_rfl)
theorem slices_Repeat_bool_eq (x : Bool × List Bool) (count : Int) : slices_Repeat_bool x count =
 bif decide (count < 0) then
 none
else 
(bits_Mul (IntKind.u64.wrap (x.2.length : Int)) (IntKind.u64.wrap count)).bind fun r =>
 bif decide (r.1 > 0) then
 none
else 
 bif decide (r.2 > 9223372036854775807) then
 none
else 
 bif decide (0 ≤ (IntKind.i64.wrap r.2)) then
 bif decide ((IntKind.i64.wrap r.2) ≤ lim) then
 bif decide ((IntKind.i64.wrap r.2) ≤ (IntKind.i64.wrap r.2)) then
 bif decide ((IntKind.i64.wrap r.2) ≤ lim) then
(slices_Repeat_bool_L0 (false, (x.2.take (List.replicate (Int.toNat (IntKind.i64.wrap r.2)) (false : Bool)).length ++ (List.replicate (Int.toNat (IntKind.i64.wrap r.2)) (false : Bool)).drop (min x.2.length (List.replicate (Int.toNat (IntKind.i64.wrap r.2)) (false : Bool)).length))) ((min x.2.length (List.replicate (Int.toNat (IntKind.i64.wrap r.2)) (false : Bool)).length : Nat) : Int)).bind fun r1 =>
 some (r1.1, r1.2)
else none
else none
else none
else none := Eq.trans (inf_call_eq (H := H) 112 (x, count)) (by kernel_rfl)
theorem impl_Lasso_nextPlace_eq (l : DLasso) (k_ : Int) : impl_Lasso_nextPlace l k_ =
 bif decide ((IntKind.i64.wrap (k_ + 1)) < (IntKind.i64.wrap ((l.1.2.length : Int) + (l.2.2.length : Int)))) then
 some (IntKind.i64.wrap (k_ + 1))
else 
 some (l.1.2.length : Int) := Eq.trans (inf_call_eq (H := H) 89 (l, k_)) (by kernel_rfl)
theorem impl_Lasso_holdsAlong_2_eq (k_ : Int) (a1 : Bool × List (Bool × List Bool)) : impl_Lasso_holdsAlong_2 k_ a1 =
 bif decide (1 < (a1.2.length : Int)) then
 bif decide (0 ≤ k_) then
 bif decide (k_ < (((a1.2.getD 1 (true, [])).2).length : Int)) then
 some (((a1.2.getD 1 (true, [])).2).getD (Int.toNat k_) false)
else none
else none
else none := Eq.trans (inf_call_eq (H := H) 85 (k_, a1)) (by kernel_rfl)
theorem impl_Lasso_holdsAlong_1_eq (k_ : Int) (a1 : Bool × List (Bool × List Bool)) : impl_Lasso_holdsAlong_1 k_ a1 =
 bif decide (0 < (a1.2.length : Int)) then
 bif decide (0 ≤ k_) then
 bif decide (k_ < (((a1.2.getD 0 (true, [])).2).length : Int)) then
 some (((a1.2.getD 0 (true, [])).2).getD (Int.toNat k_) false)
else none
else none
else none := Eq.trans (inf_call_eq (H := H) 84 (k_, a1)) (by kernel_rfl)
theorem impl_Lasso_holdsAlong_3_eq (k_ : Int) (next : Bool) (a2 : (Bool × List (Bool × List Bool)) × Unit) (a3 : (Bool × List (Bool × List Bool)) × Unit) : impl_Lasso_holdsAlong_3 k_ next a2 a3 =
(impl_Lasso_holdsAlong_2 k_ a2.1).bind fun r =>
 bif r then
 some true
else 
(impl_Lasso_holdsAlong_1 k_ a3.1).bind fun r1 =>
 bif r1 then
 some next
else 
 some false := Eq.trans (inf_call_eq (H := H) 87 (k_, (next, (a2, a3)))) (by kernel_rfl)
theorem impl_Lasso_fixed_by_Lasso_holdsAlong_3_L0_eq (l : DLasso) (rule : ((Bool × List (Bool × List Bool)) × Unit) × ((Bool × List (Bool × List Bool)) × Unit) × Unit) (t6 : Bool × List Bool) (out : Bool × List Bool) (t19 : Int) : impl_Lasso_fixed_by_Lasso_holdsAlong_3_L0 l rule t6 out t19 =
 bif decide (t19 < 2) then
(impl_Lasso_fixed_by_Lasso_holdsAlong_3_L2 l rule (out.1, out.2) ((out.2.length : Int) - 1)).bind fun r =>
(impl_Lasso_fixed_by_Lasso_holdsAlong_3_L0 l rule t6 (r.1, r.2) (IntKind.i64.wrap (t19 + 1))).bind fun r => some r
else 
 some (out.1, out.2) := Eq.trans (inf_loop_eq (H := H) 86 0 (loopCode Tryz.f86 0) (l, (rule, (t6, (out, t19)))) key_impl_Lasso_fixed_by_Lasso_holdsAlong_3) (by kernel_rfl)
theorem impl_Lasso_fixed_by_Lasso_holdsAlong_3_L2_eq (l : DLasso) (rule : ((Bool × List (Bool × List Bool)) × Unit) × ((Bool × List (Bool × List Bool)) × Unit) × Unit) (out : Bool × List Bool) (t23 : Int) : impl_Lasso_fixed_by_Lasso_holdsAlong_3_L2 l rule out t23 =
 bif decide (t23 < 0) then
 some (out.1, out.2)
else 
 bif decide (t23 < (out.2.length : Int)) then
(impl_Lasso_nextPlace l t23).bind fun r =>
 bif decide (0 ≤ r) then
 bif decide (r < (out.2.length : Int)) then
(impl_Lasso_holdsAlong_3 t23 (out.2.getD (Int.toNat r) false) rule.1 rule.2.1).bind fun r1 =>
 bif decide (0 ≤ t23) then
 bif decide (t23 < (out.2.length : Int)) then
(impl_Lasso_fixed_by_Lasso_holdsAlong_3_L2 l rule (out.1, (out.2.set (Int.toNat t23) r1)) (t23 - 1)).bind fun r => some r
else none
else none
else none
else none
else none := Eq.trans (inf_loop_eq (H := H) 86 2 (loopCode Tryz.f86 2) (l, (rule, (out, t23))) key_impl_Lasso_fixed_by_Lasso_holdsAlong_3) (by kernel_rfl)
theorem impl_Lasso_fixed_by_Lasso_holdsAlong_3_eq (l : DLasso) (from_ : Bool) (rule : ((Bool × List (Bool × List Bool)) × Unit) × ((Bool × List (Bool × List Bool)) × Unit) × Unit) : impl_Lasso_fixed_by_Lasso_holdsAlong_3 l from_ rule =
(slices_Repeat_bool (false, [from_]) (IntKind.i64.wrap ((l.1.2.length : Int) + (l.2.2.length : Int)))).bind fun r =>
(impl_Lasso_fixed_by_Lasso_holdsAlong_3_L0 l rule (true, []) (r.1, r.2) 0).bind fun r1 =>
 some (r1.1, r1.2) := Eq.trans (inf_call_eq (H := H) 86 (l, (from_, rule))) (by kernel_rfl)
theorem impl_Lasso_holdsAlong_4_eq (k_ : Int) (next : Bool) (a2 : (Bool × List (Bool × List Bool)) × Unit) (a3 : (Bool × List (Bool × List Bool)) × Unit) : impl_Lasso_holdsAlong_4 k_ next a2 a3 =
(impl_Lasso_holdsAlong_2 k_ a2.1).bind fun r =>
 bif r then
(impl_Lasso_holdsAlong_1 k_ a3.1).bind fun r1 =>
 bif r1 then
 some true
else 
 some next
else 
 some false := Eq.trans (inf_call_eq (H := H) 88 (k_, (next, (a2, a3)))) (by kernel_rfl)
theorem impl_Lasso_fixed_by_Lasso_holdsAlong_4_L0_eq (l : DLasso) (rule : ((Bool × List (Bool × List Bool)) × Unit) × ((Bool × List (Bool × List Bool)) × Unit) × Unit) (t6 : Bool × List Bool) (out : Bool × List Bool) (t19 : Int) : impl_Lasso_fixed_by_Lasso_holdsAlong_4_L0 l rule t6 out t19 =
 bif decide (t19 < 2) then
(impl_Lasso_fixed_by_Lasso_holdsAlong_4_L2 l rule (out.1, out.2) ((out.2.length : Int) - 1)).bind fun r =>
(impl_Lasso_fixed_by_Lasso_holdsAlong_4_L0 l rule t6 (r.1, r.2) (IntKind.i64.wrap (t19 + 1))).bind fun r => some r
else 
 some (out.1, out.2) := Eq.trans (inf_loop_eq (H := H) 10045 0 (loopCode Tryz.f86 0) (l, (rule, (t6, (out, t19)))) key_impl_Lasso_fixed_by_Lasso_holdsAlong_4) (by kernel_rfl)
theorem impl_Lasso_fixed_by_Lasso_holdsAlong_4_L2_eq (l : DLasso) (rule : ((Bool × List (Bool × List Bool)) × Unit) × ((Bool × List (Bool × List Bool)) × Unit) × Unit) (out : Bool × List Bool) (t23 : Int) : impl_Lasso_fixed_by_Lasso_holdsAlong_4_L2 l rule out t23 =
 bif decide (t23 < 0) then
 some (out.1, out.2)
else 
 bif decide (t23 < (out.2.length : Int)) then
(impl_Lasso_nextPlace l t23).bind fun r =>
 bif decide (0 ≤ r) then
 bif decide (r < (out.2.length : Int)) then
(impl_Lasso_holdsAlong_4 t23 (out.2.getD (Int.toNat r) false) rule.1 rule.2.1).bind fun r1 =>
 bif decide (0 ≤ t23) then
 bif decide (t23 < (out.2.length : Int)) then
(impl_Lasso_fixed_by_Lasso_holdsAlong_4_L2 l rule (out.1, (out.2.set (Int.toNat t23) r1)) (t23 - 1)).bind fun r => some r
else none
else none
else none
else none
else none := Eq.trans (inf_loop_eq (H := H) 10045 2 (loopCode Tryz.f86 2) (l, (rule, (out, t23))) key_impl_Lasso_fixed_by_Lasso_holdsAlong_4) (by kernel_rfl)
theorem impl_Lasso_fixed_by_Lasso_holdsAlong_4_eq (l : DLasso) (from_ : Bool) (rule : ((Bool × List (Bool × List Bool)) × Unit) × ((Bool × List (Bool × List Bool)) × Unit) × Unit) : impl_Lasso_fixed_by_Lasso_holdsAlong_4 l from_ rule =
(slices_Repeat_bool (false, [from_]) (IntKind.i64.wrap ((l.1.2.length : Int) + (l.2.2.length : Int)))).bind fun r =>
(impl_Lasso_fixed_by_Lasso_holdsAlong_4_L0 l rule (true, []) (r.1, r.2) 0).bind fun r1 =>
 some (r1.1, r1.2) := Eq.trans (inf_call_eq (H := H) 10045 (l, (from_, rule))) (by kernel_rfl)
theorem impl_Lasso_letterAt_eq (l : DLasso) (k_ : Int) : impl_Lasso_letterAt l k_ =
 bif decide (k_ < (l.1.2.length : Int)) then
 bif decide (0 ≤ k_) then
 bif decide (k_ < (l.1.2.length : Int)) then
 some (l.1.2.getD (Int.toNat k_) 0)
else none
else none
else 
 bif ((l.2.2.length : Int) == 0) then
 none
else 
 bif decide (0 ≤ (Int.tmod (IntKind.i64.wrap (k_ - (l.1.2.length : Int))) (l.2.2.length : Int))) then
 bif decide ((Int.tmod (IntKind.i64.wrap (k_ - (l.1.2.length : Int))) (l.2.2.length : Int)) < (l.2.2.length : Int)) then
 some (l.2.2.getD (Int.toNat (Int.tmod (IntKind.i64.wrap (k_ - (l.1.2.length : Int))) (l.2.2.length : Int))) 0)
else none
else none := Eq.trans (inf_call_eq (H := H) 36 (l, k_)) (by kernel_rfl)
theorem impl_Lasso_holdsAlong_L1_eq (l : DLasso) (x : DSaid) (a : (Bool × List (Bool × List Bool)) × Unit) (b : (Bool × List (Bool × List Bool)) × Unit) (out : Bool × List Bool) (t33 : Int) (t34 : Int) : impl_Lasso_holdsAlong_L1 l x a b out t33 t34 =
 bif decide (t34 < t33) then
 bif (x.1 == 1) then
(impl_Lasso_letterAt l t34).bind fun r =>
 bif decide (x.2 < 0) then
 none
else 
 bif decide (out.2.length + [((bAnd .i64 (bShr .i64 r x.2) 1) == 1)].length ≤ lim) then
(impl_Lasso_holdsAlong_L1 l x a b ((out.1 && false), (out.2 ++ [((bAnd .i64 (bShr .i64 r x.2) 1) == 1)])) t33 (IntKind.i64.wrap (t34 + 1))).bind fun r => some r
else none
else 
 bif (x.1 == 3) then
(impl_Lasso_holdsAlong_1 t34 a.1).bind fun r1 =>
 bif decide (out.2.length + [!r1].length ≤ lim) then
(impl_Lasso_holdsAlong_L1 l x a b ((out.1 && false), (out.2 ++ [!r1])) t33 (IntKind.i64.wrap (t34 + 1))).bind fun r => some r
else none
else 
 bif (x.1 == 4) then
(impl_Lasso_nextPlace l t34).bind fun r2 =>
(impl_Lasso_holdsAlong_1 r2 a.1).bind fun r3 =>
 bif decide (out.2.length + [r3].length ≤ lim) then
(impl_Lasso_holdsAlong_L1 l x a b ((out.1 && false), (out.2 ++ [r3])) t33 (IntKind.i64.wrap (t34 + 1))).bind fun r => some r
else none
else 
 bif (x.1 == 5) then
(impl_Lasso_holdsAlong_1 t34 a.1).bind fun r4 =>
 bif r4 then
(impl_Lasso_holdsAlong_2 t34 b.1).bind fun r5 =>
 bif decide (out.2.length + [r5].length ≤ lim) then
(impl_Lasso_holdsAlong_L1 l x a b ((out.1 && false), (out.2 ++ [r5])) t33 (IntKind.i64.wrap (t34 + 1))).bind fun r => some r
else none
else 
 bif decide (out.2.length + [false].length ≤ lim) then
(impl_Lasso_holdsAlong_L1 l x a b ((out.1 && false), (out.2 ++ [false])) t33 (IntKind.i64.wrap (t34 + 1))).bind fun r => some r
else none
else 
 bif (x.1 == 6) then
(impl_Lasso_holdsAlong_1 t34 a.1).bind fun r6 =>
 bif r6 then
 bif decide (out.2.length + [true].length ≤ lim) then
(impl_Lasso_holdsAlong_L1 l x a b ((out.1 && false), (out.2 ++ [true])) t33 (IntKind.i64.wrap (t34 + 1))).bind fun r => some r
else none
else 
(impl_Lasso_holdsAlong_2 t34 b.1).bind fun r7 =>
 bif decide (out.2.length + [r7].length ≤ lim) then
(impl_Lasso_holdsAlong_L1 l x a b ((out.1 && false), (out.2 ++ [r7])) t33 (IntKind.i64.wrap (t34 + 1))).bind fun r => some r
else none
else 
 bif decide (out.2.length + [(x.2 == 1)].length ≤ lim) then
(impl_Lasso_holdsAlong_L1 l x a b ((out.1 && false), (out.2 ++ [(x.2 == 1)])) t33 (IntKind.i64.wrap (t34 + 1))).bind fun r => some r
else none
else 
 some (out.1, out.2) := Eq.trans (inf_loop_eq (H := H) 60 1 (loopCode Tryz.f60 1) (l, (x, (a, (b, (out, (t33, t34)))))) key_impl_Lasso_holdsAlong) (by kernel_rfl)
theorem impl_Lasso_holdsAlong_eq (l : DLasso) (x : DSaid) (operands : Bool × List (Bool × List Bool)) : impl_Lasso_holdsAlong l x operands =
 bif (x.1 == 7) then
(impl_Lasso_fixed_by_Lasso_holdsAlong_3 l false ((operands, ()), ((operands, ()), ()))).bind fun r =>
 some (r.1, r.2)
else 
 bif (x.1 == 8) then
(impl_Lasso_fixed_by_Lasso_holdsAlong_4 l true ((operands, ()), ((operands, ()), ()))).bind fun r1 =>
 some (r1.1, r1.2)
else 
(impl_Lasso_holdsAlong_L1 l x (operands, ()) (operands, ()) (false, []) (IntKind.i64.wrap ((l.1.2.length : Int) + (l.2.2.length : Int))) 0).bind fun r2 =>
 some (r2.1, r2.2) := Eq.trans (inf_call_eq (H := H) 60 (l, (x, operands))) (by kernel_rfl)
theorem impl_Lasso_along_L0_eq (l : DLasso) (stack : Bool × List (Bool × List Bool)) (t10 : Bool × List DSaid) (t11 : Int) (t12 : Int) : impl_Lasso_along_L0 l stack t10 t11 t12 =
 bif decide (t12 < t11) then
 bif decide (0 ≤ t12) then
 bif decide (t12 < (t10.2.length : Int)) then
(impl_operandsOfSaid ((t10.2.getD (Int.toNat t12) (0, 0)).1)).bind fun r =>
 bif decide (0 ≤ (IntKind.i64.wrap ((stack.2.length : Int) - r))) then
 bif decide ((IntKind.i64.wrap ((stack.2.length : Int) - r)) ≤ (stack.2.length : Int)) then
 bif decide (0 ≤ (IntKind.i64.wrap ((stack.2.length : Int) - r))) then
 bif decide ((IntKind.i64.wrap ((stack.2.length : Int) - r)) ≤ (stack.2.length : Int)) then
 bif decide (((stack.2.take stack.2.length).drop (Int.toNat (IntKind.i64.wrap ((stack.2.length : Int) - r)))).length ≤ lim) then
(impl_Lasso_holdsAlong l (t10.2.getD (Int.toNat t12) (0, 0)) (stack.1, ((stack.2.take stack.2.length).drop (Int.toNat (IntKind.i64.wrap ((stack.2.length : Int) - r)))))).bind fun r1 =>
 bif decide (((stack.2.take (Int.toNat (IntKind.i64.wrap ((stack.2.length : Int) - r)))).drop 0).length + [(r1.1, r1.2)].length ≤ lim) then
(impl_Lasso_along_L0 l ((stack.1 && false), (((stack.2.take (Int.toNat (IntKind.i64.wrap ((stack.2.length : Int) - r)))).drop 0) ++ [(r1.1, r1.2)])) t10 t11 (IntKind.i64.wrap (t12 + 1))).bind fun r => some r
else none
else none
else none
else none
else none
else none
else none
else none
else 
 some (stack.1, stack.2) := Eq.trans (inf_loop_eq (H := H) 24 0 (loopCode Tryz.f24 0) (l, (stack, (t10, (t11, t12)))) key_impl_Lasso_along) (by kernel_rfl)
theorem impl_Lasso_along_eq (l : DLasso) (f : Bool × List DSaid) : impl_Lasso_along l f =
(impl_Lasso_along_L0 l (false, []) f (f.2.length : Int) 0).bind fun r =>
 bif decide (0 < (r.2.length : Int)) then
 some (r.2.getD 0 (true, []))
else none := Eq.trans (inf_call_eq (H := H) 24 (l, f)) (by kernel_rfl)
theorem impl_RunFor_L0_eq (f : Bool × List DSaid) (l : DLasso) (run : Bool × List Int) (t29 : Bool × List Int) (t30 : Int) (t31 : Int) : impl_RunFor_L0 f l run t29 t30 t31 =
 bif decide (t31 < t30) then
 bif decide (0 ≤ t31) then
 bif decide (t31 < (t29.2.length : Int)) then
(impl_subtree f (t29.2.getD (Int.toNat t31) 0)).bind fun r =>
(impl_Lasso_along l r).bind fun r1 =>
(impl_RunFor_L2 f l (run.1, run.2) t31 t29 t30 t31 r1 (r1.2.length : Int) 0).bind fun r2 =>
(impl_RunFor_L0 f l (r2.1, r2.2) t29 t30 (IntKind.i64.wrap (t31 + 1))).bind fun r => some r
else none
else none
else 
 some (run.1, run.2) := Eq.trans (inf_loop_eq (H := H) 6 0 (loopCode Tryz.f6 0) (f, (l, (run, (t29, (t30, t31))))) key_impl_RunFor) (by kernel_rfl)
theorem impl_RunFor_L2_eq (f : Bool × List DSaid) (l : DLasso) (run : Bool × List Int) (i : Int) (t29 : Bool × List Int) (t30 : Int) (t31 : Int) (t40 : Bool × List Bool) (t41 : Int) (t42 : Int) : impl_RunFor_L2 f l run i t29 t30 t31 t40 t41 t42 =
 bif decide (t42 < t41) then
 bif decide (0 ≤ t42) then
 bif decide (t42 < (t40.2.length : Int)) then
 bif (t40.2.getD (Int.toNat t42) false) then
 bif decide (0 ≤ t42) then
 bif decide (t42 < (run.2.length : Int)) then
 bif decide (i < 0) then
 none
else 
 bif decide (0 ≤ t42) then
 bif decide (t42 < (run.2.length : Int)) then
(impl_RunFor_L2 f l (run.1, (run.2.set (Int.toNat t42) (bOr .i64 (run.2.getD (Int.toNat t42) 0) (bShl .i64 1 i)))) i t29 t30 t31 t40 t41 (IntKind.i64.wrap (t42 + 1))).bind fun r => some r
else none
else none
else none
else none
else 
(impl_RunFor_L2 f l (run.1, run.2) i t29 t30 t31 t40 t41 (IntKind.i64.wrap (t42 + 1))).bind fun r => some r
else none
else none
else 
 some (run.1, run.2) := Eq.trans (inf_loop_eq (H := H) 6 2 (loopCode Tryz.f6 2) (f, (l, (run, (i, (t29, (t30, (t31, (t40, (t41, t42))))))))) key_impl_RunFor) (by kernel_rfl)
theorem impl_RunFor_eq (f : Bool × List DSaid) (l : DLasso) : impl_RunFor f l =
(impl_isTracked f).bind fun r =>
 bif !r then
 some ((true, []), ((true, []), false))
else 
(impl_GoodLasso l).bind fun r1 =>
 bif !r1 then
 some ((true, []), ((true, []), false))
else 
 bif decide (0 ≤ (IntKind.i64.wrap ((l.1.2.length : Int) + (l.2.2.length : Int)))) then
 bif decide ((IntKind.i64.wrap ((l.1.2.length : Int) + (l.2.2.length : Int))) ≤ lim) then
 bif decide ((IntKind.i64.wrap ((l.1.2.length : Int) + (l.2.2.length : Int))) ≤ (IntKind.i64.wrap ((l.1.2.length : Int) + (l.2.2.length : Int)))) then
 bif decide ((IntKind.i64.wrap ((l.1.2.length : Int) + (l.2.2.length : Int))) ≤ lim) then
(impl_tracked f).bind fun r2 =>
(impl_RunFor_L0 f l (false, (List.replicate (Int.toNat (IntKind.i64.wrap ((l.1.2.length : Int) + (l.2.2.length : Int)))) (0 : Int))) (r2.1, r2.2) (r2.2.length : Int) 0).bind fun r3 =>
 bif decide (0 ≤ (l.1.2.length : Int)) then
 bif decide ((l.1.2.length : Int) ≤ (r3.2.length : Int)) then
(slices_Clone_int (r3.1, ((r3.2.take (Int.toNat (l.1.2.length : Int))).drop 0))).bind fun r4 =>
 bif decide (0 ≤ (l.1.2.length : Int)) then
 bif decide ((l.1.2.length : Int) ≤ (r3.2.length : Int)) then
(slices_Clone_int (r3.1, ((r3.2.take r3.2.length).drop (Int.toNat (l.1.2.length : Int))))).bind fun r5 =>
 some ((r4.1, r4.2), ((r5.1, r5.2), true))
else none
else none
else none
else none
else none
else none
else none
else none := Eq.trans (inf_call_eq (H := H) 6 (f, l)) (by kernel_rfl)
theorem spec_l1All_L0_eq (lo : Int) (hi : Int) (t9 : Bool × List Int) (t10 : Int) (t11 : Int) : spec_l1All_L0 lo hi t9 t10 t11 =
 bif decide (t11 < t10) then
 bif decide (0 ≤ t11) then
 bif decide (t11 < (t9.2.length : Int)) then
(spec_l1In (t9.2.getD (Int.toNat t11) 0) lo hi).bind fun r =>
 bif !r then
 some (.inl false)
else 
(spec_l1All_L0 lo hi t9 t10 (IntKind.i64.wrap (t11 + 1))).bind fun r => some r
else none
else none
else 
 some (.inr ()) := Eq.trans (inf_loop_eq (H := H) 64 0 (loopCode Tryz.f64 0) (lo, (hi, (t9, (t10, t11)))) key_spec_l1All) (by kernel_rfl)
theorem spec_l1All_eq (l : Bool × List Int) (lo : Int) (hi : Int) : spec_l1All l lo hi =
(spec_l1All_L0 lo hi l (l.2.length : Int) 0).bind fun r =>
 match r with
| .inl y =>
 some y
| .inr z =>
 some true := Eq.trans (inf_call_eq (H := H) 64 (l, (lo, hi))) (by kernel_rfl)
theorem spec_GoodLasso_eq (l : DLasso) : spec_GoodLasso l =
 bif decide ((l.1.2.length : Int) ≤ 24) then
(spec_l1In (l.2.2.length : Int) 1 24).bind fun r =>
 bif r then
(spec_l1All l.1 0 7).bind fun r1 =>
 bif r1 then
(spec_l1All l.2 0 7).bind fun r2 =>
 some r2
else 
 some false
else 
 some false
else 
 some false := Eq.trans (inf_call_eq (H := H) 28 l) (by kernel_rfl)
theorem spec_l9At_eq (l : DLasso) (k_ : Int) : spec_l9At l k_ =
 bif decide (k_ < (l.1.2.length : Int)) then
 bif decide (0 ≤ k_) then
 bif decide (k_ < (l.1.2.length : Int)) then
 some (l.1.2.getD (Int.toNat k_) 0)
else none
else none
else 
 bif ((l.2.2.length : Int) == 0) then
 none
else 
 bif decide (0 ≤ (Int.tmod (IntKind.i64.wrap (k_ - (l.1.2.length : Int))) (l.2.2.length : Int))) then
 bif decide ((Int.tmod (IntKind.i64.wrap (k_ - (l.1.2.length : Int))) (l.2.2.length : Int)) < (l.2.2.length : Int)) then
 some (l.2.2.getD (Int.toNat (Int.tmod (IntKind.i64.wrap (k_ - (l.1.2.length : Int))) (l.2.2.length : Int))) 0)
else none
else none := Eq.trans (inf_call_eq (H := H) 66 (l, k_)) (by kernel_rfl)
theorem spec_l10From_L0_eq (f : Bool × List DSaid) (from_ : Int) (many : Int) : spec_l10From_L0 f from_ many =
 bif decide (many > 0) then
(spec_l10From f (IntKind.i64.wrap (from_ - 1))).bind fun r =>
(spec_l10From_L0 f r (IntKind.i64.wrap (many - 1))).bind fun r => some r
else 
 some from_ := Eq.trans (inf_loop_eq (H := H) 78 0 (loopCode Tryz.f78 0) (f, (from_, many)) key_spec_l10From) (by kernel_rfl)
theorem spec_l10From_eq (f : Bool × List DSaid) (k_ : Int) : spec_l10From f k_ =
 bif decide (0 ≤ k_) then
 bif decide (k_ < (f.2.length : Int)) then
(spec_l10Need ((f.2.getD (Int.toNat k_) (0, 0)).1)).bind fun r =>
(spec_l10From_L0 f k_ r).bind fun r1 =>
 some r1
else none
else none := Eq.trans (inf_call_eq (H := H) 78 (f, k_)) (by kernel_rfl)
theorem spec_l10Cell_eq (f : Bool × List DSaid) (parts_ : Bool × List (Bool × List Bool)) (i : Int) (letter : Int) (k_ : Int) (next : Int) (later : Bool) : spec_l10Cell f parts_ i letter k_ next later =
 bif decide (0 ≤ i) then
 bif decide (i < (f.2.length : Int)) then
 bif (((f.2.getD (Int.toNat i) (0, 0)).1) == 1) then
 bif decide ((IntKind.u64.wrap ((f.2.getD (Int.toNat i) (0, 0)).2)) < 0) then
 none
else 
 some ((bAnd .i64 (bShr .i64 letter (IntKind.u64.wrap ((f.2.getD (Int.toNat i) (0, 0)).2))) 1) == 1)
else 
 bif (((f.2.getD (Int.toNat i) (0, 0)).1) == 2) then
 some (((f.2.getD (Int.toNat i) (0, 0)).2) == 1)
else 
 bif (((f.2.getD (Int.toNat i) (0, 0)).1) == 3) then
 bif decide (0 ≤ (IntKind.i64.wrap (i - 1))) then
 bif decide ((IntKind.i64.wrap (i - 1)) < (parts_.2.length : Int)) then
 bif decide (0 ≤ k_) then
 bif decide (k_ < (((parts_.2.getD (Int.toNat (IntKind.i64.wrap (i - 1))) (true, [])).2).length : Int)) then
 some (!(((parts_.2.getD (Int.toNat (IntKind.i64.wrap (i - 1))) (true, [])).2).getD (Int.toNat k_) false))
else none
else none
else none
else none
else 
 bif (((f.2.getD (Int.toNat i) (0, 0)).1) == 4) then
 bif decide (0 ≤ (IntKind.i64.wrap (i - 1))) then
 bif decide ((IntKind.i64.wrap (i - 1)) < (parts_.2.length : Int)) then
 bif decide (0 ≤ next) then
 bif decide (next < (((parts_.2.getD (Int.toNat (IntKind.i64.wrap (i - 1))) (true, [])).2).length : Int)) then
 some (((parts_.2.getD (Int.toNat (IntKind.i64.wrap (i - 1))) (true, [])).2).getD (Int.toNat next) false)
else none
else none
else none
else none
else 
(spec_l10From f (IntKind.i64.wrap (i - 1))).bind fun r =>
 bif decide (0 ≤ (IntKind.i64.wrap (r - 1))) then
 bif decide ((IntKind.i64.wrap (r - 1)) < (parts_.2.length : Int)) then
 bif decide (0 ≤ k_) then
 bif decide (k_ < (((parts_.2.getD (Int.toNat (IntKind.i64.wrap (r - 1))) (true, [])).2).length : Int)) then
 bif decide (0 ≤ (IntKind.i64.wrap (i - 1))) then
 bif decide ((IntKind.i64.wrap (i - 1)) < (parts_.2.length : Int)) then
 bif decide (0 ≤ k_) then
 bif decide (k_ < (((parts_.2.getD (Int.toNat (IntKind.i64.wrap (i - 1))) (true, [])).2).length : Int)) then
 bif (((f.2.getD (Int.toNat i) (0, 0)).1) == 5) then
 bif (((parts_.2.getD (Int.toNat (IntKind.i64.wrap (r - 1))) (true, [])).2).getD (Int.toNat k_) false) then
 some (((parts_.2.getD (Int.toNat (IntKind.i64.wrap (i - 1))) (true, [])).2).getD (Int.toNat k_) false)
else 
 some false
else 
 bif (((f.2.getD (Int.toNat i) (0, 0)).1) == 6) then
 bif (((parts_.2.getD (Int.toNat (IntKind.i64.wrap (r - 1))) (true, [])).2).getD (Int.toNat k_) false) then
 some true
else 
 some (((parts_.2.getD (Int.toNat (IntKind.i64.wrap (i - 1))) (true, [])).2).getD (Int.toNat k_) false)
else 
 bif (((f.2.getD (Int.toNat i) (0, 0)).1) == 7) then
 bif (((parts_.2.getD (Int.toNat (IntKind.i64.wrap (i - 1))) (true, [])).2).getD (Int.toNat k_) false) then
 some true
else 
 bif (((parts_.2.getD (Int.toNat (IntKind.i64.wrap (r - 1))) (true, [])).2).getD (Int.toNat k_) false) then
 some later
else 
 some false
else 
 bif (((parts_.2.getD (Int.toNat (IntKind.i64.wrap (i - 1))) (true, [])).2).getD (Int.toNat k_) false) then
 bif (((parts_.2.getD (Int.toNat (IntKind.i64.wrap (r - 1))) (true, [])).2).getD (Int.toNat k_) false) then
 some true
else 
 some later
else 
 some false
else none
else none
else none
else none
else none
else none
else none
else none
else none
else none := Eq.trans (inf_call_eq (H := H) 65 (f, (parts_, (i, (letter, (k_, (next, later))))))) (by kernel_rfl)
theorem spec_l10Table_L0_eq (f : Bool × List DSaid) (l : DLasso) (n : Int) (out : Bool × List (Bool × List Bool)) (t21 : Bool × List DSaid) (t22 : Int) (t23 : Int) : spec_l10Table_L0 f l n out t21 t22 t23 =
 bif decide (t23 < t22) then
 bif decide (0 ≤ t23) then
 bif decide (t23 < (t21.2.length : Int)) then
 bif decide (0 ≤ n) then
 bif decide (n ≤ lim) then
 bif decide (n ≤ n) then
 bif decide (n ≤ lim) then
(spec_l10Table_L2 f l n (out.1, out.2) t23 (t21.2.getD (Int.toNat t23) (0, 0)) (false, (List.replicate (Int.toNat n) (false : Bool))) t21 t22 t23 ((List.replicate (Int.toNat n) (false : Bool)).length : Int) 0).bind fun r =>
(spec_l10Table_L4 f l n (out.1, out.2) t23 (r.1, r.2) 0 t21 t22 t23).bind fun r1 =>
 bif decide (out.2.length + [(r1.1, r1.2)].length ≤ lim) then
(spec_l10Table_L0 f l n ((out.1 && false), (out.2 ++ [(r1.1, r1.2)])) t21 t22 (IntKind.i64.wrap (t23 + 1))).bind fun r => some r
else none
else none
else none
else none
else none
else none
else none
else 
 some (out.1, out.2) := Eq.trans (inf_loop_eq (H := H) 29 0 (loopCode Tryz.f29 0) (f, (l, (n, (out, (t21, (t22, t23)))))) key_spec_l10Table) (by kernel_rfl)
theorem spec_l10Table_L2_eq (f : Bool × List DSaid) (l : DLasso) (n : Int) (out : Bool × List (Bool × List Bool)) (i : Int) (x : DSaid) (row_ : Bool × List Bool) (t21 : Bool × List DSaid) (t22 : Int) (t23 : Int) (t31 : Int) (t32 : Int) : spec_l10Table_L2 f l n out i x row_ t21 t22 t23 t31 t32 =
 bif decide (t32 < t31) then
 bif decide (0 ≤ t32) then
 bif decide (t32 < (row_.2.length : Int)) then
(spec_l10Table_L2 f l n out i x (row_.1, (row_.2.set (Int.toNat t32) (x.1 == 8))) t21 t22 t23 t31 (IntKind.i64.wrap (t32 + 1))).bind fun r => some r
else none
else none
else 
 some (row_.1, row_.2) := Eq.trans (inf_loop_eq (H := H) 29 2 (loopCode Tryz.f29 2) (f, (l, (n, (out, (i, (x, (row_, (t21, (t22, (t23, (t31, t32))))))))))) key_spec_l10Table) (by kernel_rfl)
theorem spec_l10Table_L4_eq (f : Bool × List DSaid) (l : DLasso) (n : Int) (out : Bool × List (Bool × List Bool)) (i : Int) (row_ : Bool × List Bool) (turn : Int) (t21 : Bool × List DSaid) (t22 : Int) (t23 : Int) : spec_l10Table_L4 f l n out i row_ turn t21 t22 t23 =
 bif decide (turn < 2) then
(spec_l10Table_L6 f l n out i (row_.1, row_.2) turn (IntKind.i64.wrap (n - 1)) t21 t22 t23).bind fun r =>
(spec_l10Table_L4 f l n out i (r.1, r.2) (IntKind.i64.wrap (turn + 1)) t21 t22 t23).bind fun r => some r
else 
 some (row_.1, row_.2) := Eq.trans (inf_loop_eq (H := H) 29 4 (loopCode Tryz.f29 4) (f, (l, (n, (out, (i, (row_, (turn, (t21, (t22, t23))))))))) key_spec_l10Table) (by kernel_rfl)
theorem spec_l10Table_L6_eq (f : Bool × List DSaid) (l : DLasso) (n : Int) (out : Bool × List (Bool × List Bool)) (i : Int) (row_ : Bool × List Bool) (turn : Int) (k_ : Int) (t21 : Bool × List DSaid) (t22 : Int) (t23 : Int) : spec_l10Table_L6 f l n out i row_ turn k_ t21 t22 t23 =
 bif decide (k_ ≥ 0) then
 bif ((IntKind.i64.wrap (k_ + 1)) == n) then
(spec_l9At l k_).bind fun r =>
 bif decide (0 ≤ (l.1.2.length : Int)) then
 bif decide ((l.1.2.length : Int) < (row_.2.length : Int)) then
(spec_l10Cell f out i r k_ (l.1.2.length : Int) (row_.2.getD (Int.toNat (l.1.2.length : Int)) false)).bind fun r1 =>
 bif decide (0 ≤ k_) then
 bif decide (k_ < (row_.2.length : Int)) then
(spec_l10Table_L6 f l n out i (row_.1, (row_.2.set (Int.toNat k_) r1)) turn (IntKind.i64.wrap (k_ - 1)) t21 t22 t23).bind fun r => some r
else none
else none
else none
else none
else 
(spec_l9At l k_).bind fun r2 =>
 bif decide (0 ≤ (IntKind.i64.wrap (k_ + 1))) then
 bif decide ((IntKind.i64.wrap (k_ + 1)) < (row_.2.length : Int)) then
(spec_l10Cell f out i r2 k_ (IntKind.i64.wrap (k_ + 1)) (row_.2.getD (Int.toNat (IntKind.i64.wrap (k_ + 1))) false)).bind fun r3 =>
 bif decide (0 ≤ k_) then
 bif decide (k_ < (row_.2.length : Int)) then
(spec_l10Table_L6 f l n out i (row_.1, (row_.2.set (Int.toNat k_) r3)) turn (IntKind.i64.wrap (k_ - 1)) t21 t22 t23).bind fun r => some r
else none
else none
else none
else none
else 
 some (row_.1, row_.2) := Eq.trans (inf_loop_eq (H := H) 29 6 (loopCode Tryz.f29 6) (f, (l, (n, (out, (i, (row_, (turn, (k_, (t21, (t22, t23)))))))))) key_spec_l10Table) (by kernel_rfl)
theorem spec_l10Table_eq (f : Bool × List DSaid) (l : DLasso) : spec_l10Table f l =
(spec_l10Table_L0 f l (IntKind.i64.wrap ((l.1.2.length : Int) + (l.2.2.length : Int))) (true, []) f (f.2.length : Int) 0).bind fun r =>
 some (r.1, r.2) := Eq.trans (inf_call_eq (H := H) 29 (f, l)) (by kernel_rfl)
theorem spec_l2Bool_eq (is : Bool) : spec_l2Bool is =
 bif is then
 some 1
else 
 some 0 := Eq.trans (inf_call_eq (H := H) 31 is) (by kernel_rfl)
theorem spec_l1Own_eq (l : Bool × List Int) : spec_l1Own l =
 bif decide (([] : List Int).length + l.2.length ≤ lim) then
 some (false, ([] ++ l.2))
else none := Eq.trans (inf_call_eq (H := H) 32 l) (by kernel_rfl)
theorem spec_RunFor_L0_eq (f : Bool × List DSaid) (l : DLasso) (table : Bool × List (Bool × List Bool)) (all_ : Bool × List Int) (k_ : Int) : spec_RunFor_L0 f l table all_ k_ =
 bif decide (k_ < (IntKind.i64.wrap ((l.1.2.length : Int) + (l.2.2.length : Int)))) then
(spec_l13Tracked f).bind fun r =>
(spec_RunFor_L2 f l table (all_.1, all_.2) k_ 0 r (r.2.length : Int) 0).bind fun r1 =>
 bif decide (all_.2.length + [r1].length ≤ lim) then
(spec_RunFor_L0 f l table ((all_.1 && false), (all_.2 ++ [r1])) (IntKind.i64.wrap (k_ + 1))).bind fun r => some r
else none
else 
 some (all_.1, all_.2) := Eq.trans (inf_loop_eq (H := H) 7 0 (loopCode Tryz.f7 0) (f, (l, (table, (all_, k_)))) key_spec_RunFor) (by kernel_rfl)
theorem spec_RunFor_L2_eq (f : Bool × List DSaid) (l : DLasso) (table : Bool × List (Bool × List Bool)) (all_ : Bool × List Int) (k_ : Int) (guess : Int) (t36 : Bool × List Int) (t37 : Int) (t38 : Int) : spec_RunFor_L2 f l table all_ k_ guess t36 t37 t38 =
 bif decide (t38 < t37) then
 bif decide (0 ≤ t38) then
 bif decide (t38 < (t36.2.length : Int)) then
 bif decide (0 ≤ (t36.2.getD (Int.toNat t38) 0)) then
 bif decide ((t36.2.getD (Int.toNat t38) 0) < (table.2.length : Int)) then
 bif decide (0 ≤ k_) then
 bif decide (k_ < (((table.2.getD (Int.toNat (t36.2.getD (Int.toNat t38) 0)) (true, [])).2).length : Int)) then
(spec_l2Bool (((table.2.getD (Int.toNat (t36.2.getD (Int.toNat t38) 0)) (true, [])).2).getD (Int.toNat k_) false)).bind fun r =>
 bif decide ((IntKind.u64.wrap t38) < 0) then
 none
else 
(spec_RunFor_L2 f l table all_ k_ (bOr .i64 guess (bShl .i64 (IntKind.i64.wrap r) (IntKind.u64.wrap t38))) t36 t37 (IntKind.i64.wrap (t38 + 1))).bind fun r => some r
else none
else none
else none
else none
else none
else none
else 
 some guess := Eq.trans (inf_loop_eq (H := H) 7 2 (loopCode Tryz.f7 2) (f, (l, (table, (all_, (k_, (guess, (t36, (t37, t38)))))))) key_spec_RunFor) (by kernel_rfl)
theorem spec_RunFor_eq (f : Bool × List DSaid) (l : DLasso) : spec_RunFor f l =
(spec_l13Good f).bind fun r =>
 bif !r then
 some ((true, []), ((true, []), false))
else 
(spec_GoodLasso l).bind fun r1 =>
 bif !r1 then
 some ((true, []), ((true, []), false))
else 
(spec_l10Table f l).bind fun r2 =>
(spec_RunFor_L0 f l (r2.1, r2.2) (true, []) 0).bind fun r3 =>
 bif decide (0 ≤ (l.1.2.length : Int)) then
 bif decide ((l.1.2.length : Int) ≤ (r3.2.length : Int)) then
(spec_l1Own (r3.1, ((r3.2.take (Int.toNat (l.1.2.length : Int))).drop 0))).bind fun r4 =>
 bif decide (0 ≤ (l.1.2.length : Int)) then
 bif decide ((l.1.2.length : Int) ≤ (r3.2.length : Int)) then
(spec_l1Own (r3.1, ((r3.2.take r3.2.length).drop (Int.toNat (l.1.2.length : Int))))).bind fun r5 =>
 some ((r4.1, r4.2), ((r5.1, r5.2), true))
else none
else none
else none
else none := Eq.trans (inf_call_eq (H := H) 7 (f, l)) (by kernel_rfl)
theorem laws_sameInts_L0_eq (a : Bool × List Int) (b : Bool × List Int) (t12 : Int) (t13 : Int) : laws_sameInts_L0 a b t12 t13 =
 bif decide (t13 < t12) then
 bif decide (0 ≤ t13) then
 bif decide (t13 < (a.2.length : Int)) then
 bif decide (0 ≤ t13) then
 bif decide (t13 < (b.2.length : Int)) then
 bif ((a.2.getD (Int.toNat t13) 0) != (b.2.getD (Int.toNat t13) 0)) then
 some (.inl false)
else 
(laws_sameInts_L0 a b t12 (IntKind.i64.wrap (t13 + 1))).bind fun r => some r
else none
else none
else none
else none
else 
 some (.inr ()) := Eq.trans (inf_loop_eq (H := H) 8 0 (loopCode Tryz.f8 0) (a, (b, (t12, t13))) key_laws_sameInts) (by kernel_rfl)
theorem laws_sameInts_eq (a : Bool × List Int) (b : Bool × List Int) : laws_sameInts a b =
 bif ((a.2.length : Int) != (b.2.length : Int)) then
 some false
else 
(laws_sameInts_L0 a b (a.2.length : Int) 0).bind fun r =>
 match r with
| .inl y =>
 some y
| .inr z =>
 some true := Eq.trans (inf_call_eq (H := H) 8 (a, b)) (by kernel_rfl)
theorem impl_guesses_eq (f : Bool × List DSaid) : impl_guesses f =
(impl_tracked f).bind fun r =>
 bif decide ((r.2.length : Int) < 0) then
 none
else 
 some (bShl .i64 1 (r.2.length : Int)) := Eq.trans (inf_call_eq (H := H) 68 f) (by kernel_rfl)
theorem slices_Index_int_L0_eq (s : Bool × List Int) (v : Int) (t7 : Int) (t8 : Int) : slices_Index_int_L0 s v t7 t8 =
 bif decide (t8 < t7) then
 bif decide (0 ≤ t8) then
 bif decide (t8 < (s.2.length : Int)) then
 bif (v == (s.2.getD (Int.toNat t8) 0)) then
 some (.inl t8)
else 
(slices_Index_int_L0 s v t7 (IntKind.i64.wrap (t8 + 1))).bind fun r => some r
else none
else none
else 
 some (.inr ()) := Eq.trans (inf_loop_eq (H := H) 74 0 (loopCode Tryz.f74 0) (s, (v, (t7, t8))) key_slices_Index_int) (by kernel_rfl)
theorem slices_Index_int_eq (s : Bool × List Int) (v : Int) : slices_Index_int s v =
(slices_Index_int_L0 s v (s.2.length : Int) 0).bind fun r =>
 match r with
| .inl y =>
 some y
| .inr z =>
 some (-1) := Eq.trans (inf_call_eq (H := H) 74 (s, v)) (by kernel_rfl)
theorem impl_assumes_eq (list : Bool × List Int) (guess : Int) (node : Int) : impl_assumes list guess node =
(slices_Index_int list node).bind fun r =>
 bif decide (r < 0) then
 none
else 
 some ((bAnd .i64 (bShr .i64 guess r) 1) == 1) := Eq.trans (inf_call_eq (H := H) 76 (list, (guess, node))) (by kernel_rfl)
theorem impl_rooted_1_eq (guess : Int) (a1 : Bool × List Int) (a2 : Bool × List DSaid) (a3 : Bool) : impl_rooted_1 guess a1 a2 a3 =
(impl_assumes a1 guess (IntKind.i64.wrap ((a2.2.length : Int) - 1))).bind fun r =>
 some (r == a3) := Eq.trans (inf_call_eq (H := H) 93 (guess, (a1, (a2, a3)))) (by kernel_rfl)
theorem impl_guessesWith_by_rooted_1_L0_eq (holds : (Bool × List Int) × (Bool × List DSaid) × Bool × Unit) (out : Bool × List Int) (t9 : Int) (t10 : Int) : impl_guessesWith_by_rooted_1_L0 holds out t9 t10 =
 bif decide (t10 < t9) then
(impl_rooted_1 t10 holds.1 holds.2.1 holds.2.2.1).bind fun r =>
 bif r then
 bif decide (out.2.length + [t10].length ≤ lim) then
(impl_guessesWith_by_rooted_1_L0 holds ((out.1 && false), (out.2 ++ [t10])) t9 (IntKind.i64.wrap (t10 + 1))).bind fun r => some r
else none
else 
(impl_guessesWith_by_rooted_1_L0 holds (out.1, out.2) t9 (IntKind.i64.wrap (t10 + 1))).bind fun r => some r
else 
 some (out.1, out.2) := Eq.trans (inf_loop_eq (H := H) 92 0 (loopCode Tryz.f92 0) (holds, (out, (t9, t10))) key_impl_guessesWith_by_rooted_1) (by kernel_rfl)
theorem impl_guessesWith_by_rooted_1_eq (f : Bool × List DSaid) (holds : (Bool × List Int) × (Bool × List DSaid) × Bool × Unit) : impl_guessesWith_by_rooted_1 f holds =
(impl_guesses f).bind fun r =>
(impl_guessesWith_by_rooted_1_L0 holds (false, []) r 0).bind fun r1 =>
 some (r1.1, r1.2) := Eq.trans (inf_call_eq (H := H) 92 (f, holds)) (by kernel_rfl)
theorem impl_rooted_eq (f : Bool × List DSaid) (holds : Bool) : impl_rooted f holds =
(impl_tracked f).bind fun r =>
(impl_guessesWith_by_rooted_1 f ((r.1, r.2), (f, (holds, ())))).bind fun r1 =>
 some (r1.1, r1.2) := Eq.trans (inf_call_eq (H := H) 69 (f, holds)) (by kernel_rfl)
theorem impl_goalsOf_1_eq (guess : Int) (a1 : Bool × List Int) (a2 : Int) (a3 : Bool × List (Bool × List Int)) (a4 : DSaid) : impl_goalsOf_1 guess a1 a2 a3 a4 =
(impl_assumes a1 guess a2).bind fun r =>
 bif decide (0 ≤ a2) then
 bif decide (a2 < (a3.2.length : Int)) then
 bif decide (1 < (((a3.2.getD (Int.toNat a2) (true, [])).2).length : Int)) then
(impl_assumes a1 guess (((a3.2.getD (Int.toNat a2) (true, [])).2).getD 1 0)).bind fun r1 =>
 bif (a4.1 == 7) then
 bif !r then
 some true
else 
 bif r1 then
 some true
else 
 bif (a4.1 == 8) then
 bif r then
 some true
else 
 some (!r1)
else 
 some false
else 
 bif (a4.1 == 8) then
 bif r then
 some true
else 
 some (!r1)
else 
 some false
else none
else none
else none := Eq.trans (inf_call_eq (H := H) 94 (guess, (a1, (a2, (a3, a4))))) (by kernel_rfl)
theorem impl_guessesWith_by_goalsOf_1_L0_eq (holds : (Bool × List Int) × Int × (Bool × List (Bool × List Int)) × DSaid × Unit) (out : Bool × List Int) (t9 : Int) (t10 : Int) : impl_guessesWith_by_goalsOf_1_L0 holds out t9 t10 =
 bif decide (t10 < t9) then
(impl_goalsOf_1 t10 holds.1 holds.2.1 holds.2.2.1 holds.2.2.2.1).bind fun r =>
 bif r then
 bif decide (out.2.length + [t10].length ≤ lim) then
(impl_guessesWith_by_goalsOf_1_L0 holds ((out.1 && false), (out.2 ++ [t10])) t9 (IntKind.i64.wrap (t10 + 1))).bind fun r => some r
else none
else 
(impl_guessesWith_by_goalsOf_1_L0 holds (out.1, out.2) t9 (IntKind.i64.wrap (t10 + 1))).bind fun r => some r
else 
 some (out.1, out.2) := Eq.trans (inf_loop_eq (H := H) 10067 0 (loopCode Tryz.f92 0) (holds, (out, (t9, t10))) key_impl_guessesWith_by_goalsOf_1) (by kernel_rfl)
theorem impl_guessesWith_by_goalsOf_1_eq (f : Bool × List DSaid) (holds : (Bool × List Int) × Int × (Bool × List (Bool × List Int)) × DSaid × Unit) : impl_guessesWith_by_goalsOf_1 f holds =
(impl_guesses f).bind fun r =>
(impl_guessesWith_by_goalsOf_1_L0 holds (false, []) r 0).bind fun r1 =>
 some (r1.1, r1.2) := Eq.trans (inf_call_eq (H := H) 10067 (f, holds)) (by kernel_rfl)
theorem impl_goalsOf_L0_eq (f : Bool × List DSaid) (out : Bool × List (Bool × List Int)) (operands : Bool × List (Bool × List Int)) (list : Bool × List Int) (t13 : Bool × List DSaid) (t14 : Int) (t15 : Int) : impl_goalsOf_L0 f out operands list t13 t14 t15 =
 bif decide (t15 < t14) then
 bif decide (0 ≤ t15) then
 bif decide (t15 < (t13.2.length : Int)) then
 bif (((t13.2.getD (Int.toNat t15) (0, 0)).1) != 7) then
 bif (((t13.2.getD (Int.toNat t15) (0, 0)).1) != 8) then
(impl_goalsOf_L0 f (out.1, out.2) operands list t13 t14 (IntKind.i64.wrap (t15 + 1))).bind fun r => some r
else 
(impl_guessesWith_by_goalsOf_1 f (list, (t15, (operands, ((t13.2.getD (Int.toNat t15) (0, 0)), ()))))).bind fun r =>
 bif decide (out.2.length + [(r.1, r.2)].length ≤ lim) then
(impl_goalsOf_L0 f ((out.1 && false), (out.2 ++ [(r.1, r.2)])) operands list t13 t14 (IntKind.i64.wrap (t15 + 1))).bind fun r => some r
else none
else 
(impl_guessesWith_by_goalsOf_1 f (list, (t15, (operands, ((t13.2.getD (Int.toNat t15) (0, 0)), ()))))).bind fun r1 =>
 bif decide (out.2.length + [(r1.1, r1.2)].length ≤ lim) then
(impl_goalsOf_L0 f ((out.1 && false), (out.2 ++ [(r1.1, r1.2)])) operands list t13 t14 (IntKind.i64.wrap (t15 + 1))).bind fun r => some r
else none
else none
else none
else 
 some (out.1, out.2) := Eq.trans (inf_loop_eq (H := H) 70 0 (loopCode Tryz.f70 0) (f, (out, (operands, (list, (t13, (t14, t15)))))) key_impl_goalsOf) (by kernel_rfl)
theorem impl_goalsOf_eq (f : Bool × List DSaid) : impl_goalsOf f =
(impl_operandIndexes f).bind fun r =>
(impl_tracked f).bind fun r1 =>
(impl_goalsOf_L0 f (false, []) (r.1, r.2) (r1.1, r1.2) f (f.2.length : Int) 0).bind fun r2 =>
 some (r2.1, r2.2) := Eq.trans (inf_call_eq (H := H) 70 f) (by kernel_rfl)
theorem impl_evalNow_L0_eq (letter : Int) (next : Int) (out : Bool × List Bool) (operands : Bool × List (Bool × List Int)) (list : Bool × List Int) (t18 : Bool × List DSaid) (t19 : Int) (t20 : Int) : impl_evalNow_L0 letter next out operands list t18 t19 t20 =
 bif decide (t20 < t19) then
 bif decide (0 ≤ t20) then
 bif decide (t20 < (t18.2.length : Int)) then
 bif (((t18.2.getD (Int.toNat t20) (0, 0)).1) == 1) then
 bif decide (((t18.2.getD (Int.toNat t20) (0, 0)).2) < 0) then
 none
else 
 bif decide (out.2.length + [((bAnd .i64 (bShr .i64 letter ((t18.2.getD (Int.toNat t20) (0, 0)).2)) 1) == 1)].length ≤ lim) then
(impl_evalNow_L0 letter next ((out.1 && false), (out.2 ++ [((bAnd .i64 (bShr .i64 letter ((t18.2.getD (Int.toNat t20) (0, 0)).2)) 1) == 1)])) operands list t18 t19 (IntKind.i64.wrap (t20 + 1))).bind fun r => some r
else none
else 
 bif (((t18.2.getD (Int.toNat t20) (0, 0)).1) == 3) then
 bif decide (0 ≤ t20) then
 bif decide (t20 < (operands.2.length : Int)) then
 bif decide (0 < (((operands.2.getD (Int.toNat t20) (true, [])).2).length : Int)) then
 bif decide (0 ≤ (((operands.2.getD (Int.toNat t20) (true, [])).2).getD 0 0)) then
 bif decide ((((operands.2.getD (Int.toNat t20) (true, [])).2).getD 0 0) < (out.2.length : Int)) then
 bif decide (out.2.length + ([!(out.2.getD (Int.toNat (((operands.2.getD (Int.toNat t20) (true, [])).2).getD 0 0)) false)] : List Bool).length ≤ lim) then
(impl_evalNow_L0 letter next ((out.1 && false), (out.2 ++ [!(out.2.getD (Int.toNat (((operands.2.getD (Int.toNat t20) (true, [])).2).getD 0 0)) false)])) operands list t18 t19 (IntKind.i64.wrap (t20 + 1))).bind fun r => some r
else none
else none
else none
else none
else none
else none
else 
 bif (((t18.2.getD (Int.toNat t20) (0, 0)).1) == 4) then
 bif decide (0 ≤ t20) then
 bif decide (t20 < (operands.2.length : Int)) then
 bif decide (0 < (((operands.2.getD (Int.toNat t20) (true, [])).2).length : Int)) then
(impl_assumes list next (((operands.2.getD (Int.toNat t20) (true, [])).2).getD 0 0)).bind fun r =>
 bif decide (out.2.length + [r].length ≤ lim) then
(impl_evalNow_L0 letter next ((out.1 && false), (out.2 ++ [r])) operands list t18 t19 (IntKind.i64.wrap (t20 + 1))).bind fun r => some r
else none
else none
else none
else none
else 
 bif (((t18.2.getD (Int.toNat t20) (0, 0)).1) == 5) then
 bif decide (0 ≤ t20) then
 bif decide (t20 < (operands.2.length : Int)) then
 bif decide (0 < (((operands.2.getD (Int.toNat t20) (true, [])).2).length : Int)) then
 bif decide (0 ≤ (((operands.2.getD (Int.toNat t20) (true, [])).2).getD 0 0)) then
 bif decide ((((operands.2.getD (Int.toNat t20) (true, [])).2).getD 0 0) < (out.2.length : Int)) then
 bif (out.2.getD (Int.toNat (((operands.2.getD (Int.toNat t20) (true, [])).2).getD 0 0)) false) then
 bif decide (0 ≤ t20) then
 bif decide (t20 < (operands.2.length : Int)) then
 bif decide (1 < (((operands.2.getD (Int.toNat t20) (true, [])).2).length : Int)) then
 bif decide (0 ≤ (((operands.2.getD (Int.toNat t20) (true, [])).2).getD 1 0)) then
 bif decide ((((operands.2.getD (Int.toNat t20) (true, [])).2).getD 1 0) < (out.2.length : Int)) then
 bif decide (out.2.length + ([(out.2.getD (Int.toNat (((operands.2.getD (Int.toNat t20) (true, [])).2).getD 1 0)) false)] : List Bool).length ≤ lim) then
(impl_evalNow_L0 letter next ((out.1 && false), (out.2 ++ [(out.2.getD (Int.toNat (((operands.2.getD (Int.toNat t20) (true, [])).2).getD 1 0)) false)])) operands list t18 t19 (IntKind.i64.wrap (t20 + 1))).bind fun r => some r
else none
else none
else none
else none
else none
else none
else 
 bif decide (out.2.length + [false].length ≤ lim) then
(impl_evalNow_L0 letter next ((out.1 && false), (out.2 ++ [false])) operands list t18 t19 (IntKind.i64.wrap (t20 + 1))).bind fun r => some r
else none
else none
else none
else none
else none
else none
else 
 bif (((t18.2.getD (Int.toNat t20) (0, 0)).1) == 6) then
 bif decide (0 ≤ t20) then
 bif decide (t20 < (operands.2.length : Int)) then
 bif decide (0 < (((operands.2.getD (Int.toNat t20) (true, [])).2).length : Int)) then
 bif decide (0 ≤ (((operands.2.getD (Int.toNat t20) (true, [])).2).getD 0 0)) then
 bif decide ((((operands.2.getD (Int.toNat t20) (true, [])).2).getD 0 0) < (out.2.length : Int)) then
 bif (out.2.getD (Int.toNat (((operands.2.getD (Int.toNat t20) (true, [])).2).getD 0 0)) false) then
 bif decide (out.2.length + [true].length ≤ lim) then
(impl_evalNow_L0 letter next ((out.1 && false), (out.2 ++ [true])) operands list t18 t19 (IntKind.i64.wrap (t20 + 1))).bind fun r => some r
else none
else 
 bif decide (0 ≤ t20) then
 bif decide (t20 < (operands.2.length : Int)) then
 bif decide (1 < (((operands.2.getD (Int.toNat t20) (true, [])).2).length : Int)) then
 bif decide (0 ≤ (((operands.2.getD (Int.toNat t20) (true, [])).2).getD 1 0)) then
 bif decide ((((operands.2.getD (Int.toNat t20) (true, [])).2).getD 1 0) < (out.2.length : Int)) then
 bif decide (out.2.length + ([(out.2.getD (Int.toNat (((operands.2.getD (Int.toNat t20) (true, [])).2).getD 1 0)) false)] : List Bool).length ≤ lim) then
(impl_evalNow_L0 letter next ((out.1 && false), (out.2 ++ [(out.2.getD (Int.toNat (((operands.2.getD (Int.toNat t20) (true, [])).2).getD 1 0)) false)])) operands list t18 t19 (IntKind.i64.wrap (t20 + 1))).bind fun r => some r
else none
else none
else none
else none
else none
else none
else none
else none
else none
else none
else none
else 
 bif (((t18.2.getD (Int.toNat t20) (0, 0)).1) == 7) then
 bif decide (0 ≤ t20) then
 bif decide (t20 < (operands.2.length : Int)) then
 bif decide (1 < (((operands.2.getD (Int.toNat t20) (true, [])).2).length : Int)) then
 bif decide (0 ≤ (((operands.2.getD (Int.toNat t20) (true, [])).2).getD 1 0)) then
 bif decide ((((operands.2.getD (Int.toNat t20) (true, [])).2).getD 1 0) < (out.2.length : Int)) then
 bif (out.2.getD (Int.toNat (((operands.2.getD (Int.toNat t20) (true, [])).2).getD 1 0)) false) then
 bif decide (out.2.length + [true].length ≤ lim) then
(impl_evalNow_L0 letter next ((out.1 && false), (out.2 ++ [true])) operands list t18 t19 (IntKind.i64.wrap (t20 + 1))).bind fun r => some r
else none
else 
 bif decide (0 ≤ t20) then
 bif decide (t20 < (operands.2.length : Int)) then
 bif decide (0 < (((operands.2.getD (Int.toNat t20) (true, [])).2).length : Int)) then
 bif decide (0 ≤ (((operands.2.getD (Int.toNat t20) (true, [])).2).getD 0 0)) then
 bif decide ((((operands.2.getD (Int.toNat t20) (true, [])).2).getD 0 0) < (out.2.length : Int)) then
 bif (out.2.getD (Int.toNat (((operands.2.getD (Int.toNat t20) (true, [])).2).getD 0 0)) false) then
(impl_assumes list next t20).bind fun r1 =>
 bif decide (out.2.length + [r1].length ≤ lim) then
(impl_evalNow_L0 letter next ((out.1 && false), (out.2 ++ [r1])) operands list t18 t19 (IntKind.i64.wrap (t20 + 1))).bind fun r => some r
else none
else 
 bif decide (out.2.length + [false].length ≤ lim) then
(impl_evalNow_L0 letter next ((out.1 && false), (out.2 ++ [false])) operands list t18 t19 (IntKind.i64.wrap (t20 + 1))).bind fun r => some r
else none
else none
else none
else none
else none
else none
else none
else none
else none
else none
else none
else 
 bif (((t18.2.getD (Int.toNat t20) (0, 0)).1) == 8) then
 bif decide (0 ≤ t20) then
 bif decide (t20 < (operands.2.length : Int)) then
 bif decide (1 < (((operands.2.getD (Int.toNat t20) (true, [])).2).length : Int)) then
 bif decide (0 ≤ (((operands.2.getD (Int.toNat t20) (true, [])).2).getD 1 0)) then
 bif decide ((((operands.2.getD (Int.toNat t20) (true, [])).2).getD 1 0) < (out.2.length : Int)) then
 bif (out.2.getD (Int.toNat (((operands.2.getD (Int.toNat t20) (true, [])).2).getD 1 0)) false) then
 bif decide (0 ≤ t20) then
 bif decide (t20 < (operands.2.length : Int)) then
 bif decide (0 < (((operands.2.getD (Int.toNat t20) (true, [])).2).length : Int)) then
 bif decide (0 ≤ (((operands.2.getD (Int.toNat t20) (true, [])).2).getD 0 0)) then
 bif decide ((((operands.2.getD (Int.toNat t20) (true, [])).2).getD 0 0) < (out.2.length : Int)) then
 bif (out.2.getD (Int.toNat (((operands.2.getD (Int.toNat t20) (true, [])).2).getD 0 0)) false) then
 bif decide (out.2.length + [true].length ≤ lim) then
(impl_evalNow_L0 letter next ((out.1 && false), (out.2 ++ [true])) operands list t18 t19 (IntKind.i64.wrap (t20 + 1))).bind fun r => some r
else none
else 
(impl_assumes list next t20).bind fun r2 =>
 bif decide (out.2.length + [r2].length ≤ lim) then
(impl_evalNow_L0 letter next ((out.1 && false), (out.2 ++ [r2])) operands list t18 t19 (IntKind.i64.wrap (t20 + 1))).bind fun r => some r
else none
else none
else none
else none
else none
else none
else 
 bif decide (out.2.length + [false].length ≤ lim) then
(impl_evalNow_L0 letter next ((out.1 && false), (out.2 ++ [false])) operands list t18 t19 (IntKind.i64.wrap (t20 + 1))).bind fun r => some r
else none
else none
else none
else none
else none
else none
else 
 bif decide (out.2.length + [(((t18.2.getD (Int.toNat t20) (0, 0)).2) == 1)].length ≤ lim) then
(impl_evalNow_L0 letter next ((out.1 && false), (out.2 ++ [(((t18.2.getD (Int.toNat t20) (0, 0)).2) == 1)])) operands list t18 t19 (IntKind.i64.wrap (t20 + 1))).bind fun r => some r
else none
else none
else none
else 
 some (out.1, out.2) := Eq.trans (inf_loop_eq (H := H) 45 0 (loopCode Tryz.f45 0) (letter, (next, (out, (operands, (list, (t18, (t19, t20))))))) key_impl_evalNow) (by kernel_rfl)
theorem impl_evalNow_eq (f : Bool × List DSaid) (letter : Int) (next : Int) : impl_evalNow f letter next =
(impl_operandIndexes f).bind fun r =>
(impl_tracked f).bind fun r1 =>
(impl_evalNow_L0 letter next (false, []) (r.1, r.2) (r1.1, r1.2) f (f.2.length : Int) 0).bind fun r2 =>
 some (r2.1, r2.2) := Eq.trans (inf_call_eq (H := H) 45 (f, (letter, next))) (by kernel_rfl)
theorem impl_guessOf_L0_eq (values : Bool × List Bool) (guess : Int) (t16 : Bool × List Int) (t17 : Int) (t18 : Int) : impl_guessOf_L0 values guess t16 t17 t18 =
 bif decide (t18 < t17) then
 bif decide (0 ≤ t18) then
 bif decide (t18 < (t16.2.length : Int)) then
 bif decide (0 ≤ (t16.2.getD (Int.toNat t18) 0)) then
 bif decide ((t16.2.getD (Int.toNat t18) 0) < (values.2.length : Int)) then
 bif (values.2.getD (Int.toNat (t16.2.getD (Int.toNat t18) 0)) false) then
 bif decide (t18 < 0) then
 none
else 
(impl_guessOf_L0 values (bOr .i64 guess (bShl .i64 1 t18)) t16 t17 (IntKind.i64.wrap (t18 + 1))).bind fun r => some r
else 
(impl_guessOf_L0 values guess t16 t17 (IntKind.i64.wrap (t18 + 1))).bind fun r => some r
else none
else none
else none
else none
else 
 some guess := Eq.trans (inf_loop_eq (H := H) 38 0 (loopCode Tryz.f38 0) (values, (guess, (t16, (t17, t18)))) key_impl_guessOf) (by kernel_rfl)
theorem impl_guessOf_eq (f : Bool × List DSaid) (letter : Int) (next : Int) : impl_guessOf f letter next =
(impl_evalNow f letter next).bind fun r =>
(impl_tracked f).bind fun r1 =>
(impl_guessOf_L0 (r.1, r.2) 0 (r1.1, r1.2) (r1.2.length : Int) 0).bind fun r2 =>
 some r2 := Eq.trans (inf_call_eq (H := H) 38 (f, (letter, next))) (by kernel_rfl)
theorem slices_SortFunc_Edge_by_compareEdges_eq (s : Bool × List DEdge) (f : Unit) : slices_SortFunc_Edge_by_compareEdges s f =
(sortfI (s, f)).bind fun r => some r := Eq.trans (inf_call_eq (H := H) 71 (s, f)) (by kernel_rfl)
theorem impl_autoFor_L0_eq (f : Bool × List DSaid) (t4 : DAuto) (out_0 : Int) (out_1 : Bool × List Int) (out_2 : Bool × List DEdge) (out_3 : Bool × List (Bool × List Int)) (t16 : Int) : impl_autoFor_L0 f t4 out_0 out_1 out_2 out_3 t16 =
 bif decide (t16 < 8) then
(impl_autoFor_L2 f t4 out_0 (out_1.1, out_1.2) (out_2.1, out_2.2) (out_3.1, out_3.2) t16 t16 out_0 0).bind fun r =>
(impl_autoFor_L0 f t4 r.1 (r.2.1.1, r.2.1.2) (r.2.2.1.1, r.2.2.1.2) (r.2.2.2.1, r.2.2.2.2) (IntKind.i64.wrap (t16 + 1))).bind fun r => some r
else 
 some (out_0, ((out_1.1, out_1.2), ((out_2.1, out_2.2), (out_3.1, out_3.2)))) := Eq.trans (inf_loop_eq (H := H) 34 0 (loopCode Tryz.f34 0) (f, (t4, (out_0, (out_1, (out_2, (out_3, t16)))))) key_impl_autoFor) (by kernel_rfl)
theorem impl_autoFor_L2_eq (f : Bool × List DSaid) (t4 : DAuto) (out_0 : Int) (out_1 : Bool × List Int) (out_2 : Bool × List DEdge) (out_3 : Bool × List (Bool × List Int)) (letter : Int) (t16 : Int) (t20 : Int) (t21 : Int) : impl_autoFor_L2 f t4 out_0 out_1 out_2 out_3 letter t16 t20 t21 =
 bif decide (t21 < t20) then
(impl_guessOf f letter t21).bind fun r =>
 bif decide (out_2.2.length + [(r, (letter, t21))].length ≤ lim) then
(impl_autoFor_L2 f t4 out_0 (out_1.1, out_1.2) ((out_2.1 && false), (out_2.2 ++ [(r, (letter, t21))])) (out_3.1, out_3.2) letter t16 t20 (IntKind.i64.wrap (t21 + 1))).bind fun r => some r
else none
else 
 some (out_0, ((out_1.1, out_1.2), ((out_2.1, out_2.2), (out_3.1, out_3.2)))) := Eq.trans (inf_loop_eq (H := H) 34 2 (loopCode Tryz.f34 2) (f, (t4, (out_0, (out_1, (out_2, (out_3, (letter, (t16, (t20, t21))))))))) key_impl_autoFor) (by kernel_rfl)
theorem impl_autoFor_eq (f : Bool × List DSaid) (holds : Bool) : impl_autoFor f holds =
(impl_guesses f).bind fun r =>
(impl_rooted f holds).bind fun r1 =>
(impl_goalsOf f).bind fun r2 =>
(impl_autoFor_L0 f (0, ((true, []), ((true, []), (true, [])))) r (r1.1, r1.2) (true, []) (r2.1, r2.2) 0).bind fun r3 =>
(slices_SortFunc_Edge_by_compareEdges (r3.2.2.1.1, r3.2.2.1.2) ()).bind fun r4 =>
 some (r3.1, ((r3.2.1.1, r3.2.1.2), ((r4.1, r4.2), (r3.2.2.2.1, r3.2.2.2.2)))) := Eq.trans (inf_call_eq (H := H) 34 (f, holds)) (by kernel_rfl)
theorem impl_isIncreasing_L0_eq (list : Bool × List Int) (bound : Int) (t7 : Bool × List Int) (t8 : Int) (t9 : Int) : impl_isIncreasing_L0 list bound t7 t8 t9 =
 bif decide (t9 < t8) then
 bif decide (0 ≤ t9) then
 bif decide (t9 < (t7.2.length : Int)) then
 bif decide ((t7.2.getD (Int.toNat t9) 0) < 0) then
 some (.inl false)
else 
 bif decide ((t7.2.getD (Int.toNat t9) 0) ≥ bound) then
 some (.inl false)
else 
 bif decide (t9 > 0) then
 bif decide (0 ≤ (IntKind.i64.wrap (t9 - 1))) then
 bif decide ((IntKind.i64.wrap (t9 - 1)) < (list.2.length : Int)) then
 bif decide ((list.2.getD (Int.toNat (IntKind.i64.wrap (t9 - 1))) 0) ≥ (t7.2.getD (Int.toNat t9) 0)) then
 some (.inl false)
else 
(impl_isIncreasing_L0 list bound t7 t8 (IntKind.i64.wrap (t9 + 1))).bind fun r => some r
else none
else none
else 
(impl_isIncreasing_L0 list bound t7 t8 (IntKind.i64.wrap (t9 + 1))).bind fun r => some r
else none
else none
else 
 some (.inr ()) := Eq.trans (inf_loop_eq (H := H) 40 0 (loopCode Tryz.f40 0) (list, (bound, (t7, (t8, t9)))) key_impl_isIncreasing) (by kernel_rfl)
theorem impl_isIncreasing_eq (list : Bool × List Int) (bound : Int) : impl_isIncreasing list bound =
(impl_isIncreasing_L0 list bound list (list.2.length : Int) 0).bind fun r =>
 match r with
| .inl y =>
 some y
| .inr z =>
 some true := Eq.trans (inf_call_eq (H := H) 40 (list, bound)) (by kernel_rfl)
theorem impl_areGoals_1_eq (list : Bool × List Int) (a1 : Int) : impl_areGoals_1 list a1 =
(impl_isIncreasing list a1).bind fun r =>
 some (!r) := Eq.trans (inf_call_eq (H := H) 99 (list, a1)) (by kernel_rfl)
theorem slices_IndexFunc_int_by_areGoals_1_L0_eq (s : Bool × List (Bool × List Int)) (f : Int × Unit) (t7 : Int) (t8 : Int) : slices_IndexFunc_int_by_areGoals_1_L0 s f t7 t8 =
 bif decide (t8 < t7) then
 bif decide (0 ≤ t8) then
 bif decide (t8 < (s.2.length : Int)) then
(impl_areGoals_1 (s.2.getD (Int.toNat t8) (true, [])) f.1).bind fun r =>
 bif r then
 some (.inl t8)
else 
(slices_IndexFunc_int_by_areGoals_1_L0 s f t7 (IntKind.i64.wrap (t8 + 1))).bind fun r => some r
else none
else none
else 
 some (.inr ()) := Eq.trans (inf_loop_eq (H := H) 123 0 (loopCode Tryz.f123 0) (s, (f, (t7, t8))) key_slices_IndexFunc_int_by_areGoals_1) (by kernel_rfl)
theorem slices_IndexFunc_int_by_areGoals_1_eq (s : Bool × List (Bool × List Int)) (f : Int × Unit) : slices_IndexFunc_int_by_areGoals_1 s f =
(slices_IndexFunc_int_by_areGoals_1_L0 s f (s.2.length : Int) 0).bind fun r =>
 match r with
| .inl y =>
 some y
| .inr z =>
 some (-1) := Eq.trans (inf_call_eq (H := H) 123 (s, f)) (by kernel_rfl)
theorem slices_ContainsFunc_int_by_areGoals_1_eq (s : Bool × List (Bool × List Int)) (f : Int × Unit) : slices_ContainsFunc_int_by_areGoals_1 s f =
(slices_IndexFunc_int_by_areGoals_1 s f).bind fun r =>
 some (decide (r ≥ 0)) := Eq.trans (inf_call_eq (H := H) 98 (s, f)) (by kernel_rfl)
theorem impl_areGoals_eq (goals : Bool × List (Bool × List Int)) (bound : Int) : impl_areGoals goals bound =
 bif decide ((goals.2.length : Int) ≤ 6) then
(slices_ContainsFunc_int_by_areGoals_1 goals (bound, ())).bind fun r =>
 some (!r)
else 
 some false := Eq.trans (inf_call_eq (H := H) 73 (goals, bound)) (by kernel_rfl)
theorem cmp_isNaN_int_eq (x : Int) : cmp_isNaN_int x =
 some (x != x) := Eq.trans (inf_call_eq (H := H) 122 x) (by kernel_rfl)
theorem cmp_Compare_int_eq (x : Int) (y : Int) : cmp_Compare_int x y =
(cmp_isNaN_int x).bind fun r =>
(cmp_isNaN_int y).bind fun r1 =>
 bif r then
 bif r1 then
 some 0
else 
 some (-1)
else 
 bif r1 then
 some 1
else 
 bif decide (x < y) then
 some (-1)
else 
 bif decide (x > y) then
 some 1
else 
 some 0 := Eq.trans (inf_call_eq (H := H) 97 (x, y)) (by kernel_rfl)
theorem cmp_Or_int_L0_eq (zero : Int) (t6 : Bool × List Int) (t7 : Int) (t8 : Int) : cmp_Or_int_L0 zero t6 t7 t8 =
 bif decide (t8 < t7) then
 bif decide (0 ≤ t8) then
 bif decide (t8 < (t6.2.length : Int)) then
 bif ((t6.2.getD (Int.toNat t8) 0) != zero) then
 some (.inl (t6.2.getD (Int.toNat t8) 0))
else 
(cmp_Or_int_L0 zero t6 t7 (IntKind.i64.wrap (t8 + 1))).bind fun r => some r
else none
else none
else 
 some (.inr ()) := Eq.trans (inf_loop_eq (H := H) 96 0 (loopCode Tryz.f96 0) (zero, (t6, (t7, t8))) key_cmp_Or_int) (by kernel_rfl)
theorem cmp_Or_int_eq (vals : Bool × List Int) : cmp_Or_int vals =
(cmp_Or_int_L0 0 vals (vals.2.length : Int) 0).bind fun r =>
 match r with
| .inl y =>
 some y
| .inr z =>
 some 0 := Eq.trans (inf_call_eq (H := H) 96 vals) (by kernel_rfl)
theorem impl_compareEdges_eq (a : DEdge) (b : DEdge) : impl_compareEdges a b =
(cmp_Compare_int a.1 b.1).bind fun r =>
(cmp_Compare_int a.2.1 b.2.1).bind fun r1 =>
(cmp_Compare_int a.2.2 b.2.2).bind fun r2 =>
(cmp_Or_int (false, [r, r1, r2])).bind fun r3 =>
 some r3 := Eq.trans (inf_call_eq (H := H) 72 (a, b)) (by kernel_rfl)
theorem impl_GoodAuto_L0_eq (a : DAuto) (t36 : Bool × List DEdge) (t37 : Int) (t38 : Int) : impl_GoodAuto_L0 a t36 t37 t38 =
 bif decide (t38 < t37) then
 bif decide (0 ≤ t38) then
 bif decide (t38 < (t36.2.length : Int)) then
 bif decide (((t36.2.getD (Int.toNat t38) (0, (0, 0))).1) < 0) then
 some (.inl false)
else 
 bif decide (((t36.2.getD (Int.toNat t38) (0, (0, 0))).1) ≥ a.1) then
 some (.inl false)
else 
 bif decide ((((t36.2.getD (Int.toNat t38) (0, (0, 0))).2).2) < 0) then
 some (.inl false)
else 
 bif decide ((((t36.2.getD (Int.toNat t38) (0, (0, 0))).2).2) ≥ a.1) then
 some (.inl false)
else 
 bif decide ((((t36.2.getD (Int.toNat t38) (0, (0, 0))).2).1) < 0) then
 some (.inl false)
else 
 bif decide ((((t36.2.getD (Int.toNat t38) (0, (0, 0))).2).1) ≥ 8) then
 some (.inl false)
else 
 bif decide (t38 > 0) then
 bif decide (0 ≤ (IntKind.i64.wrap (t38 - 1))) then
 bif decide ((IntKind.i64.wrap (t38 - 1)) < (a.2.2.1.2.length : Int)) then
(impl_compareEdges (a.2.2.1.2.getD (Int.toNat (IntKind.i64.wrap (t38 - 1))) (0, (0, 0))) (t36.2.getD (Int.toNat t38) (0, (0, 0)))).bind fun r =>
 bif decide (r ≥ 0) then
 some (.inl false)
else 
(impl_GoodAuto_L0 a t36 t37 (IntKind.i64.wrap (t38 + 1))).bind fun r => some r
else none
else none
else 
(impl_GoodAuto_L0 a t36 t37 (IntKind.i64.wrap (t38 + 1))).bind fun r => some r
else none
else none
else 
 some (.inr ()) := Eq.trans (inf_loop_eq (H := H) 39 0 (loopCode Tryz.f39 0) (a, (t36, (t37, t38))) key_impl_GoodAuto) (by kernel_rfl)
theorem impl_GoodAuto_eq (a : DAuto) : impl_GoodAuto a =
 bif decide (a.1 < 1) then
 some false
else 
 bif decide (a.1 > 96) then
 some false
else 
(impl_isIncreasing a.2.1 a.1).bind fun r =>
 bif !r then
 some false
else 
 bif decide ((a.2.2.1.2.length : Int) > 2400) then
 some false
else 
(impl_areGoals a.2.2.2 a.1).bind fun r1 =>
 bif !r1 then
 some false
else 
(impl_GoodAuto_L0 a a.2.2.1 (a.2.2.1.2.length : Int) 0).bind fun r2 =>
 match r2 with
| .inl y =>
 some y
| .inr z =>
 some true := Eq.trans (inf_call_eq (H := H) 39 a) (by kernel_rfl)
theorem impl_checkedAuto_eq (a : DAuto) : impl_checkedAuto a =
(impl_GoodAuto a).bind fun r =>
 bif !r then
 some ((0, ((true, []), ((true, []), (true, [])))), false)
else 
 some (a, true) := Eq.trans (inf_call_eq (H := H) 33 a) (by kernel_rfl)
theorem impl_AutoFor_eq (f : Bool × List DSaid) : impl_AutoFor f =
(impl_isTracked f).bind fun r =>
 bif !r then
 some ((0, ((true, []), ((true, []), (true, [])))), false)
else 
(impl_autoFor f true).bind fun r1 =>
(impl_checkedAuto (r1.1, ((r1.2.1.1, r1.2.1.2), ((r1.2.2.1.1, r1.2.2.1.2), (r1.2.2.2.1, r1.2.2.2.2))))).bind fun r2 =>
 some (r2.1, r2.2) := Eq.trans (inf_call_eq (H := H) 9 f) (by kernel_rfl)
theorem impl_isIndex_eq (k_ : Int) : impl_isIndex k_ =
 bif decide (k_ ≥ 0) then
 some (decide (k_ ≤ 1000))
else 
 some false := Eq.trans (inf_call_eq (H := H) 35 k_) (by kernel_rfl)
theorem impl_LetterAt_eq (l : DLasso) (k_ : Int) : impl_LetterAt l k_ =
(impl_GoodLasso l).bind fun r =>
 bif !r then
 some (0, false)
else 
(impl_isIndex k_).bind fun r1 =>
 bif !r1 then
 some (0, false)
else 
(impl_Lasso_letterAt l k_).bind fun r2 =>
 some (r2, true) := Eq.trans (inf_call_eq (H := H) 10 (l, k_)) (by kernel_rfl)
theorem impl_isOneLetter_eq (n : Int) : impl_isOneLetter n =
 bif decide (n ≥ 0) then
 some (decide (n < 8))
else 
 some false := Eq.trans (inf_call_eq (H := H) 41 n) (by kernel_rfl)
theorem impl_isNow_eq (f : Bool × List DSaid) (letter : Int) (next : Int) : impl_isNow f letter next =
(impl_isTracked f).bind fun r =>
 bif r then
(impl_isOneLetter letter).bind fun r1 =>
 bif r1 then
 bif decide (next ≥ 0) then
(impl_guesses f).bind fun r2 =>
 some (decide (next < r2))
else 
 some false
else 
 some false
else 
 some false := Eq.trans (inf_call_eq (H := H) 37 (f, (letter, next))) (by kernel_rfl)
theorem impl_GuessOf_eq (f : Bool × List DSaid) (letter : Int) (next : Int) : impl_GuessOf f letter next =
(impl_isNow f letter next).bind fun r =>
 bif !r then
 some (0, false)
else 
(impl_guessOf f letter next).bind fun r1 =>
 some (r1, true) := Eq.trans (inf_call_eq (H := H) 11 (f, (letter, next))) (by kernel_rfl)
theorem slices_Contains_int_eq (s : Bool × List Int) (v : Int) : slices_Contains_int s v =
(slices_Index_int s v).bind fun r =>
 some (decide (r ≥ 0)) := Eq.trans (inf_call_eq (H := H) 42 (s, v)) (by kernel_rfl)
theorem impl_marked_L0_eq (out : Bool × List Int) (t7 : Bool × List Bool) (t8 : Int) (t9 : Int) : impl_marked_L0 out t7 t8 t9 =
 bif decide (t9 < t8) then
 bif decide (0 ≤ t9) then
 bif decide (t9 < (t7.2.length : Int)) then
 bif (t7.2.getD (Int.toNat t9) false) then
 bif decide (out.2.length + [t9].length ≤ lim) then
(impl_marked_L0 ((out.1 && false), (out.2 ++ [t9])) t7 t8 (IntKind.i64.wrap (t9 + 1))).bind fun r => some r
else none
else 
(impl_marked_L0 (out.1, out.2) t7 t8 (IntKind.i64.wrap (t9 + 1))).bind fun r => some r
else none
else none
else 
 some (out.1, out.2) := Eq.trans (inf_loop_eq (H := H) 43 0 (loopCode Tryz.f43 0) (out, (t7, (t8, t9))) key_impl_marked) (by kernel_rfl)
theorem impl_marked_eq (list : Bool × List Bool) : impl_marked list =
(impl_marked_L0 (false, []) list (list.2.length : Int) 0).bind fun r =>
 some (r.1, r.2) := Eq.trans (inf_call_eq (H := H) 43 list) (by kernel_rfl)
theorem impl_StepAuto_L0_eq (some_ : Bool × List Int) (letter : Int) (to : Bool × List Bool) (t30 : Bool × List DEdge) (t31 : Int) (t32 : Int) : impl_StepAuto_L0 some_ letter to t30 t31 t32 =
 bif decide (t32 < t31) then
 bif decide (0 ≤ t32) then
 bif decide (t32 < (t30.2.length : Int)) then
 bif ((((t30.2.getD (Int.toNat t32) (0, (0, 0))).2).1) == letter) then
(slices_Contains_int some_ ((t30.2.getD (Int.toNat t32) (0, (0, 0))).1)).bind fun r =>
 bif r then
 bif decide (0 ≤ (((t30.2.getD (Int.toNat t32) (0, (0, 0))).2).2)) then
 bif decide ((((t30.2.getD (Int.toNat t32) (0, (0, 0))).2).2) < (to.2.length : Int)) then
(impl_StepAuto_L0 some_ letter (to.1, (to.2.set (Int.toNat (((t30.2.getD (Int.toNat t32) (0, (0, 0))).2).2)) true)) t30 t31 (IntKind.i64.wrap (t32 + 1))).bind fun r => some r
else none
else none
else 
(impl_StepAuto_L0 some_ letter (to.1, to.2) t30 t31 (IntKind.i64.wrap (t32 + 1))).bind fun r => some r
else 
(impl_StepAuto_L0 some_ letter (to.1, to.2) t30 t31 (IntKind.i64.wrap (t32 + 1))).bind fun r => some r
else none
else none
else 
 some (to.1, to.2) := Eq.trans (inf_loop_eq (H := H) 12 0 (loopCode Tryz.f12 0) (some_, (letter, (to, (t30, (t31, t32))))) key_impl_StepAuto) (by kernel_rfl)
theorem impl_StepAuto_eq (a : DAuto) (some_ : Bool × List Int) (letter : Int) : impl_StepAuto a some_ letter =
(impl_GoodAuto a).bind fun r =>
 bif !r then
 some ((true, []), false)
else 
(impl_isIncreasing some_ a.1).bind fun r1 =>
 bif !r1 then
 some ((true, []), false)
else 
(impl_isOneLetter letter).bind fun r2 =>
 bif !r2 then
 some ((true, []), false)
else 
 bif decide (0 ≤ a.1) then
 bif decide (a.1 ≤ lim) then
 bif decide (a.1 ≤ a.1) then
 bif decide (a.1 ≤ lim) then
(impl_StepAuto_L0 some_ letter (false, (List.replicate (Int.toNat a.1) (false : Bool))) a.2.2.1 (a.2.2.1.2.length : Int) 0).bind fun r3 =>
(impl_marked (r3.1, r3.2)).bind fun r4 =>
 some ((r4.1, r4.2), true)
else none
else none
else none
else none := Eq.trans (inf_call_eq (H := H) 12 (a, (some_, letter))) (by kernel_rfl)
theorem laws_has_L0_eq (n : Int) (t7 : Bool × List Int) (t8 : Int) (t9 : Int) : laws_has_L0 n t7 t8 t9 =
 bif decide (t9 < t8) then
 bif decide (0 ≤ t9) then
 bif decide (t9 < (t7.2.length : Int)) then
 bif ((t7.2.getD (Int.toNat t9) 0) == n) then
 some (.inl true)
else 
(laws_has_L0 n t7 t8 (IntKind.i64.wrap (t9 + 1))).bind fun r => some r
else none
else none
else 
 some (.inr ()) := Eq.trans (inf_loop_eq (H := H) 13 0 (loopCode Tryz.f13 0) (n, (t7, (t8, t9))) key_laws_has) (by kernel_rfl)
theorem laws_has_eq (l : Bool × List Int) (n : Int) : laws_has l n =
(laws_has_L0 n l (l.2.length : Int) 0).bind fun r =>
 match r with
| .inl y =>
 some y
| .inr z =>
 some false := Eq.trans (inf_call_eq (H := H) 13 (l, n)) (by kernel_rfl)
theorem spec_DrawEvalNow_eq (code : Bool × List Int) : spec_DrawEvalNow code =
(spec_l1Cur_tracked (code, (0, 0))).bind fun r =>
(spec_l1Cur_pick r.1 9).bind fun r1 =>
(spec_l1Cur_pick r1.1 20).bind fun r2 =>
(spec_l1Cur_pick r2.1 20).bind fun r3 =>
 some ((r.2.1, r.2.2), (r1.2, IntKind.i64.wrap (r2.2 - (IntKind.i64.wrap (Int.tdiv r3.2 19))))) := Eq.trans (inf_call_eq (H := H) 14 code) (by kernel_rfl)
theorem impl_EvalNow_eq (f : Bool × List DSaid) (letter : Int) (next : Int) : impl_EvalNow f letter next =
(impl_isNow f letter next).bind fun r =>
 bif !r then
 some ((true, []), false)
else 
(impl_evalNow f letter next).bind fun r1 =>
 some ((r1.1, r1.2), true) := Eq.trans (inf_call_eq (H := H) 15 (f, (letter, next))) (by kernel_rfl)
theorem spec_l13Asked_eq (f : Bool × List DSaid) (letter : Int) (next : Int) : spec_l13Asked f letter next =
(spec_l13Good f).bind fun r =>
 bif r then
(spec_l1In letter 0 7).bind fun r1 =>
 bif r1 then
(spec_l13Tracked f).bind fun r2 =>
 bif decide ((IntKind.u64.wrap (r2.2.length : Int)) < 0) then
 none
else 
(spec_l1In next 0 (IntKind.i64.wrap ((bShl .i64 1 (IntKind.u64.wrap (r2.2.length : Int))) - 1))).bind fun r3 =>
 some r3
else 
 some false
else 
 some false := Eq.trans (inf_call_eq (H := H) 46 (f, (letter, next))) (by kernel_rfl)
theorem spec_l13Says_L0_eq (guess : Int) (node : Int) (t9 : Bool × List Int) (t10 : Int) (t11 : Int) : spec_l13Says_L0 guess node t9 t10 t11 =
 bif decide (t11 < t10) then
 bif decide (0 ≤ t11) then
 bif decide (t11 < (t9.2.length : Int)) then
 bif ((t9.2.getD (Int.toNat t11) 0) == node) then
 bif decide ((IntKind.u64.wrap t11) < 0) then
 none
else 
 some (.inl ((bAnd .i64 (bShr .i64 guess (IntKind.u64.wrap t11)) 1) == 1))
else 
(spec_l13Says_L0 guess node t9 t10 (IntKind.i64.wrap (t11 + 1))).bind fun r => some r
else none
else none
else 
 some (.inr ()) := Eq.trans (inf_loop_eq (H := H) 77 0 (loopCode Tryz.f77 0) (guess, (node, (t9, (t10, t11)))) key_spec_l13Says) (by kernel_rfl)
theorem spec_l13Says_eq (tracked : Bool × List Int) (guess : Int) (node : Int) : spec_l13Says tracked guess node =
(spec_l13Says_L0 guess node tracked (tracked.2.length : Int) 0).bind fun r =>
 match r with
| .inl y =>
 some y
| .inr z =>
 some false := Eq.trans (inf_call_eq (H := H) 77 (tracked, (guess, node))) (by kernel_rfl)
theorem spec_l13Now_L0_eq (f : Bool × List DSaid) (tracked : Bool × List Int) (letter : Int) (next : Int) (out : Bool × List Bool) (t13 : Bool × List DSaid) (t14 : Int) (t15 : Int) : spec_l13Now_L0 f tracked letter next out t13 t14 t15 =
 bif decide (t15 < t14) then
 bif decide (0 ≤ t15) then
 bif decide (t15 < (t13.2.length : Int)) then
 bif (((t13.2.getD (Int.toNat t15) (0, 0)).1) == 1) then
 bif decide ((IntKind.u64.wrap ((t13.2.getD (Int.toNat t15) (0, 0)).2)) < 0) then
 none
else 
 bif decide (out.2.length + [((bAnd .i64 (bShr .i64 letter (IntKind.u64.wrap ((t13.2.getD (Int.toNat t15) (0, 0)).2))) 1) == 1)].length ≤ lim) then
(spec_l13Now_L0 f tracked letter next ((out.1 && false), (out.2 ++ [((bAnd .i64 (bShr .i64 letter (IntKind.u64.wrap ((t13.2.getD (Int.toNat t15) (0, 0)).2))) 1) == 1)])) t13 t14 (IntKind.i64.wrap (t15 + 1))).bind fun r => some r
else none
else 
 bif (((t13.2.getD (Int.toNat t15) (0, 0)).1) == 2) then
 bif decide (out.2.length + [(((t13.2.getD (Int.toNat t15) (0, 0)).2) == 1)].length ≤ lim) then
(spec_l13Now_L0 f tracked letter next ((out.1 && false), (out.2 ++ [(((t13.2.getD (Int.toNat t15) (0, 0)).2) == 1)])) t13 t14 (IntKind.i64.wrap (t15 + 1))).bind fun r => some r
else none
else 
 bif (((t13.2.getD (Int.toNat t15) (0, 0)).1) == 3) then
 bif decide (0 ≤ (IntKind.i64.wrap (t15 - 1))) then
 bif decide ((IntKind.i64.wrap (t15 - 1)) < (out.2.length : Int)) then
 bif decide (out.2.length + [!(out.2.getD (Int.toNat (IntKind.i64.wrap (t15 - 1))) false)].length ≤ lim) then
(spec_l13Now_L0 f tracked letter next ((out.1 && false), (out.2 ++ [!(out.2.getD (Int.toNat (IntKind.i64.wrap (t15 - 1))) false)])) t13 t14 (IntKind.i64.wrap (t15 + 1))).bind fun r => some r
else none
else none
else none
else 
 bif (((t13.2.getD (Int.toNat t15) (0, 0)).1) == 4) then
(spec_l13Says tracked next (IntKind.i64.wrap (t15 - 1))).bind fun r =>
 bif decide (out.2.length + [r].length ≤ lim) then
(spec_l13Now_L0 f tracked letter next ((out.1 && false), (out.2 ++ [r])) t13 t14 (IntKind.i64.wrap (t15 + 1))).bind fun r => some r
else none
else 
 bif (((t13.2.getD (Int.toNat t15) (0, 0)).1) == 5) then
(spec_l10From f (IntKind.i64.wrap (t15 - 1))).bind fun r1 =>
 bif decide (0 ≤ (IntKind.i64.wrap (r1 - 1))) then
 bif decide ((IntKind.i64.wrap (r1 - 1)) < (out.2.length : Int)) then
 bif (out.2.getD (Int.toNat (IntKind.i64.wrap (r1 - 1))) false) then
 bif decide (0 ≤ (IntKind.i64.wrap (t15 - 1))) then
 bif decide ((IntKind.i64.wrap (t15 - 1)) < (out.2.length : Int)) then
 bif decide (out.2.length + [(out.2.getD (Int.toNat (IntKind.i64.wrap (t15 - 1))) false)].length ≤ lim) then
(spec_l13Now_L0 f tracked letter next ((out.1 && false), (out.2 ++ [(out.2.getD (Int.toNat (IntKind.i64.wrap (t15 - 1))) false)])) t13 t14 (IntKind.i64.wrap (t15 + 1))).bind fun r => some r
else none
else none
else none
else 
 bif decide (out.2.length + [false].length ≤ lim) then
(spec_l13Now_L0 f tracked letter next ((out.1 && false), (out.2 ++ [false])) t13 t14 (IntKind.i64.wrap (t15 + 1))).bind fun r => some r
else none
else none
else none
else 
 bif (((t13.2.getD (Int.toNat t15) (0, 0)).1) == 6) then
(spec_l10From f (IntKind.i64.wrap (t15 - 1))).bind fun r2 =>
 bif decide (0 ≤ (IntKind.i64.wrap (r2 - 1))) then
 bif decide ((IntKind.i64.wrap (r2 - 1)) < (out.2.length : Int)) then
 bif (out.2.getD (Int.toNat (IntKind.i64.wrap (r2 - 1))) false) then
 bif decide (out.2.length + [true].length ≤ lim) then
(spec_l13Now_L0 f tracked letter next ((out.1 && false), (out.2 ++ [true])) t13 t14 (IntKind.i64.wrap (t15 + 1))).bind fun r => some r
else none
else 
 bif decide (0 ≤ (IntKind.i64.wrap (t15 - 1))) then
 bif decide ((IntKind.i64.wrap (t15 - 1)) < (out.2.length : Int)) then
 bif decide (out.2.length + [(out.2.getD (Int.toNat (IntKind.i64.wrap (t15 - 1))) false)].length ≤ lim) then
(spec_l13Now_L0 f tracked letter next ((out.1 && false), (out.2 ++ [(out.2.getD (Int.toNat (IntKind.i64.wrap (t15 - 1))) false)])) t13 t14 (IntKind.i64.wrap (t15 + 1))).bind fun r => some r
else none
else none
else none
else none
else none
else 
 bif (((t13.2.getD (Int.toNat t15) (0, 0)).1) == 7) then
 bif decide (0 ≤ (IntKind.i64.wrap (t15 - 1))) then
 bif decide ((IntKind.i64.wrap (t15 - 1)) < (out.2.length : Int)) then
 bif (out.2.getD (Int.toNat (IntKind.i64.wrap (t15 - 1))) false) then
 bif decide (out.2.length + [true].length ≤ lim) then
(spec_l13Now_L0 f tracked letter next ((out.1 && false), (out.2 ++ [true])) t13 t14 (IntKind.i64.wrap (t15 + 1))).bind fun r => some r
else none
else 
(spec_l10From f (IntKind.i64.wrap (t15 - 1))).bind fun r3 =>
 bif decide (0 ≤ (IntKind.i64.wrap (r3 - 1))) then
 bif decide ((IntKind.i64.wrap (r3 - 1)) < (out.2.length : Int)) then
 bif (out.2.getD (Int.toNat (IntKind.i64.wrap (r3 - 1))) false) then
(spec_l13Says tracked next t15).bind fun r4 =>
 bif decide (out.2.length + [r4].length ≤ lim) then
(spec_l13Now_L0 f tracked letter next ((out.1 && false), (out.2 ++ [r4])) t13 t14 (IntKind.i64.wrap (t15 + 1))).bind fun r => some r
else none
else 
 bif decide (out.2.length + [false].length ≤ lim) then
(spec_l13Now_L0 f tracked letter next ((out.1 && false), (out.2 ++ [false])) t13 t14 (IntKind.i64.wrap (t15 + 1))).bind fun r => some r
else none
else none
else none
else none
else none
else 
 bif (((t13.2.getD (Int.toNat t15) (0, 0)).1) == 8) then
 bif decide (0 ≤ (IntKind.i64.wrap (t15 - 1))) then
 bif decide ((IntKind.i64.wrap (t15 - 1)) < (out.2.length : Int)) then
 bif (out.2.getD (Int.toNat (IntKind.i64.wrap (t15 - 1))) false) then
(spec_l10From f (IntKind.i64.wrap (t15 - 1))).bind fun r5 =>
 bif decide (0 ≤ (IntKind.i64.wrap (r5 - 1))) then
 bif decide ((IntKind.i64.wrap (r5 - 1)) < (out.2.length : Int)) then
 bif (out.2.getD (Int.toNat (IntKind.i64.wrap (r5 - 1))) false) then
 bif decide (out.2.length + [true].length ≤ lim) then
(spec_l13Now_L0 f tracked letter next ((out.1 && false), (out.2 ++ [true])) t13 t14 (IntKind.i64.wrap (t15 + 1))).bind fun r => some r
else none
else 
(spec_l13Says tracked next t15).bind fun r6 =>
 bif decide (out.2.length + [r6].length ≤ lim) then
(spec_l13Now_L0 f tracked letter next ((out.1 && false), (out.2 ++ [r6])) t13 t14 (IntKind.i64.wrap (t15 + 1))).bind fun r => some r
else none
else none
else none
else 
 bif decide (out.2.length + [false].length ≤ lim) then
(spec_l13Now_L0 f tracked letter next ((out.1 && false), (out.2 ++ [false])) t13 t14 (IntKind.i64.wrap (t15 + 1))).bind fun r => some r
else none
else none
else none
else 
 bif decide (out.2.length + [false].length ≤ lim) then
(spec_l13Now_L0 f tracked letter next ((out.1 && false), (out.2 ++ [false])) t13 t14 (IntKind.i64.wrap (t15 + 1))).bind fun r => some r
else none
else none
else none
else 
 some (out.1, out.2) := Eq.trans (inf_loop_eq (H := H) 47 0 (loopCode Tryz.f47 0) (f, (tracked, (letter, (next, (out, (t13, (t14, t15))))))) key_spec_l13Now) (by kernel_rfl)
theorem spec_l13Now_eq (f : Bool × List DSaid) (tracked : Bool × List Int) (letter : Int) (next : Int) : spec_l13Now f tracked letter next =
(spec_l13Now_L0 f tracked letter next (true, []) f (f.2.length : Int) 0).bind fun r =>
 some (r.1, r.2) := Eq.trans (inf_call_eq (H := H) 47 (f, (tracked, (letter, next)))) (by kernel_rfl)
theorem spec_EvalNow_eq (f : Bool × List DSaid) (letter : Int) (next : Int) : spec_EvalNow f letter next =
(spec_l13Asked f letter next).bind fun r =>
 bif !r then
 some ((true, []), false)
else 
(spec_l13Tracked f).bind fun r1 =>
(spec_l13Now f r1 letter next).bind fun r2 =>
 some ((r2.1, r2.2), true) := Eq.trans (inf_call_eq (H := H) 16 (f, (letter, next))) (by kernel_rfl)
theorem spec_l13Guess_L0_eq (now : Bool × List Bool) (guess : Int) (t18 : Bool × List Int) (t19 : Int) (t20 : Int) : spec_l13Guess_L0 now guess t18 t19 t20 =
 bif decide (t20 < t19) then
 bif decide (0 ≤ t20) then
 bif decide (t20 < (t18.2.length : Int)) then
 bif decide (0 ≤ (t18.2.getD (Int.toNat t20) 0)) then
 bif decide ((t18.2.getD (Int.toNat t20) 0) < (now.2.length : Int)) then
 bif (now.2.getD (Int.toNat (t18.2.getD (Int.toNat t20) 0)) false) then
 bif decide ((IntKind.u64.wrap t20) < 0) then
 none
else 
(spec_l13Guess_L0 now (bOr .i64 guess (bShl .i64 1 (IntKind.u64.wrap t20))) t18 t19 (IntKind.i64.wrap (t20 + 1))).bind fun r => some r
else 
(spec_l13Guess_L0 now guess t18 t19 (IntKind.i64.wrap (t20 + 1))).bind fun r => some r
else none
else none
else none
else none
else 
 some guess := Eq.trans (inf_loop_eq (H := H) 48 0 (loopCode Tryz.f48 0) (now, (guess, (t18, (t19, t20)))) key_spec_l13Guess) (by kernel_rfl)
theorem spec_l13Guess_eq (f : Bool × List DSaid) (tracked : Bool × List Int) (letter : Int) (next : Int) : spec_l13Guess f tracked letter next =
(spec_l13Now f tracked letter next).bind fun r =>
(spec_l13Guess_L0 (r.1, r.2) 0 tracked (tracked.2.length : Int) 0).bind fun r1 =>
 some r1 := Eq.trans (inf_call_eq (H := H) 48 (f, (tracked, (letter, next)))) (by kernel_rfl)
theorem spec_GuessOf_eq (f : Bool × List DSaid) (letter : Int) (next : Int) : spec_GuessOf f letter next =
(spec_l13Asked f letter next).bind fun r =>
 bif !r then
 some (0, false)
else 
(spec_l13Tracked f).bind fun r1 =>
(spec_l13Guess f r1 letter next).bind fun r2 =>
 some (r2, true) := Eq.trans (inf_call_eq (H := H) 17 (f, (letter, next))) (by kernel_rfl)
theorem laws_sameBools_L0_eq (a : Bool × List Bool) (b : Bool × List Bool) (t12 : Int) (t13 : Int) : laws_sameBools_L0 a b t12 t13 =
 bif decide (t13 < t12) then
 bif decide (0 ≤ t13) then
 bif decide (t13 < (a.2.length : Int)) then
 bif decide (0 ≤ t13) then
 bif decide (t13 < (b.2.length : Int)) then
 bif !((a.2.getD (Int.toNat t13) false) == (b.2.getD (Int.toNat t13) false)) then
 some (.inl false)
else 
(laws_sameBools_L0 a b t12 (IntKind.i64.wrap (t13 + 1))).bind fun r => some r
else none
else none
else none
else none
else 
 some (.inr ()) := Eq.trans (inf_loop_eq (H := H) 18 0 (loopCode Tryz.f18 0) (a, (b, (t12, t13))) key_laws_sameBools) (by kernel_rfl)
theorem laws_sameBools_eq (a : Bool × List Bool) (b : Bool × List Bool) : laws_sameBools a b =
 bif ((a.2.length : Int) != (b.2.length : Int)) then
 some false
else 
(laws_sameBools_L0 a b (a.2.length : Int) 0).bind fun r =>
 match r with
| .inl y =>
 some y
| .inr z =>
 some true := Eq.trans (inf_call_eq (H := H) 18 (a, b)) (by kernel_rfl)
theorem laws_FnOnlyRun_L0_eq (more : Bool × List Int) (f : Bool × List DSaid) (l : DLasso) (all_ : Bool × List Int) (a : DAuto) (one_ : Bool) (k_ : Int) : laws_FnOnlyRun_L0 more f l all_ a one_ k_ =
 bif decide ((IntKind.i64.wrap (k_ + 1)) < (all_.2.length : Int)) then
(impl_LetterAt l k_).bind fun r =>
 bif decide (0 ≤ (IntKind.i64.wrap (k_ + 1))) then
 bif decide ((IntKind.i64.wrap (k_ + 1)) < (all_.2.length : Int)) then
(impl_GuessOf f r.1 (all_.2.getD (Int.toNat (IntKind.i64.wrap (k_ + 1))) 0)).bind fun r1 =>
 bif decide (0 ≤ k_) then
 bif decide (k_ < (all_.2.length : Int)) then
(impl_StepAuto a (false, [(all_.2.getD (Int.toNat k_) 0)]) r.1).bind fun r2 =>
 bif !one_ then
 some (.inl false)
else 
 bif !r.2 then
 some (.inl false)
else 
 bif !r1.2 then
 some (.inl false)
else 
 bif !r2.2 then
 some (.inl false)
else 
 bif decide (0 ≤ k_) then
 bif decide (k_ < (all_.2.length : Int)) then
 bif (r1.1 != (all_.2.getD (Int.toNat k_) 0)) then
 some (.inl false)
else 
 bif decide (0 ≤ (IntKind.i64.wrap (k_ + 1))) then
 bif decide ((IntKind.i64.wrap (k_ + 1)) < (all_.2.length : Int)) then
(laws_has (r2.1.1, r2.1.2) (all_.2.getD (Int.toNat (IntKind.i64.wrap (k_ + 1))) 0)).bind fun r3 =>
 bif !r3 then
 some (.inl false)
else 
(laws_FnOnlyRun_L0 more f l all_ a one_ (IntKind.i64.wrap (k_ + 1))).bind fun r => some r
else none
else none
else none
else none
else none
else none
else none
else none
else 
 some (.inr ()) := Eq.trans (inf_loop_eq (H := H) 3 0 (loopCode Tryz.f3 0) (more, (f, (l, (all_, (a, (one_, k_)))))) key_laws_FnOnlyRun) (by kernel_rfl)
theorem laws_FnOnlyRun_eq (code : Bool × List Int) (more : Bool × List Int) : laws_FnOnlyRun code more =
(laws_big code more).bind fun r =>
 bif r then
 some true
else 
(spec_DrawRunFor code).bind fun r1 =>
(impl_RunFor (r1.1.1, r1.1.2) ((r1.2.1.1, r1.2.1.2), (r1.2.2.1, r1.2.2.2))).bind fun r2 =>
(spec_RunFor (r1.1.1, r1.1.2) ((r1.2.1.1, r1.2.1.2), (r1.2.2.1, r1.2.2.2))).bind fun r3 =>
 bif !(r2.2.2 == r3.2.2) then
 some false
else 
(laws_sameInts (r2.1.1, r2.1.2) (r3.1.1, r3.1.2)).bind fun r4 =>
 bif !r4 then
 some false
else 
(laws_sameInts (r2.2.1.1, r2.2.1.2) (r3.2.1.1, r3.2.1.2)).bind fun r5 =>
 bif !r5 then
 some false
else 
 bif r2.2.2 then
 bif decide (([] : List Int).length + r2.1.2.length ≤ lim) then
 bif decide (([] ++ r2.1.2).length + r2.2.1.2.length ≤ lim) then
 bif decide (0 < (r2.2.1.2.length : Int)) then
 bif decide ((([] ++ r2.1.2) ++ r2.2.1.2).length + [(r2.2.1.2.getD 0 0)].length ≤ lim) then
(impl_AutoFor (r1.1.1, r1.1.2)).bind fun r6 =>
(laws_FnOnlyRun_L0 more (r1.1.1, r1.1.2) ((r1.2.1.1, r1.2.1.2), (r1.2.2.1, r1.2.2.2)) (false, ((([] ++ r2.1.2) ++ r2.2.1.2) ++ [(r2.2.1.2.getD 0 0)])) r6.1 r6.2 0).bind fun r7 =>
 match r7 with
| .inl y =>
 some y
| .inr z =>
(spec_DrawEvalNow more).bind fun r8 =>
(impl_EvalNow (r8.1.1, r8.1.2) r8.2.1 r8.2.2).bind fun r9 =>
(spec_EvalNow (r8.1.1, r8.1.2) r8.2.1 r8.2.2).bind fun r10 =>
(impl_GuessOf (r8.1.1, r8.1.2) r8.2.1 r8.2.2).bind fun r11 =>
(spec_GuessOf (r8.1.1, r8.1.2) r8.2.1 r8.2.2).bind fun r12 =>
 bif (r9.2 == r10.2) then
(laws_sameBools (r9.1.1, r9.1.2) (r10.1.1, r10.1.2)).bind fun r13 =>
 bif r13 then
 bif (r11.2 == r12.2) then
 some (r11.1 == r12.1)
else 
 some false
else 
 some false
else 
 some false
else none
else none
else none
else none
else 
(spec_DrawEvalNow more).bind fun r14 =>
(impl_EvalNow (r14.1.1, r14.1.2) r14.2.1 r14.2.2).bind fun r15 =>
(spec_EvalNow (r14.1.1, r14.1.2) r14.2.1 r14.2.2).bind fun r16 =>
(impl_GuessOf (r14.1.1, r14.1.2) r14.2.1 r14.2.2).bind fun r17 =>
(spec_GuessOf (r14.1.1, r14.1.2) r14.2.1 r14.2.2).bind fun r18 =>
 bif (r15.2 == r16.2) then
(laws_sameBools (r15.1.1, r15.1.2) (r16.1.1, r16.1.2)).bind fun r19 =>
 bif r19 then
 bif (r17.2 == r18.2) then
 some (r17.1 == r18.1)
else 
 some false
else 
 some false
else 
 some false := Eq.trans (inf_call_eq (H := H) 3 (code, more)) (by kernel_rfl)
theorem fit : Fit Tryz.prog H := fit_of (exts := extsL) (tys := tysL) (cells := cellsL) (keys := keysL) (mtys := mtysL) rfl rfl rfl rfl rfl (iters := itersL) rfl (by kernel_rfl) (by kernel_rfl) (by kernel_rfl) ⟨⟨Tryz.func4, by kernel_rfl, by kernel_rfl⟩, ⟨Tryz.func75, by kernel_rfl, by kernel_rfl⟩, ⟨Tryz.func44, by kernel_rfl, by kernel_rfl⟩, ⟨Tryz.func52, by kernel_rfl, by kernel_rfl⟩, ⟨Tryz.func53, by kernel_rfl, by kernel_rfl⟩, ⟨Tryz.func49, by kernel_rfl, by kernel_rfl⟩, ⟨Tryz.func63, by kernel_rfl, by kernel_rfl⟩, ⟨Tryz.func90, by kernel_rfl, by kernel_rfl⟩, ⟨Tryz.func91, by kernel_rfl, by kernel_rfl⟩, ⟨Tryz.func62, by kernel_rfl, by kernel_rfl⟩, ⟨Tryz.func67, by kernel_rfl, by kernel_rfl⟩, ⟨Tryz.func30, by kernel_rfl, by kernel_rfl⟩, ⟨Tryz.func27, by kernel_rfl, by kernel_rfl⟩, ⟨Tryz.func50, by kernel_rfl, by kernel_rfl⟩, ⟨Tryz.func19, by kernel_rfl, by kernel_rfl⟩, ⟨Tryz.func51, by kernel_rfl, by kernel_rfl⟩, ⟨Tryz.func20, by kernel_rfl, by kernel_rfl⟩, ⟨Tryz.func5, by kernel_rfl, by kernel_rfl⟩, ⟨Tryz.func59, by kernel_rfl, by kernel_rfl⟩, ⟨Tryz.func79, by kernel_rfl, by kernel_rfl⟩, ⟨Tryz.func54, by kernel_rfl, by kernel_rfl⟩, ⟨Tryz.func26, by kernel_rfl, by kernel_rfl⟩, ⟨Tryz.func56, by kernel_rfl, by kernel_rfl⟩, ⟨Tryz.func57, by kernel_rfl, by kernel_rfl⟩, ⟨Tryz.func58, by kernel_rfl, by kernel_rfl⟩, ⟨Tryz.func23, by kernel_rfl, by kernel_rfl⟩, ⟨Tryz.func21, by kernel_rfl, by kernel_rfl⟩, ⟨Tryz.func81, by kernel_rfl, by kernel_rfl⟩, ⟨Tryz.func100, by kernel_rfl, by kernel_rfl⟩, ⟨Tryz.func80, by kernel_rfl, by kernel_rfl⟩, ⟨Tryz.func55, by kernel_rfl, by kernel_rfl⟩, ⟨Tryz.func22, by kernel_rfl, by kernel_rfl⟩, ⟨Tryz.func25, by kernel_rfl, by kernel_rfl⟩, ⟨Tryz.func136, by kernel_rfl, by kernel_rfl⟩, ⟨Tryz.func129, by kernel_rfl, by kernel_rfl⟩, ⟨Tryz.func112, by kernel_rfl, by kernel_rfl⟩, ⟨Tryz.func89, by kernel_rfl, by kernel_rfl⟩, ⟨Tryz.func85, by kernel_rfl, by kernel_rfl⟩, ⟨Tryz.func84, by kernel_rfl, by kernel_rfl⟩, ⟨Tryz.func87, by kernel_rfl, by kernel_rfl⟩, ⟨Tryz.func86, by kernel_rfl, by kernel_rfl⟩, ⟨Tryz.func88, by kernel_rfl, by kernel_rfl⟩, ⟨Tryz.func86, by kernel_rfl, by kernel_rfl⟩, ⟨Tryz.func36, by kernel_rfl, by kernel_rfl⟩, ⟨Tryz.func60, by kernel_rfl, by kernel_rfl⟩, ⟨Tryz.func24, by kernel_rfl, by kernel_rfl⟩, ⟨Tryz.func6, by kernel_rfl, by kernel_rfl⟩, ⟨Tryz.func64, by kernel_rfl, by kernel_rfl⟩, ⟨Tryz.func28, by kernel_rfl, by kernel_rfl⟩, ⟨Tryz.func66, by kernel_rfl, by kernel_rfl⟩, ⟨Tryz.func78, by kernel_rfl, by kernel_rfl⟩, ⟨Tryz.func65, by kernel_rfl, by kernel_rfl⟩, ⟨Tryz.func29, by kernel_rfl, by kernel_rfl⟩, ⟨Tryz.func31, by kernel_rfl, by kernel_rfl⟩, ⟨Tryz.func32, by kernel_rfl, by kernel_rfl⟩, ⟨Tryz.func7, by kernel_rfl, by kernel_rfl⟩, ⟨Tryz.func8, by kernel_rfl, by kernel_rfl⟩, ⟨Tryz.func68, by kernel_rfl, by kernel_rfl⟩, ⟨Tryz.func74, by kernel_rfl, by kernel_rfl⟩, ⟨Tryz.func76, by kernel_rfl, by kernel_rfl⟩, ⟨Tryz.func93, by kernel_rfl, by kernel_rfl⟩, ⟨Tryz.func92, by kernel_rfl, by kernel_rfl⟩, ⟨Tryz.func69, by kernel_rfl, by kernel_rfl⟩, ⟨Tryz.func94, by kernel_rfl, by kernel_rfl⟩, ⟨Tryz.func92, by kernel_rfl, by kernel_rfl⟩, ⟨Tryz.func70, by kernel_rfl, by kernel_rfl⟩, ⟨Tryz.func45, by kernel_rfl, by kernel_rfl⟩, ⟨Tryz.func38, by kernel_rfl, by kernel_rfl⟩, ⟨Tryz.func71, by kernel_rfl, by kernel_rfl⟩, ⟨Tryz.func34, by kernel_rfl, by kernel_rfl⟩, ⟨Tryz.func40, by kernel_rfl, by kernel_rfl⟩, ⟨Tryz.func99, by kernel_rfl, by kernel_rfl⟩, ⟨Tryz.func123, by kernel_rfl, by kernel_rfl⟩, ⟨Tryz.func98, by kernel_rfl, by kernel_rfl⟩, ⟨Tryz.func73, by kernel_rfl, by kernel_rfl⟩, ⟨Tryz.func122, by kernel_rfl, by kernel_rfl⟩, ⟨Tryz.func97, by kernel_rfl, by kernel_rfl⟩, ⟨Tryz.func96, by kernel_rfl, by kernel_rfl⟩, ⟨Tryz.func72, by kernel_rfl, by kernel_rfl⟩, ⟨Tryz.func39, by kernel_rfl, by kernel_rfl⟩, ⟨Tryz.func33, by kernel_rfl, by kernel_rfl⟩, ⟨Tryz.func9, by kernel_rfl, by kernel_rfl⟩, ⟨Tryz.func35, by kernel_rfl, by kernel_rfl⟩, ⟨Tryz.func10, by kernel_rfl, by kernel_rfl⟩, ⟨Tryz.func41, by kernel_rfl, by kernel_rfl⟩, ⟨Tryz.func37, by kernel_rfl, by kernel_rfl⟩, ⟨Tryz.func11, by kernel_rfl, by kernel_rfl⟩, ⟨Tryz.func42, by kernel_rfl, by kernel_rfl⟩, ⟨Tryz.func43, by kernel_rfl, by kernel_rfl⟩, ⟨Tryz.func12, by kernel_rfl, by kernel_rfl⟩, ⟨Tryz.func13, by kernel_rfl, by kernel_rfl⟩, ⟨Tryz.func14, by kernel_rfl, by kernel_rfl⟩, ⟨Tryz.func15, by kernel_rfl, by kernel_rfl⟩, ⟨Tryz.func46, by kernel_rfl, by kernel_rfl⟩, ⟨Tryz.func77, by kernel_rfl, by kernel_rfl⟩, ⟨Tryz.func47, by kernel_rfl, by kernel_rfl⟩, ⟨Tryz.func16, by kernel_rfl, by kernel_rfl⟩, ⟨Tryz.func48, by kernel_rfl, by kernel_rfl⟩, ⟨Tryz.func17, by kernel_rfl, by kernel_rfl⟩, ⟨Tryz.func18, by kernel_rfl, by kernel_rfl⟩, ⟨Tryz.func3, by kernel_rfl, by kernel_rfl⟩, trivial⟩ ⟨clone61, back113, trivial⟩ ⟨⟨.bool, by kernel_rfl, iter130⟩, trivial⟩ (by kernel_rfl)
theorem nats : NatOk Tryz.prog H := nat_of (keys := keysL) rfl ⟨.plain rfl, .plain rfl, .plain rfl, .plain rfl, .plain rfl, .plain rfl, .plain rfl, .plain rfl, .plain rfl, .plain rfl, .plain rfl, .plain rfl, .plain rfl, .plain rfl, .plain rfl, .plain rfl, .plain rfl, .plain rfl, .plain rfl, .plain rfl, .plain rfl, .plain rfl, .plain rfl, .sort Tryz.sortOk, .compact (by decide) Tryz.compactOk, .plain rfl, .plain rfl, .plain rfl, .plain rfl, .plain rfl, .plain rfl, .plain rfl, .plain rfl, .plain rfl, .plain rfl, .plain rfl, .plain rfl, .plain rfl, .plain rfl, .plain rfl, .plain rfl, .plain rfl, .plain rfl, .plain rfl, .plain rfl, .plain rfl, .plain rfl, .plain rfl, .plain rfl, .plain rfl, .plain rfl, .plain rfl, .plain rfl, .plain rfl, .plain rfl, .plain rfl, .plain rfl, .plain rfl, .plain rfl, .plain rfl, .plain rfl, .plain rfl, .plain rfl, .plain rfl, .plain rfl, .plain rfl, .plain rfl, .plain rfl, .sortf Tryz.sortfOk, .plain rfl, .plain rfl, .plain rfl, .plain rfl, .plain rfl, .plain rfl, .plain rfl, .plain rfl, .plain rfl, .plain rfl, .plain rfl, .plain rfl, .plain rfl, .plain rfl, .plain rfl, .plain rfl, .plain rfl, .plain rfl, .plain rfl, .plain rfl, .plain rfl, .plain rfl, .plain rfl, .plain rfl, .plain rfl, .plain rfl, .plain rfl, .plain rfl, .plain rfl, .plain rfl, .plain rfl, .plain rfl, trivial⟩
end Go.Proofs.YtnnoohfloniinaaGreat.R
