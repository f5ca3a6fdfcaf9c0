/- Kinds, signatures and loops of the functions that the laws reach, and what each computes. -/
import Derived.Test.YtnnoohfloniinaaRfD
import Derived.Test.YtnnoohfloniinaaProg
import Derived.KernelRfl
set_option linter.unusedVariables false
namespace Go.Proofs.Ytnnoohfloniinaa.R
open Go.Rf Go.Proofs
def tyl1Cur : Ty := (.pair (.sl (.int .u8)) (.pair (.int .i64) (.int .u64)))
abbrev Dl1Cur := (Bool × List Int) × Int × Int
def tyGate : Ty := (.pair (.int .i64) (.pair (.int .i64) (.int .i64)))
abbrev DGate := Int × Int × Int
def tyboundsError : Ty := (.pair (.int .i64) (.pair (.int .i64) (.pair .bool (.int .u8))))
abbrev DboundsError := Int × Int × Bool × Int
def tyGraph : Ty := (.one (.sl (.sl (.int .i64))))
abbrev DGraph := Bool × List (Bool × List Int)
def tyl11Walk : Ty := (.pair (.sl (.sl (.int .i64))) (.pair (.sl .bool) (.sl (.int .i64))))
abbrev Dl11Walk := (Bool × List (Bool × List Int)) × (Bool × List Bool) × Bool × List Int
def tyCircuit : Ty := (.pair (.int .i64) (.pair (.sl tyGate) (.sl (.int .i64))))
abbrev DCircuit := Int × (Bool × List DGate) × Bool × List Int
def tytarjan : Ty := (.pair (.sl (.sl (.int .i64))) (.pair (.sl (.int .i64)) (.pair (.sl (.int .i64)) (.pair (.sl (.int .i64)) (.pair (.sl (.int .i64)) (.int .i64))))))
abbrev Dtarjan := (Bool × List (Bool × List Int)) × (Bool × List Int) × (Bool × List Int) × (Bool × List Int) × (Bool × List Int) × Int
noncomputable def h_laws_big : FnH := ⟨7, Try.f7, (.tup (.v (.sl (.int .u8))) (.tup (.v (.sl (.int .u8))) .unit)), (.tup (.v .bool) .unit), [], [], [], [], [], none⟩
noncomputable def h_spec_l1Cur_next : FnH := ⟨100, Try.f100, (.tup (.box 206849 (.pair (.v (.sl (.int .u8))) (.pair (.v (.int .i64)) (.v (.int .u64))))) .unit), (.tup (.box 206849 (.v tyl1Cur)) (.tup (.v (.int .i64)) .unit)), [206849], [], [], [], [], none⟩
noncomputable def h_spec_l1Cur_pick : FnH := ⟨70, Try.f70, (.tup (.box 206850 (.v tyl1Cur)) (.tup (.v (.int .i64)) .unit)), (.tup (.box 206850 (.v tyl1Cur)) (.tup (.v (.int .i64)) .unit)), [206850], [], [], [], [], none⟩
noncomputable def h_spec_l1Put : FnH := ⟨79, Try.f79, (.tup (.own 206855 (.int .i64) true) (.tup (.v (.int .i64)) .unit)), (.tup .any (.tup (.own 206856 (.int .i64) true) .unit)), [206855], [], [(0, ⟨[(0, (.v (.sl (.int .i64)))), (1, (.v (.int .i64))), (5, (.v (.int .i64)))], [(.exit 0, [(5, (.v (.int .i64)))])], [0, 1]⟩)], [], [], none⟩
noncomputable def h_spec_l1Cur_graph : FnH := ⟨43, Try.f43, (.tup (.box 206851 (.v tyl1Cur)) .unit), (.tup (.box 206851 (.v tyl1Cur)) (.tup (.one (.own 206869 (.sl (.int .i64)) true)) .unit)), [206851], [], [(0, ⟨[(0, (.box 206852 (.v tyl1Cur))), (3, (.v (.int .i64))), (4, (.box 206860 (.one (.own 206861 (.sl (.int .i64)) true)))), (5, (.v (.int .i64)))], [(.exit 0, [(2206852, (.box 206852 (.v tyl1Cur))), (2206860, (.box 206860 (.one (.own 206865 (.sl (.int .i64)) true))))])], [0, 2, 3, 4]⟩), (2, ⟨[(0, (.box 206854 (.v tyl1Cur))), (3, (.v (.int .i64))), (5, (.v (.int .i64))), (6, (.own 206853 (.int .i64) true)), (7, (.v (.int .i64)))], [(.exit 2, [(2206854, (.box 206854 (.v tyl1Cur))), (6, (.own 206858 (.int .i64) true))])], [0, 3, 4, 5]⟩), (5, ⟨[(0, (.box 206871 (.v tyl1Cur))), (4, (.box 206873 (.one (.own 206874 (.sl (.int .i64)) true))))], [(.exit 5, [(2206871, (.box 206871 (.v tyl1Cur))), (2206873, (.box 206873 (.one (.own 206877 (.sl (.int .i64)) true))))])], [2, 4]⟩)], [], [], none⟩
noncomputable def h_spec_l1Cur_one : FnH := ⟨80, Try.f80, (.tup (.box 206886 (.v tyl1Cur)) (.tup (.v (.int .i64)) .unit)), (.tup (.box 206886 (.v tyl1Cur)) (.tup (.v .bool) .unit)), [206886], [], [], [], [], none⟩
noncomputable def h_spec_l1Cur_someOf : FnH := ⟨44, Try.f44, (.tup (.box 206879 (.v tyl1Cur)) (.tup (.v (.int .i64)) (.tup (.v (.int .i64)) .unit))), (.tup (.box 206879 (.v tyl1Cur)) (.tup (.own 206887 (.int .i64) true) .unit)), [206879], [], [(0, ⟨[(0, (.box 206881 (.v tyl1Cur))), (1, (.v (.int .i64))), (7, (.own 206880 (.int .i64) true)), (8, (.v (.int .i64)))], [(.exit 0, [(2206881, (.box 206881 (.v tyl1Cur))), (7, (.own 206884 (.int .i64) true))])], [0, 1]⟩)], [], [], none⟩
noncomputable def h_spec_l1Cur_goals : FnH := ⟨72, Try.f72, (.tup (.box 206889 (.v tyl1Cur)) (.tup (.v (.int .i64)) .unit)), (.tup (.box 206889 (.v tyl1Cur)) (.tup (.own 206893 (.sl (.int .i64)) true) .unit)), [206889], [], [(0, ⟨[(0, (.box 206891 (.v tyl1Cur))), (1, (.v (.int .i64))), (5, (.own 206890 (.sl (.int .i64)) true)), (6, (.v (.int .i64)))], [(.exit 0, [(2206891, (.box 206891 (.v tyl1Cur))), (5, (.own 206892 (.sl (.int .i64)) true))])], [0]⟩)], [], [], none⟩
noncomputable def h_spec_DrawFairLasso : FnH := ⟨37, Try.f37, (.tup (.v (.sl (.int .u8))) .unit), (.tup (.one (.own 206894 (.sl (.int .i64)) true)) (.tup (.own 206895 (.int .i64) true) (.tup (.own 206896 (.sl (.int .i64)) true) .unit))), [], [], [], [], [], none⟩
noncomputable def h_impl_isIncreasing : FnH := ⟨46, Try.f46, (.tup (.v (.sl (.int .i64))) (.tup (.v (.int .i64)) .unit)), (.tup (.v .bool) .unit), [], [], [(0, ⟨[(0, (.v (.sl (.int .i64)))), (1, (.v (.int .i64))), (7, (.v (.sl (.int .i64)))), (8, (.v (.int .i64))), (9, (.v (.int .i64)))], [(.ret, [(4, (.v .bool))]), (.exit 0, [])], []⟩)], [], [], none⟩
noncomputable def h_impl_GoodGraph : FnH := ⟨21, Try.f21, (.tup (.v tyGraph) .unit), (.tup (.v .bool) .unit), [], [], [(0, ⟨[(1, (.sp tyGraph)), (3, (.v (.int .i64))), (11, (.v (.sl (.sl (.int .i64))))), (12, (.v (.int .i64))), (13, (.v (.int .i64)))], [(.ret, [(2, (.v .bool))]), (.exit 0, [(3, (.v (.int .i64)))])], []⟩)], [], [], none⟩
noncomputable def h_impl_isGraphFrom : FnH := ⟨45, Try.f45, (.tup (.v tyGraph) (.tup (.v (.sl (.int .i64))) .unit)), (.tup (.v .bool) .unit), [], [], [], [], [], none⟩
noncomputable def h_impl_areGoals_1 : FnH := ⟨104, Try.f104, (.tup (.v (.sl (.int .i64))) (.tup (.sp (.int .i64)) .unit)), (.tup (.v .bool) .unit), [], [], [], [], [], none⟩
noncomputable def h_slices_IndexFunc_int_by_areGoals_1 : FnH := ⟨118, Try.f118, (.tup (.v (.sl (.sl (.int .i64)))) (.tup (.v (.fn 104 (.pair (.int .i64) .nil))) .unit)), (.tup (.v (.int .i64)) .unit), [], [], [(0, ⟨[(0, (.v (.sl (.sl (.int .i64))))), (1, (.v (.fn 104 (.pair (.int .i64) .nil)))), (7, (.v (.int .i64))), (8, (.v (.int .i64)))], [(.ret, [(4, (.v (.int .i64)))]), (.exit 0, [])], []⟩)], [], [], none⟩
noncomputable def h_slices_ContainsFunc_int_by_areGoals_1 : FnH := ⟨103, Try.f103, (.tup (.v (.sl (.sl (.int .i64)))) (.tup (.v (.fn 104 (.pair (.int .i64) .nil))) .unit)), (.tup (.v .bool) .unit), [], [], [], [], [], none⟩
noncomputable def h_impl_areGoals : FnH := ⟨73, Try.f73, (.tup (.v (.sl (.sl (.int .i64)))) (.tup (.v (.int .i64)) .unit)), (.tup (.v .bool) .unit), [], [], [], [], [], none⟩
noncomputable def h_bits_Mul64 : FnH := ⟨120, Try.f120, (.tup (.v (.int .u64)) (.tup (.v (.int .u64)) .unit)), (.tup (.v (.int .u64)) (.tup (.v (.int .u64)) .unit)), [], [], [], [], [], none⟩
noncomputable def h_bits_Mul : FnH := ⟨114, Try.f114, (.tup (.v (.int .u64)) (.tup (.v (.int .u64)) .unit)), (.tup (.v (.int .u64)) (.tup (.v (.int .u64)) .unit)), [], [], [], [], [], none⟩
noncomputable def h_slices_Repeat_int : FnH := ⟨86, Try.f86, (.tup (.v (.sl (.int .i64))) (.tup (.v (.int .i64)) .unit)), (.tup (.own 206898 (.int .i64) true) .unit), [], [], [(0, ⟨[(7, (.own 206897 (.int .i64) true)), (8, (.v (.int .i64)))], [(.exit 0, [(1206897, (.own 206897 (.int .i64) true))])], [7]⟩)], [], [], none⟩
noncomputable def h_slices_Clone_int : FnH := ⟨108, Try.f108, (.tup (.v (.sl (.int .i64))) .unit), (.tup (.own 206899 (.int .i64) true) .unit), [], [], [], [], [], none⟩
noncomputable def h_impl_stepsFrom : FnH := ⟨81, Try.f81, (.tup (.v (.sl (.sl (.int .i64)))) (.tup (.v (.sl (.int .i64))) .unit)), (.tup (.own 206906 (.int .i64) true) .unit), [], [], [(0, ⟨[(0, (.v (.sl (.sl (.int .i64))))), (5, (.own 206900 (.int .i64) true)), (6, (.v (.sl (.int .i64)))), (17, (.v (.sl (.int .i64)))), (18, (.v (.int .i64))), (19, (.v (.int .i64)))], [(.exit 0, [(1206900, (.own 206900 (.int .i64) true))])], [0, 5, 6]⟩), (2, ⟨[(0, (.v (.sl (.sl (.int .i64))))), (5, (.own 206904 (.int .i64) true)), (6, (.own 206901 (.int .i64) true))], [(.exit 2, [(1206904, (.own 206904 (.int .i64) true))])], [5]⟩), (4, ⟨[(0, (.v (.sl (.sl (.int .i64))))), (5, (.own 206903 (.int .i64) true)), (6, (.own 206902 (.int .i64) true)), (37, (.v (.sl (.int .i64)))), (38, (.v (.int .i64))), (39, (.v (.int .i64)))], [(.exit 4, [(1206903, (.own 206903 (.int .i64) true)), (6, (.own 206905 (.int .i64) true))])], [0, 5]⟩)], [], [], none⟩
noncomputable def h_slices_Index_int : FnH := ⟨89, Try.f89, (.tup (.v (.sl (.int .i64))) (.tup (.v (.int .i64)) .unit)), (.tup (.v (.int .i64)) .unit), [], [], [(0, ⟨[(0, (.v (.sl (.int .i64)))), (1, (.v (.int .i64))), (7, (.v (.int .i64))), (8, (.v (.int .i64)))], [(.ret, [(4, (.v (.int .i64)))]), (.exit 0, [])], []⟩)], [], [], none⟩
noncomputable def h_slices_Min_int : FnH := ⟨115, Try.f115, (.tup (.v (.sl (.int .i64))) .unit), (.tup (.v (.int .i64)) .unit), [], [], [(0, ⟨[(0, (.v (.sl (.int .i64)))), (3, (.v (.int .i64))), (4, (.v (.int .i64)))], [(.exit 0, [(3, (.v (.int .i64)))])], []⟩)], [], [], none⟩
noncomputable def h_impl_tarjan_visit : FnH := ⟨87, Try.f87, (.tup (.box 206907 (.pair (.v (.sl (.sl (.int .i64)))) (.pair (.own 206908 (.int .i64) true) (.pair (.own 206909 (.int .i64) true) (.pair (.own 206925 (.int .i64) true) (.pair (.own 206910 (.int .i64) true) (.v (.int .i64)))))))) (.tup (.v (.int .i64)) .unit)), (.tup (.box 206907 (.pair (.v (.sl (.sl (.int .i64)))) (.pair (.own 206915 (.int .i64) true) (.pair (.own 206916 (.int .i64) true) (.pair (.own 206926 (.int .i64) true) (.pair (.own 206917 (.int .i64) true) (.v (.int .i64)))))))) .unit), [206907], [], [(0, ⟨[(0, (.box 206911 (.pair (.v (.sl (.sl (.int .i64)))) (.pair (.own 206912 (.int .i64) true) (.pair (.own 206913 (.int .i64) true) (.pair (.own 206924 (.int .i64) true) (.pair (.own 206914 (.int .i64) true) (.v (.int .i64))))))))), (1, (.v (.int .i64))), (53, (.v (.sl (.int .i64)))), (54, (.v (.int .i64))), (55, (.v (.int .i64)))], [(.exit 0, [(2206911, (.box 206911 (.pair (.v (.sl (.sl (.int .i64)))) (.pair (.own 206927 (.int .i64) true) (.pair (.own 206928 (.int .i64) true) (.pair (.own 206929 (.int .i64) true) (.pair (.own 206930 (.int .i64) true) (.v (.int .i64)))))))))])], [0, 1]⟩), (2, ⟨[(0, (.box 206921 (.pair (.v (.sl (.sl (.int .i64)))) (.pair (.own 206931 (.int .i64) true) (.pair (.own 206933 (.int .i64) true) (.pair (.own 206922 (.int .i64) true) (.pair (.own 206936 (.int .i64) true) (.v (.int .i64))))))))), (6, (.v (.int .i64))), (7, (.v (.int .i64))), (154, (.subr 206936 (.int .i64))), (155, (.v (.int .i64))), (156, (.v (.int .i64)))], [(.exit 2, [(2206921, (.box 206921 (.pair (.v (.sl (.sl (.int .i64)))) (.pair (.own 206932 (.int .i64) true) (.pair (.own 206934 (.int .i64) true) (.pair (.own 206922 (.int .i64) true) (.pair (.own 206935 (.int .i64) true) (.v (.int .i64)))))))))])], [0, 6]⟩)], [], [], none⟩
noncomputable def h_impl_parts : FnH := ⟨53, Try.f53, (.tup (.v (.sl (.sl (.int .i64)))) .unit), (.tup (.own 206946 (.int .i64) true) .unit), [], [], [(0, ⟨[(4, (.box 206937 (.pair (.v (.sl (.sl (.int .i64)))) (.pair (.own 206938 (.int .i64) true) (.pair (.own 206939 (.int .i64) true) (.pair (.own 206940 (.int .i64) true) (.pair (.own 206941 (.int .i64) true) (.v (.int .i64))))))))), (19, (.v (.int .i64))), (20, (.v (.int .i64)))], [(.exit 0, [(2206937, (.box 206937 (.pair (.v (.sl (.sl (.int .i64)))) (.pair (.own 206942 (.int .i64) true) (.pair (.own 206943 (.int .i64) true) (.pair (.own 206944 (.int .i64) true) (.pair (.own 206945 (.int .i64) true) (.v (.int .i64)))))))))])], [4]⟩)], [], [], none⟩
noncomputable def h_impl_fairVertices : FnH := ⟨112, Try.f112, (.tup (.v (.sl (.sl (.int .i64)))) (.tup (.v (.sl (.sl (.int .i64)))) .unit)), (.tup (.own 206953 .bool true) .unit), [], [], [(0, ⟨[(1, (.v (.sl (.sl (.int .i64))))), (5, (.v (.sl (.int .i64)))), (6, (.v (.int .i64))), (7, (.own 206948 .bool true)), (8, (.v (.sl .bool))), (28, (.v (.sl (.sl (.int .i64))))), (29, (.v (.int .i64))), (30, (.v (.int .i64)))], [(.exit 0, [(1206948, (.own 206948 .bool true))])], [1, 5, 6, 7, 8]⟩), (2, ⟨[(1, (.v (.sl (.sl (.int .i64))))), (5, (.v (.sl (.int .i64)))), (6, (.v (.int .i64))), (7, (.own 206947 .bool true)), (8, (.v (.sl .bool))), (9, (.v (.int .i64))), (28, (.v (.sl (.sl (.int .i64))))), (29, (.v (.int .i64))), (30, (.v (.int .i64))), (35, (.v (.sl (.int .i64)))), (36, (.v (.int .i64))), (37, (.v (.int .i64)))], [(.exit 2, [(1206947, (.own 206947 .bool true))])], [1, 5, 6, 7, 8, 28, 29, 30]⟩), (4, ⟨[(5, (.v (.sl (.int .i64)))), (6, (.v (.int .i64))), (7, (.own 206951 .bool true)), (8, (.v (.sl .bool))), (67, (.v (.sl (.sl (.int .i64))))), (68, (.v (.int .i64))), (69, (.v (.int .i64)))], [(.exit 4, [(1206951, (.own 206951 .bool true))])], [5, 7, 8]⟩), (6, ⟨[(5, (.v (.sl (.int .i64)))), (6, (.v (.int .i64))), (7, (.v (.sl .bool))), (8, (.v (.sl .bool))), (15, (.own 206949 .bool true)), (67, (.v (.sl (.sl (.int .i64))))), (68, (.v (.int .i64))), (69, (.v (.int .i64))), (75, (.v (.sl (.int .i64)))), (76, (.v (.int .i64))), (77, (.v (.int .i64)))], [(.exit 6, [(1206949, (.own 206949 .bool true))])], [5, 6, 7, 8, 15, 67, 68, 69]⟩), (8, ⟨[(5, (.v (.sl (.int .i64)))), (6, (.v (.int .i64))), (7, (.own 206950 .bool true)), (8, (.v (.sl .bool))), (15, (.v (.sl .bool))), (67, (.v (.sl (.sl (.int .i64))))), (68, (.v (.int .i64))), (69, (.v (.int .i64))), (89, (.v (.int .i64))), (90, (.v (.int .i64)))], [(.exit 8, [(1206950, (.own 206950 .bool true))])], [5, 6, 7, 8, 67, 68, 69]⟩), (10, ⟨[(5, (.v (.sl (.int .i64)))), (7, (.v (.sl .bool))), (8, (.own 206952 .bool true)), (109, (.v (.int .i64))), (110, (.v (.int .i64)))], [(.exit 10, [(1206952, (.own 206952 .bool true))])], [8]⟩)], [], [], none⟩
noncomputable def h_impl_meeting : FnH := ⟨105, Try.f105, (.tup (.v (.sl (.sl (.int .i64)))) (.tup (.v (.sl (.int .i64))) (.tup (.v (.sl (.sl (.int .i64)))) .unit))), (.tup (.v (.int .i64)) .unit), [], [], [(0, ⟨[(7, (.v (.sl (.int .i64)))), (8, (.v (.int .i64))), (16, (.v (.sl .bool))), (17, (.v (.int .i64))), (18, (.v (.int .i64)))], [(.exit 0, [(8, (.v (.int .i64)))])], []⟩)], [], [], none⟩
noncomputable def h_impl_turned : FnH := ⟨55, Try.f55, (.tup (.v (.sl (.sl (.int .i64)))) .unit), (.tup (.own 206956 (.sl (.int .i64)) true) .unit), [], [], [(0, ⟨[(3, (.own 206955 (.sl (.int .i64)) true)), (11, (.v (.sl (.sl (.int .i64))))), (12, (.v (.int .i64))), (13, (.v (.int .i64)))], [(.exit 0, [(1206955, (.own 206955 (.sl (.int .i64)) true))])], [3]⟩), (2, ⟨[(3, (.own 206954 (.sl (.int .i64)) true)), (4, (.v (.int .i64))), (11, (.v (.sl (.sl (.int .i64))))), (12, (.v (.int .i64))), (13, (.v (.int .i64))), (18, (.v (.sl (.int .i64)))), (19, (.v (.int .i64))), (20, (.v (.int .i64)))], [(.exit 2, [(1206954, (.own 206954 (.sl (.int .i64)) true))])], [3, 11, 12, 13]⟩)], [], [], none⟩
noncomputable def h_impl_leastWay_1 : FnH := ⟨83, Try.f83, (.tup (.v (.int .i64)) (.tup (.sp (.sl (.int .i64))) (.tup (.sp (.int .i64)) .unit))), (.tup (.v .bool) .unit), [], [], [], [], [], none⟩
noncomputable def h_slices_IndexFunc_int_by_leastWay_1 : FnH := ⟨82, Try.f82, (.tup (.v (.sl (.int .i64))) (.tup (.v (.fn 83 (.pair (.sl (.int .i64)) (.pair (.int .i64) .nil)))) .unit)), (.tup (.v (.int .i64)) .unit), [], [], [(0, ⟨[(0, (.v (.sl (.int .i64)))), (1, (.v (.fn 83 (.pair (.sl (.int .i64)) (.pair (.int .i64) .nil))))), (7, (.v (.int .i64))), (8, (.v (.int .i64)))], [(.ret, [(4, (.v (.int .i64)))]), (.exit 0, [])], []⟩)], [], [], none⟩
noncomputable def h_impl_leastWay : FnH := ⟨47, Try.f47, (.tup (.v (.sl (.sl (.int .i64)))) (.tup (.v (.sl (.int .i64))) (.tup (.v (.sl (.int .i64))) .unit))), (.tup (.own 206960 (.int .i64) true) .unit), [], [], [(0, ⟨[(0, (.v (.sl (.sl (.int .i64))))), (7, (.sp (.sl (.int .i64)))), (8, (.v (.int .i64))), (18, (.v (.sl (.int .i64)))), (19, (.v (.int .i64))), (20, (.v (.int .i64)))], [(.exit 0, [(8, (.v (.int .i64)))])], [0, 7]⟩), (2, ⟨[(0, (.v (.sl (.sl (.int .i64))))), (7, (.sp (.sl (.int .i64)))), (11, (.own 206957 (.int .i64) true)), (12, (.box 206958 (.v (.int .i64))))], [(.exit 2, [(11, (.own 206959 (.int .i64) true))])], []⟩)], [], [], none⟩
noncomputable def h_impl_inside : FnH := ⟨106, Try.f106, (.tup (.v (.sl (.sl (.int .i64)))) (.tup (.v (.sl (.int .i64))) (.tup (.v (.int .i64)) .unit))), (.tup (.own 206963 (.sl (.int .i64)) false) .unit), [], [], [(0, ⟨[(1, (.v (.sl (.int .i64)))), (2, (.v (.int .i64))), (7, (.own 206962 (.sl (.int .i64)) true)), (15, (.v (.sl (.sl (.int .i64))))), (16, (.v (.int .i64))), (17, (.v (.int .i64)))], [(.exit 0, [(1206962, (.own 206962 (.sl (.int .i64)) true))])], [7]⟩), (2, ⟨[(1, (.v (.sl (.int .i64)))), (2, (.v (.int .i64))), (7, (.own 206961 (.sl (.int .i64)) true)), (8, (.v (.int .i64))), (15, (.v (.sl (.sl (.int .i64))))), (16, (.v (.int .i64))), (17, (.v (.int .i64))), (22, (.v (.sl (.int .i64)))), (23, (.v (.int .i64))), (24, (.v (.int .i64)))], [(.exit 2, [(1206961, (.own 206961 (.sl (.int .i64)) true))])], [1, 2, 7, 15, 16, 17]⟩)], [], [], none⟩
noncomputable def h_impl_fairLasso_1 : FnH := ⟨109, Try.f109, (.tup (.v (.int .i64)) (.tup (.sp (.sl (.int .i64))) (.tup (.sp (.int .i64)) .unit))), (.tup (.v .bool) .unit), [], [], [], [], [], none⟩
noncomputable def h_slices_IndexFunc_int_by_fairLasso_1 : FnH := ⟨82, Try.f82, (.tup (.v (.sl (.int .i64))) (.tup (.v (.fn 109 (.pair (.sl (.int .i64)) (.pair (.int .i64) .nil)))) .unit)), (.tup (.v (.int .i64)) .unit), [], [], [(0, ⟨[(0, (.v (.sl (.int .i64)))), (1, (.v (.fn 109 (.pair (.sl (.int .i64)) (.pair (.int .i64) .nil))))), (7, (.v (.int .i64))), (8, (.v (.int .i64)))], [(.ret, [(4, (.v (.int .i64)))]), (.exit 0, [])], []⟩)], [], [], none⟩
noncomputable def h_slices_DeleteFunc_int_by_fairLasso_1 : FnH := ⟨107, Try.f107, (.tup (.own 206966 (.int .i64) true) (.tup (.v (.fn 109 (.pair (.sl (.int .i64)) (.pair (.int .i64) .nil)))) .unit)), (.tup .any (.tup (.own 206967 (.int .i64) true) .unit)), [206966], [(10, 10036)], [(0, ⟨[(0, (.own 206965 (.int .i64) true)), (1, (.v (.fn 109 (.pair (.sl (.int .i64)) (.pair (.int .i64) .nil))))), (5, (.v (.int .i64))), (6, (.v (.int .i64)))], [(.exit 0, [(1206965, (.own 206965 (.int .i64) true)), (5, (.v (.int .i64)))])], [0]⟩)], [], [], none⟩
noncomputable def h_impl_fairLasso : FnH := ⟨74, Try.f74, (.tup (.v (.sl (.sl (.int .i64)))) (.tup (.v (.sl (.int .i64))) (.tup (.v (.sl (.sl (.int .i64)))) .unit))), (.tup (.own 206969 (.int .i64) true) (.tup (.own 206970 (.int .i64) true) (.tup (.v .bool) .unit))), [], [], [(0, ⟨[(9, (.sp (.int .i64))), (10, (.v (.sl (.int .i64)))), (11, (.sp (.sl (.int .i64)))), (12, (.v (.sl (.sl (.int .i64))))), (13, (.own 206964 (.int .i64) true)), (41, (.v (.sl (.sl (.int .i64))))), (42, (.v (.int .i64))), (43, (.v (.int .i64)))], [(.exit 0, [(13, (.own 206968 (.int .i64) true))])], [9, 10, 12]⟩)], [], [], none⟩
noncomputable def h_impl_FairLasso : FnH := ⟨38, Try.f38, (.tup (.v tyGraph) (.tup (.v (.sl (.int .i64))) (.tup (.v (.sl (.sl (.int .i64)))) .unit))), (.tup (.own 206971 (.int .i64) true) (.tup (.own 206972 (.int .i64) true) (.tup (.v .bool) .unit))), [], [], [], [], [], none⟩
noncomputable def h_spec_l1In : FnH := ⟨58, Try.f58, (.tup (.v (.int .i64)) (.tup (.v (.int .i64)) (.tup (.v (.int .i64)) .unit))), (.tup (.v .bool) .unit), [], [], [], [], [], none⟩
noncomputable def h_spec_l1Rising : FnH := ⟨84, Try.f84, (.tup (.v (.sl (.int .i64))) (.tup (.v (.int .i64)) (.tup (.v (.int .i64)) .unit))), (.tup (.v .bool) .unit), [], [], [(0, ⟨[(0, (.v (.sl (.int .i64)))), (1, (.v (.int .i64))), (2, (.v (.int .i64))), (9, (.v (.sl (.int .i64)))), (10, (.v (.int .i64))), (11, (.v (.int .i64)))], [(.ret, [(6, (.v .bool))]), (.exit 0, [])], []⟩)], [], [], none⟩
noncomputable def h_spec_l11Points : FnH := ⟨48, Try.f48, (.tup (.v (.sl (.int .i64))) (.tup (.v (.int .i64)) .unit)), (.tup (.v .bool) .unit), [], [], [], [], [], none⟩
noncomputable def h_spec_GoodGraph : FnH := ⟨22, Try.f22, (.tup (.v tyGraph) .unit), (.tup (.v .bool) .unit), [], [], [(0, ⟨[(1, (.sp tyGraph)), (3, (.v (.int .i64))), (11, (.v (.sl (.sl (.int .i64))))), (12, (.v (.int .i64))), (13, (.v (.int .i64)))], [(.ret, [(2, (.v .bool))]), (.exit 0, [(3, (.v (.int .i64)))])], []⟩)], [], [], none⟩
noncomputable def h_spec_l11Goals : FnH := ⟨75, Try.f75, (.tup (.v (.sl (.sl (.int .i64)))) (.tup (.v (.int .i64)) .unit)), (.tup (.v .bool) .unit), [], [], [(0, ⟨[(1, (.v (.int .i64))), (10, (.v (.sl (.sl (.int .i64))))), (11, (.v (.int .i64))), (12, (.v (.int .i64)))], [(.ret, [(4, (.v .bool))]), (.exit 0, [])], []⟩)], [], [], none⟩
noncomputable def h_spec_l1Own : FnH := ⟨113, Try.f113, (.tup (.v (.sl (.int .i64))) .unit), (.tup (.own 206975 (.int .i64) true) .unit), [], [], [], [], [], none⟩
noncomputable def h_spec_l11Far : FnH := ⟨85, Try.f85, (.tup (.v (.sl (.sl (.int .i64)))) (.tup (.v (.sl (.int .i64))) .unit)), (.tup (.own 206981 (.int .i64) true) .unit), [], [], [(0, ⟨[(0, (.v (.sl (.sl (.int .i64))))), (1, (.v (.sl (.int .i64)))), (5, (.own 206973 (.int .i64) true)), (17, (.v (.int .i64))), (18, (.v (.int .i64)))], [(.exit 0, [(1206973, (.own 206973 (.int .i64) true))])], [0, 1, 5]⟩), (2, ⟨[(0, (.v (.sl (.sl (.int .i64))))), (1, (.v (.sl (.int .i64)))), (5, (.own 206974 (.int .i64) true)), (25, (.v (.sl (.int .i64)))), (26, (.v (.int .i64))), (27, (.v (.int .i64)))], [(.exit 2, [(1206974, (.own 206974 (.int .i64) true))])], [0, 1, 5]⟩), (4, ⟨[(0, (.v (.sl (.sl (.int .i64))))), (5, (.own 206979 (.int .i64) true)), (9, (.own 206976 (.int .i64) true))], [(.exit 4, [(1206979, (.own 206979 (.int .i64) true))])], [5]⟩), (6, ⟨[(0, (.v (.sl (.sl (.int .i64))))), (5, (.own 206978 (.int .i64) true)), (9, (.own 206977 (.int .i64) true)), (10, (.v (.int .i64))), (48, (.v (.sl (.int .i64)))), (49, (.v (.int .i64))), (50, (.v (.int .i64)))], [(.exit 6, [(1206978, (.own 206978 (.int .i64) true)), (9, (.own 206980 (.int .i64) true))])], [0, 5]⟩)], [], [], none⟩
noncomputable def h_spec_l11Walk_walk : FnH := ⟨88, Try.f88, (.tup (.box 206982 (.pair (.v (.sl (.sl (.int .i64)))) (.pair (.own 206983 .bool true) (.own 206990 (.int .i64) true)))) (.tup (.v (.int .i64)) .unit)), (.tup (.box 206982 (.pair (.v (.sl (.sl (.int .i64)))) (.pair (.own 206984 .bool true) (.own 206991 (.int .i64) true)))) .unit), [206982], [], [(0, ⟨[(0, (.box 206985 (.pair (.v (.sl (.sl (.int .i64)))) (.pair (.own 206986 .bool true) (.own 206989 (.int .i64) true))))), (1, (.v (.int .i64))), (25, (.v (.sl (.int .i64)))), (26, (.v (.int .i64))), (27, (.v (.int .i64)))], [(.exit 0, [(2206985, (.box 206985 (.pair (.v (.sl (.sl (.int .i64)))) (.pair (.own 206992 .bool true) (.own 206993 (.int .i64) true)))))])], [0, 1]⟩)], [], [], none⟩
noncomputable def h_spec_l11Turn : FnH := ⟨56, Try.f56, (.tup (.v (.sl (.sl (.int .i64)))) .unit), (.tup (.own 207001 (.sl (.int .i64)) true) .unit), [], [], [(0, ⟨[(3, (.own 207000 (.sl (.int .i64)) true)), (11, (.v (.sl (.sl (.int .i64))))), (12, (.v (.int .i64))), (13, (.v (.int .i64)))], [(.exit 0, [(1207000, (.own 207000 (.sl (.int .i64)) true))])], [3]⟩), (2, ⟨[(3, (.own 206999 (.sl (.int .i64)) true)), (4, (.v (.int .i64))), (11, (.v (.sl (.sl (.int .i64))))), (12, (.v (.int .i64))), (13, (.v (.int .i64))), (18, (.v (.sl (.int .i64)))), (19, (.v (.int .i64))), (20, (.v (.int .i64)))], [(.exit 2, [(1206999, (.own 206999 (.sl (.int .i64)) true))])], [3, 11, 12, 13]⟩)], [], [], none⟩
noncomputable def h_spec_l11Parts : FnH := ⟨54, Try.f54, (.tup (.v (.sl (.sl (.int .i64)))) .unit), (.tup (.own 207010 (.int .i64) true) .unit), [], [], [(0, ⟨[(0, (.v (.sl (.sl (.int .i64))))), (3, (.box 206994 (.pair (.v (.sl (.sl (.int .i64)))) (.pair (.own 206995 .bool true) (.own 206996 (.int .i64) true))))), (20, (.v (.int .i64))), (21, (.v (.int .i64)))], [(.exit 0, [(2206994, (.box 206994 (.pair (.v (.sl (.sl (.int .i64)))) (.pair (.own 206997 .bool true) (.own 206998 (.int .i64) true)))))])], [0, 3]⟩), (2, ⟨[(0, (.v (.sl (.sl (.int .i64))))), (3, (.sp tyl11Walk)), (5, (.box 207002 (.pair (.v (.sl (.sl (.int .i64)))) (.pair (.own 207003 .bool true) (.own 207006 (.int .i64) true))))), (6, (.own 207005 (.int .i64) true)), (7, (.v (.int .i64)))], [(.exit 2, [(1207005, (.own 207005 (.int .i64) true)), (2207002, (.box 207002 (.pair (.v (.sl (.sl (.int .i64)))) (.pair (.own 207007 .bool true) (.own 207008 (.int .i64) true)))))])], [6]⟩), (4, ⟨[(0, (.v (.sl (.sl (.int .i64))))), (3, (.sp tyl11Walk)), (5, (.sp tyl11Walk)), (6, (.v (.sl (.int .i64)))), (7, (.v (.int .i64))), (8, (.v (.int .i64))), (65, (.v (.sl (.int .i64)))), (66, (.v (.int .i64))), (67, (.v (.int .i64)))], [(.exit 4, [(8, (.v (.int .i64)))])], [0, 3, 5, 6, 7]⟩), (6, ⟨[(0, (.v (.sl (.sl (.int .i64))))), (3, (.sp tyl11Walk)), (5, (.sp tyl11Walk)), (6, (.own 207004 (.int .i64) true)), (7, (.v (.int .i64))), (8, (.v (.int .i64))), (79, (.v (.sl (.int .i64)))), (80, (.v (.int .i64))), (81, (.v (.int .i64)))], [(.exit 6, [(1207004, (.own 207004 (.int .i64) true))])], [0, 3, 5, 6, 7]⟩)], [], [], none⟩
noncomputable def h_spec_l11Within : FnH := ⟨110, Try.f110, (.tup (.v (.sl (.sl (.int .i64)))) (.tup (.v (.sl (.int .i64))) .unit)), (.tup (.own 207013 (.sl (.int .i64)) false) .unit), [], [], [(0, ⟨[(1, (.v (.sl (.int .i64)))), (5, (.own 207012 (.sl (.int .i64)) true)), (13, (.v (.sl (.sl (.int .i64))))), (14, (.v (.int .i64))), (15, (.v (.int .i64)))], [(.exit 0, [(1207012, (.own 207012 (.sl (.int .i64)) true))])], [5]⟩), (2, ⟨[(1, (.v (.sl (.int .i64)))), (5, (.own 207011 (.sl (.int .i64)) true)), (6, (.v (.int .i64))), (13, (.v (.sl (.sl (.int .i64))))), (14, (.v (.int .i64))), (15, (.v (.int .i64))), (20, (.v (.sl (.int .i64)))), (21, (.v (.int .i64))), (22, (.v (.int .i64)))], [(.exit 2, [(1207011, (.own 207011 (.sl (.int .i64)) true))])], [1, 5, 13, 14, 15]⟩)], [], [], none⟩
noncomputable def h_spec_l11Fair : FnH := ⟨78, Try.f78, (.tup (.v (.sl (.sl (.int .i64)))) (.tup (.v (.sl (.sl (.int .i64)))) .unit)), (.tup (.own 207019 (.int .i64) true) .unit), [], [], [(0, ⟨[(0, (.v (.sl (.sl (.int .i64))))), (1, (.v (.sl (.sl (.int .i64))))), (5, (.v (.sl (.int .i64)))), (7, (.own 207014 .bool true)), (8, (.v (.sl (.int .i64)))), (28, (.v (.sl (.sl (.int .i64))))), (29, (.v (.int .i64))), (30, (.v (.int .i64)))], [(.exit 0, [(1207014, (.own 207014 .bool true))])], [0, 1, 5, 7, 8]⟩), (2, ⟨[(0, (.v (.sl (.sl (.int .i64))))), (1, (.v (.sl (.sl (.int .i64))))), (5, (.v (.sl (.int .i64)))), (7, (.v (.sl .bool))), (8, (.own 207016 (.int .i64) true)), (54, (.v (.sl (.sl (.int .i64))))), (55, (.v (.int .i64))), (56, (.v (.int .i64)))], [(.exit 2, [(1207016, (.own 207016 (.int .i64) true))])], [0, 1, 5, 7, 8]⟩), (4, ⟨[(0, (.v (.sl (.sl (.int .i64))))), (1, (.v (.sl (.sl (.int .i64))))), (5, (.v (.sl (.int .i64)))), (7, (.v (.sl .bool))), (8, (.own 207015 (.int .i64) true)), (11, (.v (.int .i64))), (54, (.v (.sl (.sl (.int .i64))))), (55, (.v (.int .i64))), (56, (.v (.int .i64))), (61, (.v (.sl (.int .i64)))), (62, (.v (.int .i64))), (63, (.v (.int .i64)))], [(.exit 4, [(1207015, (.own 207015 (.int .i64) true))])], [0, 1, 5, 7, 8, 54, 55, 56]⟩), (6, ⟨[(1, (.v (.sl (.sl (.int .i64))))), (5, (.v (.sl (.int .i64)))), (7, (.v (.sl .bool))), (8, (.v (.sl (.int .i64)))), (15, (.own 207017 (.int .i64) true)), (87, (.v (.int .i64))), (88, (.v (.int .i64)))], [(.exit 6, [(15, (.own 207018 (.int .i64) true))])], []⟩)], [], [], none⟩
noncomputable def h_spec_l11Path : FnH := ⟨49, Try.f49, (.tup (.v (.sl (.sl (.int .i64)))) (.tup (.v (.sl (.int .i64))) (.tup (.v (.sl (.int .i64))) .unit))), (.tup (.own 207022 (.int .i64) true) (.tup (.v .bool) .unit)), [], [], [(0, ⟨[(0, (.v (.sl (.sl (.int .i64))))), (8, (.v (.sl (.int .i64)))), (9, (.v (.int .i64))), (19, (.v (.sl (.int .i64)))), (20, (.v (.int .i64))), (21, (.v (.int .i64)))], [(.exit 0, [(9, (.v (.int .i64)))])], [0, 8]⟩), (2, ⟨[(0, (.v (.sl (.sl (.int .i64))))), (8, (.v (.sl (.int .i64)))), (9, (.v (.int .i64))), (12, (.own 207020 (.int .i64) true))], [(.exit 2, [(12, (.own 207021 (.int .i64) true))])], []⟩), (4, ⟨[(0, (.v (.sl (.sl (.int .i64))))), (8, (.v (.sl (.int .i64)))), (9, (.v (.int .i64))), (12, (.v (.sl (.int .i64)))), (59, (.v (.sl (.int .i64)))), (60, (.v (.int .i64))), (61, (.v (.int .i64)))], [(.exit 4, [(9, (.v (.int .i64)))])], [0, 8, 12]⟩)], [], [], none⟩
noncomputable def h_spec_l11Lasso : FnH := ⟨76, Try.f76, (.tup (.v (.sl (.sl (.int .i64)))) (.tup (.v (.sl (.int .i64))) (.tup (.v (.sl (.sl (.int .i64)))) .unit))), (.tup (.own 207027 (.int .i64) true) (.tup (.own 207028 (.int .i64) true) (.tup (.v .bool) .unit))), [], [], [(0, ⟨[(0, (.v (.sl (.sl (.int .i64))))), (1, (.v (.sl (.int .i64)))), (2, (.v (.sl (.sl (.int .i64))))), (9, (.v (.sl (.int .i64)))), (10, (.v (.int .i64))), (32, (.v (.sl (.int .i64)))), (33, (.v (.int .i64))), (34, (.v (.int .i64)))], [(.exit 0, [(10, (.v (.int .i64)))])], [0, 1, 2]⟩), (2, ⟨[(10, (.v (.int .i64))), (13, (.v (.sl (.int .i64)))), (15, (.v (.sl (.int .i64)))), (16, (.v (.sl (.sl (.int .i64))))), (17, (.own 207023 (.int .i64) true)), (77, (.v (.sl (.sl (.int .i64))))), (78, (.v (.int .i64))), (79, (.v (.int .i64)))], [(.exit 2, [(17, (.own 207026 (.int .i64) true))])], [10, 13, 16]⟩), (4, ⟨[(10, (.v (.int .i64))), (13, (.v (.sl (.int .i64)))), (15, (.v (.sl (.int .i64)))), (16, (.v (.sl (.sl (.int .i64))))), (17, (.v (.sl (.int .i64)))), (20, (.own 207024 (.int .i64) true)), (77, (.v (.sl (.sl (.int .i64))))), (78, (.v (.int .i64))), (79, (.v (.int .i64))), (83, (.v (.sl (.int .i64)))), (84, (.v (.int .i64))), (85, (.v (.int .i64)))], [(.exit 4, [(20, (.own 207025 (.int .i64) true))])], [10, 13, 15, 16, 17, 77, 78, 79]⟩)], [], [], none⟩
noncomputable def h_spec_FairLasso : FnH := ⟨39, Try.f39, (.tup (.v tyGraph) (.tup (.v (.sl (.int .i64))) (.tup (.v (.sl (.sl (.int .i64)))) .unit))), (.tup (.own 207029 (.int .i64) true) (.tup (.own 207030 (.int .i64) true) (.tup (.v .bool) .unit))), [], [], [], [], [], none⟩
noncomputable def h_laws_sameInts : FnH := ⟨13, Try.f13, (.tup (.v (.sl (.int .i64))) (.tup (.v (.sl (.int .i64))) .unit)), (.tup (.v .bool) .unit), [], [], [(0, ⟨[(0, (.v (.sl (.int .i64)))), (1, (.v (.sl (.int .i64)))), (12, (.v (.int .i64))), (13, (.v (.int .i64)))], [(.ret, [(4, (.v .bool))]), (.exit 0, [])], []⟩)], [], [], none⟩
noncomputable def h_laws_has : FnH := ⟨14, Try.f14, (.tup (.v (.sl (.int .i64))) (.tup (.v (.int .i64)) .unit)), (.tup (.v .bool) .unit), [], [], [(0, ⟨[(1, (.v (.int .i64))), (7, (.v (.sl (.int .i64)))), (8, (.v (.int .i64))), (9, (.v (.int .i64)))], [(.ret, [(4, (.v .bool))]), (.exit 0, [])], []⟩)], [], [], none⟩
noncomputable def h_impl_marked : FnH := ⟨111, Try.f111, (.tup (.v (.sl .bool)) .unit), (.tup (.own 207033 (.int .i64) true) .unit), [], [], [(0, ⟨[(3, (.own 207031 (.int .i64) true)), (7, (.v (.sl .bool))), (8, (.v (.int .i64))), (9, (.v (.int .i64)))], [(.exit 0, [(3, (.own 207032 (.int .i64) true))])], []⟩)], [], [], none⟩
noncomputable def h_impl_reachedFrom : FnH := ⟨50, Try.f50, (.tup (.v (.sl (.sl (.int .i64)))) (.tup (.v (.sl (.int .i64))) .unit)), (.tup (.own 207036 (.int .i64) true) .unit), [], [], [(0, ⟨[(5, (.own 207034 (.int .i64) true)), (11, (.v (.sl (.int .i64)))), (12, (.v (.int .i64))), (13, (.v (.int .i64)))], [(.exit 0, [(5, (.own 207035 (.int .i64) true))])], []⟩)], [], [], none⟩
noncomputable def h_impl_fairPoints : FnH := ⟨77, Try.f77, (.tup (.v (.sl (.sl (.int .i64)))) (.tup (.v (.sl (.sl (.int .i64)))) .unit)), (.tup (.own 207037 (.int .i64) true) .unit), [], [], [], [], [], none⟩
noncomputable def h_impl_FairPoints : FnH := ⟨40, Try.f40, (.tup (.v tyGraph) (.tup (.v (.sl (.sl (.int .i64)))) .unit)), (.tup (.own 207038 (.int .i64) true) (.tup (.v .bool) .unit)), [], [], [], [], [], none⟩
noncomputable def h_impl_ReachFrom : FnH := ⟨11, Try.f11, (.tup (.v tyGraph) (.tup (.v (.sl (.int .i64))) .unit)), (.tup (.own 207039 (.int .i64) true) (.tup (.v .bool) .unit)), [], [], [], [], [], none⟩
noncomputable def h_spec_DrawFairPoints : FnH := ⟨41, Try.f41, (.tup (.v (.sl (.int .u8))) .unit), (.tup (.one (.own 207040 (.sl (.int .i64)) true)) (.tup (.own 207041 (.sl (.int .i64)) true) .unit)), [], [], [], [], [], none⟩
noncomputable def h_spec_l11Reach : FnH := ⟨51, Try.f51, (.tup (.v (.sl (.sl (.int .i64)))) (.tup (.v (.sl (.int .i64))) .unit)), (.tup (.own 207044 (.int .i64) true) .unit), [], [], [(0, ⟨[(5, (.own 207042 (.int .i64) true)), (10, (.v (.sl (.int .i64)))), (11, (.v (.int .i64))), (12, (.v (.int .i64)))], [(.exit 0, [(5, (.own 207043 (.int .i64) true))])], []⟩)], [], [], none⟩
noncomputable def h_spec_FairPoints : FnH := ⟨42, Try.f42, (.tup (.v tyGraph) (.tup (.v (.sl (.sl (.int .i64)))) .unit)), (.tup (.own 207045 (.int .i64) true) (.tup (.v .bool) .unit)), [], [], [], [], [], none⟩
noncomputable def h_laws_FnFairLasso : FnH := ⟨6, Try.f6, (.tup (.v (.sl (.int .u8))) (.tup (.v (.sl (.int .u8))) .unit)), (.tup (.v .bool) .unit), [], [], [(0, ⟨[(1, (.v (.sl (.int .u8)))), (5, (.sp tyGraph)), (6, (.v (.sl (.int .i64)))), (7, (.v (.sl (.sl (.int .i64))))), (9, (.v (.sl (.int .i64)))), (10, (.v .bool)), (14, (.v (.sl (.int .i64)))), (15, (.v (.int .i64)))], [(.ret, [(4, (.v .bool))]), (.exit 0, [])], [1, 5, 6, 7, 9, 10]⟩), (2, ⟨[(1, (.v (.sl (.int .u8)))), (5, (.sp tyGraph)), (6, (.v (.sl (.int .i64)))), (7, (.v (.sl (.sl (.int .i64))))), (9, (.v (.sl (.int .i64)))), (10, (.v .bool)), (112, (.v (.sl (.sl (.int .i64))))), (113, (.v (.int .i64))), (114, (.v (.int .i64)))], [(.ret, [(4, (.v .bool))]), (.exit 2, [])], [1, 5, 6, 7, 10]⟩), (4, ⟨[(1, (.v (.sl (.int .u8)))), (5, (.sp tyGraph)), (6, (.v (.sl (.int .i64)))), (7, (.v (.sl (.sl (.int .i64))))), (9, (.v (.sl (.int .i64)))), (10, (.v .bool)), (18, (.v .bool)), (112, (.v (.sl (.sl (.int .i64))))), (113, (.v (.int .i64))), (114, (.v (.int .i64))), (118, (.v (.sl (.int .i64)))), (119, (.v (.int .i64))), (120, (.v (.int .i64)))], [(.exit 4, [(18, (.v .bool))])], [1, 5, 6, 7, 9, 10, 112, 113, 114]⟩), (6, ⟨[(1, (.v (.sl (.int .u8)))), (10, (.v .bool)), (21, (.v (.sl (.int .i64)))), (25, (.v .bool)), (150, (.v (.sl (.int .i64)))), (151, (.v (.int .i64))), (152, (.v (.int .i64)))], [(.exit 6, [(25, (.v .bool))])], [1, 10]⟩)], [], [], none⟩
def extsL : List (Nat × ExtF) := []
def tysL : List (Nat × Ty) := [(3, (.int .i64)), (4, .bool), (5, (.int .u8)), (22, (.sl (.int .u8))), (24, (.sl (.sl (.int .i64)))), (26, tyGraph), (27, (.sl (.int .i64))), (47, (.sl .bool)), (67, (.int .u64)), (69, tyl1Cur), (98, tytarjan), (102, tyl11Walk), (123, (.int .u64))]
def nfsL : List (Nat × Nat) := [(26, 1), (69, 3), (98, 6), (102, 3)]
def cellsL : List Nat := []
def mtysL : List (Nat × (Nat × Nat)) := []
noncomputable def keysL : List (Nat × FnH) := [(7, h_laws_big), (100, h_spec_l1Cur_next), (70, h_spec_l1Cur_pick), (79, h_spec_l1Put), (43, h_spec_l1Cur_graph), (80, h_spec_l1Cur_one), (44, h_spec_l1Cur_someOf), (72, h_spec_l1Cur_goals), (37, h_spec_DrawFairLasso), (46, h_impl_isIncreasing), (21, h_impl_GoodGraph), (45, h_impl_isGraphFrom), (104, h_impl_areGoals_1), (118, h_slices_IndexFunc_int_by_areGoals_1), (103, h_slices_ContainsFunc_int_by_areGoals_1), (73, h_impl_areGoals), (120, h_bits_Mul64), (114, h_bits_Mul), (86, h_slices_Repeat_int), (108, h_slices_Clone_int), (81, h_impl_stepsFrom), (89, h_slices_Index_int), (115, h_slices_Min_int), (87, h_impl_tarjan_visit), (53, h_impl_parts), (112, h_impl_fairVertices), (105, h_impl_meeting), (55, h_impl_turned), (83, h_impl_leastWay_1), (82, h_slices_IndexFunc_int_by_leastWay_1), (47, h_impl_leastWay), (106, h_impl_inside), (109, h_impl_fairLasso_1), (10036, h_slices_IndexFunc_int_by_fairLasso_1), (107, h_slices_DeleteFunc_int_by_fairLasso_1), (74, h_impl_fairLasso), (38, h_impl_FairLasso), (58, h_spec_l1In), (84, h_spec_l1Rising), (48, h_spec_l11Points), (22, h_spec_GoodGraph), (75, h_spec_l11Goals), (113, h_spec_l1Own), (85, h_spec_l11Far), (88, h_spec_l11Walk_walk), (56, h_spec_l11Turn), (54, h_spec_l11Parts), (110, h_spec_l11Within), (78, h_spec_l11Fair), (49, h_spec_l11Path), (76, h_spec_l11Lasso), (39, h_spec_FairLasso), (13, h_laws_sameInts), (14, h_laws_has), (111, h_impl_marked), (50, h_impl_reachedFrom), (77, h_impl_fairPoints), (40, h_impl_FairPoints), (11, h_impl_ReachFrom), (41, h_spec_DrawFairPoints), (51, h_spec_l11Reach), (42, h_spec_FairPoints), (6, h_laws_FnFairLasso)]
noncomputable def H : Hints := { extF := fun f => lookupN extsL f, ty := fun T => lookupN tysL T, nf := fun T => match lookupN nfsL T with | some n => n | none => 0, cell := fun T => hasN cellsL T, key := fun k => lookupN keysL k, mty := fun T => lookupN mtysL T }
noncomputable def laws_big (code : Bool × List Int) (more : Bool × List Int) : Option Bool := (inf H).call 7 (code, more)
noncomputable def spec_l1Cur_next (a0_0 : Bool × List Int) (a0_1 : Int) (a0_2 : Int) : Option (Dl1Cur × Int) := (inf H).call 100 (a0_0, (a0_1, a0_2))
noncomputable def spec_l1Cur_pick (c : Dl1Cur) (n : Int) : Option (Dl1Cur × Int) := (inf H).call 70 (c, n)
noncomputable def spec_l1Put (l : Bool × List Int) (n : Int) : Option (Bool × List Int) := (inf H).call 79 (l, n)
theorem key_spec_l1Put : H.key 79 = some h_spec_l1Put := by kernel_rfl
noncomputable def spec_l1Put_L0 (l : Bool × List Int) (n : Int) (k_ : Int) : Option Int := (inf H).loop 79 0 (loopCode Try.f79 0) (l, (n, k_))
noncomputable def spec_l1Cur_graph (c : Dl1Cur) : Option (Dl1Cur × Bool × List (Bool × List Int)) := (inf H).call 43 c
theorem key_spec_l1Cur_graph : H.key 43 = some h_spec_l1Cur_graph := by kernel_rfl
noncomputable def spec_l1Cur_graph_L0 (c : Dl1Cur) (n : Int) (g : Bool × List (Bool × List Int)) (k_ : Int) : Option (Dl1Cur × Bool × List (Bool × List Int)) := (inf H).loop 43 0 (loopCode Try.f43 0) (c, (n, (g, k_)))
noncomputable def spec_l1Cur_graph_L2 (c : Dl1Cur) (n : Int) (k_ : Int) (l : Bool × List Int) (m : Int) : Option (Dl1Cur × Bool × List Int) := (inf H).loop 43 2 (loopCode Try.f43 2) (c, (n, (k_, (l, m))))
noncomputable def spec_l1Cur_graph_L5 (c : Dl1Cur) (g : Bool × List (Bool × List Int)) : Option (Dl1Cur × Bool × List (Bool × List Int)) := (inf H).loop 43 5 (loopCode Try.f43 5) (c, g)
noncomputable def spec_l1Cur_one (c : Dl1Cur) (n : Int) : Option (Dl1Cur × Bool) := (inf H).call 80 (c, n)
noncomputable def spec_l1Cur_someOf (c : Dl1Cur) (n : Int) (most : Int) : Option (Dl1Cur × Bool × List Int) := (inf H).call 44 (c, (n, most))
theorem key_spec_l1Cur_someOf : H.key 44 = some h_spec_l1Cur_someOf := by kernel_rfl
noncomputable def spec_l1Cur_someOf_L0 (c : Dl1Cur) (n : Int) (l : Bool × List Int) (k_ : Int) : Option (Dl1Cur × Bool × List Int) := (inf H).loop 44 0 (loopCode Try.f44 0) (c, (n, (l, k_)))
noncomputable def spec_l1Cur_goals (c : Dl1Cur) (n : Int) : Option (Dl1Cur × Bool × List (Bool × List Int)) := (inf H).call 72 (c, n)
theorem key_spec_l1Cur_goals : H.key 72 = some h_spec_l1Cur_goals := by kernel_rfl
noncomputable def spec_l1Cur_goals_L0 (c : Dl1Cur) (n : Int) (l : Bool × List (Bool × List Int)) (k_ : Int) : Option (Dl1Cur × Bool × List (Bool × List Int)) := (inf H).loop 72 0 (loopCode Try.f72 0) (c, (n, (l, k_)))
noncomputable def spec_DrawFairLasso (code : Bool × List Int) : Option ((Bool × List (Bool × List Int)) × (Bool × List Int) × Bool × List (Bool × List Int)) := (inf H).call 37 code
noncomputable def impl_isIncreasing (list : Bool × List Int) (bound : Int) : Option Bool := (inf H).call 46 (list, bound)
theorem key_impl_isIncreasing : H.key 46 = some h_impl_isIncreasing := by kernel_rfl
noncomputable def impl_isIncreasing_L0 (list : Bool × List Int) (bound : Int) (t7 : Bool × List Int) (t8 : Int) (t9 : Int) : Option (Bool ⊕ Unit) := (inf H).loop 46 0 (loopCode Try.f46 0) (list, (bound, (t7, (t8, t9))))
noncomputable def impl_GoodGraph (g : DGraph) : Option Bool := (inf H).call 21 g
theorem key_impl_GoodGraph : H.key 21 = some h_impl_GoodGraph := by kernel_rfl
noncomputable def impl_GoodGraph_L0 (g : DGraph) (arcs : Int) (t11 : Bool × List (Bool × List Int)) (t12 : Int) (t13 : Int) : Option (Bool ⊕ Int) := (inf H).loop 21 0 (loopCode Try.f21 0) (g, (arcs, (t11, (t12, t13))))
noncomputable def impl_isGraphFrom (g : DGraph) (from_ : Bool × List Int) : Option Bool := (inf H).call 45 (g, from_)
noncomputable def impl_areGoals_1 (list : Bool × List Int) (a1 : Int) : Option Bool := (inf H).call 104 (list, a1)
noncomputable def slices_IndexFunc_int_by_areGoals_1 (s : Bool × List (Bool × List Int)) (f : Int × Unit) : Option Int := (inf H).call 118 (s, f)
theorem key_slices_IndexFunc_int_by_areGoals_1 : H.key 118 = some h_slices_IndexFunc_int_by_areGoals_1 := by kernel_rfl
noncomputable def slices_IndexFunc_int_by_areGoals_1_L0 (s : Bool × List (Bool × List Int)) (f : Int × Unit) (t7 : Int) (t8 : Int) : Option (Int ⊕ Unit) := (inf H).loop 118 0 (loopCode Try.f118 0) (s, (f, (t7, t8)))
noncomputable def slices_ContainsFunc_int_by_areGoals_1 (s : Bool × List (Bool × List Int)) (f : Int × Unit) : Option Bool := (inf H).call 103 (s, f)
noncomputable def impl_areGoals (goals : Bool × List (Bool × List Int)) (bound : Int) : Option Bool := (inf H).call 73 (goals, bound)
noncomputable def bits_Mul64 (x : Int) (y : Int) : Option (Int × Int) := (inf H).call 120 (x, y)
noncomputable def bits_Mul (x : Int) (y : Int) : Option (Int × Int) := (inf H).call 114 (x, y)
noncomputable def slices_Repeat_int (x : Bool × List Int) (count : Int) : Option (Bool × List Int) := (inf H).call 86 (x, count)
theorem key_slices_Repeat_int : H.key 86 = some h_slices_Repeat_int := by kernel_rfl
noncomputable def slices_Repeat_int_L0 (newslice : Bool × List Int) (n : Int) : Option (Bool × List Int) := (inf H).loop 86 0 (loopCode Try.f86 0) (newslice, n)
noncomputable def slices_Clone_int (s : Bool × List Int) : Option (Bool × List Int) := (inf H).call 108 s
noncomputable def impl_stepsFrom (g : Bool × List (Bool × List Int)) (some_ : Bool × List Int) : Option (Bool × List Int) := (inf H).call 81 (g, some_)
theorem key_impl_stepsFrom : H.key 81 = some h_impl_stepsFrom := by kernel_rfl
noncomputable def impl_stepsFrom_L0 (g : Bool × List (Bool × List Int)) (steps : Bool × List Int) (open_ : Bool × List Int) (t17 : Bool × List Int) (t18 : Int) (t19 : Int) : Option (Bool × List Int) := (inf H).loop 81 0 (loopCode Try.f81 0) (g, (steps, (open_, (t17, (t18, t19)))))
noncomputable def impl_stepsFrom_L2 (g : Bool × List (Bool × List Int)) (steps : Bool × List Int) (open_ : Bool × List Int) : Option (Bool × List Int) := (inf H).loop 81 2 (loopCode Try.f81 2) (g, (steps, open_))
noncomputable def impl_stepsFrom_L4 (g : Bool × List (Bool × List Int)) (steps : Bool × List Int) (open_ : Bool × List Int) (t37 : Bool × List Int) (t38 : Int) (t39 : Int) : Option ((Bool × List Int) × Bool × List Int) := (inf H).loop 81 4 (loopCode Try.f81 4) (g, (steps, (open_, (t37, (t38, t39)))))
noncomputable def slices_Index_int (s : Bool × List Int) (v : Int) : Option Int := (inf H).call 89 (s, v)
theorem key_slices_Index_int : H.key 89 = some h_slices_Index_int := by kernel_rfl
noncomputable def slices_Index_int_L0 (s : Bool × List Int) (v : Int) (t7 : Int) (t8 : Int) : Option (Int ⊕ Unit) := (inf H).loop 89 0 (loopCode Try.f89 0) (s, (v, (t7, t8)))
noncomputable def slices_Min_int (x : Bool × List Int) : Option Int := (inf H).call 115 x
theorem key_slices_Min_int : H.key 115 = some h_slices_Min_int := by kernel_rfl
noncomputable def slices_Min_int_L0 (x : Bool × List Int) (m : Int) (i : Int) : Option Int := (inf H).loop 115 0 (loopCode Try.f115 0) (x, (m, i))
noncomputable def impl_tarjan_visit (a0_0 : Bool × List (Bool × List Int)) (a0_1 : Bool × List Int) (a0_2 : Bool × List Int) (a0_3 : Bool × List Int) (a0_4 : Bool × List Int) (a0_5 : Int) (v : Int) : Option Dtarjan := (inf H).call 87 (a0_0, (a0_1, (a0_2, (a0_3, (a0_4, (a0_5, v))))))
theorem key_impl_tarjan_visit : H.key 87 = some h_impl_tarjan_visit := by kernel_rfl
noncomputable def impl_tarjan_visit_L0 (t_0 : Bool × List (Bool × List Int)) (t_1 : Bool × List Int) (t_2 : Bool × List Int) (t_3 : Bool × List Int) (t_4 : Bool × List Int) (t_5 : Int) (v : Int) (t53 : Bool × List Int) (t54 : Int) (t55 : Int) : Option Dtarjan := (inf H).loop 87 0 (loopCode Try.f87 0) (t_0, (t_1, (t_2, (t_3, (t_4, (t_5, (v, (t53, (t54, t55)))))))))
noncomputable def impl_tarjan_visit_L2 (t_0 : Bool × List (Bool × List Int)) (t_1 : Bool × List Int) (t_2 : Bool × List Int) (t_3 : Bool × List Int) (t_4 : Bool × List Int) (t_5 : Int) (k_ : Int) (least : Int) (t154_0 : Int) (t154_1 : Int) (t155 : Int) (t156 : Int) : Option Dtarjan := (inf H).loop 87 2 (loopCode Try.f87 2) (t_0, (t_1, (t_2, (t_3, (t_4, (t_5, (k_, (least, (t154_0, (t154_1, (t155, t156)))))))))))
noncomputable def impl_parts (next : Bool × List (Bool × List Int)) : Option (Bool × List Int) := (inf H).call 53 next
theorem key_impl_parts : H.key 53 = some h_impl_parts := by kernel_rfl
noncomputable def impl_parts_L0 (t_0 : Bool × List (Bool × List Int)) (t_1 : Bool × List Int) (t_2 : Bool × List Int) (t_3 : Bool × List Int) (t_4 : Bool × List Int) (t_5 : Int) (t19 : Int) (t20 : Int) : Option Dtarjan := (inf H).loop 53 0 (loopCode Try.f53 0) (t_0, (t_1, (t_2, (t_3, (t_4, (t_5, (t19, t20)))))))
noncomputable def impl_fairVertices (next : Bool × List (Bool × List Int)) (goals : Bool × List (Bool × List Int)) : Option (Bool × List Bool) := (inf H).call 112 (next, goals)
theorem key_impl_fairVertices : H.key 112 = some h_impl_fairVertices := by kernel_rfl
noncomputable def impl_fairVertices_L0 (goals : Bool × List (Bool × List Int)) (part : Bool × List Int) (n : Int) (fair : Bool × List Bool) (out : Bool × List Bool) (t28 : Bool × List (Bool × List Int)) (t29 : Int) (t30 : Int) : Option (Bool × List Bool) := (inf H).loop 112 0 (loopCode Try.f112 0) (goals, (part, (n, (fair, (out, (t28, (t29, t30)))))))
noncomputable def impl_fairVertices_L2 (goals : Bool × List (Bool × List Int)) (part : Bool × List Int) (n : Int) (fair : Bool × List Bool) (out : Bool × List Bool) (v : Int) (t28 : Bool × List (Bool × List Int)) (t29 : Int) (t30 : Int) (t35 : Bool × List Int) (t36 : Int) (t37 : Int) : Option (Bool × List Bool) := (inf H).loop 112 2 (loopCode Try.f112 2) (goals, (part, (n, (fair, (out, (v, (t28, (t29, (t30, (t35, (t36, t37)))))))))))
noncomputable def impl_fairVertices_L4 (part : Bool × List Int) (n : Int) (fair : Bool × List Bool) (out : Bool × List Bool) (t67 : Bool × List (Bool × List Int)) (t68 : Int) (t69 : Int) : Option (Bool × List Bool) := (inf H).loop 112 4 (loopCode Try.f112 4) (part, (n, (fair, (out, (t67, (t68, t69))))))
noncomputable def impl_fairVertices_L6 (part : Bool × List Int) (n : Int) (fair : Bool × List Bool) (out : Bool × List Bool) (has : Bool × List Bool) (t67 : Bool × List (Bool × List Int)) (t68 : Int) (t69 : Int) (t75 : Bool × List Int) (t76 : Int) (t77 : Int) : Option (Bool × List Bool) := (inf H).loop 112 6 (loopCode Try.f112 6) (part, (n, (fair, (out, (has, (t67, (t68, (t69, (t75, (t76, t77))))))))))
noncomputable def impl_fairVertices_L8 (part : Bool × List Int) (n : Int) (fair : Bool × List Bool) (out : Bool × List Bool) (has : Bool × List Bool) (t67 : Bool × List (Bool × List Int)) (t68 : Int) (t69 : Int) (t89 : Int) (t90 : Int) : Option (Bool × List Bool) := (inf H).loop 112 8 (loopCode Try.f112 8) (part, (n, (fair, (out, (has, (t67, (t68, (t69, (t89, t90)))))))))
noncomputable def impl_fairVertices_L10 (part : Bool × List Int) (fair : Bool × List Bool) (out : Bool × List Bool) (t109 : Int) (t110 : Int) : Option (Bool × List Bool) := (inf H).loop 112 10 (loopCode Try.f112 10) (part, (fair, (out, (t109, t110))))
noncomputable def impl_meeting (next : Bool × List (Bool × List Int)) (from_ : Bool × List Int) (goals : Bool × List (Bool × List Int)) : Option Int := (inf H).call 105 (next, (from_, goals))
theorem key_impl_meeting : H.key 105 = some h_impl_meeting := by kernel_rfl
noncomputable def impl_meeting_L0 (steps : Bool × List Int) (best : Int) (t16 : Bool × List Bool) (t17 : Int) (t18 : Int) : Option Int := (inf H).loop 105 0 (loopCode Try.f105 0) (steps, (best, (t16, (t17, t18))))
noncomputable def impl_turned (g : Bool × List (Bool × List Int)) : Option (Bool × List (Bool × List Int)) := (inf H).call 55 g
theorem key_impl_turned : H.key 55 = some h_impl_turned := by kernel_rfl
noncomputable def impl_turned_L0 (out : Bool × List (Bool × List Int)) (t11 : Bool × List (Bool × List Int)) (t12 : Int) (t13 : Int) : Option (Bool × List (Bool × List Int)) := (inf H).loop 55 0 (loopCode Try.f55 0) (out, (t11, (t12, t13)))
noncomputable def impl_turned_L2 (out : Bool × List (Bool × List Int)) (v : Int) (t11 : Bool × List (Bool × List Int)) (t12 : Int) (t13 : Int) (t18 : Bool × List Int) (t19 : Int) (t20 : Int) : Option (Bool × List (Bool × List Int)) := (inf H).loop 55 2 (loopCode Try.f55 2) (out, (v, (t11, (t12, (t13, (t18, (t19, t20)))))))
noncomputable def impl_leastWay_1 (w : Int) (a1 : Bool × List Int) (a2 : Int) : Option Bool := (inf H).call 83 (w, (a1, a2))
noncomputable def slices_IndexFunc_int_by_leastWay_1 (s : Bool × List Int) (f : (Bool × List Int) × Int × Unit) : Option Int := (inf H).call 82 (s, f)
theorem key_slices_IndexFunc_int_by_leastWay_1 : H.key 82 = some h_slices_IndexFunc_int_by_leastWay_1 := by kernel_rfl
noncomputable def slices_IndexFunc_int_by_leastWay_1_L0 (s : Bool × List Int) (f : (Bool × List Int) × Int × Unit) (t7 : Int) (t8 : Int) : Option (Int ⊕ Unit) := (inf H).loop 82 0 (loopCode Try.f82 0) (s, (f, (t7, t8)))
noncomputable def impl_leastWay (g : Bool × List (Bool × List Int)) (from_ : Bool × List Int) (to : Bool × List Int) : Option (Bool × List Int) := (inf H).call 47 (g, (from_, to))
theorem key_impl_leastWay : H.key 47 = some h_impl_leastWay := by kernel_rfl
noncomputable def impl_leastWay_L0 (g : Bool × List (Bool × List Int)) (steps : Bool × List Int) (best : Int) (t18 : Bool × List Int) (t19 : Int) (t20 : Int) : Option Int := (inf H).loop 47 0 (loopCode Try.f47 0) (g, (steps, (best, (t18, (t19, t20)))))
noncomputable def impl_leastWay_L2 (g : Bool × List (Bool × List Int)) (steps : Bool × List Int) (way : Bool × List Int) (v : Int) : Option (Bool × List Int) := (inf H).loop 47 2 (loopCode Try.f47 2) (g, (steps, (way, v)))
noncomputable def impl_inside (next : Bool × List (Bool × List Int)) (part : Bool × List Int) (own : Int) : Option (Bool × List (Bool × List Int)) := (inf H).call 106 (next, (part, own))
theorem key_impl_inside : H.key 106 = some h_impl_inside := by kernel_rfl
noncomputable def impl_inside_L0 (part : Bool × List Int) (own : Int) (out : Bool × List (Bool × List Int)) (t15 : Bool × List (Bool × List Int)) (t16 : Int) (t17 : Int) : Option (Bool × List (Bool × List Int)) := (inf H).loop 106 0 (loopCode Try.f106 0) (part, (own, (out, (t15, (t16, t17)))))
noncomputable def impl_inside_L2 (part : Bool × List Int) (own : Int) (out : Bool × List (Bool × List Int)) (v : Int) (t15 : Bool × List (Bool × List Int)) (t16 : Int) (t17 : Int) (t22 : Bool × List Int) (t23 : Int) (t24 : Int) : Option (Bool × List (Bool × List Int)) := (inf H).loop 106 2 (loopCode Try.f106 2) (part, (own, (out, (v, (t15, (t16, (t17, (t22, (t23, t24)))))))))
noncomputable def impl_fairLasso_1 (v : Int) (a1 : Bool × List Int) (a2 : Int) : Option Bool := (inf H).call 109 (v, (a1, a2))
noncomputable def slices_IndexFunc_int_by_fairLasso_1 (s : Bool × List Int) (f : (Bool × List Int) × Int × Unit) : Option Int := (inf H).call 10036 (s, f)
theorem key_slices_IndexFunc_int_by_fairLasso_1 : H.key 10036 = some h_slices_IndexFunc_int_by_fairLasso_1 := by kernel_rfl
noncomputable def slices_IndexFunc_int_by_fairLasso_1_L0 (s : Bool × List Int) (f : (Bool × List Int) × Int × Unit) (t7 : Int) (t8 : Int) : Option (Int ⊕ Unit) := (inf H).loop 10036 0 (loopCode Try.f82 0) (s, (f, (t7, t8)))
noncomputable def slices_DeleteFunc_int_by_fairLasso_1 (s : Bool × List Int) (del : (Bool × List Int) × Int × Unit) : Option (Bool × List Int) := (inf H).call 107 (s, del)
theorem key_slices_DeleteFunc_int_by_fairLasso_1 : H.key 107 = some h_slices_DeleteFunc_int_by_fairLasso_1 := by kernel_rfl
noncomputable def slices_DeleteFunc_int_by_fairLasso_1_L0 (s : Bool × List Int) (del : (Bool × List Int) × Int × Unit) (i : Int) (j : Int) : Option ((Bool × List Int) × Int) := (inf H).loop 107 0 (loopCode Try.f107 0) (s, (del, (i, j)))
noncomputable def impl_fairLasso (next : Bool × List (Bool × List Int)) (from_ : Bool × List Int) (goals : Bool × List (Bool × List Int)) : Option ((Bool × List Int) × (Bool × List Int) × Bool) := (inf H).call 74 (next, (from_, goals))
theorem key_impl_fairLasso : H.key 74 = some h_impl_fairLasso := by kernel_rfl
noncomputable def impl_fairLasso_L0 (meet : Int) (stem : Bool × List Int) (part : Bool × List Int) (arcs : Bool × List (Bool × List Int)) (loop : Bool × List Int) (t41 : Bool × List (Bool × List Int)) (t42 : Int) (t43 : Int) : Option (Bool × List Int) := (inf H).loop 74 0 (loopCode Try.f74 0) (meet, (stem, (part, (arcs, (loop, (t41, (t42, t43)))))))
noncomputable def impl_FairLasso (g : DGraph) (from_ : Bool × List Int) (goals : Bool × List (Bool × List Int)) : Option ((Bool × List Int) × (Bool × List Int) × Bool) := (inf H).call 38 (g, (from_, goals))
noncomputable def spec_l1In (n : Int) (lo : Int) (hi : Int) : Option Bool := (inf H).call 58 (n, (lo, hi))
noncomputable def spec_l1Rising (l : Bool × List Int) (lo : Int) (hi : Int) : Option Bool := (inf H).call 84 (l, (lo, hi))
theorem key_spec_l1Rising : H.key 84 = some h_spec_l1Rising := by kernel_rfl
noncomputable def spec_l1Rising_L0 (l : Bool × List Int) (lo : Int) (hi : Int) (t9 : Bool × List Int) (t10 : Int) (t11 : Int) : Option (Bool ⊕ Unit) := (inf H).loop 84 0 (loopCode Try.f84 0) (l, (lo, (hi, (t9, (t10, t11)))))
noncomputable def spec_l11Points (l : Bool × List Int) (n : Int) : Option Bool := (inf H).call 48 (l, n)
noncomputable def spec_GoodGraph (g : DGraph) : Option Bool := (inf H).call 22 g
theorem key_spec_GoodGraph : H.key 22 = some h_spec_GoodGraph := by kernel_rfl
noncomputable def spec_GoodGraph_L0 (g : DGraph) (n : Int) (t11 : Bool × List (Bool × List Int)) (t12 : Int) (t13 : Int) : Option (Bool ⊕ Int) := (inf H).loop 22 0 (loopCode Try.f22 0) (g, (n, (t11, (t12, t13))))
noncomputable def spec_l11Goals (goals : Bool × List (Bool × List Int)) (n : Int) : Option Bool := (inf H).call 75 (goals, n)
theorem key_spec_l11Goals : H.key 75 = some h_spec_l11Goals := by kernel_rfl
noncomputable def spec_l11Goals_L0 (n : Int) (t10 : Bool × List (Bool × List Int)) (t11 : Int) (t12 : Int) : Option (Bool ⊕ Unit) := (inf H).loop 75 0 (loopCode Try.f75 0) (n, (t10, (t11, t12)))
noncomputable def spec_l1Own (l : Bool × List Int) : Option (Bool × List Int) := (inf H).call 113 l
noncomputable def spec_l11Far (next : Bool × List (Bool × List Int)) (from_ : Bool × List Int) : Option (Bool × List Int) := (inf H).call 85 (next, from_)
theorem key_spec_l11Far : H.key 85 = some h_spec_l11Far := by kernel_rfl
noncomputable def spec_l11Far_L0 (next : Bool × List (Bool × List Int)) (from_ : Bool × List Int) (out : Bool × List Int) (t17 : Int) (t18 : Int) : Option (Bool × List Int) := (inf H).loop 85 0 (loopCode Try.f85 0) (next, (from_, (out, (t17, t18))))
noncomputable def spec_l11Far_L2 (next : Bool × List (Bool × List Int)) (from_ : Bool × List Int) (out : Bool × List Int) (t25 : Bool × List Int) (t26 : Int) (t27 : Int) : Option (Bool × List Int) := (inf H).loop 85 2 (loopCode Try.f85 2) (next, (from_, (out, (t25, (t26, t27)))))
noncomputable def spec_l11Far_L4 (next : Bool × List (Bool × List Int)) (out : Bool × List Int) (row_ : Bool × List Int) : Option (Bool × List Int) := (inf H).loop 85 4 (loopCode Try.f85 4) (next, (out, row_))
noncomputable def spec_l11Far_L6 (next : Bool × List (Bool × List Int)) (out : Bool × List Int) (row_ : Bool × List Int) (k_ : Int) (t48 : Bool × List Int) (t49 : Int) (t50 : Int) : Option ((Bool × List Int) × Bool × List Int) := (inf H).loop 85 6 (loopCode Try.f85 6) (next, (out, (row_, (k_, (t48, (t49, t50))))))
noncomputable def spec_l11Walk_walk (a0_0 : Bool × List (Bool × List Int)) (a0_1 : Bool × List Bool) (a0_2 : Bool × List Int) (k_ : Int) : Option Dl11Walk := (inf H).call 88 (a0_0, (a0_1, (a0_2, k_)))
theorem key_spec_l11Walk_walk : H.key 88 = some h_spec_l11Walk_walk := by kernel_rfl
noncomputable def spec_l11Walk_walk_L0 (w_0 : Bool × List (Bool × List Int)) (w_1 : Bool × List Bool) (w_2 : Bool × List Int) (k_ : Int) (t25 : Bool × List Int) (t26 : Int) (t27 : Int) : Option Dl11Walk := (inf H).loop 88 0 (loopCode Try.f88 0) (w_0, (w_1, (w_2, (k_, (t25, (t26, t27))))))
noncomputable def spec_l11Turn (next : Bool × List (Bool × List Int)) : Option (Bool × List (Bool × List Int)) := (inf H).call 56 next
theorem key_spec_l11Turn : H.key 56 = some h_spec_l11Turn := by kernel_rfl
noncomputable def spec_l11Turn_L0 (out : Bool × List (Bool × List Int)) (t11 : Bool × List (Bool × List Int)) (t12 : Int) (t13 : Int) : Option (Bool × List (Bool × List Int)) := (inf H).loop 56 0 (loopCode Try.f56 0) (out, (t11, (t12, t13)))
noncomputable def spec_l11Turn_L2 (out : Bool × List (Bool × List Int)) (k_ : Int) (t11 : Bool × List (Bool × List Int)) (t12 : Int) (t13 : Int) (t18 : Bool × List Int) (t19 : Int) (t20 : Int) : Option (Bool × List (Bool × List Int)) := (inf H).loop 56 2 (loopCode Try.f56 2) (out, (k_, (t11, (t12, (t13, (t18, (t19, t20)))))))
noncomputable def spec_l11Parts (next : Bool × List (Bool × List Int)) : Option (Bool × List Int) := (inf H).call 54 next
theorem key_spec_l11Parts : H.key 54 = some h_spec_l11Parts := by kernel_rfl
noncomputable def spec_l11Parts_L0 (next : Bool × List (Bool × List Int)) (w_0 : Bool × List (Bool × List Int)) (w_1 : Bool × List Bool) (w_2 : Bool × List Int) (t20 : Int) (t21 : Int) : Option Dl11Walk := (inf H).loop 54 0 (loopCode Try.f54 0) (next, (w_0, (w_1, (w_2, (t20, t21)))))
noncomputable def spec_l11Parts_L2 (next : Bool × List (Bool × List Int)) (w : Dl11Walk) (back_0 : Bool × List (Bool × List Int)) (back_1 : Bool × List Bool) (back_2 : Bool × List Int) (out : Bool × List Int) (i : Int) : Option ((Bool × List Int) × Dl11Walk) := (inf H).loop 54 2 (loopCode Try.f54 2) (next, (w, (back_0, (back_1, (back_2, (out, i))))))
noncomputable def spec_l11Parts_L4 (next : Bool × List (Bool × List Int)) (w : Dl11Walk) (back : Dl11Walk) (out : Bool × List Int) (i : Int) (least : Int) (t65 : Bool × List Int) (t66 : Int) (t67 : Int) : Option Int := (inf H).loop 54 4 (loopCode Try.f54 4) (next, (w, (back, (out, (i, (least, (t65, (t66, t67))))))))
noncomputable def spec_l11Parts_L6 (next : Bool × List (Bool × List Int)) (w : Dl11Walk) (back : Dl11Walk) (out : Bool × List Int) (i : Int) (least : Int) (t79 : Bool × List Int) (t80 : Int) (t81 : Int) : Option (Bool × List Int) := (inf H).loop 54 6 (loopCode Try.f54 6) (next, (w, (back, (out, (i, (least, (t79, (t80, t81))))))))
noncomputable def spec_l11Within (next : Bool × List (Bool × List Int)) (parts_ : Bool × List Int) : Option (Bool × List (Bool × List Int)) := (inf H).call 110 (next, parts_)
theorem key_spec_l11Within : H.key 110 = some h_spec_l11Within := by kernel_rfl
noncomputable def spec_l11Within_L0 (parts_ : Bool × List Int) (out : Bool × List (Bool × List Int)) (t13 : Bool × List (Bool × List Int)) (t14 : Int) (t15 : Int) : Option (Bool × List (Bool × List Int)) := (inf H).loop 110 0 (loopCode Try.f110 0) (parts_, (out, (t13, (t14, t15))))
noncomputable def spec_l11Within_L2 (parts_ : Bool × List Int) (out : Bool × List (Bool × List Int)) (k_ : Int) (t13 : Bool × List (Bool × List Int)) (t14 : Int) (t15 : Int) (t20 : Bool × List Int) (t21 : Int) (t22 : Int) : Option (Bool × List (Bool × List Int)) := (inf H).loop 110 2 (loopCode Try.f110 2) (parts_, (out, (k_, (t13, (t14, (t15, (t20, (t21, t22))))))))
noncomputable def spec_l11Fair (next : Bool × List (Bool × List Int)) (goals : Bool × List (Bool × List Int)) : Option (Bool × List Int) := (inf H).call 78 (next, goals)
theorem key_spec_l11Fair : H.key 78 = some h_spec_l11Fair := by kernel_rfl
noncomputable def spec_l11Fair_L0 (next : Bool × List (Bool × List Int)) (goals : Bool × List (Bool × List Int)) (parts_ : Bool × List Int) (arrow : Bool × List Bool) (met : Bool × List Int) (t28 : Bool × List (Bool × List Int)) (t29 : Int) (t30 : Int) : Option (Bool × List Bool) := (inf H).loop 78 0 (loopCode Try.f78 0) (next, (goals, (parts_, (arrow, (met, (t28, (t29, t30)))))))
noncomputable def spec_l11Fair_L2 (next : Bool × List (Bool × List Int)) (goals : Bool × List (Bool × List Int)) (parts_ : Bool × List Int) (arrow : Bool × List Bool) (met : Bool × List Int) (t54 : Bool × List (Bool × List Int)) (t55 : Int) (t56 : Int) : Option (Bool × List Int) := (inf H).loop 78 2 (loopCode Try.f78 2) (next, (goals, (parts_, (arrow, (met, (t54, (t55, t56)))))))
noncomputable def spec_l11Fair_L4 (next : Bool × List (Bool × List Int)) (goals : Bool × List (Bool × List Int)) (parts_ : Bool × List Int) (arrow : Bool × List Bool) (met : Bool × List Int) (j : Int) (t54 : Bool × List (Bool × List Int)) (t55 : Int) (t56 : Int) (t61 : Bool × List Int) (t62 : Int) (t63 : Int) : Option (Bool × List Int) := (inf H).loop 78 4 (loopCode Try.f78 4) (next, (goals, (parts_, (arrow, (met, (j, (t54, (t55, (t56, (t61, (t62, t63)))))))))))
noncomputable def spec_l11Fair_L6 (goals : Bool × List (Bool × List Int)) (parts_ : Bool × List Int) (arrow : Bool × List Bool) (met : Bool × List Int) (out : Bool × List Int) (t87 : Int) (t88 : Int) : Option (Bool × List Int) := (inf H).loop 78 6 (loopCode Try.f78 6) (goals, (parts_, (arrow, (met, (out, (t87, t88))))))
noncomputable def spec_l11Path (next : Bool × List (Bool × List Int)) (from_ : Bool × List Int) (to : Bool × List Int) : Option ((Bool × List Int) × Bool) := (inf H).call 49 (next, (from_, to))
theorem key_spec_l11Path : H.key 49 = some h_spec_l11Path := by kernel_rfl
noncomputable def spec_l11Path_L0 (next : Bool × List (Bool × List Int)) (far : Bool × List Int) (best : Int) (t19 : Bool × List Int) (t20 : Int) (t21 : Int) : Option Int := (inf H).loop 49 0 (loopCode Try.f49 0) (next, (far, (best, (t19, (t20, t21)))))
noncomputable def spec_l11Path_L2 (next : Bool × List (Bool × List Int)) (far : Bool × List Int) (best : Int) (out : Bool × List Int) : Option (Bool × List Int) := (inf H).loop 49 2 (loopCode Try.f49 2) (next, (far, (best, out)))
noncomputable def spec_l11Path_L4 (next : Bool × List (Bool × List Int)) (far : Bool × List Int) (best : Int) (out : Bool × List Int) (t59 : Bool × List Int) (t60 : Int) (t61 : Int) : Option Int := (inf H).loop 49 4 (loopCode Try.f49 4) (next, (far, (best, (out, (t59, (t60, t61))))))
noncomputable def spec_l11Lasso (next : Bool × List (Bool × List Int)) (from_ : Bool × List Int) (goals : Bool × List (Bool × List Int)) : Option ((Bool × List Int) × (Bool × List Int) × Bool) := (inf H).call 76 (next, (from_, goals))
theorem key_spec_l11Lasso : H.key 76 = some h_spec_l11Lasso := by kernel_rfl
noncomputable def spec_l11Lasso_L0 (next : Bool × List (Bool × List Int)) (from_ : Bool × List Int) (goals : Bool × List (Bool × List Int)) (far : Bool × List Int) (meet : Int) (t32 : Bool × List Int) (t33 : Int) (t34 : Int) : Option Int := (inf H).loop 76 0 (loopCode Try.f76 0) (next, (from_, (goals, (far, (meet, (t32, (t33, t34)))))))
noncomputable def spec_l11Lasso_L2 (meet : Int) (stem : Bool × List Int) (parts_ : Bool × List Int) (inner : Bool × List (Bool × List Int)) (loop : Bool × List Int) (t77 : Bool × List (Bool × List Int)) (t78 : Int) (t79 : Int) : Option (Bool × List Int) := (inf H).loop 76 2 (loopCode Try.f76 2) (meet, (stem, (parts_, (inner, (loop, (t77, (t78, t79)))))))
noncomputable def spec_l11Lasso_L4 (meet : Int) (stem : Bool × List Int) (parts_ : Bool × List Int) (inner : Bool × List (Bool × List Int)) (loop : Bool × List Int) (in_ : Bool × List Int) (t77 : Bool × List (Bool × List Int)) (t78 : Int) (t79 : Int) (t83 : Bool × List Int) (t84 : Int) (t85 : Int) : Option (Bool × List Int) := (inf H).loop 76 4 (loopCode Try.f76 4) (meet, (stem, (parts_, (inner, (loop, (in_, (t77, (t78, (t79, (t83, (t84, t85)))))))))))
noncomputable def spec_FairLasso (g : DGraph) (from_ : Bool × List Int) (goals : Bool × List (Bool × List Int)) : Option ((Bool × List Int) × (Bool × List Int) × Bool) := (inf H).call 39 (g, (from_, goals))
noncomputable def laws_sameInts (a : Bool × List Int) (b : Bool × List Int) : Option Bool := (inf H).call 13 (a, b)
theorem key_laws_sameInts : H.key 13 = some h_laws_sameInts := by kernel_rfl
noncomputable def laws_sameInts_L0 (a : Bool × List Int) (b : Bool × List Int) (t12 : Int) (t13 : Int) : Option (Bool ⊕ Unit) := (inf H).loop 13 0 (loopCode Try.f13 0) (a, (b, (t12, t13)))
noncomputable def laws_has (l : Bool × List Int) (n : Int) : Option Bool := (inf H).call 14 (l, n)
theorem key_laws_has : H.key 14 = some h_laws_has := by kernel_rfl
noncomputable def laws_has_L0 (n : Int) (t7 : Bool × List Int) (t8 : Int) (t9 : Int) : Option (Bool ⊕ Unit) := (inf H).loop 14 0 (loopCode Try.f14 0) (n, (t7, (t8, t9)))
noncomputable def impl_marked (list : Bool × List Bool) : Option (Bool × List Int) := (inf H).call 111 list
theorem key_impl_marked : H.key 111 = some h_impl_marked := by kernel_rfl
noncomputable def impl_marked_L0 (out : Bool × List Int) (t7 : Bool × List Bool) (t8 : Int) (t9 : Int) : Option (Bool × List Int) := (inf H).loop 111 0 (loopCode Try.f111 0) (out, (t7, (t8, t9)))
noncomputable def impl_reachedFrom (g : Bool × List (Bool × List Int)) (some_ : Bool × List Int) : Option (Bool × List Int) := (inf H).call 50 (g, some_)
theorem key_impl_reachedFrom : H.key 50 = some h_impl_reachedFrom := by kernel_rfl
noncomputable def impl_reachedFrom_L0 (out : Bool × List Int) (t11 : Bool × List Int) (t12 : Int) (t13 : Int) : Option (Bool × List Int) := (inf H).loop 50 0 (loopCode Try.f50 0) (out, (t11, (t12, t13)))
noncomputable def impl_fairPoints (next : Bool × List (Bool × List Int)) (goals : Bool × List (Bool × List Int)) : Option (Bool × List Int) := (inf H).call 77 (next, goals)
noncomputable def impl_FairPoints (g : DGraph) (goals : Bool × List (Bool × List Int)) : Option ((Bool × List Int) × Bool) := (inf H).call 40 (g, goals)
noncomputable def impl_ReachFrom (g : DGraph) (from_ : Bool × List Int) : Option ((Bool × List Int) × Bool) := (inf H).call 11 (g, from_)
noncomputable def spec_DrawFairPoints (code : Bool × List Int) : Option ((Bool × List (Bool × List Int)) × Bool × List (Bool × List Int)) := (inf H).call 41 code
noncomputable def spec_l11Reach (next : Bool × List (Bool × List Int)) (from_ : Bool × List Int) : Option (Bool × List Int) := (inf H).call 51 (next, from_)
theorem key_spec_l11Reach : H.key 51 = some h_spec_l11Reach := by kernel_rfl
noncomputable def spec_l11Reach_L0 (out : Bool × List Int) (t10 : Bool × List Int) (t11 : Int) (t12 : Int) : Option (Bool × List Int) := (inf H).loop 51 0 (loopCode Try.f51 0) (out, (t10, (t11, t12)))
noncomputable def spec_FairPoints (g : DGraph) (goals : Bool × List (Bool × List Int)) : Option ((Bool × List Int) × Bool) := (inf H).call 42 (g, goals)
noncomputable def laws_FnFairLasso (code : Bool × List Int) (more : Bool × List Int) : Option Bool := (inf H).call 6 (code, more)
theorem key_laws_FnFairLasso : H.key 6 = some h_laws_FnFairLasso := by kernel_rfl
noncomputable def laws_FnFairLasso_L0 (more : Bool × List Int) (g : DGraph) (from_ : Bool × List Int) (goals : Bool × List (Bool × List Int)) (l : Bool × List Int) (ok : Bool) (all_ : Bool × List Int) (k_ : Int) : Option (Bool ⊕ Unit) := (inf H).loop 6 0 (loopCode Try.f6 0) (more, (g, (from_, (goals, (l, (ok, (all_, k_)))))))
noncomputable def laws_FnFairLasso_L2 (more : Bool × List Int) (g : DGraph) (from_ : Bool × List Int) (goals : Bool × List (Bool × List Int)) (l : Bool × List Int) (ok : Bool) (t112 : Bool × List (Bool × List Int)) (t113 : Int) (t114 : Int) : Option (Bool ⊕ Unit) := (inf H).loop 6 2 (loopCode Try.f6 2) (more, (g, (from_, (goals, (l, (ok, (t112, (t113, t114))))))))
noncomputable def laws_FnFairLasso_L4 (more : Bool × List Int) (g : DGraph) (from_ : Bool × List Int) (goals : Bool × List (Bool × List Int)) (l : Bool × List Int) (ok : Bool) (met : Bool) (t112 : Bool × List (Bool × List Int)) (t113 : Int) (t114 : Int) (t118 : Bool × List Int) (t119 : Int) (t120 : Int) : Option Bool := (inf H).loop 6 4 (loopCode Try.f6 4) (more, (g, (from_, (goals, (l, (ok, (met, (t112, (t113, (t114, (t118, (t119, t120))))))))))))
noncomputable def laws_FnFairLasso_L6 (more : Bool × List Int) (ok : Bool) (f : Bool × List Int) (any_ : Bool) (t150 : Bool × List Int) (t151 : Int) (t152 : Int) : Option Bool := (inf H).loop 6 6 (loopCode Try.f6 6) (more, (ok, (f, (any_, (t150, (t151, t152))))))
theorem laws_big_eq (code : Bool × List Int) (more : Bool × List Int) : laws_big code more =
 bif decide ((code.2.length : Int) > 1048576) then
 some true
else 
 some (decide ((more.2.length : Int) > (IntKind.i64.wrap (1048576 - (code.2.length : Int))))) := Eq.trans (inf_call_eq (H := H) 7 (code, more)) (by kernel_rfl)
theorem spec_l1Cur_next_eq (a0_0 : Bool × List Int) (a0_1 : Int) (a0_2 : Int) : spec_l1Cur_next a0_0 a0_1 a0_2 =
 bif decide (a0_1 < (a0_0.2.length : Int)) then
 bif decide (0 ≤ a0_1) then
 bif decide (a0_1 < (a0_0.2.length : Int)) then
 bif decide ((IntKind.i64.wrap (a0_1 + 1)) ≤ (a0_0.2.length : Int)) then
 some ((a0_0, (IntKind.i64.wrap (a0_1 + 1), IntKind.u64.wrap ((IntKind.u64.wrap ((IntKind.u64.wrap (a0_2 * 6364136223846793005)) + (IntKind.u64.wrap (IntKind.i64.wrap (a0_0.2.getD (Int.toNat a0_1) 0))))) + 1442695040888963407))), IntKind.i64.wrap (a0_0.2.getD (Int.toNat a0_1) 0))
else 
 some ((a0_0, (IntKind.i64.wrap (a0_1 + 1), IntKind.u64.wrap ((IntKind.u64.wrap ((IntKind.u64.wrap (a0_2 * 6364136223846793005)) + (IntKind.u64.wrap (IntKind.i64.wrap (a0_0.2.getD (Int.toNat a0_1) 0))))) + 1442695040888963407))), IntKind.i64.wrap (bAnd .u64 (bShr .u64 (IntKind.u64.wrap ((IntKind.u64.wrap ((IntKind.u64.wrap (a0_2 * 6364136223846793005)) + (IntKind.u64.wrap (IntKind.i64.wrap (a0_0.2.getD (Int.toNat a0_1) 0))))) + 1442695040888963407)) 40) 255))
else none
else none
else 
 bif decide ((IntKind.i64.wrap (a0_1 + 1)) ≤ (a0_0.2.length : Int)) then
 some ((a0_0, (IntKind.i64.wrap (a0_1 + 1), IntKind.u64.wrap ((IntKind.u64.wrap ((IntKind.u64.wrap (a0_2 * 6364136223846793005)) + (IntKind.u64.wrap 0))) + 1442695040888963407))), 0)
else 
 some ((a0_0, (IntKind.i64.wrap (a0_1 + 1), IntKind.u64.wrap ((IntKind.u64.wrap ((IntKind.u64.wrap (a0_2 * 6364136223846793005)) + (IntKind.u64.wrap 0))) + 1442695040888963407))), IntKind.i64.wrap (bAnd .u64 (bShr .u64 (IntKind.u64.wrap ((IntKind.u64.wrap ((IntKind.u64.wrap (a0_2 * 6364136223846793005)) + (IntKind.u64.wrap 0))) + 1442695040888963407)) 40) 255)) := Eq.trans (inf_call_eq (H := H) 100 (a0_0, (a0_1, a0_2))) (by kernel_rfl)
theorem spec_l1Cur_pick_eq (c : Dl1Cur) (n : Int) : spec_l1Cur_pick c n =
 bif decide (n ≤ 1) then
 some (c, 0)
else 
(spec_l1Cur_next c.1 c.2.1 c.2.2).bind fun r =>
 bif decide (n > 200) then
(spec_l1Cur_next r.1.1 r.1.2.1 r.1.2.2).bind fun r1 =>
 bif (n == 0) then
 none
else 
 some (r1.1, Int.tmod (IntKind.i64.wrap ((IntKind.i64.wrap (r.2 * 256)) + r1.2)) n)
else 
 bif (n == 0) then
 none
else 
 some (r.1, Int.tmod r.2 n) := Eq.trans (inf_call_eq (H := H) 70 (c, n)) (by kernel_rfl)
theorem spec_l1Put_L0_eq (l : Bool × List Int) (n : Int) (k_ : Int) : spec_l1Put_L0 l n k_ =
 bif decide (k_ < (l.2.length : Int)) then
 bif decide (0 ≤ k_) then
 bif decide (k_ < (l.2.length : Int)) then
 bif decide ((l.2.getD (Int.toNat k_) 0) < n) then
(spec_l1Put_L0 l n (IntKind.i64.wrap (k_ + 1))).bind fun r => some r
else 
 some k_
else none
else none
else 
 some k_ := Eq.trans (inf_loop_eq (H := H) 79 0 (loopCode Try.f79 0) (l, (n, k_)) key_spec_l1Put) (by kernel_rfl)
theorem spec_l1Put_eq (l : Bool × List Int) (n : Int) : spec_l1Put l n =
(spec_l1Put_L0 (l.1, l.2) n 0).bind fun r =>
 bif decide (r < (l.2.length : Int)) then
 bif decide (0 ≤ r) then
 bif decide (r < (l.2.length : Int)) then
 bif ((l.2.getD (Int.toNat r) 0) == n) then
 some (l.1, l.2)
else 
 bif decide (0 ≤ r) then
 bif decide (r ≤ (l.2.length : Int)) then
 bif decide (([] : List Int).length + ((l.2.take (Int.toNat r)).drop 0).length ≤ lim) then
 bif decide (([] ++ ((l.2.take (Int.toNat r)).drop 0)).length + [n].length ≤ lim) then
 bif decide (0 ≤ r) then
 bif decide (r ≤ (l.2.length : Int)) then
 bif decide ((([] ++ ((l.2.take (Int.toNat r)).drop 0)) ++ [n]).length + ((l.2.take l.2.length).drop (Int.toNat r)).length ≤ lim) then
 some (false, ((([] ++ ((l.2.take (Int.toNat r)).drop 0)) ++ [n]) ++ ((l.2.take l.2.length).drop (Int.toNat r))))
else none
else none
else none
else none
else none
else none
else none
else none
else none
else 
 bif decide (0 ≤ r) then
 bif decide (r ≤ (l.2.length : Int)) then
 bif decide (([] : List Int).length + ((l.2.take (Int.toNat r)).drop 0).length ≤ lim) then
 bif decide (([] ++ ((l.2.take (Int.toNat r)).drop 0)).length + [n].length ≤ lim) then
 bif decide (0 ≤ r) then
 bif decide (r ≤ (l.2.length : Int)) then
 bif decide ((([] ++ ((l.2.take (Int.toNat r)).drop 0)) ++ [n]).length + ((l.2.take l.2.length).drop (Int.toNat r)).length ≤ lim) then
 some (false, ((([] ++ ((l.2.take (Int.toNat r)).drop 0)) ++ [n]) ++ ((l.2.take l.2.length).drop (Int.toNat r))))
else none
else none
else none
else none
else none
else none
else none := Eq.trans (inf_call_eq (H := H) 79 (l, n)) (by kernel_rfl)
theorem spec_l1Cur_graph_L0_eq (c : Dl1Cur) (n : Int) (g : Bool × List (Bool × List Int)) (k_ : Int) : spec_l1Cur_graph_L0 c n g k_ =
 bif decide (k_ < n) then
(spec_l1Cur_pick c 4).bind fun r =>
(spec_l1Cur_graph_L2 r.1 n k_ (true, []) r.2).bind fun r1 =>
 bif decide (g.2.length + [(r1.2.1, r1.2.2)].length ≤ lim) then
(spec_l1Cur_graph_L0 r1.1 n ((g.1 && false), (g.2 ++ [(r1.2.1, r1.2.2)])) (IntKind.i64.wrap (k_ + 1))).bind fun r => some r
else none
else 
 some (c, (g.1, g.2)) := Eq.trans (inf_loop_eq (H := H) 43 0 (loopCode Try.f43 0) (c, (n, (g, k_))) key_spec_l1Cur_graph) (by kernel_rfl)
theorem spec_l1Cur_graph_L2_eq (c : Dl1Cur) (n : Int) (k_ : Int) (l : Bool × List Int) (m : Int) : spec_l1Cur_graph_L2 c n k_ l m =
 bif decide (m > 0) then
(spec_l1Cur_pick c n).bind fun r =>
(spec_l1Put (l.1, l.2) r.2).bind fun r1 =>
(spec_l1Cur_graph_L2 r.1 n k_ (r1.1, r1.2) (IntKind.i64.wrap (m - 1))).bind fun r => some r
else 
 some (c, (l.1, l.2)) := Eq.trans (inf_loop_eq (H := H) 43 2 (loopCode Try.f43 2) (c, (n, (k_, (l, m)))) key_spec_l1Cur_graph) (by kernel_rfl)
theorem spec_l1Cur_graph_L5_eq (c : Dl1Cur) (g : Bool × List (Bool × List Int)) : spec_l1Cur_graph_L5 c g =
(spec_l1Cur_pick c 2).bind fun r =>
 bif decide ((g.2.length : Int) < (IntKind.i64.wrap (1200 + r.2))) then
 bif decide (g.2.length + ([(true, [])] : List (Bool × List Int)).length ≤ lim) then
(spec_l1Cur_graph_L5 r.1 ((g.1 && false), (g.2 ++ [(true, [])]))).bind fun r => some r
else none
else 
 some (r.1, (g.1, g.2)) := Eq.trans (inf_loop_eq (H := H) 43 5 (loopCode Try.f43 5) (c, g) key_spec_l1Cur_graph) (by kernel_rfl)
theorem spec_l1Cur_graph_eq (c : Dl1Cur) : spec_l1Cur_graph c =
(spec_l1Cur_pick c 12).bind fun r =>
(spec_l1Cur_graph_L0 r.1 (IntKind.i64.wrap (1 + r.2)) (true, []) 0).bind fun r1 =>
(spec_l1Cur_pick r1.1 40).bind fun r2 =>
 bif (r2.2 == 0) then
 bif decide (0 < (r1.2.2.length : Int)) then
 bif decide (((r1.2.2.getD 0 (true, [])).2).length + [IntKind.i64.wrap (1 + r.2)].length ≤ lim) then
 bif decide (0 < (r1.2.2.length : Int)) then
 bif (0 == 0) then
 some (r2.1, (r1.2.1, (r1.2.2.set 0 ((((r1.2.2.getD 0 (true, [])).1) && false), (((r1.2.2.getD 0 (true, [])).2) ++ [IntKind.i64.wrap (1 + r.2)])))))
else none
else none
else none
else none
else 
 bif (r2.2 == 1) then
 bif decide (0 < (r1.2.2.length : Int)) then
 some (r2.1, (r1.2.1, (r1.2.2.set 0 (false, [1, 0]))))
else none
else 
 bif (r2.2 == 2) then
(spec_l1Cur_graph_L5 r2.1 (r1.2.1, r1.2.2)).bind fun r3 =>
 some (r3.1, (r3.2.1, r3.2.2))
else 
 some (r2.1, (r1.2.1, r1.2.2)) := Eq.trans (inf_call_eq (H := H) 43 c) (by kernel_rfl)
theorem spec_l1Cur_one_eq (c : Dl1Cur) (n : Int) : spec_l1Cur_one c n =
(spec_l1Cur_pick c n).bind fun r =>
 some (r.1, (r.2 == 0)) := Eq.trans (inf_call_eq (H := H) 80 (c, n)) (by kernel_rfl)
theorem spec_l1Cur_someOf_L0_eq (c : Dl1Cur) (n : Int) (l : Bool × List Int) (k_ : Int) : spec_l1Cur_someOf_L0 c n l k_ =
 bif decide (k_ > 0) then
(spec_l1Cur_pick c n).bind fun r =>
(spec_l1Put (l.1, l.2) r.2).bind fun r1 =>
(spec_l1Cur_someOf_L0 r.1 n (r1.1, r1.2) (IntKind.i64.wrap (k_ - 1))).bind fun r => some r
else 
 some (c, (l.1, l.2)) := Eq.trans (inf_loop_eq (H := H) 44 0 (loopCode Try.f44 0) (c, (n, (l, k_))) key_spec_l1Cur_someOf) (by kernel_rfl)
theorem spec_l1Cur_someOf_eq (c : Dl1Cur) (n : Int) (most : Int) : spec_l1Cur_someOf c n most =
(spec_l1Cur_pick c (IntKind.i64.wrap (most + 1))).bind fun r =>
(spec_l1Cur_someOf_L0 r.1 n (true, []) r.2).bind fun r1 =>
(spec_l1Cur_one r1.1 40).bind fun r2 =>
 bif r2.2 then
 bif decide (r1.2.2.length + [n].length ≤ lim) then
 some (r2.1, ((r1.2.1 && false), (r1.2.2 ++ [n])))
else none
else 
 some (r2.1, (r1.2.1, r1.2.2)) := Eq.trans (inf_call_eq (H := H) 44 (c, (n, most))) (by kernel_rfl)
theorem spec_l1Cur_goals_L0_eq (c : Dl1Cur) (n : Int) (l : Bool × List (Bool × List Int)) (k_ : Int) : spec_l1Cur_goals_L0 c n l k_ =
 bif decide (k_ > 0) then
(spec_l1Cur_someOf c n 4).bind fun r =>
 bif decide (l.2.length + [(r.2.1, r.2.2)].length ≤ lim) then
(spec_l1Cur_goals_L0 r.1 n ((l.1 && false), (l.2 ++ [(r.2.1, r.2.2)])) (IntKind.i64.wrap (k_ - 1))).bind fun r => some r
else none
else 
 some (c, (l.1, l.2)) := Eq.trans (inf_loop_eq (H := H) 72 0 (loopCode Try.f72 0) (c, (n, (l, k_))) key_spec_l1Cur_goals) (by kernel_rfl)
theorem spec_l1Cur_goals_eq (c : Dl1Cur) (n : Int) : spec_l1Cur_goals c n =
(spec_l1Cur_pick c 4).bind fun r =>
(spec_l1Cur_goals_L0 r.1 n (true, []) r.2).bind fun r1 =>
(spec_l1Cur_one r1.1 40).bind fun r2 =>
 bif r2.2 then
(spec_l1Cur_pick r2.1 2).bind fun r3 =>
 bif decide (0 ≤ (IntKind.i64.wrap (6 + r3.2))) then
 bif decide ((IntKind.i64.wrap (6 + r3.2)) ≤ lim) then
 bif decide ((IntKind.i64.wrap (6 + r3.2)) ≤ (IntKind.i64.wrap (6 + r3.2))) then
 bif decide ((IntKind.i64.wrap (6 + r3.2)) ≤ lim) then
 some (r3.1, (false, (List.replicate (Int.toNat (IntKind.i64.wrap (6 + r3.2))) ((true, []) : Bool × List Int))))
else none
else none
else none
else none
else 
 some (r2.1, (r1.2.1, r1.2.2)) := Eq.trans (inf_call_eq (H := H) 72 (c, n)) (by kernel_rfl)
theorem spec_DrawFairLasso_eq (code : Bool × List Int) : spec_DrawFairLasso code =
(spec_l1Cur_graph (code, (0, 0))).bind fun r =>
(spec_l1Cur_someOf r.1 (r.2.2.length : Int) 3).bind fun r1 =>
(spec_l1Cur_goals r1.1 (r.2.2.length : Int)).bind fun r2 =>
 some ((r.2.1, r.2.2), ((r1.2.1, r1.2.2), (r2.2.1, r2.2.2))) := Eq.trans (inf_call_eq (H := H) 37 code) (by kernel_rfl)
theorem impl_isIncreasing_L0_eq (list : Bool × List Int) (bound : Int) (t7 : Bool × List Int) (t8 : Int) (t9 : Int) : impl_isIncreasing_L0 list bound t7 t8 t9 =
 bif decide (t9 < t8) then
 bif decide (0 ≤ t9) then
 bif decide (t9 < (t7.2.length : Int)) then
 bif decide ((t7.2.getD (Int.toNat t9) 0) < 0) then
 some (.inl false)
else 
 bif decide ((t7.2.getD (Int.toNat t9) 0) ≥ bound) then
 some (.inl false)
else 
 bif decide (t9 > 0) then
 bif decide (0 ≤ (IntKind.i64.wrap (t9 - 1))) then
 bif decide ((IntKind.i64.wrap (t9 - 1)) < (list.2.length : Int)) then
 bif decide ((list.2.getD (Int.toNat (IntKind.i64.wrap (t9 - 1))) 0) ≥ (t7.2.getD (Int.toNat t9) 0)) then
 some (.inl false)
else 
(impl_isIncreasing_L0 list bound t7 t8 (IntKind.i64.wrap (t9 + 1))).bind fun r => some r
else none
else none
else 
(impl_isIncreasing_L0 list bound t7 t8 (IntKind.i64.wrap (t9 + 1))).bind fun r => some r
else none
else none
else 
 some (.inr ()) := Eq.trans (inf_loop_eq (H := H) 46 0 (loopCode Try.f46 0) (list, (bound, (t7, (t8, t9)))) key_impl_isIncreasing) (by kernel_rfl)
theorem impl_isIncreasing_eq (list : Bool × List Int) (bound : Int) : impl_isIncreasing list bound =
(impl_isIncreasing_L0 list bound list (list.2.length : Int) 0).bind fun r =>
 match r with
| .inl y =>
 some y
| .inr z =>
 some true := Eq.trans (inf_call_eq (H := H) 46 (list, bound)) (by kernel_rfl)
theorem impl_GoodGraph_L0_eq (g : DGraph) (arcs : Int) (t11 : Bool × List (Bool × List Int)) (t12 : Int) (t13 : Int) : impl_GoodGraph_L0 g arcs t11 t12 t13 =
 bif decide (t13 < t12) then
 bif decide (0 ≤ t13) then
 bif decide (t13 < (t11.2.length : Int)) then
(impl_isIncreasing (t11.2.getD (Int.toNat t13) (true, [])) (g.2.length : Int)).bind fun r =>
 bif !r then
 some (.inl false)
else 
(impl_GoodGraph_L0 g (IntKind.i64.wrap (arcs + (((t11.2.getD (Int.toNat t13) (true, [])).2).length : Int))) t11 t12 (IntKind.i64.wrap (t13 + 1))).bind fun r => some r
else none
else none
else 
 some (.inr arcs) := Eq.trans (inf_loop_eq (H := H) 21 0 (loopCode Try.f21 0) (g, (arcs, (t11, (t12, t13)))) key_impl_GoodGraph) (by kernel_rfl)
theorem impl_GoodGraph_eq (g : DGraph) : impl_GoodGraph g =
 bif decide ((g.2.length : Int) > 1200) then
 some false
else 
(impl_GoodGraph_L0 g 0 g (g.2.length : Int) 0).bind fun r =>
 match r with
| .inl y =>
 some y
| .inr z =>
 some (decide (z ≤ 20000)) := Eq.trans (inf_call_eq (H := H) 21 g) (by kernel_rfl)
theorem impl_isGraphFrom_eq (g : DGraph) (from_ : Bool × List Int) : impl_isGraphFrom g from_ =
(impl_GoodGraph g).bind fun r =>
 bif r then
(impl_isIncreasing from_ (g.2.length : Int)).bind fun r1 =>
 some r1
else 
 some false := Eq.trans (inf_call_eq (H := H) 45 (g, from_)) (by kernel_rfl)
theorem impl_areGoals_1_eq (list : Bool × List Int) (a1 : Int) : impl_areGoals_1 list a1 =
(impl_isIncreasing list a1).bind fun r =>
 some (!r) := Eq.trans (inf_call_eq (H := H) 104 (list, a1)) (by kernel_rfl)
theorem slices_IndexFunc_int_by_areGoals_1_L0_eq (s : Bool × List (Bool × List Int)) (f : Int × Unit) (t7 : Int) (t8 : Int) : slices_IndexFunc_int_by_areGoals_1_L0 s f t7 t8 =
 bif decide (t8 < t7) then
 bif decide (0 ≤ t8) then
 bif decide (t8 < (s.2.length : Int)) then
(impl_areGoals_1 (s.2.getD (Int.toNat t8) (true, [])) f.1).bind fun r =>
 bif r then
 some (.inl t8)
else 
(slices_IndexFunc_int_by_areGoals_1_L0 s f t7 (IntKind.i64.wrap (t8 + 1))).bind fun r => some r
else none
else none
else 
 some (.inr ()) := Eq.trans (inf_loop_eq (H := H) 118 0 (loopCode Try.f118 0) (s, (f, (t7, t8))) key_slices_IndexFunc_int_by_areGoals_1) (by kernel_rfl)
theorem slices_IndexFunc_int_by_areGoals_1_eq (s : Bool × List (Bool × List Int)) (f : Int × Unit) : slices_IndexFunc_int_by_areGoals_1 s f =
(slices_IndexFunc_int_by_areGoals_1_L0 s f (s.2.length : Int) 0).bind fun r =>
 match r with
| .inl y =>
 some y
| .inr z =>
 some (-1) := Eq.trans (inf_call_eq (H := H) 118 (s, f)) (by kernel_rfl)
theorem slices_ContainsFunc_int_by_areGoals_1_eq (s : Bool × List (Bool × List Int)) (f : Int × Unit) : slices_ContainsFunc_int_by_areGoals_1 s f =
(slices_IndexFunc_int_by_areGoals_1 s f).bind fun r =>
 some (decide (r ≥ 0)) := Eq.trans (inf_call_eq (H := H) 103 (s, f)) (by kernel_rfl)
theorem impl_areGoals_eq (goals : Bool × List (Bool × List Int)) (bound : Int) : impl_areGoals goals bound =
 bif decide ((goals.2.length : Int) ≤ 6) then
(slices_ContainsFunc_int_by_areGoals_1 goals (bound, ())).bind fun r =>
 some (!r)
else 
 some false := Eq.trans (inf_call_eq (H := H) 73 (goals, bound)) (by kernel_rfl)
theorem bits_Mul64_eq (x : Int) (y : Int) : bits_Mul64 x y =
 some (IntKind.u64.wrap ((IntKind.u64.wrap ((IntKind.u64.wrap ((bShr .u64 x 32) * (bShr .u64 y 32))) + (bShr .u64 (IntKind.u64.wrap ((IntKind.u64.wrap ((bShr .u64 x 32) * (bAnd .u64 y 4294967295))) + (bShr .u64 (IntKind.u64.wrap ((bAnd .u64 x 4294967295) * (bAnd .u64 y 4294967295))) 32))) 32))) + (bShr .u64 (IntKind.u64.wrap ((bAnd .u64 (IntKind.u64.wrap ((IntKind.u64.wrap ((bShr .u64 x 32) * (bAnd .u64 y 4294967295))) + (bShr .u64 (IntKind.u64.wrap ((bAnd .u64 x 4294967295) * (bAnd .u64 y 4294967295))) 32))) 4294967295) + (IntKind.u64.wrap ((bAnd .u64 x 4294967295) * (bShr .u64 y 32))))) 32)), IntKind.u64.wrap (x * y)) := Eq.trans (inf_call_eq (H := H) 120 (x, y)) (by kernel_rfl)
theorem bits_Mul_eq (x : Int) (y : Int) : bits_Mul x y =
(bits_Mul64 x y).bind fun r =>
 some (r.1, r.2) := Eq.trans (inf_call_eq (H := H) 114 (x, y)) (by kernel_rfl)
theorem slices_Repeat_int_L0_eq (newslice : Bool × List Int) (n : Int) : slices_Repeat_int_L0 newslice n =
 bif decide (n < (newslice.2.length : Int)) then
 bif decide (0 ≤ n) then
 bif decide (n ≤ (newslice.2.length : Int)) then
 bif decide (0 ≤ n) then
 bif decide (n ≤ (newslice.2.length : Int)) then
(slices_Repeat_int_L0 (newslice.1, (newslice.2.take (Int.toNat n) ++ (((newslice.2.take (Int.toNat n)).drop 0).take (newslice.2.length - (Int.toNat n)) ++ newslice.2.drop ((Int.toNat n) + (min ((newslice.2.take (Int.toNat n)).drop 0).length (newslice.2.length - (Int.toNat n))))))) (IntKind.i64.wrap (n + ((min ((newslice.2.take (Int.toNat n)).drop 0).length (newslice.2.length - (Int.toNat n)) : Nat) : Int)))).bind fun r => some r
else none
else none
else none
else none
else 
 some (newslice.1, newslice.2) := Eq.trans (inf_loop_eq (H := H) 86 0 (loopCode Try.f86 0) (newslice, n) key_slices_Repeat_int) (by kernel_rfl)
theorem slices_Repeat_int_eq (x : Bool × List Int) (count : Int) : slices_Repeat_int x count =
 bif decide (count < 0) then
 none
else 
(bits_Mul (IntKind.u64.wrap (x.2.length : Int)) (IntKind.u64.wrap count)).bind fun r =>
 bif decide (r.1 > 0) then
 none
else 
 bif decide (r.2 > 9223372036854775807) then
 none
else 
 bif decide (0 ≤ (IntKind.i64.wrap r.2)) then
 bif decide ((IntKind.i64.wrap r.2) ≤ lim) then
 bif decide ((IntKind.i64.wrap r.2) ≤ (IntKind.i64.wrap r.2)) then
 bif decide ((IntKind.i64.wrap r.2) ≤ lim) then
(slices_Repeat_int_L0 (false, (x.2.take (List.replicate (Int.toNat (IntKind.i64.wrap r.2)) (0 : Int)).length ++ (List.replicate (Int.toNat (IntKind.i64.wrap r.2)) (0 : Int)).drop (min x.2.length (List.replicate (Int.toNat (IntKind.i64.wrap r.2)) (0 : Int)).length))) ((min x.2.length (List.replicate (Int.toNat (IntKind.i64.wrap r.2)) (0 : Int)).length : Nat) : Int)).bind fun r1 =>
 some (r1.1, r1.2)
else none
else none
else none
else none := Eq.trans (inf_call_eq (H := H) 86 (x, count)) (by kernel_rfl)
theorem slices_Clone_int_eq (s : Bool × List Int) : slices_Clone_int s =
 bif s.1 then
 some (true, [])
else 
 bif decide (([] : List Int).length + s.2.length ≤ lim) then
 some (false, ([] ++ s.2))
else none := Eq.trans (inf_call_eq (H := H) 108 s) (by kernel_rfl)
theorem impl_stepsFrom_L0_eq (g : Bool × List (Bool × List Int)) (steps : Bool × List Int) (open_ : Bool × List Int) (t17 : Bool × List Int) (t18 : Int) (t19 : Int) : impl_stepsFrom_L0 g steps open_ t17 t18 t19 =
 bif decide (t19 < t18) then
 bif decide (0 ≤ t19) then
 bif decide (t19 < (t17.2.length : Int)) then
 bif decide (0 ≤ (t17.2.getD (Int.toNat t19) 0)) then
 bif decide ((t17.2.getD (Int.toNat t19) 0) < (steps.2.length : Int)) then
(impl_stepsFrom_L0 g (steps.1, (steps.2.set (Int.toNat (t17.2.getD (Int.toNat t19) 0)) 0)) open_ t17 t18 (IntKind.i64.wrap (t19 + 1))).bind fun r => some r
else none
else none
else none
else none
else 
 some (steps.1, steps.2) := Eq.trans (inf_loop_eq (H := H) 81 0 (loopCode Try.f81 0) (g, (steps, (open_, (t17, (t18, t19))))) key_impl_stepsFrom) (by kernel_rfl)
theorem impl_stepsFrom_L2_eq (g : Bool × List (Bool × List Int)) (steps : Bool × List Int) (open_ : Bool × List Int) : impl_stepsFrom_L2 g steps open_ =
 bif decide ((open_.2.length : Int) > 0) then
 bif decide (0 < (open_.2.length : Int)) then
 bif decide (0 ≤ (open_.2.getD 0 0)) then
 bif decide ((open_.2.getD 0 0) < (g.2.length : Int)) then
(impl_stepsFrom_L4 g (steps.1, steps.2) (open_.1, open_.2) (g.2.getD (Int.toNat (open_.2.getD 0 0)) (true, [])) (((g.2.getD (Int.toNat (open_.2.getD 0 0)) (true, [])).2).length : Int) 0).bind fun r =>
 bif decide (1 ≤ (r.2.2.length : Int)) then
(impl_stepsFrom_L2 g (r.1.1, r.1.2) (r.2.1, ((r.2.2.take r.2.2.length).drop 1))).bind fun r => some r
else none
else none
else none
else none
else 
 some (steps.1, steps.2) := Eq.trans (inf_loop_eq (H := H) 81 2 (loopCode Try.f81 2) (g, (steps, open_)) key_impl_stepsFrom) (by kernel_rfl)
theorem impl_stepsFrom_L4_eq (g : Bool × List (Bool × List Int)) (steps : Bool × List Int) (open_ : Bool × List Int) (t37 : Bool × List Int) (t38 : Int) (t39 : Int) : impl_stepsFrom_L4 g steps open_ t37 t38 t39 =
 bif decide (t39 < t38) then
 bif decide (0 ≤ t39) then
 bif decide (t39 < (t37.2.length : Int)) then
 bif decide (0 ≤ (t37.2.getD (Int.toNat t39) 0)) then
 bif decide ((t37.2.getD (Int.toNat t39) 0) < (steps.2.length : Int)) then
 bif decide ((steps.2.getD (Int.toNat (t37.2.getD (Int.toNat t39) 0)) 0) < 0) then
 bif decide (0 < (open_.2.length : Int)) then
 bif decide (0 ≤ (open_.2.getD 0 0)) then
 bif decide ((open_.2.getD 0 0) < (steps.2.length : Int)) then
 bif decide (0 ≤ (t37.2.getD (Int.toNat t39) 0)) then
 bif decide ((t37.2.getD (Int.toNat t39) 0) < (steps.2.length : Int)) then
 bif decide (open_.2.length + [(t37.2.getD (Int.toNat t39) 0)].length ≤ lim) then
(impl_stepsFrom_L4 g (steps.1, (steps.2.set (Int.toNat (t37.2.getD (Int.toNat t39) 0)) (IntKind.i64.wrap ((steps.2.getD (Int.toNat (open_.2.getD 0 0)) 0) + 1)))) ((open_.1 && false), (open_.2 ++ [(t37.2.getD (Int.toNat t39) 0)])) t37 t38 (IntKind.i64.wrap (t39 + 1))).bind fun r => some r
else none
else none
else none
else none
else none
else none
else 
(impl_stepsFrom_L4 g (steps.1, steps.2) (open_.1, open_.2) t37 t38 (IntKind.i64.wrap (t39 + 1))).bind fun r => some r
else none
else none
else none
else none
else 
 some ((steps.1, steps.2), (open_.1, open_.2)) := Eq.trans (inf_loop_eq (H := H) 81 4 (loopCode Try.f81 4) (g, (steps, (open_, (t37, (t38, t39))))) key_impl_stepsFrom) (by kernel_rfl)
theorem impl_stepsFrom_eq (g : Bool × List (Bool × List Int)) (some_ : Bool × List Int) : impl_stepsFrom g some_ =
(slices_Repeat_int (false, [(-1)]) (g.2.length : Int)).bind fun r =>
(slices_Clone_int some_).bind fun r1 =>
(impl_stepsFrom_L0 g (r.1, r.2) (r1.1, r1.2) some_ (some_.2.length : Int) 0).bind fun r2 =>
(impl_stepsFrom_L2 g (r2.1, r2.2) (r1.1, r1.2)).bind fun r3 =>
 some (r3.1, r3.2) := Eq.trans (inf_call_eq (H := H) 81 (g, some_)) (by kernel_rfl)
theorem slices_Index_int_L0_eq (s : Bool × List Int) (v : Int) (t7 : Int) (t8 : Int) : slices_Index_int_L0 s v t7 t8 =
 bif decide (t8 < t7) then
 bif decide (0 ≤ t8) then
 bif decide (t8 < (s.2.length : Int)) then
 bif (v == (s.2.getD (Int.toNat t8) 0)) then
 some (.inl t8)
else 
(slices_Index_int_L0 s v t7 (IntKind.i64.wrap (t8 + 1))).bind fun r => some r
else none
else none
else 
 some (.inr ()) := Eq.trans (inf_loop_eq (H := H) 89 0 (loopCode Try.f89 0) (s, (v, (t7, t8))) key_slices_Index_int) (by kernel_rfl)
theorem slices_Index_int_eq (s : Bool × List Int) (v : Int) : slices_Index_int s v =
(slices_Index_int_L0 s v (s.2.length : Int) 0).bind fun r =>
 match r with
| .inl y =>
 some y
| .inr z =>
 some (-1) := Eq.trans (inf_call_eq (H := H) 89 (s, v)) (by kernel_rfl)
theorem slices_Min_int_L0_eq (x : Bool × List Int) (m : Int) (i : Int) : slices_Min_int_L0 x m i =
 bif decide (i < (x.2.length : Int)) then
 bif decide (0 ≤ i) then
 bif decide (i < (x.2.length : Int)) then
(slices_Min_int_L0 x (bif decide ((x.2.getD (Int.toNat i) 0) < m) then (x.2.getD (Int.toNat i) 0) else m) (IntKind.i64.wrap (i + 1))).bind fun r => some r
else none
else none
else 
 some m := Eq.trans (inf_loop_eq (H := H) 115 0 (loopCode Try.f115 0) (x, (m, i)) key_slices_Min_int) (by kernel_rfl)
theorem slices_Min_int_eq (x : Bool × List Int) : slices_Min_int x =
 bif decide ((x.2.length : Int) < 1) then
 none
else 
 bif decide (0 < (x.2.length : Int)) then
(slices_Min_int_L0 x (x.2.getD 0 0) 1).bind fun r =>
 some r
else none := Eq.trans (inf_call_eq (H := H) 115 x) (by kernel_rfl)
theorem impl_tarjan_visit_L0_eq (t_0 : Bool × List (Bool × List Int)) (t_1 : Bool × List Int) (t_2 : Bool × List Int) (t_3 : Bool × List Int) (t_4 : Bool × List Int) (t_5 : Int) (v : Int) (t53 : Bool × List Int) (t54 : Int) (t55 : Int) : impl_tarjan_visit_L0 t_0 t_1 t_2 t_3 t_4 t_5 v t53 t54 t55 =
 bif decide (t55 < t54) then
 bif decide (0 ≤ t55) then
 bif decide (t55 < (t53.2.length : Int)) then
 bif decide (0 ≤ (t53.2.getD (Int.toNat t55) 0)) then
 bif decide ((t53.2.getD (Int.toNat t55) 0) < (t_1.2.length : Int)) then
 bif ((t_1.2.getD (Int.toNat (t53.2.getD (Int.toNat t55) 0)) 0) == 0) then
(impl_tarjan_visit t_0 (t_1.1, t_1.2) (t_2.1, t_2.2) (t_3.1, t_3.2) (t_4.1, t_4.2) t_5 (t53.2.getD (Int.toNat t55) 0)).bind fun r =>
 bif decide (0 ≤ v) then
 bif decide (v < (r.2.2.1.2.length : Int)) then
 bif decide (0 ≤ (t53.2.getD (Int.toNat t55) 0)) then
 bif decide ((t53.2.getD (Int.toNat t55) 0) < (r.2.2.1.2.length : Int)) then
 bif decide (0 ≤ v) then
 bif decide (v < (r.2.2.1.2.length : Int)) then
(impl_tarjan_visit_L0 r.1 (r.2.1.1, r.2.1.2) (r.2.2.1.1, (r.2.2.1.2.set (Int.toNat v) (bif decide ((r.2.2.1.2.getD (Int.toNat (t53.2.getD (Int.toNat t55) 0)) 0) < (r.2.2.1.2.getD (Int.toNat v) 0)) then (r.2.2.1.2.getD (Int.toNat (t53.2.getD (Int.toNat t55) 0)) 0) else (r.2.2.1.2.getD (Int.toNat v) 0)))) (r.2.2.2.1.1, r.2.2.2.1.2) (r.2.2.2.2.1.1, r.2.2.2.2.1.2) r.2.2.2.2.2 v t53 t54 (IntKind.i64.wrap (t55 + 1))).bind fun r => some r
else none
else none
else none
else none
else none
else none
else 
 bif decide (0 ≤ (t53.2.getD (Int.toNat t55) 0)) then
 bif decide ((t53.2.getD (Int.toNat t55) 0) < (t_3.2.length : Int)) then
 bif decide ((t_3.2.getD (Int.toNat (t53.2.getD (Int.toNat t55) 0)) 0) < 0) then
 bif decide (0 ≤ v) then
 bif decide (v < (t_2.2.length : Int)) then
 bif decide (0 ≤ (t53.2.getD (Int.toNat t55) 0)) then
 bif decide ((t53.2.getD (Int.toNat t55) 0) < (t_1.2.length : Int)) then
 bif decide (0 ≤ v) then
 bif decide (v < (t_2.2.length : Int)) then
(impl_tarjan_visit_L0 t_0 (t_1.1, t_1.2) (t_2.1, (t_2.2.set (Int.toNat v) (bif decide ((t_1.2.getD (Int.toNat (t53.2.getD (Int.toNat t55) 0)) 0) < (t_2.2.getD (Int.toNat v) 0)) then (t_1.2.getD (Int.toNat (t53.2.getD (Int.toNat t55) 0)) 0) else (t_2.2.getD (Int.toNat v) 0)))) (t_3.1, t_3.2) (t_4.1, t_4.2) t_5 v t53 t54 (IntKind.i64.wrap (t55 + 1))).bind fun r => some r
else none
else none
else none
else none
else none
else none
else 
(impl_tarjan_visit_L0 t_0 (t_1.1, t_1.2) (t_2.1, t_2.2) (t_3.1, t_3.2) (t_4.1, t_4.2) t_5 v t53 t54 (IntKind.i64.wrap (t55 + 1))).bind fun r => some r
else none
else none
else none
else none
else none
else none
else 
 some (t_0, ((t_1.1, t_1.2), ((t_2.1, t_2.2), ((t_3.1, t_3.2), ((t_4.1, t_4.2), t_5))))) := Eq.trans (inf_loop_eq (H := H) 87 0 (loopCode Try.f87 0) (t_0, (t_1, (t_2, (t_3, (t_4, (t_5, (v, (t53, (t54, t55))))))))) key_impl_tarjan_visit) (by kernel_rfl)
theorem impl_tarjan_visit_L2_eq (t_0 : Bool × List (Bool × List Int)) (t_1 : Bool × List Int) (t_2 : Bool × List Int) (t_3 : Bool × List Int) (t_4 : Bool × List Int) (t_5 : Int) (k_ : Int) (least : Int) (t154_0 : Int) (t154_1 : Int) (t155 : Int) (t156 : Int) : impl_tarjan_visit_L2 t_0 t_1 t_2 t_3 t_4 t_5 k_ least t154_0 t154_1 t155 t156 =
 bif decide (t156 < t155) then
 bif decide (0 ≤ t156) then
 bif decide (t156 < (((Int.toNat t154_1) - (Int.toNat t154_0) : Nat) : Int)) then
 bif decide (0 ≤ (t_4.2.getD ((Int.toNat t154_0) + (Int.toNat t156)) 0)) then
 bif decide ((t_4.2.getD ((Int.toNat t154_0) + (Int.toNat t156)) 0) < (t_3.2.length : Int)) then
(impl_tarjan_visit_L2 t_0 (t_1.1, t_1.2) (t_2.1, t_2.2) (t_3.1, (t_3.2.set (Int.toNat (t_4.2.getD ((Int.toNat t154_0) + (Int.toNat t156)) 0)) least)) (t_4.1, t_4.2) t_5 k_ least ((Int.toNat t154_0) : Int) ((Int.toNat t154_1) : Int) t155 (IntKind.i64.wrap (t156 + 1))).bind fun r => some r
else none
else none
else none
else none
else 
 some (t_0, ((t_1.1, t_1.2), ((t_2.1, t_2.2), ((t_3.1, t_3.2), ((t_4.1, t_4.2), t_5))))) := Eq.trans (inf_loop_eq (H := H) 87 2 (loopCode Try.f87 2) (t_0, (t_1, (t_2, (t_3, (t_4, (t_5, (k_, (least, (t154_0, (t154_1, (t155, t156))))))))))) key_impl_tarjan_visit) (by kernel_rfl)
theorem impl_tarjan_visit_eq (a0_0 : Bool × List (Bool × List Int)) (a0_1 : Bool × List Int) (a0_2 : Bool × List Int) (a0_3 : Bool × List Int) (a0_4 : Bool × List Int) (a0_5 : Int) (v : Int) : impl_tarjan_visit a0_0 a0_1 a0_2 a0_3 a0_4 a0_5 v =
 bif decide (0 ≤ v) then
 bif decide (v < (a0_1.2.length : Int)) then
 bif decide (0 ≤ v) then
 bif decide (v < (a0_2.2.length : Int)) then
 bif decide (a0_4.2.length + [v].length ≤ lim) then
 bif decide (0 ≤ v) then
 bif decide (v < (a0_0.2.length : Int)) then
(impl_tarjan_visit_L0 a0_0 (a0_1.1, (a0_1.2.set (Int.toNat v) (IntKind.i64.wrap (a0_5 + 1)))) (a0_2.1, (a0_2.2.set (Int.toNat v) (IntKind.i64.wrap (a0_5 + 1)))) (a0_3.1, a0_3.2) ((a0_4.1 && false), (a0_4.2 ++ [v])) (IntKind.i64.wrap (a0_5 + 1)) v (a0_0.2.getD (Int.toNat v) (true, [])) (((a0_0.2.getD (Int.toNat v) (true, [])).2).length : Int) 0).bind fun r =>
 bif decide (0 ≤ v) then
 bif decide (v < (r.2.2.1.2.length : Int)) then
 bif decide (0 ≤ v) then
 bif decide (v < (r.2.1.2.length : Int)) then
 bif decide ((r.2.2.1.2.getD (Int.toNat v) 0) < (r.2.1.2.getD (Int.toNat v) 0)) then
 some (r.1, ((r.2.1.1, r.2.1.2), ((r.2.2.1.1, r.2.2.1.2), ((r.2.2.2.1.1, r.2.2.2.1.2), ((r.2.2.2.2.1.1, r.2.2.2.2.1.2), r.2.2.2.2.2)))))
else 
(slices_Index_int (r.2.2.2.2.1.1, r.2.2.2.2.1.2) v).bind fun r1 =>
 bif decide (0 ≤ r1) then
 bif decide (r1 ≤ (r.2.2.2.2.1.2.length : Int)) then
(slices_Min_int (r.2.2.2.2.1.1, ((r.2.2.2.2.1.2.take r.2.2.2.2.1.2.length).drop (Int.toNat r1)))).bind fun r2 =>
 bif decide (0 ≤ r1) then
 bif decide (r1 ≤ (r.2.2.2.2.1.2.length : Int)) then
(impl_tarjan_visit_L2 r.1 (r.2.1.1, r.2.1.2) (r.2.2.1.1, r.2.2.1.2) (r.2.2.2.1.1, r.2.2.2.1.2) (r.2.2.2.2.1.1, r.2.2.2.2.1.2) r.2.2.2.2.2 r1 r2 ((Int.toNat r1) : Int) (r.2.2.2.2.1.2.length : Int) ((r.2.2.2.2.1.2.length - (Int.toNat r1) : Nat) : Int) 0).bind fun r3 =>
 bif decide (0 ≤ r1) then
 bif decide (r1 ≤ (r3.2.2.2.2.1.2.length : Int)) then
 some (r3.1, ((r3.2.1.1, r3.2.1.2), ((r3.2.2.1.1, r3.2.2.1.2), ((r3.2.2.2.1.1, r3.2.2.2.1.2), ((r3.2.2.2.2.1.1, ((r3.2.2.2.2.1.2.take (Int.toNat r1)).drop 0)), r3.2.2.2.2.2)))))
else none
else none
else none
else none
else none
else none
else none
else none
else none
else none
else none
else none
else none
else none
else none
else none
else none := Eq.trans (inf_call_eq (H := H) 87 (a0_0, (a0_1, (a0_2, (a0_3, (a0_4, (a0_5, v))))))) (by kernel_rfl)
theorem impl_parts_L0_eq (t_0 : Bool × List (Bool × List Int)) (t_1 : Bool × List Int) (t_2 : Bool × List Int) (t_3 : Bool × List Int) (t_4 : Bool × List Int) (t_5 : Int) (t19 : Int) (t20 : Int) : impl_parts_L0 t_0 t_1 t_2 t_3 t_4 t_5 t19 t20 =
 bif decide (t20 < t19) then
 bif decide (0 ≤ t20) then
 bif decide (t20 < (t_1.2.length : Int)) then
 bif ((t_1.2.getD (Int.toNat t20) 0) == 0) then
(impl_tarjan_visit t_0 (t_1.1, t_1.2) (t_2.1, t_2.2) (t_3.1, t_3.2) (t_4.1, t_4.2) t_5 t20).bind fun r =>
(impl_parts_L0 r.1 (r.2.1.1, r.2.1.2) (r.2.2.1.1, r.2.2.1.2) (r.2.2.2.1.1, r.2.2.2.1.2) (r.2.2.2.2.1.1, r.2.2.2.2.1.2) r.2.2.2.2.2 t19 (IntKind.i64.wrap (t20 + 1))).bind fun r => some r
else 
(impl_parts_L0 t_0 (t_1.1, t_1.2) (t_2.1, t_2.2) (t_3.1, t_3.2) (t_4.1, t_4.2) t_5 t19 (IntKind.i64.wrap (t20 + 1))).bind fun r => some r
else none
else none
else 
 some (t_0, ((t_1.1, t_1.2), ((t_2.1, t_2.2), ((t_3.1, t_3.2), ((t_4.1, t_4.2), t_5))))) := Eq.trans (inf_loop_eq (H := H) 53 0 (loopCode Try.f53 0) (t_0, (t_1, (t_2, (t_3, (t_4, (t_5, (t19, t20))))))) key_impl_parts) (by kernel_rfl)
theorem impl_parts_eq (next : Bool × List (Bool × List Int)) : impl_parts next =
 bif decide (0 ≤ (next.2.length : Int)) then
 bif decide ((next.2.length : Int) ≤ lim) then
 bif decide ((next.2.length : Int) ≤ (next.2.length : Int)) then
 bif decide ((next.2.length : Int) ≤ lim) then
 bif decide (0 ≤ (next.2.length : Int)) then
 bif decide ((next.2.length : Int) ≤ lim) then
 bif decide ((next.2.length : Int) ≤ (next.2.length : Int)) then
 bif decide ((next.2.length : Int) ≤ lim) then
(slices_Repeat_int (false, [(-1)]) (next.2.length : Int)).bind fun r =>
(impl_parts_L0 next (false, (List.replicate (Int.toNat (next.2.length : Int)) (0 : Int))) (false, (List.replicate (Int.toNat (next.2.length : Int)) (0 : Int))) (r.1, r.2) (true, []) 0 (next.2.length : Int) 0).bind fun r1 =>
 some (r1.2.2.2.1.1, r1.2.2.2.1.2)
else none
else none
else none
else none
else none
else none
else none
else none := Eq.trans (inf_call_eq (H := H) 53 next) (by kernel_rfl)
theorem impl_fairVertices_L0_eq (goals : Bool × List (Bool × List Int)) (part : Bool × List Int) (n : Int) (fair : Bool × List Bool) (out : Bool × List Bool) (t28 : Bool × List (Bool × List Int)) (t29 : Int) (t30 : Int) : impl_fairVertices_L0 goals part n fair out t28 t29 t30 =
 bif decide (t30 < t29) then
 bif decide (0 ≤ t30) then
 bif decide (t30 < (t28.2.length : Int)) then
(impl_fairVertices_L2 goals part n (fair.1, fair.2) out t30 t28 t29 t30 (t28.2.getD (Int.toNat t30) (true, [])) (((t28.2.getD (Int.toNat t30) (true, [])).2).length : Int) 0).bind fun r =>
(impl_fairVertices_L0 goals part n (r.1, r.2) out t28 t29 (IntKind.i64.wrap (t30 + 1))).bind fun r => some r
else none
else none
else 
 some (fair.1, fair.2) := Eq.trans (inf_loop_eq (H := H) 112 0 (loopCode Try.f112 0) (goals, (part, (n, (fair, (out, (t28, (t29, t30))))))) key_impl_fairVertices) (by kernel_rfl)
theorem impl_fairVertices_L2_eq (goals : Bool × List (Bool × List Int)) (part : Bool × List Int) (n : Int) (fair : Bool × List Bool) (out : Bool × List Bool) (v : Int) (t28 : Bool × List (Bool × List Int)) (t29 : Int) (t30 : Int) (t35 : Bool × List Int) (t36 : Int) (t37 : Int) : impl_fairVertices_L2 goals part n fair out v t28 t29 t30 t35 t36 t37 =
 bif decide (t37 < t36) then
 bif decide (0 ≤ t37) then
 bif decide (t37 < (t35.2.length : Int)) then
 bif decide (0 ≤ v) then
 bif decide (v < (part.2.length : Int)) then
 bif decide (0 ≤ v) then
 bif decide (v < (part.2.length : Int)) then
 bif decide (0 ≤ (part.2.getD (Int.toNat v) 0)) then
 bif decide ((part.2.getD (Int.toNat v) 0) < (fair.2.length : Int)) then
 bif (fair.2.getD (Int.toNat (part.2.getD (Int.toNat v) 0)) false) then
 bif decide (0 ≤ (part.2.getD (Int.toNat v) 0)) then
 bif decide ((part.2.getD (Int.toNat v) 0) < (fair.2.length : Int)) then
(impl_fairVertices_L2 goals part n (fair.1, (fair.2.set (Int.toNat (part.2.getD (Int.toNat v) 0)) true)) out v t28 t29 t30 t35 t36 (IntKind.i64.wrap (t37 + 1))).bind fun r => some r
else none
else none
else 
 bif decide (0 ≤ (t35.2.getD (Int.toNat t37) 0)) then
 bif decide ((t35.2.getD (Int.toNat t37) 0) < (part.2.length : Int)) then
 bif decide (0 ≤ v) then
 bif decide (v < (part.2.length : Int)) then
 bif decide (0 ≤ (part.2.getD (Int.toNat v) 0)) then
 bif decide ((part.2.getD (Int.toNat v) 0) < (fair.2.length : Int)) then
(impl_fairVertices_L2 goals part n (fair.1, (fair.2.set (Int.toNat (part.2.getD (Int.toNat v) 0)) ((part.2.getD (Int.toNat (t35.2.getD (Int.toNat t37) 0)) 0) == (part.2.getD (Int.toNat v) 0)))) out v t28 t29 t30 t35 t36 (IntKind.i64.wrap (t37 + 1))).bind fun r => some r
else none
else none
else none
else none
else none
else none
else none
else none
else none
else none
else none
else none
else none
else none
else 
 some (fair.1, fair.2) := Eq.trans (inf_loop_eq (H := H) 112 2 (loopCode Try.f112 2) (goals, (part, (n, (fair, (out, (v, (t28, (t29, (t30, (t35, (t36, t37))))))))))) key_impl_fairVertices) (by kernel_rfl)
theorem impl_fairVertices_L4_eq (part : Bool × List Int) (n : Int) (fair : Bool × List Bool) (out : Bool × List Bool) (t67 : Bool × List (Bool × List Int)) (t68 : Int) (t69 : Int) : impl_fairVertices_L4 part n fair out t67 t68 t69 =
 bif decide (t69 < t68) then
 bif decide (0 ≤ t69) then
 bif decide (t69 < (t67.2.length : Int)) then
 bif decide (0 ≤ n) then
 bif decide (n ≤ lim) then
 bif decide (n ≤ n) then
 bif decide (n ≤ lim) then
(impl_fairVertices_L6 part n (fair.1, fair.2) out (false, (List.replicate (Int.toNat n) (false : Bool))) t67 t68 t69 (t67.2.getD (Int.toNat t69) (true, [])) (((t67.2.getD (Int.toNat t69) (true, [])).2).length : Int) 0).bind fun r =>
(impl_fairVertices_L8 part n (fair.1, fair.2) out (r.1, r.2) t67 t68 t69 (fair.2.length : Int) 0).bind fun r1 =>
(impl_fairVertices_L4 part n (r1.1, r1.2) out t67 t68 (IntKind.i64.wrap (t69 + 1))).bind fun r => some r
else none
else none
else none
else none
else none
else none
else 
 some (fair.1, fair.2) := Eq.trans (inf_loop_eq (H := H) 112 4 (loopCode Try.f112 4) (part, (n, (fair, (out, (t67, (t68, t69)))))) key_impl_fairVertices) (by kernel_rfl)
theorem impl_fairVertices_L6_eq (part : Bool × List Int) (n : Int) (fair : Bool × List Bool) (out : Bool × List Bool) (has : Bool × List Bool) (t67 : Bool × List (Bool × List Int)) (t68 : Int) (t69 : Int) (t75 : Bool × List Int) (t76 : Int) (t77 : Int) : impl_fairVertices_L6 part n fair out has t67 t68 t69 t75 t76 t77 =
 bif decide (t77 < t76) then
 bif decide (0 ≤ t77) then
 bif decide (t77 < (t75.2.length : Int)) then
 bif decide (0 ≤ (t75.2.getD (Int.toNat t77) 0)) then
 bif decide ((t75.2.getD (Int.toNat t77) 0) < (part.2.length : Int)) then
 bif decide (0 ≤ (part.2.getD (Int.toNat (t75.2.getD (Int.toNat t77) 0)) 0)) then
 bif decide ((part.2.getD (Int.toNat (t75.2.getD (Int.toNat t77) 0)) 0) < (has.2.length : Int)) then
(impl_fairVertices_L6 part n fair out (has.1, (has.2.set (Int.toNat (part.2.getD (Int.toNat (t75.2.getD (Int.toNat t77) 0)) 0)) true)) t67 t68 t69 t75 t76 (IntKind.i64.wrap (t77 + 1))).bind fun r => some r
else none
else none
else none
else none
else none
else none
else 
 some (has.1, has.2) := Eq.trans (inf_loop_eq (H := H) 112 6 (loopCode Try.f112 6) (part, (n, (fair, (out, (has, (t67, (t68, (t69, (t75, (t76, t77)))))))))) key_impl_fairVertices) (by kernel_rfl)
theorem impl_fairVertices_L8_eq (part : Bool × List Int) (n : Int) (fair : Bool × List Bool) (out : Bool × List Bool) (has : Bool × List Bool) (t67 : Bool × List (Bool × List Int)) (t68 : Int) (t69 : Int) (t89 : Int) (t90 : Int) : impl_fairVertices_L8 part n fair out has t67 t68 t69 t89 t90 =
 bif decide (t90 < t89) then
 bif decide (0 ≤ t90) then
 bif decide (t90 < (fair.2.length : Int)) then
 bif (fair.2.getD (Int.toNat t90) false) then
 bif decide (0 ≤ t90) then
 bif decide (t90 < (has.2.length : Int)) then
 bif decide (0 ≤ t90) then
 bif decide (t90 < (fair.2.length : Int)) then
(impl_fairVertices_L8 part n (fair.1, (fair.2.set (Int.toNat t90) (has.2.getD (Int.toNat t90) false))) out has t67 t68 t69 t89 (IntKind.i64.wrap (t90 + 1))).bind fun r => some r
else none
else none
else none
else none
else 
 bif decide (0 ≤ t90) then
 bif decide (t90 < (fair.2.length : Int)) then
(impl_fairVertices_L8 part n (fair.1, (fair.2.set (Int.toNat t90) false)) out has t67 t68 t69 t89 (IntKind.i64.wrap (t90 + 1))).bind fun r => some r
else none
else none
else none
else none
else 
 some (fair.1, fair.2) := Eq.trans (inf_loop_eq (H := H) 112 8 (loopCode Try.f112 8) (part, (n, (fair, (out, (has, (t67, (t68, (t69, (t89, t90))))))))) key_impl_fairVertices) (by kernel_rfl)
theorem impl_fairVertices_L10_eq (part : Bool × List Int) (fair : Bool × List Bool) (out : Bool × List Bool) (t109 : Int) (t110 : Int) : impl_fairVertices_L10 part fair out t109 t110 =
 bif decide (t110 < t109) then
 bif decide (0 ≤ t110) then
 bif decide (t110 < (part.2.length : Int)) then
 bif decide (0 ≤ (part.2.getD (Int.toNat t110) 0)) then
 bif decide ((part.2.getD (Int.toNat t110) 0) < (fair.2.length : Int)) then
 bif decide (0 ≤ t110) then
 bif decide (t110 < (out.2.length : Int)) then
(impl_fairVertices_L10 part fair (out.1, (out.2.set (Int.toNat t110) (fair.2.getD (Int.toNat (part.2.getD (Int.toNat t110) 0)) false))) t109 (IntKind.i64.wrap (t110 + 1))).bind fun r => some r
else none
else none
else none
else none
else none
else none
else 
 some (out.1, out.2) := Eq.trans (inf_loop_eq (H := H) 112 10 (loopCode Try.f112 10) (part, (fair, (out, (t109, t110)))) key_impl_fairVertices) (by kernel_rfl)
theorem impl_fairVertices_eq (next : Bool × List (Bool × List Int)) (goals : Bool × List (Bool × List Int)) : impl_fairVertices next goals =
(impl_parts next).bind fun r =>
 bif decide (0 ≤ (next.2.length : Int)) then
 bif decide ((next.2.length : Int) ≤ lim) then
 bif decide ((next.2.length : Int) ≤ (next.2.length : Int)) then
 bif decide ((next.2.length : Int) ≤ lim) then
 bif decide (0 ≤ (next.2.length : Int)) then
 bif decide ((next.2.length : Int) ≤ lim) then
 bif decide ((next.2.length : Int) ≤ (next.2.length : Int)) then
 bif decide ((next.2.length : Int) ≤ lim) then
(impl_fairVertices_L0 goals (r.1, r.2) (next.2.length : Int) (false, (List.replicate (Int.toNat (next.2.length : Int)) (false : Bool))) (false, (List.replicate (Int.toNat (next.2.length : Int)) (false : Bool))) next (next.2.length : Int) 0).bind fun r1 =>
(impl_fairVertices_L4 (r.1, r.2) (next.2.length : Int) (r1.1, r1.2) (false, (List.replicate (Int.toNat (next.2.length : Int)) (false : Bool))) goals (goals.2.length : Int) 0).bind fun r2 =>
(impl_fairVertices_L10 (r.1, r.2) (r2.1, r2.2) (false, (List.replicate (Int.toNat (next.2.length : Int)) (false : Bool))) ((List.replicate (Int.toNat (next.2.length : Int)) (false : Bool)).length : Int) 0).bind fun r3 =>
 some (r3.1, r3.2)
else none
else none
else none
else none
else none
else none
else none
else none := Eq.trans (inf_call_eq (H := H) 112 (next, goals)) (by kernel_rfl)
theorem impl_meeting_L0_eq (steps : Bool × List Int) (best : Int) (t16 : Bool × List Bool) (t17 : Int) (t18 : Int) : impl_meeting_L0 steps best t16 t17 t18 =
 bif decide (t18 < t17) then
 bif decide (0 ≤ t18) then
 bif decide (t18 < (t16.2.length : Int)) then
 bif (t16.2.getD (Int.toNat t18) false) then
 bif decide (0 ≤ t18) then
 bif decide (t18 < (steps.2.length : Int)) then
 bif decide ((steps.2.getD (Int.toNat t18) 0) ≥ 0) then
 bif decide (best < 0) then
(impl_meeting_L0 steps t18 t16 t17 (IntKind.i64.wrap (t18 + 1))).bind fun r => some r
else 
 bif decide (0 ≤ t18) then
 bif decide (t18 < (steps.2.length : Int)) then
 bif decide (0 ≤ best) then
 bif decide (best < (steps.2.length : Int)) then
 bif decide ((steps.2.getD (Int.toNat t18) 0) < (steps.2.getD (Int.toNat best) 0)) then
(impl_meeting_L0 steps t18 t16 t17 (IntKind.i64.wrap (t18 + 1))).bind fun r => some r
else 
(impl_meeting_L0 steps best t16 t17 (IntKind.i64.wrap (t18 + 1))).bind fun r => some r
else none
else none
else none
else none
else 
(impl_meeting_L0 steps best t16 t17 (IntKind.i64.wrap (t18 + 1))).bind fun r => some r
else none
else none
else 
(impl_meeting_L0 steps best t16 t17 (IntKind.i64.wrap (t18 + 1))).bind fun r => some r
else none
else none
else 
 some best := Eq.trans (inf_loop_eq (H := H) 105 0 (loopCode Try.f105 0) (steps, (best, (t16, (t17, t18)))) key_impl_meeting) (by kernel_rfl)
theorem impl_meeting_eq (next : Bool × List (Bool × List Int)) (from_ : Bool × List Int) (goals : Bool × List (Bool × List Int)) : impl_meeting next from_ goals =
(impl_stepsFrom next from_).bind fun r =>
(impl_fairVertices next goals).bind fun r1 =>
(impl_meeting_L0 (r.1, r.2) (-1) (r1.1, r1.2) (r1.2.length : Int) 0).bind fun r2 =>
 some r2 := Eq.trans (inf_call_eq (H := H) 105 (next, (from_, goals))) (by kernel_rfl)
theorem impl_turned_L0_eq (out : Bool × List (Bool × List Int)) (t11 : Bool × List (Bool × List Int)) (t12 : Int) (t13 : Int) : impl_turned_L0 out t11 t12 t13 =
 bif decide (t13 < t12) then
 bif decide (0 ≤ t13) then
 bif decide (t13 < (t11.2.length : Int)) then
(impl_turned_L2 (out.1, out.2) t13 t11 t12 t13 (t11.2.getD (Int.toNat t13) (true, [])) (((t11.2.getD (Int.toNat t13) (true, [])).2).length : Int) 0).bind fun r =>
(impl_turned_L0 (r.1, r.2) t11 t12 (IntKind.i64.wrap (t13 + 1))).bind fun r => some r
else none
else none
else 
 some (out.1, out.2) := Eq.trans (inf_loop_eq (H := H) 55 0 (loopCode Try.f55 0) (out, (t11, (t12, t13))) key_impl_turned) (by kernel_rfl)
theorem impl_turned_L2_eq (out : Bool × List (Bool × List Int)) (v : Int) (t11 : Bool × List (Bool × List Int)) (t12 : Int) (t13 : Int) (t18 : Bool × List Int) (t19 : Int) (t20 : Int) : impl_turned_L2 out v t11 t12 t13 t18 t19 t20 =
 bif decide (t20 < t19) then
 bif decide (0 ≤ t20) then
 bif decide (t20 < (t18.2.length : Int)) then
 bif decide (0 ≤ (t18.2.getD (Int.toNat t20) 0)) then
 bif decide ((t18.2.getD (Int.toNat t20) 0) < (out.2.length : Int)) then
 bif decide (((out.2.getD (Int.toNat (t18.2.getD (Int.toNat t20) 0)) (true, [])).2).length + [v].length ≤ lim) then
 bif decide (0 ≤ (t18.2.getD (Int.toNat t20) 0)) then
 bif decide ((t18.2.getD (Int.toNat t20) 0) < (out.2.length : Int)) then
 bif ((Int.toNat (t18.2.getD (Int.toNat t20) 0)) == (Int.toNat (t18.2.getD (Int.toNat t20) 0))) then
(impl_turned_L2 (out.1, (out.2.set (Int.toNat (t18.2.getD (Int.toNat t20) 0)) ((((out.2.getD (Int.toNat (t18.2.getD (Int.toNat t20) 0)) (true, [])).1) && false), (((out.2.getD (Int.toNat (t18.2.getD (Int.toNat t20) 0)) (true, [])).2) ++ [v])))) v t11 t12 t13 t18 t19 (IntKind.i64.wrap (t20 + 1))).bind fun r => some r
else none
else none
else none
else none
else none
else none
else none
else none
else 
 some (out.1, out.2) := Eq.trans (inf_loop_eq (H := H) 55 2 (loopCode Try.f55 2) (out, (v, (t11, (t12, (t13, (t18, (t19, t20))))))) key_impl_turned) (by kernel_rfl)
theorem impl_turned_eq (g : Bool × List (Bool × List Int)) : impl_turned g =
 bif decide (0 ≤ (g.2.length : Int)) then
 bif decide ((g.2.length : Int) ≤ lim) then
 bif decide ((g.2.length : Int) ≤ (g.2.length : Int)) then
 bif decide ((g.2.length : Int) ≤ lim) then
(impl_turned_L0 (false, (List.replicate (Int.toNat (g.2.length : Int)) ((true, []) : Bool × List Int))) g (g.2.length : Int) 0).bind fun r =>
 some (r.1, r.2)
else none
else none
else none
else none := Eq.trans (inf_call_eq (H := H) 55 g) (by kernel_rfl)
theorem impl_leastWay_1_eq (w : Int) (a1 : Bool × List Int) (a2 : Int) : impl_leastWay_1 w a1 a2 =
 bif decide (0 ≤ w) then
 bif decide (w < (a1.2.length : Int)) then
 bif decide (0 ≤ a2) then
 bif decide (a2 < (a1.2.length : Int)) then
 some ((a1.2.getD (Int.toNat w) 0) == (IntKind.i64.wrap ((a1.2.getD (Int.toNat a2) 0) - 1)))
else none
else none
else none
else none := Eq.trans (inf_call_eq (H := H) 83 (w, (a1, a2))) (by kernel_rfl)
theorem slices_IndexFunc_int_by_leastWay_1_L0_eq (s : Bool × List Int) (f : (Bool × List Int) × Int × Unit) (t7 : Int) (t8 : Int) : slices_IndexFunc_int_by_leastWay_1_L0 s f t7 t8 =
 bif decide (t8 < t7) then
 bif decide (0 ≤ t8) then
 bif decide (t8 < (s.2.length : Int)) then
(impl_leastWay_1 (s.2.getD (Int.toNat t8) 0) f.1 f.2.1).bind fun r =>
 bif r then
 some (.inl t8)
else 
(slices_IndexFunc_int_by_leastWay_1_L0 s f t7 (IntKind.i64.wrap (t8 + 1))).bind fun r => some r
else none
else none
else 
 some (.inr ()) := Eq.trans (inf_loop_eq (H := H) 82 0 (loopCode Try.f82 0) (s, (f, (t7, t8))) key_slices_IndexFunc_int_by_leastWay_1) (by kernel_rfl)
theorem slices_IndexFunc_int_by_leastWay_1_eq (s : Bool × List Int) (f : (Bool × List Int) × Int × Unit) : slices_IndexFunc_int_by_leastWay_1 s f =
(slices_IndexFunc_int_by_leastWay_1_L0 s f (s.2.length : Int) 0).bind fun r =>
 match r with
| .inl y =>
 some y
| .inr z =>
 some (-1) := Eq.trans (inf_call_eq (H := H) 82 (s, f)) (by kernel_rfl)
theorem impl_leastWay_L0_eq (g : Bool × List (Bool × List Int)) (steps : Bool × List Int) (best : Int) (t18 : Bool × List Int) (t19 : Int) (t20 : Int) : impl_leastWay_L0 g steps best t18 t19 t20 =
 bif decide (t20 < t19) then
 bif decide (0 ≤ t20) then
 bif decide (t20 < (t18.2.length : Int)) then
 bif decide (0 ≤ (t18.2.getD (Int.toNat t20) 0)) then
 bif decide ((t18.2.getD (Int.toNat t20) 0) < (steps.2.length : Int)) then
 bif decide ((steps.2.getD (Int.toNat (t18.2.getD (Int.toNat t20) 0)) 0) ≥ 0) then
 bif decide (best < 0) then
(impl_leastWay_L0 g steps (t18.2.getD (Int.toNat t20) 0) t18 t19 (IntKind.i64.wrap (t20 + 1))).bind fun r => some r
else 
 bif decide (0 ≤ (t18.2.getD (Int.toNat t20) 0)) then
 bif decide ((t18.2.getD (Int.toNat t20) 0) < (steps.2.length : Int)) then
 bif decide (0 ≤ best) then
 bif decide (best < (steps.2.length : Int)) then
 bif decide ((steps.2.getD (Int.toNat (t18.2.getD (Int.toNat t20) 0)) 0) < (steps.2.getD (Int.toNat best) 0)) then
(impl_leastWay_L0 g steps (t18.2.getD (Int.toNat t20) 0) t18 t19 (IntKind.i64.wrap (t20 + 1))).bind fun r => some r
else 
(impl_leastWay_L0 g steps best t18 t19 (IntKind.i64.wrap (t20 + 1))).bind fun r => some r
else none
else none
else none
else none
else 
(impl_leastWay_L0 g steps best t18 t19 (IntKind.i64.wrap (t20 + 1))).bind fun r => some r
else none
else none
else none
else none
else 
 some best := Eq.trans (inf_loop_eq (H := H) 47 0 (loopCode Try.f47 0) (g, (steps, (best, (t18, (t19, t20))))) key_impl_leastWay) (by kernel_rfl)
theorem impl_leastWay_L2_eq (g : Bool × List (Bool × List Int)) (steps : Bool × List Int) (way : Bool × List Int) (v : Int) : impl_leastWay_L2 g steps way v =
 bif decide (0 ≤ v) then
 bif decide (v < (steps.2.length : Int)) then
 bif decide ((steps.2.getD (Int.toNat v) 0) > 0) then
 bif decide (0 ≤ v) then
 bif decide (v < (g.2.length : Int)) then
(slices_IndexFunc_int_by_leastWay_1 (g.2.getD (Int.toNat v) (true, [])) (steps, (v, ()))).bind fun r =>
 bif decide (0 ≤ v) then
 bif decide (v < (g.2.length : Int)) then
 bif decide (0 ≤ r) then
 bif decide (r < (((g.2.getD (Int.toNat v) (true, [])).2).length : Int)) then
 bif decide (way.2.length + ([(((g.2.getD (Int.toNat v) (true, [])).2).getD (Int.toNat r) 0)] : List Int).length ≤ lim) then
(impl_leastWay_L2 g steps ((way.1 && false), (way.2 ++ [(((g.2.getD (Int.toNat v) (true, [])).2).getD (Int.toNat r) 0)])) (((g.2.getD (Int.toNat v) (true, [])).2).getD (Int.toNat r) 0)).bind fun r => some r
else none
else none
else none
else none
else none
else none
else none
else 
 some (way.1, way.2)
else none
else none := Eq.trans (inf_loop_eq (H := H) 47 2 (loopCode Try.f47 2) (g, (steps, (way, v))) key_impl_leastWay) (by kernel_rfl)
theorem impl_leastWay_eq (g : Bool × List (Bool × List Int)) (from_ : Bool × List Int) (to : Bool × List Int) : impl_leastWay g from_ to =
(impl_turned g).bind fun r =>
(impl_stepsFrom (r.1, r.2) to).bind fun r1 =>
(impl_leastWay_L0 g (r1.1, r1.2) (-1) from_ (from_.2.length : Int) 0).bind fun r2 =>
 bif decide (r2 < 0) then
 some (true, [])
else 
(impl_leastWay_L2 g (r1.1, r1.2) (false, [r2]) r2).bind fun r3 =>
 some (r3.1, r3.2) := Eq.trans (inf_call_eq (H := H) 47 (g, (from_, to))) (by kernel_rfl)
theorem impl_inside_L0_eq (part : Bool × List Int) (own : Int) (out : Bool × List (Bool × List Int)) (t15 : Bool × List (Bool × List Int)) (t16 : Int) (t17 : Int) : impl_inside_L0 part own out t15 t16 t17 =
 bif decide (t17 < t16) then
 bif decide (0 ≤ t17) then
 bif decide (t17 < (t15.2.length : Int)) then
(impl_inside_L2 part own (out.1, out.2) t17 t15 t16 t17 (t15.2.getD (Int.toNat t17) (true, [])) (((t15.2.getD (Int.toNat t17) (true, [])).2).length : Int) 0).bind fun r =>
(impl_inside_L0 part own (r.1, r.2) t15 t16 (IntKind.i64.wrap (t17 + 1))).bind fun r => some r
else none
else none
else 
 some (out.1, out.2) := Eq.trans (inf_loop_eq (H := H) 106 0 (loopCode Try.f106 0) (part, (own, (out, (t15, (t16, t17))))) key_impl_inside) (by kernel_rfl)
theorem impl_inside_L2_eq (part : Bool × List Int) (own : Int) (out : Bool × List (Bool × List Int)) (v : Int) (t15 : Bool × List (Bool × List Int)) (t16 : Int) (t17 : Int) (t22 : Bool × List Int) (t23 : Int) (t24 : Int) : impl_inside_L2 part own out v t15 t16 t17 t22 t23 t24 =
 bif decide (t24 < t23) then
 bif decide (0 ≤ t24) then
 bif decide (t24 < (t22.2.length : Int)) then
 bif decide (0 ≤ v) then
 bif decide (v < (part.2.length : Int)) then
 bif ((part.2.getD (Int.toNat v) 0) == own) then
 bif decide (0 ≤ (t22.2.getD (Int.toNat t24) 0)) then
 bif decide ((t22.2.getD (Int.toNat t24) 0) < (part.2.length : Int)) then
 bif ((part.2.getD (Int.toNat (t22.2.getD (Int.toNat t24) 0)) 0) == own) then
 bif decide (0 ≤ v) then
 bif decide (v < (out.2.length : Int)) then
 bif decide (((out.2.getD (Int.toNat v) (true, [])).2).length + [(t22.2.getD (Int.toNat t24) 0)].length ≤ lim) then
 bif decide (0 ≤ v) then
 bif decide (v < (out.2.length : Int)) then
 bif ((Int.toNat v) == (Int.toNat v)) then
(impl_inside_L2 part own (out.1, (out.2.set (Int.toNat v) ((((out.2.getD (Int.toNat v) (true, [])).1) && false), (((out.2.getD (Int.toNat v) (true, [])).2) ++ [(t22.2.getD (Int.toNat t24) 0)])))) v t15 t16 t17 t22 t23 (IntKind.i64.wrap (t24 + 1))).bind fun r => some r
else none
else none
else none
else none
else none
else none
else 
(impl_inside_L2 part own (out.1, out.2) v t15 t16 t17 t22 t23 (IntKind.i64.wrap (t24 + 1))).bind fun r => some r
else none
else none
else 
(impl_inside_L2 part own (out.1, out.2) v t15 t16 t17 t22 t23 (IntKind.i64.wrap (t24 + 1))).bind fun r => some r
else none
else none
else none
else none
else 
 some (out.1, out.2) := Eq.trans (inf_loop_eq (H := H) 106 2 (loopCode Try.f106 2) (part, (own, (out, (v, (t15, (t16, (t17, (t22, (t23, t24))))))))) key_impl_inside) (by kernel_rfl)
theorem impl_inside_eq (next : Bool × List (Bool × List Int)) (part : Bool × List Int) (own : Int) : impl_inside next part own =
 bif decide (0 ≤ (next.2.length : Int)) then
 bif decide ((next.2.length : Int) ≤ lim) then
 bif decide ((next.2.length : Int) ≤ (next.2.length : Int)) then
 bif decide ((next.2.length : Int) ≤ lim) then
(impl_inside_L0 part own (false, (List.replicate (Int.toNat (next.2.length : Int)) ((true, []) : Bool × List Int))) next (next.2.length : Int) 0).bind fun r =>
 some (r.1, r.2)
else none
else none
else none
else none := Eq.trans (inf_call_eq (H := H) 106 (next, (part, own))) (by kernel_rfl)
theorem impl_fairLasso_1_eq (v : Int) (a1 : Bool × List Int) (a2 : Int) : impl_fairLasso_1 v a1 a2 =
 bif decide (0 ≤ v) then
 bif decide (v < (a1.2.length : Int)) then
 bif decide (0 ≤ a2) then
 bif decide (a2 < (a1.2.length : Int)) then
 some ((a1.2.getD (Int.toNat v) 0) != (a1.2.getD (Int.toNat a2) 0))
else none
else none
else none
else none := Eq.trans (inf_call_eq (H := H) 109 (v, (a1, a2))) (by kernel_rfl)
theorem slices_IndexFunc_int_by_fairLasso_1_L0_eq (s : Bool × List Int) (f : (Bool × List Int) × Int × Unit) (t7 : Int) (t8 : Int) : slices_IndexFunc_int_by_fairLasso_1_L0 s f t7 t8 =
 bif decide (t8 < t7) then
 bif decide (0 ≤ t8) then
 bif decide (t8 < (s.2.length : Int)) then
(impl_fairLasso_1 (s.2.getD (Int.toNat t8) 0) f.1 f.2.1).bind fun r =>
 bif r then
 some (.inl t8)
else 
(slices_IndexFunc_int_by_fairLasso_1_L0 s f t7 (IntKind.i64.wrap (t8 + 1))).bind fun r => some r
else none
else none
else 
 some (.inr ()) := Eq.trans (inf_loop_eq (H := H) 10036 0 (loopCode Try.f82 0) (s, (f, (t7, t8))) key_slices_IndexFunc_int_by_fairLasso_1) (by kernel_rfl)
theorem slices_IndexFunc_int_by_fairLasso_1_eq (s : Bool × List Int) (f : (Bool × List Int) × Int × Unit) : slices_IndexFunc_int_by_fairLasso_1 s f =
(slices_IndexFunc_int_by_fairLasso_1_L0 s f (s.2.length : Int) 0).bind fun r =>
 match r with
| .inl y =>
 some y
| .inr z =>
 some (-1) := Eq.trans (inf_call_eq (H := H) 10036 (s, f)) (by kernel_rfl)
theorem slices_DeleteFunc_int_by_fairLasso_1_L0_eq (s : Bool × List Int) (del : (Bool × List Int) × Int × Unit) (i : Int) (j : Int) : slices_DeleteFunc_int_by_fairLasso_1_L0 s del i j =
 bif decide (j < (s.2.length : Int)) then
 bif decide (0 ≤ j) then
 bif decide (j < (s.2.length : Int)) then
(impl_fairLasso_1 (s.2.getD (Int.toNat j) 0) del.1 del.2.1).bind fun r =>
 bif !r then
 bif decide (0 ≤ i) then
 bif decide (i < (s.2.length : Int)) then
(slices_DeleteFunc_int_by_fairLasso_1_L0 (s.1, (s.2.set (Int.toNat i) (s.2.getD (Int.toNat j) 0))) del (IntKind.i64.wrap (i + 1)) (IntKind.i64.wrap (j + 1))).bind fun r => some r
else none
else none
else 
(slices_DeleteFunc_int_by_fairLasso_1_L0 (s.1, s.2) del i (IntKind.i64.wrap (j + 1))).bind fun r => some r
else none
else none
else 
 some ((s.1, s.2), i) := Eq.trans (inf_loop_eq (H := H) 107 0 (loopCode Try.f107 0) (s, (del, (i, j))) key_slices_DeleteFunc_int_by_fairLasso_1) (by kernel_rfl)
theorem slices_DeleteFunc_int_by_fairLasso_1_eq (s : Bool × List Int) (del : (Bool × List Int) × Int × Unit) : slices_DeleteFunc_int_by_fairLasso_1 s del =
(slices_IndexFunc_int_by_fairLasso_1 (s.1, s.2) del).bind fun r =>
 bif (r == (-1)) then
 some (s.1, s.2)
else 
(slices_DeleteFunc_int_by_fairLasso_1_L0 (s.1, s.2) del r (IntKind.i64.wrap (r + 1))).bind fun r1 =>
 bif decide (0 ≤ r1.2) then
 bif decide (r1.2 ≤ (r1.1.2.length : Int)) then
 bif decide (0 ≤ r1.2) then
 bif decide (r1.2 ≤ ((r1.1.2.take (Int.toNat r1.2) ++ (List.replicate (r1.1.2.length - (Int.toNat r1.2)) (0 : Int) ++ r1.1.2.drop r1.1.2.length)).length : Int)) then
 some (r1.1.1, (((r1.1.2.take (Int.toNat r1.2) ++ (List.replicate (r1.1.2.length - (Int.toNat r1.2)) (0 : Int) ++ r1.1.2.drop r1.1.2.length)).take (Int.toNat r1.2)).drop 0))
else none
else none
else none
else none := Eq.trans (inf_call_eq (H := H) 107 (s, del)) (by kernel_rfl)
theorem impl_fairLasso_L0_eq (meet : Int) (stem : Bool × List Int) (part : Bool × List Int) (arcs : Bool × List (Bool × List Int)) (loop : Bool × List Int) (t41 : Bool × List (Bool × List Int)) (t42 : Int) (t43 : Int) : impl_fairLasso_L0 meet stem part arcs loop t41 t42 t43 =
 bif decide (t43 < t42) then
 bif decide (0 ≤ t43) then
 bif decide (t43 < (t41.2.length : Int)) then
(slices_Clone_int (t41.2.getD (Int.toNat t43) (true, []))).bind fun r =>
(slices_DeleteFunc_int_by_fairLasso_1 (r.1, r.2) (part, (meet, ()))).bind fun r1 =>
 bif decide (0 ≤ (IntKind.i64.wrap ((loop.2.length : Int) - 1))) then
 bif decide ((IntKind.i64.wrap ((loop.2.length : Int) - 1)) ≤ (loop.2.length : Int)) then
(impl_leastWay arcs (loop.1, ((loop.2.take loop.2.length).drop (Int.toNat (IntKind.i64.wrap ((loop.2.length : Int) - 1))))) (r1.1, r1.2)).bind fun r2 =>
 bif decide (1 ≤ (r2.2.length : Int)) then
 bif decide (loop.2.length + ((r2.2.take r2.2.length).drop 1).length ≤ lim) then
(impl_fairLasso_L0 meet stem part arcs ((loop.1 && ((r2.2.take r2.2.length).drop 1).isEmpty), (loop.2 ++ ((r2.2.take r2.2.length).drop 1))) t41 t42 (IntKind.i64.wrap (t43 + 1))).bind fun r => some r
else none
else none
else none
else none
else none
else none
else 
 some (loop.1, loop.2) := Eq.trans (inf_loop_eq (H := H) 74 0 (loopCode Try.f74 0) (meet, (stem, (part, (arcs, (loop, (t41, (t42, t43))))))) key_impl_fairLasso) (by kernel_rfl)
theorem impl_fairLasso_eq (next : Bool × List (Bool × List Int)) (from_ : Bool × List Int) (goals : Bool × List (Bool × List Int)) : impl_fairLasso next from_ goals =
(impl_meeting next from_ goals).bind fun r =>
 bif decide (r < 0) then
 some ((true, []), ((true, []), false))
else 
(impl_leastWay next from_ (false, [r])).bind fun r1 =>
(impl_parts next).bind fun r2 =>
 bif decide (0 ≤ r) then
 bif decide (r < (r2.2.length : Int)) then
(impl_inside next (r2.1, r2.2) (r2.2.getD (Int.toNat r) 0)).bind fun r3 =>
(impl_fairLasso_L0 r (r1.1, r1.2) (r2.1, r2.2) (r3.1, r3.2) (false, [r]) goals (goals.2.length : Int) 0).bind fun r4 =>
 bif decide (0 ≤ (IntKind.i64.wrap ((r4.2.length : Int) - 1))) then
 bif decide ((IntKind.i64.wrap ((r4.2.length : Int) - 1)) < (r4.2.length : Int)) then
 bif decide (0 ≤ (r4.2.getD (Int.toNat (IntKind.i64.wrap ((r4.2.length : Int) - 1))) 0)) then
 bif decide ((r4.2.getD (Int.toNat (IntKind.i64.wrap ((r4.2.length : Int) - 1))) 0) < (r3.2.length : Int)) then
(impl_leastWay (r3.1, r3.2) (r3.2.getD (Int.toNat (r4.2.getD (Int.toNat (IntKind.i64.wrap ((r4.2.length : Int) - 1))) 0)) (true, [])) (false, [r])).bind fun r5 =>
 bif decide (0 ≤ (IntKind.i64.wrap ((r1.2.length : Int) - 1))) then
 bif decide ((IntKind.i64.wrap ((r1.2.length : Int) - 1)) ≤ (r1.2.length : Int)) then
 bif decide (0 ≤ (IntKind.i64.wrap ((r5.2.length : Int) - 1))) then
 bif decide ((IntKind.i64.wrap ((r5.2.length : Int) - 1)) ≤ (r5.2.length : Int)) then
 bif decide (r4.2.length + ((r5.2.take (Int.toNat (IntKind.i64.wrap ((r5.2.length : Int) - 1)))).drop 0).length ≤ lim) then
 some ((r1.1, ((r1.2.take (Int.toNat (IntKind.i64.wrap ((r1.2.length : Int) - 1)))).drop 0)), (((r4.1 && ((r5.2.take (Int.toNat (IntKind.i64.wrap ((r5.2.length : Int) - 1)))).drop 0).isEmpty), (r4.2 ++ ((r5.2.take (Int.toNat (IntKind.i64.wrap ((r5.2.length : Int) - 1)))).drop 0))), true))
else none
else none
else none
else none
else none
else none
else none
else none
else none
else none
else none := Eq.trans (inf_call_eq (H := H) 74 (next, (from_, goals))) (by kernel_rfl)
theorem impl_FairLasso_eq (g : DGraph) (from_ : Bool × List Int) (goals : Bool × List (Bool × List Int)) : impl_FairLasso g from_ goals =
(impl_isGraphFrom g from_).bind fun r =>
 bif !r then
 some ((true, []), ((true, []), false))
else 
(impl_areGoals goals (g.2.length : Int)).bind fun r1 =>
 bif !r1 then
 some ((true, []), ((true, []), false))
else 
(impl_fairLasso g from_ goals).bind fun r2 =>
 some ((r2.1.1, r2.1.2), ((r2.2.1.1, r2.2.1.2), r2.2.2)) := Eq.trans (inf_call_eq (H := H) 38 (g, (from_, goals))) (by kernel_rfl)
theorem spec_l1In_eq (n : Int) (lo : Int) (hi : Int) : spec_l1In n lo hi =
 bif decide (n ≥ lo) then
 some (decide (n ≤ hi))
else 
 some false := Eq.trans (inf_call_eq (H := H) 58 (n, (lo, hi))) (by kernel_rfl)
theorem spec_l1Rising_L0_eq (l : Bool × List Int) (lo : Int) (hi : Int) (t9 : Bool × List Int) (t10 : Int) (t11 : Int) : spec_l1Rising_L0 l lo hi t9 t10 t11 =
 bif decide (t11 < t10) then
 bif decide (0 ≤ t11) then
 bif decide (t11 < (t9.2.length : Int)) then
(spec_l1In (t9.2.getD (Int.toNat t11) 0) lo hi).bind fun r =>
 bif !r then
 some (.inl false)
else 
 bif decide (t11 > 0) then
 bif decide (0 ≤ (IntKind.i64.wrap (t11 - 1))) then
 bif decide ((IntKind.i64.wrap (t11 - 1)) < (l.2.length : Int)) then
 bif decide ((l.2.getD (Int.toNat (IntKind.i64.wrap (t11 - 1))) 0) ≥ (t9.2.getD (Int.toNat t11) 0)) then
 some (.inl false)
else 
(spec_l1Rising_L0 l lo hi t9 t10 (IntKind.i64.wrap (t11 + 1))).bind fun r => some r
else none
else none
else 
(spec_l1Rising_L0 l lo hi t9 t10 (IntKind.i64.wrap (t11 + 1))).bind fun r => some r
else none
else none
else 
 some (.inr ()) := Eq.trans (inf_loop_eq (H := H) 84 0 (loopCode Try.f84 0) (l, (lo, (hi, (t9, (t10, t11))))) key_spec_l1Rising) (by kernel_rfl)
theorem spec_l1Rising_eq (l : Bool × List Int) (lo : Int) (hi : Int) : spec_l1Rising l lo hi =
(spec_l1Rising_L0 l lo hi l (l.2.length : Int) 0).bind fun r =>
 match r with
| .inl y =>
 some y
| .inr z =>
 some true := Eq.trans (inf_call_eq (H := H) 84 (l, (lo, hi))) (by kernel_rfl)
theorem spec_l11Points_eq (l : Bool × List Int) (n : Int) : spec_l11Points l n =
(spec_l1Rising l 0 (IntKind.i64.wrap (n - 1))).bind fun r =>
 some r := Eq.trans (inf_call_eq (H := H) 48 (l, n)) (by kernel_rfl)
theorem spec_GoodGraph_L0_eq (g : DGraph) (n : Int) (t11 : Bool × List (Bool × List Int)) (t12 : Int) (t13 : Int) : spec_GoodGraph_L0 g n t11 t12 t13 =
 bif decide (t13 < t12) then
 bif decide (0 ≤ t13) then
 bif decide (t13 < (t11.2.length : Int)) then
 bif decide ((((t11.2.getD (Int.toNat t13) (true, [])).2).length : Int) > 1200) then
 some (.inl false)
else 
(spec_l11Points (t11.2.getD (Int.toNat t13) (true, [])) (g.2.length : Int)).bind fun r =>
 bif !r then
 some (.inl false)
else 
(spec_GoodGraph_L0 g (IntKind.i64.wrap (n + (((t11.2.getD (Int.toNat t13) (true, [])).2).length : Int))) t11 t12 (IntKind.i64.wrap (t13 + 1))).bind fun r => some r
else none
else none
else 
 some (.inr n) := Eq.trans (inf_loop_eq (H := H) 22 0 (loopCode Try.f22 0) (g, (n, (t11, (t12, t13)))) key_spec_GoodGraph) (by kernel_rfl)
theorem spec_GoodGraph_eq (g : DGraph) : spec_GoodGraph g =
 bif decide ((g.2.length : Int) > 1200) then
 some false
else 
(spec_GoodGraph_L0 g 0 g (g.2.length : Int) 0).bind fun r =>
 match r with
| .inl y =>
 some y
| .inr z =>
 some (decide (z ≤ 20000)) := Eq.trans (inf_call_eq (H := H) 22 g) (by kernel_rfl)
theorem spec_l11Goals_L0_eq (n : Int) (t10 : Bool × List (Bool × List Int)) (t11 : Int) (t12 : Int) : spec_l11Goals_L0 n t10 t11 t12 =
 bif decide (t12 < t11) then
 bif decide (0 ≤ t12) then
 bif decide (t12 < (t10.2.length : Int)) then
(spec_l11Points (t10.2.getD (Int.toNat t12) (true, [])) n).bind fun r =>
 bif !r then
 some (.inl false)
else 
(spec_l11Goals_L0 n t10 t11 (IntKind.i64.wrap (t12 + 1))).bind fun r => some r
else none
else none
else 
 some (.inr ()) := Eq.trans (inf_loop_eq (H := H) 75 0 (loopCode Try.f75 0) (n, (t10, (t11, t12))) key_spec_l11Goals) (by kernel_rfl)
theorem spec_l11Goals_eq (goals : Bool × List (Bool × List Int)) (n : Int) : spec_l11Goals goals n =
 bif decide ((goals.2.length : Int) > 6) then
 some false
else 
(spec_l11Goals_L0 n goals (goals.2.length : Int) 0).bind fun r =>
 match r with
| .inl y =>
 some y
| .inr z =>
 some true := Eq.trans (inf_call_eq (H := H) 75 (goals, n)) (by kernel_rfl)
theorem spec_l1Own_eq (l : Bool × List Int) : spec_l1Own l =
 bif decide (([] : List Int).length + l.2.length ≤ lim) then
 some (false, ([] ++ l.2))
else none := Eq.trans (inf_call_eq (H := H) 113 l) (by kernel_rfl)
theorem spec_l11Far_L0_eq (next : Bool × List (Bool × List Int)) (from_ : Bool × List Int) (out : Bool × List Int) (t17 : Int) (t18 : Int) : spec_l11Far_L0 next from_ out t17 t18 =
 bif decide (t18 < t17) then
 bif decide (0 ≤ t18) then
 bif decide (t18 < (out.2.length : Int)) then
(spec_l11Far_L0 next from_ (out.1, (out.2.set (Int.toNat t18) (-1))) t17 (IntKind.i64.wrap (t18 + 1))).bind fun r => some r
else none
else none
else 
 some (out.1, out.2) := Eq.trans (inf_loop_eq (H := H) 85 0 (loopCode Try.f85 0) (next, (from_, (out, (t17, t18)))) key_spec_l11Far) (by kernel_rfl)
theorem spec_l11Far_L2_eq (next : Bool × List (Bool × List Int)) (from_ : Bool × List Int) (out : Bool × List Int) (t25 : Bool × List Int) (t26 : Int) (t27 : Int) : spec_l11Far_L2 next from_ out t25 t26 t27 =
 bif decide (t27 < t26) then
 bif decide (0 ≤ t27) then
 bif decide (t27 < (t25.2.length : Int)) then
 bif decide (0 ≤ (t25.2.getD (Int.toNat t27) 0)) then
 bif decide ((t25.2.getD (Int.toNat t27) 0) < (out.2.length : Int)) then
(spec_l11Far_L2 next from_ (out.1, (out.2.set (Int.toNat (t25.2.getD (Int.toNat t27) 0)) 0)) t25 t26 (IntKind.i64.wrap (t27 + 1))).bind fun r => some r
else none
else none
else none
else none
else 
 some (out.1, out.2) := Eq.trans (inf_loop_eq (H := H) 85 2 (loopCode Try.f85 2) (next, (from_, (out, (t25, (t26, t27))))) key_spec_l11Far) (by kernel_rfl)
theorem spec_l11Far_L4_eq (next : Bool × List (Bool × List Int)) (out : Bool × List Int) (row_ : Bool × List Int) : spec_l11Far_L4 next out row_ =
 bif decide ((row_.2.length : Int) > 0) then
 bif decide (0 < (row_.2.length : Int)) then
 bif decide (1 ≤ (row_.2.length : Int)) then
 bif decide (0 ≤ (row_.2.getD 0 0)) then
 bif decide ((row_.2.getD 0 0) < (next.2.length : Int)) then
(spec_l11Far_L6 next (out.1, out.2) (row_.1, ((row_.2.take row_.2.length).drop 1)) (row_.2.getD 0 0) (next.2.getD (Int.toNat (row_.2.getD 0 0)) (true, [])) (((next.2.getD (Int.toNat (row_.2.getD 0 0)) (true, [])).2).length : Int) 0).bind fun r =>
(spec_l11Far_L4 next (r.1.1, r.1.2) (r.2.1, r.2.2)).bind fun r => some r
else none
else none
else none
else none
else 
 some (out.1, out.2) := Eq.trans (inf_loop_eq (H := H) 85 4 (loopCode Try.f85 4) (next, (out, row_)) key_spec_l11Far) (by kernel_rfl)
theorem spec_l11Far_L6_eq (next : Bool × List (Bool × List Int)) (out : Bool × List Int) (row_ : Bool × List Int) (k_ : Int) (t48 : Bool × List Int) (t49 : Int) (t50 : Int) : spec_l11Far_L6 next out row_ k_ t48 t49 t50 =
 bif decide (t50 < t49) then
 bif decide (0 ≤ t50) then
 bif decide (t50 < (t48.2.length : Int)) then
 bif decide (0 ≤ (t48.2.getD (Int.toNat t50) 0)) then
 bif decide ((t48.2.getD (Int.toNat t50) 0) < (out.2.length : Int)) then
 bif decide ((out.2.getD (Int.toNat (t48.2.getD (Int.toNat t50) 0)) 0) < 0) then
 bif decide (0 ≤ k_) then
 bif decide (k_ < (out.2.length : Int)) then
 bif decide (0 ≤ (t48.2.getD (Int.toNat t50) 0)) then
 bif decide ((t48.2.getD (Int.toNat t50) 0) < (out.2.length : Int)) then
 bif decide (row_.2.length + [(t48.2.getD (Int.toNat t50) 0)].length ≤ lim) then
(spec_l11Far_L6 next (out.1, (out.2.set (Int.toNat (t48.2.getD (Int.toNat t50) 0)) (IntKind.i64.wrap ((out.2.getD (Int.toNat k_) 0) + 1)))) ((row_.1 && false), (row_.2 ++ [(t48.2.getD (Int.toNat t50) 0)])) k_ t48 t49 (IntKind.i64.wrap (t50 + 1))).bind fun r => some r
else none
else none
else none
else none
else none
else 
(spec_l11Far_L6 next (out.1, out.2) (row_.1, row_.2) k_ t48 t49 (IntKind.i64.wrap (t50 + 1))).bind fun r => some r
else none
else none
else none
else none
else 
 some ((out.1, out.2), (row_.1, row_.2)) := Eq.trans (inf_loop_eq (H := H) 85 6 (loopCode Try.f85 6) (next, (out, (row_, (k_, (t48, (t49, t50)))))) key_spec_l11Far) (by kernel_rfl)
theorem spec_l11Far_eq (next : Bool × List (Bool × List Int)) (from_ : Bool × List Int) : spec_l11Far next from_ =
 bif decide (0 ≤ (next.2.length : Int)) then
 bif decide ((next.2.length : Int) ≤ lim) then
 bif decide ((next.2.length : Int) ≤ (next.2.length : Int)) then
 bif decide ((next.2.length : Int) ≤ lim) then
(spec_l11Far_L0 next from_ (false, (List.replicate (Int.toNat (next.2.length : Int)) (0 : Int))) ((List.replicate (Int.toNat (next.2.length : Int)) (0 : Int)).length : Int) 0).bind fun r =>
(spec_l11Far_L2 next from_ (r.1, r.2) from_ (from_.2.length : Int) 0).bind fun r1 =>
(spec_l1Own from_).bind fun r2 =>
(spec_l11Far_L4 next (r1.1, r1.2) (r2.1, r2.2)).bind fun r3 =>
 some (r3.1, r3.2)
else none
else none
else none
else none := Eq.trans (inf_call_eq (H := H) 85 (next, from_)) (by kernel_rfl)
theorem spec_l11Walk_walk_L0_eq (w_0 : Bool × List (Bool × List Int)) (w_1 : Bool × List Bool) (w_2 : Bool × List Int) (k_ : Int) (t25 : Bool × List Int) (t26 : Int) (t27 : Int) : spec_l11Walk_walk_L0 w_0 w_1 w_2 k_ t25 t26 t27 =
 bif decide (t27 < t26) then
 bif decide (0 ≤ t27) then
 bif decide (t27 < (t25.2.length : Int)) then
(spec_l11Walk_walk w_0 (w_1.1, w_1.2) (w_2.1, w_2.2) (t25.2.getD (Int.toNat t27) 0)).bind fun r =>
(spec_l11Walk_walk_L0 r.1 (r.2.1.1, r.2.1.2) (r.2.2.1, r.2.2.2) k_ t25 t26 (IntKind.i64.wrap (t27 + 1))).bind fun r => some r
else none
else none
else 
 some (w_0, ((w_1.1, w_1.2), (w_2.1, w_2.2))) := Eq.trans (inf_loop_eq (H := H) 88 0 (loopCode Try.f88 0) (w_0, (w_1, (w_2, (k_, (t25, (t26, t27)))))) key_spec_l11Walk_walk) (by kernel_rfl)
theorem spec_l11Walk_walk_eq (a0_0 : Bool × List (Bool × List Int)) (a0_1 : Bool × List Bool) (a0_2 : Bool × List Int) (k_ : Int) : spec_l11Walk_walk a0_0 a0_1 a0_2 k_ =
 bif decide (0 ≤ k_) then
 bif decide (k_ < (a0_1.2.length : Int)) then
 bif (a0_1.2.getD (Int.toNat k_) false) then
 some (a0_0, ((a0_1.1, a0_1.2), (a0_2.1, a0_2.2)))
else 
 bif decide (0 ≤ k_) then
 bif decide (k_ < (a0_1.2.length : Int)) then
 bif decide (0 ≤ k_) then
 bif decide (k_ < (a0_0.2.length : Int)) then
(spec_l11Walk_walk_L0 a0_0 (a0_1.1, (a0_1.2.set (Int.toNat k_) true)) (a0_2.1, a0_2.2) k_ (a0_0.2.getD (Int.toNat k_) (true, [])) (((a0_0.2.getD (Int.toNat k_) (true, [])).2).length : Int) 0).bind fun r =>
 bif decide (r.2.2.2.length + [k_].length ≤ lim) then
 some (r.1, ((r.2.1.1, r.2.1.2), ((r.2.2.1 && false), (r.2.2.2 ++ [k_]))))
else none
else none
else none
else none
else none
else none
else none := Eq.trans (inf_call_eq (H := H) 88 (a0_0, (a0_1, (a0_2, k_)))) (by kernel_rfl)
theorem spec_l11Turn_L0_eq (out : Bool × List (Bool × List Int)) (t11 : Bool × List (Bool × List Int)) (t12 : Int) (t13 : Int) : spec_l11Turn_L0 out t11 t12 t13 =
 bif decide (t13 < t12) then
 bif decide (0 ≤ t13) then
 bif decide (t13 < (t11.2.length : Int)) then
(spec_l11Turn_L2 (out.1, out.2) t13 t11 t12 t13 (t11.2.getD (Int.toNat t13) (true, [])) (((t11.2.getD (Int.toNat t13) (true, [])).2).length : Int) 0).bind fun r =>
(spec_l11Turn_L0 (r.1, r.2) t11 t12 (IntKind.i64.wrap (t13 + 1))).bind fun r => some r
else none
else none
else 
 some (out.1, out.2) := Eq.trans (inf_loop_eq (H := H) 56 0 (loopCode Try.f56 0) (out, (t11, (t12, t13))) key_spec_l11Turn) (by kernel_rfl)
theorem spec_l11Turn_L2_eq (out : Bool × List (Bool × List Int)) (k_ : Int) (t11 : Bool × List (Bool × List Int)) (t12 : Int) (t13 : Int) (t18 : Bool × List Int) (t19 : Int) (t20 : Int) : spec_l11Turn_L2 out k_ t11 t12 t13 t18 t19 t20 =
 bif decide (t20 < t19) then
 bif decide (0 ≤ t20) then
 bif decide (t20 < (t18.2.length : Int)) then
 bif decide (0 ≤ (t18.2.getD (Int.toNat t20) 0)) then
 bif decide ((t18.2.getD (Int.toNat t20) 0) < (out.2.length : Int)) then
 bif decide (((out.2.getD (Int.toNat (t18.2.getD (Int.toNat t20) 0)) (true, [])).2).length + [k_].length ≤ lim) then
 bif decide (0 ≤ (t18.2.getD (Int.toNat t20) 0)) then
 bif decide ((t18.2.getD (Int.toNat t20) 0) < (out.2.length : Int)) then
 bif ((Int.toNat (t18.2.getD (Int.toNat t20) 0)) == (Int.toNat (t18.2.getD (Int.toNat t20) 0))) then
(spec_l11Turn_L2 (out.1, (out.2.set (Int.toNat (t18.2.getD (Int.toNat t20) 0)) ((((out.2.getD (Int.toNat (t18.2.getD (Int.toNat t20) 0)) (true, [])).1) && false), (((out.2.getD (Int.toNat (t18.2.getD (Int.toNat t20) 0)) (true, [])).2) ++ [k_])))) k_ t11 t12 t13 t18 t19 (IntKind.i64.wrap (t20 + 1))).bind fun r => some r
else none
else none
else none
else none
else none
else none
else none
else none
else 
 some (out.1, out.2) := Eq.trans (inf_loop_eq (H := H) 56 2 (loopCode Try.f56 2) (out, (k_, (t11, (t12, (t13, (t18, (t19, t20))))))) key_spec_l11Turn) (by kernel_rfl)
theorem spec_l11Turn_eq (next : Bool × List (Bool × List Int)) : spec_l11Turn next =
 bif decide (0 ≤ (next.2.length : Int)) then
 bif decide ((next.2.length : Int) ≤ lim) then
 bif decide ((next.2.length : Int) ≤ (next.2.length : Int)) then
 bif decide ((next.2.length : Int) ≤ lim) then
(spec_l11Turn_L0 (false, (List.replicate (Int.toNat (next.2.length : Int)) ((true, []) : Bool × List Int))) next (next.2.length : Int) 0).bind fun r =>
 some (r.1, r.2)
else none
else none
else none
else none := Eq.trans (inf_call_eq (H := H) 56 next) (by kernel_rfl)
theorem spec_l11Parts_L0_eq (next : Bool × List (Bool × List Int)) (w_0 : Bool × List (Bool × List Int)) (w_1 : Bool × List Bool) (w_2 : Bool × List Int) (t20 : Int) (t21 : Int) : spec_l11Parts_L0 next w_0 w_1 w_2 t20 t21 =
 bif decide (t21 < t20) then
(spec_l11Walk_walk w_0 (w_1.1, w_1.2) (w_2.1, w_2.2) t21).bind fun r =>
(spec_l11Parts_L0 next r.1 (r.2.1.1, r.2.1.2) (r.2.2.1, r.2.2.2) t20 (IntKind.i64.wrap (t21 + 1))).bind fun r => some r
else 
 some (w_0, ((w_1.1, w_1.2), (w_2.1, w_2.2))) := Eq.trans (inf_loop_eq (H := H) 54 0 (loopCode Try.f54 0) (next, (w_0, (w_1, (w_2, (t20, t21))))) key_spec_l11Parts) (by kernel_rfl)
theorem spec_l11Parts_L2_eq (next : Bool × List (Bool × List Int)) (w : Dl11Walk) (back_0 : Bool × List (Bool × List Int)) (back_1 : Bool × List Bool) (back_2 : Bool × List Int) (out : Bool × List Int) (i : Int) : spec_l11Parts_L2 next w back_0 back_1 back_2 out i =
 bif decide (i ≥ 0) then
 bif decide (0 ≤ i) then
 bif decide (i < (w.2.2.2.length : Int)) then
(spec_l11Walk_walk back_0 (back_1.1, back_1.2) (true, []) (w.2.2.2.getD (Int.toNat i) 0)).bind fun r =>
(spec_l11Parts_L4 next w (r.1, ((r.2.1.1, r.2.1.2), (r.2.2.1, r.2.2.2))) (out.1, out.2) i (next.2.length : Int) (r.2.2.1, r.2.2.2) (r.2.2.2.length : Int) 0).bind fun r1 =>
(spec_l11Parts_L6 next w (r.1, ((r.2.1.1, r.2.1.2), (r.2.2.1, r.2.2.2))) (out.1, out.2) i r1 (r.2.2.1, r.2.2.2) (r.2.2.2.length : Int) 0).bind fun r2 =>
(spec_l11Parts_L2 next w r.1 (r.2.1.1, r.2.1.2) (r.2.2.1, r.2.2.2) (r2.1, r2.2) (IntKind.i64.wrap (i - 1))).bind fun r => some r
else none
else none
else 
 some ((out.1, out.2), (back_0, ((back_1.1, back_1.2), (back_2.1, back_2.2)))) := Eq.trans (inf_loop_eq (H := H) 54 2 (loopCode Try.f54 2) (next, (w, (back_0, (back_1, (back_2, (out, i)))))) key_spec_l11Parts) (by kernel_rfl)
theorem spec_l11Parts_L4_eq (next : Bool × List (Bool × List Int)) (w : Dl11Walk) (back : Dl11Walk) (out : Bool × List Int) (i : Int) (least : Int) (t65 : Bool × List Int) (t66 : Int) (t67 : Int) : spec_l11Parts_L4 next w back out i least t65 t66 t67 =
 bif decide (t67 < t66) then
 bif decide (0 ≤ t67) then
 bif decide (t67 < (t65.2.length : Int)) then
 bif decide ((t65.2.getD (Int.toNat t67) 0) < least) then
(spec_l11Parts_L4 next w back out i (t65.2.getD (Int.toNat t67) 0) t65 t66 (IntKind.i64.wrap (t67 + 1))).bind fun r => some r
else 
(spec_l11Parts_L4 next w back out i least t65 t66 (IntKind.i64.wrap (t67 + 1))).bind fun r => some r
else none
else none
else 
 some least := Eq.trans (inf_loop_eq (H := H) 54 4 (loopCode Try.f54 4) (next, (w, (back, (out, (i, (least, (t65, (t66, t67)))))))) key_spec_l11Parts) (by kernel_rfl)
theorem spec_l11Parts_L6_eq (next : Bool × List (Bool × List Int)) (w : Dl11Walk) (back : Dl11Walk) (out : Bool × List Int) (i : Int) (least : Int) (t79 : Bool × List Int) (t80 : Int) (t81 : Int) : spec_l11Parts_L6 next w back out i least t79 t80 t81 =
 bif decide (t81 < t80) then
 bif decide (0 ≤ t81) then
 bif decide (t81 < (t79.2.length : Int)) then
 bif decide (0 ≤ (t79.2.getD (Int.toNat t81) 0)) then
 bif decide ((t79.2.getD (Int.toNat t81) 0) < (out.2.length : Int)) then
(spec_l11Parts_L6 next w back (out.1, (out.2.set (Int.toNat (t79.2.getD (Int.toNat t81) 0)) least)) i least t79 t80 (IntKind.i64.wrap (t81 + 1))).bind fun r => some r
else none
else none
else none
else none
else 
 some (out.1, out.2) := Eq.trans (inf_loop_eq (H := H) 54 6 (loopCode Try.f54 6) (next, (w, (back, (out, (i, (least, (t79, (t80, t81)))))))) key_spec_l11Parts) (by kernel_rfl)
theorem spec_l11Parts_eq (next : Bool × List (Bool × List Int)) : spec_l11Parts next =
 bif decide (0 ≤ (next.2.length : Int)) then
 bif decide ((next.2.length : Int) ≤ lim) then
 bif decide ((next.2.length : Int) ≤ (next.2.length : Int)) then
 bif decide ((next.2.length : Int) ≤ lim) then
(spec_l11Parts_L0 next next (false, (List.replicate (Int.toNat (next.2.length : Int)) (false : Bool))) (true, []) (next.2.length : Int) 0).bind fun r =>
(spec_l11Turn next).bind fun r1 =>
 bif decide (0 ≤ (next.2.length : Int)) then
 bif decide ((next.2.length : Int) ≤ lim) then
 bif decide ((next.2.length : Int) ≤ (next.2.length : Int)) then
 bif decide ((next.2.length : Int) ≤ lim) then
 bif decide (0 ≤ (next.2.length : Int)) then
 bif decide ((next.2.length : Int) ≤ lim) then
 bif decide ((next.2.length : Int) ≤ (next.2.length : Int)) then
 bif decide ((next.2.length : Int) ≤ lim) then
(spec_l11Parts_L2 next (r.1, ((r.2.1.1, r.2.1.2), (r.2.2.1, r.2.2.2))) (r1.1, r1.2) (false, (List.replicate (Int.toNat (next.2.length : Int)) (false : Bool))) (true, []) (false, (List.replicate (Int.toNat (next.2.length : Int)) (0 : Int))) (IntKind.i64.wrap ((r.2.2.2.length : Int) - 1))).bind fun r2 =>
 some (r2.1.1, r2.1.2)
else none
else none
else none
else none
else none
else none
else none
else none
else none
else none
else none
else none := Eq.trans (inf_call_eq (H := H) 54 next) (by kernel_rfl)
theorem spec_l11Within_L0_eq (parts_ : Bool × List Int) (out : Bool × List (Bool × List Int)) (t13 : Bool × List (Bool × List Int)) (t14 : Int) (t15 : Int) : spec_l11Within_L0 parts_ out t13 t14 t15 =
 bif decide (t15 < t14) then
 bif decide (0 ≤ t15) then
 bif decide (t15 < (t13.2.length : Int)) then
(spec_l11Within_L2 parts_ (out.1, out.2) t15 t13 t14 t15 (t13.2.getD (Int.toNat t15) (true, [])) (((t13.2.getD (Int.toNat t15) (true, [])).2).length : Int) 0).bind fun r =>
(spec_l11Within_L0 parts_ (r.1, r.2) t13 t14 (IntKind.i64.wrap (t15 + 1))).bind fun r => some r
else none
else none
else 
 some (out.1, out.2) := Eq.trans (inf_loop_eq (H := H) 110 0 (loopCode Try.f110 0) (parts_, (out, (t13, (t14, t15)))) key_spec_l11Within) (by kernel_rfl)
theorem spec_l11Within_L2_eq (parts_ : Bool × List Int) (out : Bool × List (Bool × List Int)) (k_ : Int) (t13 : Bool × List (Bool × List Int)) (t14 : Int) (t15 : Int) (t20 : Bool × List Int) (t21 : Int) (t22 : Int) : spec_l11Within_L2 parts_ out k_ t13 t14 t15 t20 t21 t22 =
 bif decide (t22 < t21) then
 bif decide (0 ≤ t22) then
 bif decide (t22 < (t20.2.length : Int)) then
 bif decide (0 ≤ k_) then
 bif decide (k_ < (parts_.2.length : Int)) then
 bif decide (0 ≤ (t20.2.getD (Int.toNat t22) 0)) then
 bif decide ((t20.2.getD (Int.toNat t22) 0) < (parts_.2.length : Int)) then
 bif ((parts_.2.getD (Int.toNat k_) 0) == (parts_.2.getD (Int.toNat (t20.2.getD (Int.toNat t22) 0)) 0)) then
 bif decide (0 ≤ k_) then
 bif decide (k_ < (out.2.length : Int)) then
 bif decide (((out.2.getD (Int.toNat k_) (true, [])).2).length + [(t20.2.getD (Int.toNat t22) 0)].length ≤ lim) then
 bif decide (0 ≤ k_) then
 bif decide (k_ < (out.2.length : Int)) then
 bif ((Int.toNat k_) == (Int.toNat k_)) then
(spec_l11Within_L2 parts_ (out.1, (out.2.set (Int.toNat k_) ((((out.2.getD (Int.toNat k_) (true, [])).1) && false), (((out.2.getD (Int.toNat k_) (true, [])).2) ++ [(t20.2.getD (Int.toNat t22) 0)])))) k_ t13 t14 t15 t20 t21 (IntKind.i64.wrap (t22 + 1))).bind fun r => some r
else none
else none
else none
else none
else none
else none
else 
(spec_l11Within_L2 parts_ (out.1, out.2) k_ t13 t14 t15 t20 t21 (IntKind.i64.wrap (t22 + 1))).bind fun r => some r
else none
else none
else none
else none
else none
else none
else 
 some (out.1, out.2) := Eq.trans (inf_loop_eq (H := H) 110 2 (loopCode Try.f110 2) (parts_, (out, (k_, (t13, (t14, (t15, (t20, (t21, t22)))))))) key_spec_l11Within) (by kernel_rfl)
theorem spec_l11Within_eq (next : Bool × List (Bool × List Int)) (parts_ : Bool × List Int) : spec_l11Within next parts_ =
 bif decide (0 ≤ (next.2.length : Int)) then
 bif decide ((next.2.length : Int) ≤ lim) then
 bif decide ((next.2.length : Int) ≤ (next.2.length : Int)) then
 bif decide ((next.2.length : Int) ≤ lim) then
(spec_l11Within_L0 parts_ (false, (List.replicate (Int.toNat (next.2.length : Int)) ((true, []) : Bool × List Int))) next (next.2.length : Int) 0).bind fun r =>
 some (r.1, r.2)
else none
else none
else none
else none := Eq.trans (inf_call_eq (H := H) 110 (next, parts_)) (by kernel_rfl)
theorem spec_l11Fair_L0_eq (next : Bool × List (Bool × List Int)) (goals : Bool × List (Bool × List Int)) (parts_ : Bool × List Int) (arrow : Bool × List Bool) (met : Bool × List Int) (t28 : Bool × List (Bool × List Int)) (t29 : Int) (t30 : Int) : spec_l11Fair_L0 next goals parts_ arrow met t28 t29 t30 =
 bif decide (t30 < t29) then
 bif decide (0 ≤ t30) then
 bif decide (t30 < (t28.2.length : Int)) then
 bif decide (0 ≤ t30) then
 bif decide (t30 < (parts_.2.length : Int)) then
 bif decide (0 ≤ t30) then
 bif decide (t30 < (parts_.2.length : Int)) then
 bif decide (0 ≤ (parts_.2.getD (Int.toNat t30) 0)) then
 bif decide ((parts_.2.getD (Int.toNat t30) 0) < (arrow.2.length : Int)) then
 bif (arrow.2.getD (Int.toNat (parts_.2.getD (Int.toNat t30) 0)) false) then
 bif decide (0 ≤ (parts_.2.getD (Int.toNat t30) 0)) then
 bif decide ((parts_.2.getD (Int.toNat t30) 0) < (arrow.2.length : Int)) then
(spec_l11Fair_L0 next goals parts_ (arrow.1, (arrow.2.set (Int.toNat (parts_.2.getD (Int.toNat t30) 0)) true)) met t28 t29 (IntKind.i64.wrap (t30 + 1))).bind fun r => some r
else none
else none
else 
 bif decide (0 ≤ (parts_.2.getD (Int.toNat t30) 0)) then
 bif decide ((parts_.2.getD (Int.toNat t30) 0) < (arrow.2.length : Int)) then
(spec_l11Fair_L0 next goals parts_ (arrow.1, (arrow.2.set (Int.toNat (parts_.2.getD (Int.toNat t30) 0)) (decide ((((t28.2.getD (Int.toNat t30) (true, [])).2).length : Int) > 0)))) met t28 t29 (IntKind.i64.wrap (t30 + 1))).bind fun r => some r
else none
else none
else none
else none
else none
else none
else none
else none
else none
else none
else 
 some (arrow.1, arrow.2) := Eq.trans (inf_loop_eq (H := H) 78 0 (loopCode Try.f78 0) (next, (goals, (parts_, (arrow, (met, (t28, (t29, t30))))))) key_spec_l11Fair) (by kernel_rfl)
theorem spec_l11Fair_L2_eq (next : Bool × List (Bool × List Int)) (goals : Bool × List (Bool × List Int)) (parts_ : Bool × List Int) (arrow : Bool × List Bool) (met : Bool × List Int) (t54 : Bool × List (Bool × List Int)) (t55 : Int) (t56 : Int) : spec_l11Fair_L2 next goals parts_ arrow met t54 t55 t56 =
 bif decide (t56 < t55) then
 bif decide (0 ≤ t56) then
 bif decide (t56 < (t54.2.length : Int)) then
(spec_l11Fair_L4 next goals parts_ arrow (met.1, met.2) t56 t54 t55 t56 (t54.2.getD (Int.toNat t56) (true, [])) (((t54.2.getD (Int.toNat t56) (true, [])).2).length : Int) 0).bind fun r =>
(spec_l11Fair_L2 next goals parts_ arrow (r.1, r.2) t54 t55 (IntKind.i64.wrap (t56 + 1))).bind fun r => some r
else none
else none
else 
 some (met.1, met.2) := Eq.trans (inf_loop_eq (H := H) 78 2 (loopCode Try.f78 2) (next, (goals, (parts_, (arrow, (met, (t54, (t55, t56))))))) key_spec_l11Fair) (by kernel_rfl)
theorem spec_l11Fair_L4_eq (next : Bool × List (Bool × List Int)) (goals : Bool × List (Bool × List Int)) (parts_ : Bool × List Int) (arrow : Bool × List Bool) (met : Bool × List Int) (j : Int) (t54 : Bool × List (Bool × List Int)) (t55 : Int) (t56 : Int) (t61 : Bool × List Int) (t62 : Int) (t63 : Int) : spec_l11Fair_L4 next goals parts_ arrow met j t54 t55 t56 t61 t62 t63 =
 bif decide (t63 < t62) then
 bif decide (0 ≤ t63) then
 bif decide (t63 < (t61.2.length : Int)) then
 bif decide (0 ≤ (t61.2.getD (Int.toNat t63) 0)) then
 bif decide ((t61.2.getD (Int.toNat t63) 0) < (parts_.2.length : Int)) then
 bif decide (0 ≤ (parts_.2.getD (Int.toNat (t61.2.getD (Int.toNat t63) 0)) 0)) then
 bif decide ((parts_.2.getD (Int.toNat (t61.2.getD (Int.toNat t63) 0)) 0) < (met.2.length : Int)) then
 bif ((met.2.getD (Int.toNat (parts_.2.getD (Int.toNat (t61.2.getD (Int.toNat t63) 0)) 0)) 0) == j) then
 bif decide (0 ≤ (t61.2.getD (Int.toNat t63) 0)) then
 bif decide ((t61.2.getD (Int.toNat t63) 0) < (parts_.2.length : Int)) then
 bif decide (0 ≤ (parts_.2.getD (Int.toNat (t61.2.getD (Int.toNat t63) 0)) 0)) then
 bif decide ((parts_.2.getD (Int.toNat (t61.2.getD (Int.toNat t63) 0)) 0) < (met.2.length : Int)) then
(spec_l11Fair_L4 next goals parts_ arrow (met.1, (met.2.set (Int.toNat (parts_.2.getD (Int.toNat (t61.2.getD (Int.toNat t63) 0)) 0)) (IntKind.i64.wrap (j + 1)))) j t54 t55 t56 t61 t62 (IntKind.i64.wrap (t63 + 1))).bind fun r => some r
else none
else none
else none
else none
else 
(spec_l11Fair_L4 next goals parts_ arrow (met.1, met.2) j t54 t55 t56 t61 t62 (IntKind.i64.wrap (t63 + 1))).bind fun r => some r
else none
else none
else none
else none
else none
else none
else 
 some (met.1, met.2) := Eq.trans (inf_loop_eq (H := H) 78 4 (loopCode Try.f78 4) (next, (goals, (parts_, (arrow, (met, (j, (t54, (t55, (t56, (t61, (t62, t63))))))))))) key_spec_l11Fair) (by kernel_rfl)
theorem spec_l11Fair_L6_eq (goals : Bool × List (Bool × List Int)) (parts_ : Bool × List Int) (arrow : Bool × List Bool) (met : Bool × List Int) (out : Bool × List Int) (t87 : Int) (t88 : Int) : spec_l11Fair_L6 goals parts_ arrow met out t87 t88 =
 bif decide (t88 < t87) then
 bif decide (0 ≤ t88) then
 bif decide (t88 < (parts_.2.length : Int)) then
 bif decide (0 ≤ (parts_.2.getD (Int.toNat t88) 0)) then
 bif decide ((parts_.2.getD (Int.toNat t88) 0) < (arrow.2.length : Int)) then
 bif (arrow.2.getD (Int.toNat (parts_.2.getD (Int.toNat t88) 0)) false) then
 bif decide (0 ≤ t88) then
 bif decide (t88 < (parts_.2.length : Int)) then
 bif decide (0 ≤ (parts_.2.getD (Int.toNat t88) 0)) then
 bif decide ((parts_.2.getD (Int.toNat t88) 0) < (met.2.length : Int)) then
 bif ((met.2.getD (Int.toNat (parts_.2.getD (Int.toNat t88) 0)) 0) == (goals.2.length : Int)) then
 bif decide (out.2.length + [t88].length ≤ lim) then
(spec_l11Fair_L6 goals parts_ arrow met ((out.1 && false), (out.2 ++ [t88])) t87 (IntKind.i64.wrap (t88 + 1))).bind fun r => some r
else none
else 
(spec_l11Fair_L6 goals parts_ arrow met (out.1, out.2) t87 (IntKind.i64.wrap (t88 + 1))).bind fun r => some r
else none
else none
else none
else none
else 
(spec_l11Fair_L6 goals parts_ arrow met (out.1, out.2) t87 (IntKind.i64.wrap (t88 + 1))).bind fun r => some r
else none
else none
else none
else none
else 
 some (out.1, out.2) := Eq.trans (inf_loop_eq (H := H) 78 6 (loopCode Try.f78 6) (goals, (parts_, (arrow, (met, (out, (t87, t88)))))) key_spec_l11Fair) (by kernel_rfl)
theorem spec_l11Fair_eq (next : Bool × List (Bool × List Int)) (goals : Bool × List (Bool × List Int)) : spec_l11Fair next goals =
(spec_l11Parts next).bind fun r =>
(spec_l11Within next (r.1, r.2)).bind fun r1 =>
 bif decide (0 ≤ (next.2.length : Int)) then
 bif decide ((next.2.length : Int) ≤ lim) then
 bif decide ((next.2.length : Int) ≤ (next.2.length : Int)) then
 bif decide ((next.2.length : Int) ≤ lim) then
 bif decide (0 ≤ (next.2.length : Int)) then
 bif decide ((next.2.length : Int) ≤ lim) then
 bif decide ((next.2.length : Int) ≤ (next.2.length : Int)) then
 bif decide ((next.2.length : Int) ≤ lim) then
(spec_l11Fair_L0 next goals (r.1, r.2) (false, (List.replicate (Int.toNat (next.2.length : Int)) (false : Bool))) (false, (List.replicate (Int.toNat (next.2.length : Int)) (0 : Int))) (r1.1, r1.2) (r1.2.length : Int) 0).bind fun r2 =>
(spec_l11Fair_L2 next goals (r.1, r.2) (r2.1, r2.2) (false, (List.replicate (Int.toNat (next.2.length : Int)) (0 : Int))) goals (goals.2.length : Int) 0).bind fun r3 =>
(spec_l11Fair_L6 goals (r.1, r.2) (r2.1, r2.2) (r3.1, r3.2) (true, []) (next.2.length : Int) 0).bind fun r4 =>
 some (r4.1, r4.2)
else none
else none
else none
else none
else none
else none
else none
else none := Eq.trans (inf_call_eq (H := H) 78 (next, goals)) (by kernel_rfl)
theorem spec_l11Path_L0_eq (next : Bool × List (Bool × List Int)) (far : Bool × List Int) (best : Int) (t19 : Bool × List Int) (t20 : Int) (t21 : Int) : spec_l11Path_L0 next far best t19 t20 t21 =
 bif decide (t21 < t20) then
 bif decide (0 ≤ t21) then
 bif decide (t21 < (t19.2.length : Int)) then
 bif decide (0 ≤ (t19.2.getD (Int.toNat t21) 0)) then
 bif decide ((t19.2.getD (Int.toNat t21) 0) < (far.2.length : Int)) then
 bif decide ((far.2.getD (Int.toNat (t19.2.getD (Int.toNat t21) 0)) 0) ≥ 0) then
 bif decide (best < 0) then
(spec_l11Path_L0 next far (t19.2.getD (Int.toNat t21) 0) t19 t20 (IntKind.i64.wrap (t21 + 1))).bind fun r => some r
else 
 bif decide (0 ≤ (t19.2.getD (Int.toNat t21) 0)) then
 bif decide ((t19.2.getD (Int.toNat t21) 0) < (far.2.length : Int)) then
 bif decide (0 ≤ best) then
 bif decide (best < (far.2.length : Int)) then
 bif decide ((far.2.getD (Int.toNat (t19.2.getD (Int.toNat t21) 0)) 0) < (far.2.getD (Int.toNat best) 0)) then
(spec_l11Path_L0 next far (t19.2.getD (Int.toNat t21) 0) t19 t20 (IntKind.i64.wrap (t21 + 1))).bind fun r => some r
else 
(spec_l11Path_L0 next far best t19 t20 (IntKind.i64.wrap (t21 + 1))).bind fun r => some r
else none
else none
else none
else none
else 
(spec_l11Path_L0 next far best t19 t20 (IntKind.i64.wrap (t21 + 1))).bind fun r => some r
else none
else none
else none
else none
else 
 some best := Eq.trans (inf_loop_eq (H := H) 49 0 (loopCode Try.f49 0) (next, (far, (best, (t19, (t20, t21))))) key_spec_l11Path) (by kernel_rfl)
theorem spec_l11Path_L2_eq (next : Bool × List (Bool × List Int)) (far : Bool × List Int) (best : Int) (out : Bool × List Int) : spec_l11Path_L2 next far best out =
 bif decide (0 ≤ best) then
 bif decide (best < (far.2.length : Int)) then
 bif decide ((far.2.getD (Int.toNat best) 0) > 0) then
 bif decide (0 ≤ best) then
 bif decide (best < (next.2.length : Int)) then
(spec_l11Path_L4 next far best (out.1, out.2) (next.2.getD (Int.toNat best) (true, [])) (((next.2.getD (Int.toNat best) (true, [])).2).length : Int) 0).bind fun r =>
 bif decide (out.2.length + [r].length ≤ lim) then
(spec_l11Path_L2 next far r ((out.1 && false), (out.2 ++ [r]))).bind fun r => some r
else none
else none
else none
else 
 some (out.1, out.2)
else none
else none := Eq.trans (inf_loop_eq (H := H) 49 2 (loopCode Try.f49 2) (next, (far, (best, out))) key_spec_l11Path) (by kernel_rfl)
theorem spec_l11Path_L4_eq (next : Bool × List (Bool × List Int)) (far : Bool × List Int) (best : Int) (out : Bool × List Int) (t59 : Bool × List Int) (t60 : Int) (t61 : Int) : spec_l11Path_L4 next far best out t59 t60 t61 =
 bif decide (t61 < t60) then
 bif decide (0 ≤ t61) then
 bif decide (t61 < (t59.2.length : Int)) then
 bif decide (0 ≤ (t59.2.getD (Int.toNat t61) 0)) then
 bif decide ((t59.2.getD (Int.toNat t61) 0) < (far.2.length : Int)) then
 bif decide (0 ≤ best) then
 bif decide (best < (far.2.length : Int)) then
 bif ((far.2.getD (Int.toNat (t59.2.getD (Int.toNat t61) 0)) 0) == (IntKind.i64.wrap ((far.2.getD (Int.toNat best) 0) - 1))) then
 some (t59.2.getD (Int.toNat t61) 0)
else 
(spec_l11Path_L4 next far best out t59 t60 (IntKind.i64.wrap (t61 + 1))).bind fun r => some r
else none
else none
else none
else none
else none
else none
else 
 some best := Eq.trans (inf_loop_eq (H := H) 49 4 (loopCode Try.f49 4) (next, (far, (best, (out, (t59, (t60, t61)))))) key_spec_l11Path) (by kernel_rfl)
theorem spec_l11Path_eq (next : Bool × List (Bool × List Int)) (from_ : Bool × List Int) (to : Bool × List Int) : spec_l11Path next from_ to =
(spec_l11Turn next).bind fun r =>
(spec_l11Far (r.1, r.2) to).bind fun r1 =>
(spec_l11Path_L0 next (r1.1, r1.2) (-1) from_ (from_.2.length : Int) 0).bind fun r2 =>
 bif decide (r2 < 0) then
 some ((true, []), false)
else 
(spec_l11Path_L2 next (r1.1, r1.2) r2 (false, [r2])).bind fun r3 =>
 some ((r3.1, r3.2), true) := Eq.trans (inf_call_eq (H := H) 49 (next, (from_, to))) (by kernel_rfl)
theorem spec_l11Lasso_L0_eq (next : Bool × List (Bool × List Int)) (from_ : Bool × List Int) (goals : Bool × List (Bool × List Int)) (far : Bool × List Int) (meet : Int) (t32 : Bool × List Int) (t33 : Int) (t34 : Int) : spec_l11Lasso_L0 next from_ goals far meet t32 t33 t34 =
 bif decide (t34 < t33) then
 bif decide (0 ≤ t34) then
 bif decide (t34 < (t32.2.length : Int)) then
 bif decide (0 ≤ (t32.2.getD (Int.toNat t34) 0)) then
 bif decide ((t32.2.getD (Int.toNat t34) 0) < (far.2.length : Int)) then
 bif decide ((far.2.getD (Int.toNat (t32.2.getD (Int.toNat t34) 0)) 0) ≥ 0) then
 bif decide (meet < 0) then
(spec_l11Lasso_L0 next from_ goals far (t32.2.getD (Int.toNat t34) 0) t32 t33 (IntKind.i64.wrap (t34 + 1))).bind fun r => some r
else 
 bif decide (0 ≤ (t32.2.getD (Int.toNat t34) 0)) then
 bif decide ((t32.2.getD (Int.toNat t34) 0) < (far.2.length : Int)) then
 bif decide (0 ≤ meet) then
 bif decide (meet < (far.2.length : Int)) then
 bif decide ((far.2.getD (Int.toNat (t32.2.getD (Int.toNat t34) 0)) 0) < (far.2.getD (Int.toNat meet) 0)) then
(spec_l11Lasso_L0 next from_ goals far (t32.2.getD (Int.toNat t34) 0) t32 t33 (IntKind.i64.wrap (t34 + 1))).bind fun r => some r
else 
(spec_l11Lasso_L0 next from_ goals far meet t32 t33 (IntKind.i64.wrap (t34 + 1))).bind fun r => some r
else none
else none
else none
else none
else 
(spec_l11Lasso_L0 next from_ goals far meet t32 t33 (IntKind.i64.wrap (t34 + 1))).bind fun r => some r
else none
else none
else none
else none
else 
 some meet := Eq.trans (inf_loop_eq (H := H) 76 0 (loopCode Try.f76 0) (next, (from_, (goals, (far, (meet, (t32, (t33, t34))))))) key_spec_l11Lasso) (by kernel_rfl)
theorem spec_l11Lasso_L2_eq (meet : Int) (stem : Bool × List Int) (parts_ : Bool × List Int) (inner : Bool × List (Bool × List Int)) (loop : Bool × List Int) (t77 : Bool × List (Bool × List Int)) (t78 : Int) (t79 : Int) : spec_l11Lasso_L2 meet stem parts_ inner loop t77 t78 t79 =
 bif decide (t79 < t78) then
 bif decide (0 ≤ t79) then
 bif decide (t79 < (t77.2.length : Int)) then
(spec_l11Lasso_L4 meet stem parts_ inner (loop.1, loop.2) (true, []) t77 t78 t79 (t77.2.getD (Int.toNat t79) (true, [])) (((t77.2.getD (Int.toNat t79) (true, [])).2).length : Int) 0).bind fun r =>
 bif decide (0 ≤ (IntKind.i64.wrap ((loop.2.length : Int) - 1))) then
 bif decide ((IntKind.i64.wrap ((loop.2.length : Int) - 1)) ≤ (loop.2.length : Int)) then
(spec_l11Path inner (loop.1, ((loop.2.take loop.2.length).drop (Int.toNat (IntKind.i64.wrap ((loop.2.length : Int) - 1))))) (r.1, r.2)).bind fun r1 =>
 bif decide (1 ≤ (r1.1.2.length : Int)) then
 bif decide (loop.2.length + ((r1.1.2.take r1.1.2.length).drop 1).length ≤ lim) then
(spec_l11Lasso_L2 meet stem parts_ inner ((loop.1 && ((r1.1.2.take r1.1.2.length).drop 1).isEmpty), (loop.2 ++ ((r1.1.2.take r1.1.2.length).drop 1))) t77 t78 (IntKind.i64.wrap (t79 + 1))).bind fun r => some r
else none
else none
else none
else none
else none
else none
else 
 some (loop.1, loop.2) := Eq.trans (inf_loop_eq (H := H) 76 2 (loopCode Try.f76 2) (meet, (stem, (parts_, (inner, (loop, (t77, (t78, t79))))))) key_spec_l11Lasso) (by kernel_rfl)
theorem spec_l11Lasso_L4_eq (meet : Int) (stem : Bool × List Int) (parts_ : Bool × List Int) (inner : Bool × List (Bool × List Int)) (loop : Bool × List Int) (in_ : Bool × List Int) (t77 : Bool × List (Bool × List Int)) (t78 : Int) (t79 : Int) (t83 : Bool × List Int) (t84 : Int) (t85 : Int) : spec_l11Lasso_L4 meet stem parts_ inner loop in_ t77 t78 t79 t83 t84 t85 =
 bif decide (t85 < t84) then
 bif decide (0 ≤ t85) then
 bif decide (t85 < (t83.2.length : Int)) then
 bif decide (0 ≤ (t83.2.getD (Int.toNat t85) 0)) then
 bif decide ((t83.2.getD (Int.toNat t85) 0) < (parts_.2.length : Int)) then
 bif decide (0 ≤ meet) then
 bif decide (meet < (parts_.2.length : Int)) then
 bif ((parts_.2.getD (Int.toNat (t83.2.getD (Int.toNat t85) 0)) 0) == (parts_.2.getD (Int.toNat meet) 0)) then
 bif decide (in_.2.length + [(t83.2.getD (Int.toNat t85) 0)].length ≤ lim) then
(spec_l11Lasso_L4 meet stem parts_ inner loop ((in_.1 && false), (in_.2 ++ [(t83.2.getD (Int.toNat t85) 0)])) t77 t78 t79 t83 t84 (IntKind.i64.wrap (t85 + 1))).bind fun r => some r
else none
else 
(spec_l11Lasso_L4 meet stem parts_ inner loop (in_.1, in_.2) t77 t78 t79 t83 t84 (IntKind.i64.wrap (t85 + 1))).bind fun r => some r
else none
else none
else none
else none
else none
else none
else 
 some (in_.1, in_.2) := Eq.trans (inf_loop_eq (H := H) 76 4 (loopCode Try.f76 4) (meet, (stem, (parts_, (inner, (loop, (in_, (t77, (t78, (t79, (t83, (t84, t85))))))))))) key_spec_l11Lasso) (by kernel_rfl)
theorem spec_l11Lasso_eq (next : Bool × List (Bool × List Int)) (from_ : Bool × List Int) (goals : Bool × List (Bool × List Int)) : spec_l11Lasso next from_ goals =
(spec_l11Far next from_).bind fun r =>
(spec_l11Fair next goals).bind fun r1 =>
(spec_l11Lasso_L0 next from_ goals (r.1, r.2) (-1) (r1.1, r1.2) (r1.2.length : Int) 0).bind fun r2 =>
 bif decide (r2 < 0) then
 some ((true, []), ((true, []), false))
else 
(spec_l11Path next from_ (false, [r2])).bind fun r3 =>
(spec_l11Parts next).bind fun r4 =>
(spec_l11Within next (r4.1, r4.2)).bind fun r5 =>
(spec_l11Lasso_L2 r2 (r3.1.1, r3.1.2) (r4.1, r4.2) (r5.1, r5.2) (false, [r2]) goals (goals.2.length : Int) 0).bind fun r6 =>
 bif decide (0 ≤ (IntKind.i64.wrap ((r6.2.length : Int) - 1))) then
 bif decide ((IntKind.i64.wrap ((r6.2.length : Int) - 1)) < (r6.2.length : Int)) then
 bif decide (0 ≤ (r6.2.getD (Int.toNat (IntKind.i64.wrap ((r6.2.length : Int) - 1))) 0)) then
 bif decide ((r6.2.getD (Int.toNat (IntKind.i64.wrap ((r6.2.length : Int) - 1))) 0) < (r5.2.length : Int)) then
(spec_l11Path (r5.1, r5.2) (r5.2.getD (Int.toNat (r6.2.getD (Int.toNat (IntKind.i64.wrap ((r6.2.length : Int) - 1))) 0)) (true, [])) (false, [r2])).bind fun r7 =>
 bif decide (0 ≤ (IntKind.i64.wrap ((r3.1.2.length : Int) - 1))) then
 bif decide ((IntKind.i64.wrap ((r3.1.2.length : Int) - 1)) ≤ (r3.1.2.length : Int)) then
 bif decide (0 ≤ (IntKind.i64.wrap ((r7.1.2.length : Int) - 1))) then
 bif decide ((IntKind.i64.wrap ((r7.1.2.length : Int) - 1)) ≤ (r7.1.2.length : Int)) then
 bif decide (r6.2.length + ((r7.1.2.take (Int.toNat (IntKind.i64.wrap ((r7.1.2.length : Int) - 1)))).drop 0).length ≤ lim) then
 some ((r3.1.1, ((r3.1.2.take (Int.toNat (IntKind.i64.wrap ((r3.1.2.length : Int) - 1)))).drop 0)), (((r6.1 && ((r7.1.2.take (Int.toNat (IntKind.i64.wrap ((r7.1.2.length : Int) - 1)))).drop 0).isEmpty), (r6.2 ++ ((r7.1.2.take (Int.toNat (IntKind.i64.wrap ((r7.1.2.length : Int) - 1)))).drop 0))), true))
else none
else none
else none
else none
else none
else none
else none
else none
else none := Eq.trans (inf_call_eq (H := H) 76 (next, (from_, goals))) (by kernel_rfl)
theorem spec_FairLasso_eq (g : DGraph) (from_ : Bool × List Int) (goals : Bool × List (Bool × List Int)) : spec_FairLasso g from_ goals =
(spec_GoodGraph g).bind fun r =>
 bif !r then
 some ((true, []), ((true, []), false))
else 
(spec_l11Points from_ (g.2.length : Int)).bind fun r1 =>
 bif !r1 then
 some ((true, []), ((true, []), false))
else 
(spec_l11Goals goals (g.2.length : Int)).bind fun r2 =>
 bif !r2 then
 some ((true, []), ((true, []), false))
else 
(spec_l11Lasso g from_ goals).bind fun r3 =>
 some ((r3.1.1, r3.1.2), ((r3.2.1.1, r3.2.1.2), r3.2.2)) := Eq.trans (inf_call_eq (H := H) 39 (g, (from_, goals))) (by kernel_rfl)
theorem laws_sameInts_L0_eq (a : Bool × List Int) (b : Bool × List Int) (t12 : Int) (t13 : Int) : laws_sameInts_L0 a b t12 t13 =
 bif decide (t13 < t12) then
 bif decide (0 ≤ t13) then
 bif decide (t13 < (a.2.length : Int)) then
 bif decide (0 ≤ t13) then
 bif decide (t13 < (b.2.length : Int)) then
 bif ((a.2.getD (Int.toNat t13) 0) != (b.2.getD (Int.toNat t13) 0)) then
 some (.inl false)
else 
(laws_sameInts_L0 a b t12 (IntKind.i64.wrap (t13 + 1))).bind fun r => some r
else none
else none
else none
else none
else 
 some (.inr ()) := Eq.trans (inf_loop_eq (H := H) 13 0 (loopCode Try.f13 0) (a, (b, (t12, t13))) key_laws_sameInts) (by kernel_rfl)
theorem laws_sameInts_eq (a : Bool × List Int) (b : Bool × List Int) : laws_sameInts a b =
 bif ((a.2.length : Int) != (b.2.length : Int)) then
 some false
else 
(laws_sameInts_L0 a b (a.2.length : Int) 0).bind fun r =>
 match r with
| .inl y =>
 some y
| .inr z =>
 some true := Eq.trans (inf_call_eq (H := H) 13 (a, b)) (by kernel_rfl)
theorem laws_has_L0_eq (n : Int) (t7 : Bool × List Int) (t8 : Int) (t9 : Int) : laws_has_L0 n t7 t8 t9 =
 bif decide (t9 < t8) then
 bif decide (0 ≤ t9) then
 bif decide (t9 < (t7.2.length : Int)) then
 bif ((t7.2.getD (Int.toNat t9) 0) == n) then
 some (.inl true)
else 
(laws_has_L0 n t7 t8 (IntKind.i64.wrap (t9 + 1))).bind fun r => some r
else none
else none
else 
 some (.inr ()) := Eq.trans (inf_loop_eq (H := H) 14 0 (loopCode Try.f14 0) (n, (t7, (t8, t9))) key_laws_has) (by kernel_rfl)
theorem laws_has_eq (l : Bool × List Int) (n : Int) : laws_has l n =
(laws_has_L0 n l (l.2.length : Int) 0).bind fun r =>
 match r with
| .inl y =>
 some y
| .inr z =>
 some false := Eq.trans (inf_call_eq (H := H) 14 (l, n)) (by kernel_rfl)
theorem impl_marked_L0_eq (out : Bool × List Int) (t7 : Bool × List Bool) (t8 : Int) (t9 : Int) : impl_marked_L0 out t7 t8 t9 =
 bif decide (t9 < t8) then
 bif decide (0 ≤ t9) then
 bif decide (t9 < (t7.2.length : Int)) then
 bif (t7.2.getD (Int.toNat t9) false) then
 bif decide (out.2.length + [t9].length ≤ lim) then
(impl_marked_L0 ((out.1 && false), (out.2 ++ [t9])) t7 t8 (IntKind.i64.wrap (t9 + 1))).bind fun r => some r
else none
else 
(impl_marked_L0 (out.1, out.2) t7 t8 (IntKind.i64.wrap (t9 + 1))).bind fun r => some r
else none
else none
else 
 some (out.1, out.2) := Eq.trans (inf_loop_eq (H := H) 111 0 (loopCode Try.f111 0) (out, (t7, (t8, t9))) key_impl_marked) (by kernel_rfl)
theorem impl_marked_eq (list : Bool × List Bool) : impl_marked list =
(impl_marked_L0 (false, []) list (list.2.length : Int) 0).bind fun r =>
 some (r.1, r.2) := Eq.trans (inf_call_eq (H := H) 111 list) (by kernel_rfl)
theorem impl_reachedFrom_L0_eq (out : Bool × List Int) (t11 : Bool × List Int) (t12 : Int) (t13 : Int) : impl_reachedFrom_L0 out t11 t12 t13 =
 bif decide (t13 < t12) then
 bif decide (0 ≤ t13) then
 bif decide (t13 < (t11.2.length : Int)) then
 bif decide ((t11.2.getD (Int.toNat t13) 0) ≥ 0) then
 bif decide (out.2.length + [t13].length ≤ lim) then
(impl_reachedFrom_L0 ((out.1 && false), (out.2 ++ [t13])) t11 t12 (IntKind.i64.wrap (t13 + 1))).bind fun r => some r
else none
else 
(impl_reachedFrom_L0 (out.1, out.2) t11 t12 (IntKind.i64.wrap (t13 + 1))).bind fun r => some r
else none
else none
else 
 some (out.1, out.2) := Eq.trans (inf_loop_eq (H := H) 50 0 (loopCode Try.f50 0) (out, (t11, (t12, t13))) key_impl_reachedFrom) (by kernel_rfl)
theorem impl_reachedFrom_eq (g : Bool × List (Bool × List Int)) (some_ : Bool × List Int) : impl_reachedFrom g some_ =
(impl_stepsFrom g some_).bind fun r =>
(impl_reachedFrom_L0 (false, []) (r.1, r.2) (r.2.length : Int) 0).bind fun r1 =>
 some (r1.1, r1.2) := Eq.trans (inf_call_eq (H := H) 50 (g, some_)) (by kernel_rfl)
theorem impl_fairPoints_eq (next : Bool × List (Bool × List Int)) (goals : Bool × List (Bool × List Int)) : impl_fairPoints next goals =
(impl_turned next).bind fun r =>
(impl_fairVertices next goals).bind fun r1 =>
(impl_marked (r1.1, r1.2)).bind fun r2 =>
(impl_reachedFrom (r.1, r.2) (r2.1, r2.2)).bind fun r3 =>
 some (r3.1, r3.2) := Eq.trans (inf_call_eq (H := H) 77 (next, goals)) (by kernel_rfl)
theorem impl_FairPoints_eq (g : DGraph) (goals : Bool × List (Bool × List Int)) : impl_FairPoints g goals =
(impl_GoodGraph g).bind fun r =>
 bif !r then
 some ((true, []), false)
else 
(impl_areGoals goals (g.2.length : Int)).bind fun r1 =>
 bif !r1 then
 some ((true, []), false)
else 
(impl_fairPoints g goals).bind fun r2 =>
 some ((r2.1, r2.2), true) := Eq.trans (inf_call_eq (H := H) 40 (g, goals)) (by kernel_rfl)
theorem impl_ReachFrom_eq (g : DGraph) (from_ : Bool × List Int) : impl_ReachFrom g from_ =
(impl_isGraphFrom g from_).bind fun r =>
 bif !r then
 some ((true, []), false)
else 
(impl_reachedFrom g from_).bind fun r1 =>
 some ((r1.1, r1.2), true) := Eq.trans (inf_call_eq (H := H) 11 (g, from_)) (by kernel_rfl)
theorem spec_DrawFairPoints_eq (code : Bool × List Int) : spec_DrawFairPoints code =
(spec_l1Cur_graph (code, (0, 0))).bind fun r =>
(spec_l1Cur_goals r.1 (r.2.2.length : Int)).bind fun r1 =>
 some ((r.2.1, r.2.2), (r1.2.1, r1.2.2)) := Eq.trans (inf_call_eq (H := H) 41 code) (by kernel_rfl)
theorem spec_l11Reach_L0_eq (out : Bool × List Int) (t10 : Bool × List Int) (t11 : Int) (t12 : Int) : spec_l11Reach_L0 out t10 t11 t12 =
 bif decide (t12 < t11) then
 bif decide (0 ≤ t12) then
 bif decide (t12 < (t10.2.length : Int)) then
 bif decide ((t10.2.getD (Int.toNat t12) 0) ≥ 0) then
 bif decide (out.2.length + [t12].length ≤ lim) then
(spec_l11Reach_L0 ((out.1 && false), (out.2 ++ [t12])) t10 t11 (IntKind.i64.wrap (t12 + 1))).bind fun r => some r
else none
else 
(spec_l11Reach_L0 (out.1, out.2) t10 t11 (IntKind.i64.wrap (t12 + 1))).bind fun r => some r
else none
else none
else 
 some (out.1, out.2) := Eq.trans (inf_loop_eq (H := H) 51 0 (loopCode Try.f51 0) (out, (t10, (t11, t12))) key_spec_l11Reach) (by kernel_rfl)
theorem spec_l11Reach_eq (next : Bool × List (Bool × List Int)) (from_ : Bool × List Int) : spec_l11Reach next from_ =
(spec_l11Far next from_).bind fun r =>
(spec_l11Reach_L0 (true, []) (r.1, r.2) (r.2.length : Int) 0).bind fun r1 =>
 some (r1.1, r1.2) := Eq.trans (inf_call_eq (H := H) 51 (next, from_)) (by kernel_rfl)
theorem spec_FairPoints_eq (g : DGraph) (goals : Bool × List (Bool × List Int)) : spec_FairPoints g goals =
(spec_GoodGraph g).bind fun r =>
 bif !r then
 some ((true, []), false)
else 
(spec_l11Goals goals (g.2.length : Int)).bind fun r1 =>
 bif !r1 then
 some ((true, []), false)
else 
(spec_l11Turn g).bind fun r2 =>
(spec_l11Fair g goals).bind fun r3 =>
(spec_l11Reach (r2.1, r2.2) (r3.1, r3.2)).bind fun r4 =>
 some ((r4.1, r4.2), true) := Eq.trans (inf_call_eq (H := H) 42 (g, goals)) (by kernel_rfl)
theorem laws_FnFairLasso_L0_eq (more : Bool × List Int) (g : DGraph) (from_ : Bool × List Int) (goals : Bool × List (Bool × List Int)) (l : Bool × List Int) (ok : Bool) (all_ : Bool × List Int) (k_ : Int) : laws_FnFairLasso_L0 more g from_ goals l ok all_ k_ =
 bif decide (k_ < (all_.2.length : Int)) then
 bif decide (0 ≤ (IntKind.i64.wrap (k_ - 1))) then
 bif decide ((IntKind.i64.wrap (k_ - 1)) < (all_.2.length : Int)) then
 bif decide (0 ≤ (all_.2.getD (Int.toNat (IntKind.i64.wrap (k_ - 1))) 0)) then
 bif decide ((all_.2.getD (Int.toNat (IntKind.i64.wrap (k_ - 1))) 0) < (g.2.length : Int)) then
 bif decide (0 ≤ k_) then
 bif decide (k_ < (all_.2.length : Int)) then
(laws_has (g.2.getD (Int.toNat (all_.2.getD (Int.toNat (IntKind.i64.wrap (k_ - 1))) 0)) (true, [])) (all_.2.getD (Int.toNat k_) 0)).bind fun r =>
 bif !r then
 some (.inl false)
else 
(laws_FnFairLasso_L0 more g from_ goals l ok all_ (IntKind.i64.wrap (k_ + 1))).bind fun r => some r
else none
else none
else none
else none
else none
else none
else 
 some (.inr ()) := Eq.trans (inf_loop_eq (H := H) 6 0 (loopCode Try.f6 0) (more, (g, (from_, (goals, (l, (ok, (all_, k_))))))) key_laws_FnFairLasso) (by kernel_rfl)
theorem laws_FnFairLasso_L2_eq (more : Bool × List Int) (g : DGraph) (from_ : Bool × List Int) (goals : Bool × List (Bool × List Int)) (l : Bool × List Int) (ok : Bool) (t112 : Bool × List (Bool × List Int)) (t113 : Int) (t114 : Int) : laws_FnFairLasso_L2 more g from_ goals l ok t112 t113 t114 =
 bif decide (t114 < t113) then
 bif decide (0 ≤ t114) then
 bif decide (t114 < (t112.2.length : Int)) then
(laws_FnFairLasso_L4 more g from_ goals l ok false t112 t113 t114 (t112.2.getD (Int.toNat t114) (true, [])) (((t112.2.getD (Int.toNat t114) (true, [])).2).length : Int) 0).bind fun r =>
 bif !r then
 some (.inl false)
else 
(laws_FnFairLasso_L2 more g from_ goals l ok t112 t113 (IntKind.i64.wrap (t114 + 1))).bind fun r => some r
else none
else none
else 
 some (.inr ()) := Eq.trans (inf_loop_eq (H := H) 6 2 (loopCode Try.f6 2) (more, (g, (from_, (goals, (l, (ok, (t112, (t113, t114)))))))) key_laws_FnFairLasso) (by kernel_rfl)
theorem laws_FnFairLasso_L4_eq (more : Bool × List Int) (g : DGraph) (from_ : Bool × List Int) (goals : Bool × List (Bool × List Int)) (l : Bool × List Int) (ok : Bool) (met : Bool) (t112 : Bool × List (Bool × List Int)) (t113 : Int) (t114 : Int) (t118 : Bool × List Int) (t119 : Int) (t120 : Int) : laws_FnFairLasso_L4 more g from_ goals l ok met t112 t113 t114 t118 t119 t120 =
 bif decide (t120 < t119) then
 bif decide (0 ≤ t120) then
 bif decide (t120 < (t118.2.length : Int)) then
 bif met then
(laws_FnFairLasso_L4 more g from_ goals l ok true t112 t113 t114 t118 t119 (IntKind.i64.wrap (t120 + 1))).bind fun r => some r
else 
(laws_has l (t118.2.getD (Int.toNat t120) 0)).bind fun r =>
(laws_FnFairLasso_L4 more g from_ goals l ok r t112 t113 t114 t118 t119 (IntKind.i64.wrap (t120 + 1))).bind fun r => some r
else none
else none
else 
 some met := Eq.trans (inf_loop_eq (H := H) 6 4 (loopCode Try.f6 4) (more, (g, (from_, (goals, (l, (ok, (met, (t112, (t113, (t114, (t118, (t119, t120)))))))))))) key_laws_FnFairLasso) (by kernel_rfl)
theorem laws_FnFairLasso_L6_eq (more : Bool × List Int) (ok : Bool) (f : Bool × List Int) (any_ : Bool) (t150 : Bool × List Int) (t151 : Int) (t152 : Int) : laws_FnFairLasso_L6 more ok f any_ t150 t151 t152 =
 bif decide (t152 < t151) then
 bif decide (0 ≤ t152) then
 bif decide (t152 < (t150.2.length : Int)) then
 bif any_ then
(laws_FnFairLasso_L6 more ok f true t150 t151 (IntKind.i64.wrap (t152 + 1))).bind fun r => some r
else 
(laws_has f (t150.2.getD (Int.toNat t152) 0)).bind fun r =>
(laws_FnFairLasso_L6 more ok f r t150 t151 (IntKind.i64.wrap (t152 + 1))).bind fun r => some r
else none
else none
else 
 some any_ := Eq.trans (inf_loop_eq (H := H) 6 6 (loopCode Try.f6 6) (more, (ok, (f, (any_, (t150, (t151, t152)))))) key_laws_FnFairLasso) (by kernel_rfl)
theorem laws_FnFairLasso_eq (code : Bool × List Int) (more : Bool × List Int) : laws_FnFairLasso code more =
(laws_big code more).bind fun r =>
 bif r then
 some true
else 
(spec_DrawFairLasso code).bind fun r1 =>
(impl_FairLasso (r1.1.1, r1.1.2) (r1.2.1.1, r1.2.1.2) (r1.2.2.1, r1.2.2.2)).bind fun r2 =>
(spec_FairLasso (r1.1.1, r1.1.2) (r1.2.1.1, r1.2.1.2) (r1.2.2.1, r1.2.2.2)).bind fun r3 =>
 bif !(r2.2.2 == r3.2.2) then
 some false
else 
(laws_sameInts (r2.1.1, r2.1.2) (r3.1.1, r3.1.2)).bind fun r4 =>
 bif !r4 then
 some false
else 
(laws_sameInts (r2.2.1.1, r2.2.1.2) (r3.2.1.1, r3.2.1.2)).bind fun r5 =>
 bif !r5 then
 some false
else 
 bif r2.2.2 then
 bif decide (([] : List Int).length + r2.1.2.length ≤ lim) then
 bif decide (([] ++ r2.1.2).length + r2.2.1.2.length ≤ lim) then
 bif decide (0 < (r2.2.1.2.length : Int)) then
 bif decide ((([] ++ r2.1.2) ++ r2.2.1.2).length + [(r2.2.1.2.getD 0 0)].length ≤ lim) then
 bif decide (0 < (((([] ++ r2.1.2) ++ r2.2.1.2) ++ [(r2.2.1.2.getD 0 0)]).length : Int)) then
(laws_has (r1.2.1.1, r1.2.1.2) (((([] ++ r2.1.2) ++ r2.2.1.2) ++ [(r2.2.1.2.getD 0 0)]).getD 0 0)).bind fun r6 =>
 bif !r6 then
 some false
else 
(laws_FnFairLasso_L0 more (r1.1.1, r1.1.2) (r1.2.1.1, r1.2.1.2) (r1.2.2.1, r1.2.2.2) (r2.2.1.1, r2.2.1.2) r2.2.2 (false, ((([] ++ r2.1.2) ++ r2.2.1.2) ++ [(r2.2.1.2.getD 0 0)])) 1).bind fun r7 =>
 match r7 with
| .inl y =>
 some y
| .inr z =>
(laws_FnFairLasso_L2 more (r1.1.1, r1.1.2) (r1.2.1.1, r1.2.1.2) (r1.2.2.1, r1.2.2.2) (r2.2.1.1, r2.2.1.2) r2.2.2 (r1.2.2.1, r1.2.2.2) (r1.2.2.2.length : Int) 0).bind fun r8 =>
 match r8 with
| .inl y1 =>
 some y1
| .inr z1 =>
(impl_FairPoints (r1.1.1, r1.1.2) (r1.2.2.1, r1.2.2.2)).bind fun r9 =>
(impl_ReachFrom (r1.1.1, r1.1.2) (r1.2.1.1, r1.2.1.2)).bind fun r10 =>
 bif r9.2 then
 bif r10.2 then
(laws_FnFairLasso_L6 more r2.2.2 (r9.1.1, r9.1.2) false (r10.1.1, r10.1.2) (r10.1.2.length : Int) 0).bind fun r11 =>
 bif !(r11 == r2.2.2) then
 some false
else 
(spec_DrawFairPoints more).bind fun r12 =>
(impl_FairPoints (r12.1.1, r12.1.2) (r12.2.1, r12.2.2)).bind fun r13 =>
(spec_FairPoints (r12.1.1, r12.1.2) (r12.2.1, r12.2.2)).bind fun r14 =>
 bif (r13.2 == r14.2) then
(laws_sameInts (r13.1.1, r13.1.2) (r14.1.1, r14.1.2)).bind fun r15 =>
 some r15
else 
 some false
else 
(spec_DrawFairPoints more).bind fun r16 =>
(impl_FairPoints (r16.1.1, r16.1.2) (r16.2.1, r16.2.2)).bind fun r17 =>
(spec_FairPoints (r16.1.1, r16.1.2) (r16.2.1, r16.2.2)).bind fun r18 =>
 bif (r17.2 == r18.2) then
(laws_sameInts (r17.1.1, r17.1.2) (r18.1.1, r18.1.2)).bind fun r19 =>
 some r19
else 
 some false
else 
(spec_DrawFairPoints more).bind fun r20 =>
(impl_FairPoints (r20.1.1, r20.1.2) (r20.2.1, r20.2.2)).bind fun r21 =>
(spec_FairPoints (r20.1.1, r20.1.2) (r20.2.1, r20.2.2)).bind fun r22 =>
 bif (r21.2 == r22.2) then
(laws_sameInts (r21.1.1, r21.1.2) (r22.1.1, r22.1.2)).bind fun r23 =>
 some r23
else 
 some false
else none
else none
else none
else none
else none
else 
(impl_FairPoints (r1.1.1, r1.1.2) (r1.2.2.1, r1.2.2.2)).bind fun r24 =>
(impl_ReachFrom (r1.1.1, r1.1.2) (r1.2.1.1, r1.2.1.2)).bind fun r25 =>
 bif r24.2 then
 bif r25.2 then
(laws_FnFairLasso_L6 more r2.2.2 (r24.1.1, r24.1.2) false (r25.1.1, r25.1.2) (r25.1.2.length : Int) 0).bind fun r26 =>
 bif !(r26 == r2.2.2) then
 some false
else 
(spec_DrawFairPoints more).bind fun r27 =>
(impl_FairPoints (r27.1.1, r27.1.2) (r27.2.1, r27.2.2)).bind fun r28 =>
(spec_FairPoints (r27.1.1, r27.1.2) (r27.2.1, r27.2.2)).bind fun r29 =>
 bif (r28.2 == r29.2) then
(laws_sameInts (r28.1.1, r28.1.2) (r29.1.1, r29.1.2)).bind fun r30 =>
 some r30
else 
 some false
else 
(spec_DrawFairPoints more).bind fun r31 =>
(impl_FairPoints (r31.1.1, r31.1.2) (r31.2.1, r31.2.2)).bind fun r32 =>
(spec_FairPoints (r31.1.1, r31.1.2) (r31.2.1, r31.2.2)).bind fun r33 =>
 bif (r32.2 == r33.2) then
(laws_sameInts (r32.1.1, r32.1.2) (r33.1.1, r33.1.2)).bind fun r34 =>
 some r34
else 
 some false
else 
(spec_DrawFairPoints more).bind fun r35 =>
(impl_FairPoints (r35.1.1, r35.1.2) (r35.2.1, r35.2.2)).bind fun r36 =>
(spec_FairPoints (r35.1.1, r35.1.2) (r35.2.1, r35.2.2)).bind fun r37 =>
 bif (r36.2 == r37.2) then
(laws_sameInts (r36.1.1, r36.1.2) (r37.1.1, r37.1.2)).bind fun r38 =>
 some r38
else 
 some false := Eq.trans (inf_call_eq (H := H) 6 (code, more)) (by kernel_rfl)
theorem fit : Fit Try.prog H := fit_of (exts := extsL) (tys := tysL) (cells := cellsL) (keys := keysL) (mtys := mtysL) rfl rfl rfl rfl rfl (by kernel_rfl) (by kernel_rfl) (by kernel_rfl) ⟨⟨Try.func7, by kernel_rfl, by kernel_rfl⟩, ⟨Try.func100, by kernel_rfl, by kernel_rfl⟩, ⟨Try.func70, by kernel_rfl, by kernel_rfl⟩, ⟨Try.func79, by kernel_rfl, by kernel_rfl⟩, ⟨Try.func43, by kernel_rfl, by kernel_rfl⟩, ⟨Try.func80, by kernel_rfl, by kernel_rfl⟩, ⟨Try.func44, by kernel_rfl, by kernel_rfl⟩, ⟨Try.func72, by kernel_rfl, by kernel_rfl⟩, ⟨Try.func37, by kernel_rfl, by kernel_rfl⟩, ⟨Try.func46, by kernel_rfl, by kernel_rfl⟩, ⟨Try.func21, by kernel_rfl, by kernel_rfl⟩, ⟨Try.func45, by kernel_rfl, by kernel_rfl⟩, ⟨Try.func104, by kernel_rfl, by kernel_rfl⟩, ⟨Try.func118, by kernel_rfl, by kernel_rfl⟩, ⟨Try.func103, by kernel_rfl, by kernel_rfl⟩, ⟨Try.func73, by kernel_rfl, by kernel_rfl⟩, ⟨Try.func120, by kernel_rfl, by kernel_rfl⟩, ⟨Try.func114, by kernel_rfl, by kernel_rfl⟩, ⟨Try.func86, by kernel_rfl, by kernel_rfl⟩, ⟨Try.func108, by kernel_rfl, by kernel_rfl⟩, ⟨Try.func81, by kernel_rfl, by kernel_rfl⟩, ⟨Try.func89, by kernel_rfl, by kernel_rfl⟩, ⟨Try.func115, by kernel_rfl, by kernel_rfl⟩, ⟨Try.func87, by kernel_rfl, by kernel_rfl⟩, ⟨Try.func53, by kernel_rfl, by kernel_rfl⟩, ⟨Try.func112, by kernel_rfl, by kernel_rfl⟩, ⟨Try.func105, by kernel_rfl, by kernel_rfl⟩, ⟨Try.func55, by kernel_rfl, by kernel_rfl⟩, ⟨Try.func83, by kernel_rfl, by kernel_rfl⟩, ⟨Try.func82, by kernel_rfl, by kernel_rfl⟩, ⟨Try.func47, by kernel_rfl, by kernel_rfl⟩, ⟨Try.func106, by kernel_rfl, by kernel_rfl⟩, ⟨Try.func109, by kernel_rfl, by kernel_rfl⟩, ⟨Try.func82, by kernel_rfl, by kernel_rfl⟩, ⟨Try.func107, by kernel_rfl, by kernel_rfl⟩, ⟨Try.func74, by kernel_rfl, by kernel_rfl⟩, ⟨Try.func38, by kernel_rfl, by kernel_rfl⟩, ⟨Try.func58, by kernel_rfl, by kernel_rfl⟩, ⟨Try.func84, by kernel_rfl, by kernel_rfl⟩, ⟨Try.func48, by kernel_rfl, by kernel_rfl⟩, ⟨Try.func22, by kernel_rfl, by kernel_rfl⟩, ⟨Try.func75, by kernel_rfl, by kernel_rfl⟩, ⟨Try.func113, by kernel_rfl, by kernel_rfl⟩, ⟨Try.func85, by kernel_rfl, by kernel_rfl⟩, ⟨Try.func88, by kernel_rfl, by kernel_rfl⟩, ⟨Try.func56, by kernel_rfl, by kernel_rfl⟩, ⟨Try.func54, by kernel_rfl, by kernel_rfl⟩, ⟨Try.func110, by kernel_rfl, by kernel_rfl⟩, ⟨Try.func78, by kernel_rfl, by kernel_rfl⟩, ⟨Try.func49, by kernel_rfl, by kernel_rfl⟩, ⟨Try.func76, by kernel_rfl, by kernel_rfl⟩, ⟨Try.func39, by kernel_rfl, by kernel_rfl⟩, ⟨Try.func13, by kernel_rfl, by kernel_rfl⟩, ⟨Try.func14, by kernel_rfl, by kernel_rfl⟩, ⟨Try.func111, by kernel_rfl, by kernel_rfl⟩, ⟨Try.func50, by kernel_rfl, by kernel_rfl⟩, ⟨Try.func77, by kernel_rfl, by kernel_rfl⟩, ⟨Try.func40, by kernel_rfl, by kernel_rfl⟩, ⟨Try.func11, by kernel_rfl, by kernel_rfl⟩, ⟨Try.func41, by kernel_rfl, by kernel_rfl⟩, ⟨Try.func51, by kernel_rfl, by kernel_rfl⟩, ⟨Try.func42, by kernel_rfl, by kernel_rfl⟩, ⟨Try.func6, by kernel_rfl, by kernel_rfl⟩, trivial⟩ trivial (by kernel_rfl)
theorem nats : NatOk Try.prog H := nat_of (keys := keysL) rfl ⟨.plain rfl, .plain rfl, .plain rfl, .plain rfl, .plain rfl, .plain rfl, .plain rfl, .plain rfl, .plain rfl, .plain rfl, .plain rfl, .plain rfl, .plain rfl, .plain rfl, .plain rfl, .plain rfl, .plain rfl, .plain rfl, .plain rfl, .plain rfl, .plain rfl, .plain rfl, .plain rfl, .plain rfl, .plain rfl, .plain rfl, .plain rfl, .plain rfl, .plain rfl, .plain rfl, .plain rfl, .plain rfl, .plain rfl, .plain rfl, .plain rfl, .plain rfl, .plain rfl, .plain rfl, .plain rfl, .plain rfl, .plain rfl, .plain rfl, .plain rfl, .plain rfl, .plain rfl, .plain rfl, .plain rfl, .plain rfl, .plain rfl, .plain rfl, .plain rfl, .plain rfl, .plain rfl, .plain rfl, .plain rfl, .plain rfl, .plain rfl, .plain rfl, .plain rfl, .plain rfl, .plain rfl, .plain rfl, .plain rfl, trivial⟩
end Go.Proofs.Ytnnoohfloniinaa.R
