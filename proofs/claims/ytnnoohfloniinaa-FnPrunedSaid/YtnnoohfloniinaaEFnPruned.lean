/- Kinds, signatures and loops of the functions that the laws reach, and what each computes. -/
import Derived.Test.YtnnoohfloniinaaRfE
import Derived.Test.YtnnoohfloniinaaProg
import Derived.KernelRfl
import Derived.Test.YtnnoohfloniinaaBack
set_option linter.unusedVariables false
namespace Go.Proofs.Ytnnoohfloniinaa.R
open Go.Rf Go.Proofs
def tyl1Cur : Ty := (.pair (.sl (.int .u8)) (.pair (.int .i64) (.int .u64)))
abbrev Dl1Cur := (Bool × List Int) × Int × Int
def tyGate : Ty := (.pair (.int .i64) (.pair (.int .i64) (.int .i64)))
abbrev DGate := Int × Int × Int
def tyboundsError : Ty := (.pair (.int .i64) (.pair (.int .i64) (.pair .bool (.int .u8))))
abbrev DboundsError := Int × Int × Bool × Int
def tyGraph : Ty := (.one (.sl (.sl (.int .i64))))
abbrev DGraph := Bool × List (Bool × List Int)
def tyl11Walk : Ty := (.pair (.sl (.sl (.int .i64))) (.pair (.sl .bool) (.sl (.int .i64))))
abbrev Dl11Walk := (Bool × List (Bool × List Int)) × (Bool × List Bool) × Bool × List Int
def tyCircuit : Ty := (.pair (.int .i64) (.pair (.sl tyGate) (.sl (.int .i64))))
abbrev DCircuit := Int × (Bool × List DGate) × Bool × List Int
def tytarjan : Ty := (.pair (.sl (.sl (.int .i64))) (.pair (.sl (.int .i64)) (.pair (.sl (.int .i64)) (.pair (.sl (.int .i64)) (.pair (.sl (.int .i64)) (.int .i64))))))
abbrev Dtarjan := (Bool × List (Bool × List Int)) × (Bool × List Int) × (Bool × List Int) × (Bool × List Int) × (Bool × List Int) × Int
noncomputable def h_laws_big : FnH := ⟨7, Try.f7, (.tup (.v (.sl (.int .u8))) (.tup (.v (.sl (.int .u8))) .unit)), (.tup (.v .bool) .unit), [], [], [], [], [], none⟩
noncomputable def h_spec_l1Cur_next : FnH := ⟨100, Try.f100, (.tup (.box 206849 (.pair (.v (.sl (.int .u8))) (.pair (.v (.int .i64)) (.v (.int .u64))))) .unit), (.tup (.box 206849 (.v tyl1Cur)) (.tup (.v (.int .i64)) .unit)), [206849], [], [], [], [], none⟩
noncomputable def h_spec_l1Cur_pick : FnH := ⟨70, Try.f70, (.tup (.box 206850 (.v tyl1Cur)) (.tup (.v (.int .i64)) .unit)), (.tup (.box 206850 (.v tyl1Cur)) (.tup (.v (.int .i64)) .unit)), [206850], [], [], [], [], none⟩
noncomputable def h_spec_l4Wires : FnH := ⟨67, Try.f67, (.tup (.v tyCircuit) .unit), (.tup (.v (.int .i64)) .unit), [], [], [], [], [], none⟩
noncomputable def h_spec_l1Cur_wires : FnH := ⟨98, Try.f98, (.tup (.box 206860 (.v tyl1Cur)) (.tup (.v (.int .i64)) (.tup (.v (.int .i64)) .unit))), (.tup (.box 206860 (.v tyl1Cur)) (.tup (.own 206862 (.int .i64) true) .unit)), [206860], [], [(0, ⟨[(0, (.box 206859 (.v tyl1Cur))), (1, (.v (.int .i64))), (2, (.v (.int .i64))), (7, (.own 206858 (.int .i64) true))], [(.exit 0, [(2206859, (.box 206859 (.v tyl1Cur))), (7, (.own 206861 (.int .i64) true))])], []⟩)], [], [], none⟩
noncomputable def h_spec_l1Cur_among : FnH := ⟨99, Try.f99, (.tup (.box 206865 (.v tyl1Cur)) (.tup (.v (.sl (.int .i64))) .unit)), (.tup (.box 206865 (.v tyl1Cur)) (.tup (.v (.int .i64)) .unit)), [206865], [], [], [], [], none⟩
noncomputable def h_spec_l1Cur_circuit : FnH := ⟨69, Try.f69, (.tup (.box 206851 (.v tyl1Cur)) .unit), (.tup (.box 206851 (.v tyl1Cur)) (.tup (.pair (.v (.int .i64)) (.pair (.own 206863 tyGate true) (.own 206864 (.int .i64) true))) .unit)), [206851], [], [(0, ⟨[(0, (.box 206852 (.v tyl1Cur))), (3, (.box 206853 (.pair (.v (.int .i64)) (.pair (.own 206854 tyGate true) (.own 206856 (.int .i64) true))))), (4, (.v (.int .i64)))], [(.exit 0, [(2206852, (.box 206852 (.v tyl1Cur))), (2206853, (.box 206853 (.pair (.v (.int .i64)) (.pair (.own 206855 tyGate true) (.own 206857 (.int .i64) true)))))])], [0, 2, 3]⟩), (3, ⟨[(0, (.box 206866 (.v tyl1Cur))), (3, (.box 206867 (.pair (.v (.int .i64)) (.pair (.own 206868 tyGate true) (.own 206870 (.int .i64) true)))))], [(.exit 3, [(2206866, (.box 206866 (.v tyl1Cur))), (2206867, (.box 206867 (.pair (.v (.int .i64)) (.pair (.own 206869 tyGate true) (.own 206871 (.int .i64) true)))))])], [2, 3]⟩)], [], [], none⟩
noncomputable def h_spec_l1Cur_one : FnH := ⟨80, Try.f80, (.tup (.box 206873 (.v tyl1Cur)) (.tup (.v (.int .i64)) .unit)), (.tup (.box 206873 (.v tyl1Cur)) (.tup (.v .bool) .unit)), [206873], [], [], [], [], none⟩
noncomputable def h_spec_l1Cur_bools : FnH := ⟨90, Try.f90, (.tup (.box 206875 (.v tyl1Cur)) (.tup (.v (.int .i64)) .unit)), (.tup (.box 206875 (.v tyl1Cur)) (.tup (.own 206877 .bool true) .unit)), [206875], [], [(0, ⟨[(0, (.box 206874 (.v tyl1Cur))), (1, (.v (.int .i64))), (5, (.own 206872 .bool true))], [(.exit 0, [(2206874, (.box 206874 (.v tyl1Cur))), (5, (.own 206876 .bool true))])], []⟩)], [], [], none⟩
noncomputable def h_spec_DrawAllWires : FnH := ⟨60, Try.f60, (.tup (.v (.sl (.int .u8))) .unit), (.tup (.pair (.v (.int .i64)) (.pair (.own 206878 tyGate true) (.own 206879 (.int .i64) true))) (.tup (.own 206880 .bool true) .unit)), [], [], [], [], [], none⟩
noncomputable def h_spec_DrawRunCircuit : FnH := ⟨26, Try.f26, (.tup (.v (.sl (.int .u8))) .unit), (.tup (.pair (.v (.int .i64)) (.pair (.own 206881 tyGate true) (.own 206882 (.int .i64) true))) (.tup (.own 206883 .bool true) .unit)), [], [], [], [], [], none⟩
noncomputable def h_impl_Gate_uses : FnH := ⟨95, Try.f95, (.tup (.v tyGate) .unit), (.tup (.own 206884 (.int .i64) true) .unit), [], [], [], [], [], none⟩
noncomputable def h_impl_areWiresBelow_1 : FnH := ⟨102, Try.f102, (.tup (.v (.int .i64)) (.tup (.sp (.int .i64)) .unit)), (.tup (.v .bool) .unit), [], [], [], [], [], none⟩
noncomputable def h_slices_IndexFunc_int_by_areWiresBelow_1 : FnH := ⟨82, Try.f82, (.tup (.v (.sl (.int .i64))) (.tup (.v (.fn 102 (.pair (.int .i64) .nil))) .unit)), (.tup (.v (.int .i64)) .unit), [], [], [(0, ⟨[(0, (.v (.sl (.int .i64)))), (1, (.v (.fn 102 (.pair (.int .i64) .nil)))), (7, (.v (.int .i64))), (8, (.v (.int .i64)))], [(.ret, [(4, (.v (.int .i64)))]), (.exit 0, [])], []⟩)], [], [], none⟩
noncomputable def h_slices_ContainsFunc_int_by_areWiresBelow_1 : FnH := ⟨101, Try.f101, (.tup (.v (.sl (.int .i64))) (.tup (.v (.fn 102 (.pair (.int .i64) .nil))) .unit)), (.tup (.v .bool) .unit), [], [], [], [], [], none⟩
noncomputable def h_impl_areWiresBelow : FnH := ⟨71, Try.f71, (.tup (.v (.sl (.int .i64))) (.tup (.v (.int .i64)) .unit)), (.tup (.v .bool) .unit), [], [], [], [], [], none⟩
noncomputable def h_impl_isGate : FnH := ⟨93, Try.f93, (.tup (.v tyGate) (.tup (.v (.int .i64)) .unit)), (.tup (.v .bool) .unit), [], [], [], [], [], none⟩
noncomputable def h_impl_Circuit_wires : FnH := ⟨65, Try.f65, (.tup (.v tyCircuit) .unit), (.tup (.v (.int .i64)) .unit), [], [], [], [], [], none⟩
noncomputable def h_impl_GoodCircuit : FnH := ⟨63, Try.f63, (.tup (.v tyCircuit) .unit), (.tup (.v .bool) .unit), [], [], [(0, ⟨[(1, (.sp tyCircuit)), (26, (.v (.sl tyGate))), (27, (.v (.int .i64))), (28, (.v (.int .i64)))], [(.ret, [(2, (.v .bool))]), (.exit 0, [])], [1]⟩)], [], [], none⟩
noncomputable def h_slices_Clone_bool : FnH := ⟨116, Try.f116, (.tup (.v (.sl .bool)) .unit), (.tup (.own 206885 .bool true) .unit), [], [], [], [], [], none⟩
noncomputable def h_impl_Circuit_allWires : FnH := ⟨91, Try.f91, (.tup (.v tyCircuit) (.tup (.v (.sl .bool)) .unit)), (.tup (.own 206888 .bool true) .unit), [], [], [(0, ⟨[(5, (.own 206886 .bool true)), (12, (.v (.sl tyGate))), (13, (.v (.int .i64))), (14, (.v (.int .i64)))], [(.exit 0, [(5, (.own 206887 .bool true))])], []⟩)], [], [], none⟩
noncomputable def h_impl_AllWires : FnH := ⟨61, Try.f61, (.tup (.v tyCircuit) (.tup (.v (.sl .bool)) .unit)), (.tup (.own 206889 .bool true) (.tup (.v .bool) .unit)), [], [], [], [], [], none⟩
noncomputable def h_impl_RunCircuit : FnH := ⟨27, Try.f27, (.tup (.v tyCircuit) (.tup (.v (.sl .bool)) .unit)), (.tup (.own 206892 .bool true) (.tup (.v .bool) .unit)), [], [], [(0, ⟨[(6, (.v (.sl .bool))), (8, (.own 206890 .bool true)), (21, (.v (.sl (.int .i64)))), (22, (.v (.int .i64))), (23, (.v (.int .i64)))], [(.exit 0, [(8, (.own 206891 .bool true))])], []⟩)], [], [], none⟩
noncomputable def h_spec_l1In : FnH := ⟨58, Try.f58, (.tup (.v (.int .i64)) (.tup (.v (.int .i64)) (.tup (.v (.int .i64)) .unit))), (.tup (.v .bool) .unit), [], [], [], [], [], none⟩
noncomputable def h_spec_l4Gate : FnH := ⟨96, Try.f96, (.tup (.v tyGate) (.tup (.v (.int .i64)) .unit)), (.tup (.v .bool) .unit), [], [], [], [], [], none⟩
noncomputable def h_spec_l1All : FnH := ⟨97, Try.f97, (.tup (.v (.sl (.int .i64))) (.tup (.v (.int .i64)) (.tup (.v (.int .i64)) .unit))), (.tup (.v .bool) .unit), [], [], [(0, ⟨[(1, (.v (.int .i64))), (2, (.v (.int .i64))), (9, (.v (.sl (.int .i64)))), (10, (.v (.int .i64))), (11, (.v (.int .i64)))], [(.ret, [(6, (.v .bool))]), (.exit 0, [])], []⟩)], [], [], none⟩
noncomputable def h_spec_GoodCircuit : FnH := ⟨66, Try.f66, (.tup (.v tyCircuit) .unit), (.tup (.v .bool) .unit), [], [], [(0, ⟨[(1, (.sp tyCircuit)), (22, (.v (.sl tyGate))), (23, (.v (.int .i64))), (24, (.v (.int .i64)))], [(.ret, [(2, (.v .bool))]), (.exit 0, [])], [1]⟩)], [], [], none⟩
noncomputable def h_spec_l4Run : FnH := ⟨92, Try.f92, (.tup (.v tyCircuit) (.tup (.v (.sl .bool)) .unit)), (.tup (.own 206895 .bool true) .unit), [], [], [(0, ⟨[(5, (.own 206893 .bool true)), (13, (.v (.sl tyGate))), (14, (.v (.int .i64))), (15, (.v (.int .i64)))], [(.exit 0, [(5, (.own 206894 .bool true))])], []⟩)], [], [], none⟩
noncomputable def h_spec_AllWires : FnH := ⟨62, Try.f62, (.tup (.v tyCircuit) (.tup (.v (.sl .bool)) .unit)), (.tup (.own 206896 .bool true) (.tup (.v .bool) .unit)), [], [], [], [], [], none⟩
noncomputable def h_spec_RunCircuit : FnH := ⟨28, Try.f28, (.tup (.v tyCircuit) (.tup (.v (.sl .bool)) .unit)), (.tup (.own 206899 .bool true) (.tup (.v .bool) .unit)), [], [], [(0, ⟨[(6, (.v (.sl .bool))), (8, (.own 206897 .bool true)), (20, (.v (.sl (.int .i64)))), (21, (.v (.int .i64))), (22, (.v (.int .i64)))], [(.exit 0, [(8, (.own 206898 .bool true))])], []⟩)], [], [], none⟩
noncomputable def h_impl_Circuit_coneOf : FnH := ⟨64, Try.f64, (.tup (.v tyCircuit) (.tup (.v (.sl (.int .i64))) .unit)), (.tup (.own 206908 .bool true) .unit), [], [], [(0, ⟨[(2, (.sp tyCircuit)), (4, (.v (.sl .bool))), (5, (.box 206900 (.own 206901 .bool true))), (15, (.v (.sl (.int .i64)))), (16, (.v (.int .i64))), (17, (.v (.int .i64)))], [(.exit 0, [(2206900, (.box 206900 (.own 206901 .bool true)))])], [2, 4, 5]⟩), (2, ⟨[(2, (.sp tyCircuit)), (5, (.box 206905 (.own 206906 .bool true))), (27, (.clo 117 (.tup (.box 206902 (.v (.sl tyGate))) .unit))), (28, (.v (.int .i64)))], [(.normal, [(2206905, (.box 206905 (.own 206907 .bool true)))])], [5]⟩), (4, ⟨[(2, (.sp tyCircuit)), (5, (.box 206903 (.own 206904 .bool true))), (27, (.v (.fn 117 (.pair (.sl tyGate) .nil)))), (38, (.v (.sl (.int .i64)))), (39, (.v (.int .i64))), (40, (.v (.int .i64)))], [(.exit 4, [(2206903, (.box 206903 (.own 206904 .bool true)))])], [2, 5, 27]⟩)], [], [], none⟩
noncomputable def h_impl_PruneCircuit : FnH := ⟨29, Try.f29, (.tup (.v tyCircuit) .unit), (.tup (.pair (.v (.int .i64)) (.pair (.own 206921 tyGate true) (.own 206922 (.int .i64) true))) (.tup (.v .bool) .unit)), [], [], [(0, ⟨[(1, (.sp tyCircuit)), (2, (.sp tyCircuit)), (4, (.v (.sl .bool))), (5, (.own 206909 (.int .i64) true)), (6, (.sp tyCircuit)), (27, (.v (.int .i64))), (28, (.v (.int .i64)))], [(.exit 0, [(1206909, (.own 206909 (.int .i64) true))])], [1, 2, 4, 5, 6]⟩), (2, ⟨[(1, (.sp tyCircuit)), (2, (.sp tyCircuit)), (4, (.v (.sl .bool))), (5, (.own 206910 (.int .i64) true)), (6, (.box 206911 (.pair (.v (.int .i64)) (.pair (.own 206912 tyGate true) (.own 206914 (.int .i64) true))))), (37, (.v (.sl tyGate))), (38, (.v (.int .i64))), (39, (.v (.int .i64)))], [(.exit 2, [(1206910, (.own 206910 (.int .i64) true)), (2206911, (.box 206911 (.pair (.v (.int .i64)) (.pair (.own 206913 tyGate true) (.own 206915 (.int .i64) true)))))])], [1, 2, 5, 6]⟩), (4, ⟨[(2, (.sp tyCircuit)), (5, (.v (.sl (.int .i64)))), (6, (.box 206916 (.pair (.v (.int .i64)) (.pair (.own 206919 tyGate true) (.own 206917 (.int .i64) true))))), (86, (.v (.sl (.int .i64)))), (87, (.v (.int .i64))), (88, (.v (.int .i64)))], [(.exit 4, [(2206916, (.box 206916 (.pair (.v (.int .i64)) (.pair (.own 206920 tyGate true) (.own 206918 (.int .i64) true)))))])], [2, 6]⟩)], [], [], none⟩
noncomputable def h_spec_l1Put : FnH := ⟨79, Try.f79, (.tup (.v (.sl (.int .i64))) (.tup (.v (.int .i64)) .unit)), (.tup (.v (.sl (.int .i64))) .unit), [], [], [(0, ⟨[(0, (.v (.sl (.int .i64)))), (1, (.v (.int .i64))), (5, (.v (.int .i64)))], [(.exit 0, [(5, (.v (.int .i64)))])], [0, 1]⟩)], [], [], none⟩
noncomputable def h_spec_l4Cone : FnH := ⟨68, Try.f68, (.tup (.v tyCircuit) (.tup (.v (.sl (.int .i64))) .unit)), (.tup (.v (.sl (.int .i64))) .unit), [], [], [(0, ⟨[(2, (.sp tyCircuit)), (5, (.own 206924 .bool true)), (13, (.v (.sl (.int .i64)))), (14, (.v (.int .i64))), (15, (.v (.int .i64)))], [(.exit 0, [(1206924, (.own 206924 .bool true))])], [2, 5]⟩), (2, ⟨[(2, (.sp tyCircuit)), (5, (.own 206927 .bool true)), (8, (.v (.sl (.int .i64)))), (9, (.v (.int .i64)))], [(.exit 2, [(1206927, (.own 206927 .bool true)), (8, (.v (.sl (.int .i64))))])], []⟩)], [], [], none⟩
noncomputable def h_spec_l1Has : FnH := ⟨59, Try.f59, (.tup (.v (.sl (.int .i64))) (.tup (.v (.int .i64)) .unit)), (.tup (.v .bool) .unit), [], [], [(0, ⟨[(1, (.v (.int .i64))), (7, (.v (.sl (.int .i64)))), (8, (.v (.int .i64))), (9, (.v (.int .i64)))], [(.ret, [(4, (.v .bool))]), (.exit 0, [])], []⟩)], [], [], none⟩
noncomputable def h_spec_PruneCircuit : FnH := ⟨30, Try.f30, (.tup (.v tyCircuit) .unit), (.tup (.pair (.v (.int .i64)) (.pair (.own 206939 tyGate true) (.own 206940 (.int .i64) true))) (.tup (.v .bool) .unit)), [], [], [(0, ⟨[(1, (.sp tyCircuit)), (2, (.sp tyCircuit)), (4, (.sp tyCircuit)), (5, (.own 206923 (.int .i64) true)), (6, (.v (.int .i64)))], [(.exit 0, [(1206923, (.own 206923 (.int .i64) true))])], [1, 2, 4, 5]⟩), (2, ⟨[(1, (.sp tyCircuit)), (2, (.sp tyCircuit)), (4, (.box 206929 (.pair (.v (.int .i64)) (.pair (.own 206930 tyGate true) (.own 206932 (.int .i64) true))))), (5, (.own 206928 (.int .i64) true)), (7, (.v (.sl (.int .i64)))), (37, (.v (.sl tyGate))), (38, (.v (.int .i64))), (39, (.v (.int .i64)))], [(.exit 2, [(1206928, (.own 206928 (.int .i64) true)), (2206929, (.box 206929 (.pair (.v (.int .i64)) (.pair (.own 206931 tyGate true) (.own 206933 (.int .i64) true)))))])], [1, 2, 4, 5]⟩), (4, ⟨[(2, (.sp tyCircuit)), (4, (.box 206934 (.pair (.v (.int .i64)) (.pair (.own 206937 tyGate true) (.own 206935 (.int .i64) true))))), (5, (.v (.sl (.int .i64)))), (85, (.v (.sl (.int .i64)))), (86, (.v (.int .i64))), (87, (.v (.int .i64)))], [(.exit 4, [(2206934, (.box 206934 (.pair (.v (.int .i64)) (.pair (.own 206938 tyGate true) (.own 206936 (.int .i64) true)))))])], [2, 4]⟩)], [], [], none⟩
noncomputable def h_laws_sameBools : FnH := ⟨31, Try.f31, (.tup (.v (.sl .bool)) (.tup (.v (.sl .bool)) .unit)), (.tup (.v .bool) .unit), [], [], [(0, ⟨[(0, (.v (.sl .bool))), (1, (.v (.sl .bool))), (12, (.v (.int .i64))), (13, (.v (.int .i64)))], [(.ret, [(4, (.v .bool))]), (.exit 0, [])], []⟩)], [], [], none⟩
noncomputable def h_laws_sameInts : FnH := ⟨13, Try.f13, (.tup (.v (.sl (.int .i64))) (.tup (.v (.sl (.int .i64))) .unit)), (.tup (.v .bool) .unit), [], [], [(0, ⟨[(0, (.v (.sl (.int .i64)))), (1, (.v (.sl (.int .i64)))), (12, (.v (.int .i64))), (13, (.v (.int .i64)))], [(.ret, [(4, (.v .bool))]), (.exit 0, [])], []⟩)], [], [], none⟩
noncomputable def h_laws_sameCircuit : FnH := ⟨32, Try.f32, (.tup (.v tyCircuit) (.tup (.v tyCircuit) .unit)), (.tup (.v .bool) .unit), [], [], [(0, ⟨[(2, (.sp tyCircuit)), (3, (.sp tyCircuit)), (30, (.v (.int .i64))), (31, (.v (.int .i64)))], [(.ret, [(4, (.v .bool))]), (.exit 0, [])], []⟩)], [], [], none⟩
noncomputable def h_spec_DrawConeOf : FnH := ⟨33, Try.f33, (.tup (.v (.sl (.int .u8))) .unit), (.tup (.pair (.v (.int .i64)) (.pair (.own 206941 tyGate true) (.own 206942 (.int .i64) true))) (.tup (.v (.int .i64)) .unit)), [], [], [], [], [], none⟩
noncomputable def h_impl_ConeOf : FnH := ⟨34, Try.f34, (.tup (.v tyCircuit) (.tup (.v (.int .i64)) .unit)), (.tup (.own 206945 (.int .i64) true) (.tup (.v .bool) .unit)), [], [], [(0, ⟨[(6, (.own 206943 (.int .i64) true)), (24, (.v (.sl .bool))), (25, (.v (.int .i64))), (26, (.v (.int .i64)))], [(.exit 0, [(6, (.own 206944 (.int .i64) true))])], []⟩)], [], [], none⟩
noncomputable def h_spec_ConeOf : FnH := ⟨35, Try.f35, (.tup (.v tyCircuit) (.tup (.v (.int .i64)) .unit)), (.tup (.v (.sl (.int .i64))) (.tup (.v .bool) .unit)), [], [], [], [], [], none⟩
noncomputable def h_laws_has : FnH := ⟨14, Try.f14, (.tup (.v (.sl (.int .i64))) (.tup (.v (.int .i64)) .unit)), (.tup (.v .bool) .unit), [], [], [(0, ⟨[(1, (.v (.int .i64))), (7, (.v (.sl (.int .i64)))), (8, (.v (.int .i64))), (9, (.v (.int .i64)))], [(.ret, [(4, (.v .bool))]), (.exit 0, [])], []⟩)], [], [], none⟩
noncomputable def h_laws_within : FnH := ⟨36, Try.f36, (.tup (.v (.sl (.int .i64))) (.tup (.v (.sl (.int .i64))) .unit)), (.tup (.v .bool) .unit), [], [], [(0, ⟨[(1, (.v (.sl (.int .i64)))), (7, (.v (.sl (.int .i64)))), (8, (.v (.int .i64))), (9, (.v (.int .i64)))], [(.ret, [(4, (.v .bool))]), (.exit 0, [])], []⟩)], [], [], none⟩
noncomputable def h_laws_FnPruned : FnH := ⟨5, Try.f5, (.tup (.v (.sl (.int .u8))) (.tup (.v (.sl (.int .u8))) .unit)), (.tup (.v .bool) .unit), [], [], [(0, ⟨[(19, (.sp tyCircuit)), (21, (.v (.sl (.int .i64)))), (148, (.v (.sl (.int .i64)))), (149, (.v (.int .i64))), (150, (.v (.int .i64)))], [(.ret, [(4, (.v .bool))]), (.exit 0, [])], []⟩)], [], [], none⟩
def extsL : List (Nat × ExtF) := [(94, .backward 117)]
def tysL : List (Nat × Ty) := [(3, (.int .i64)), (4, .bool), (5, (.int .u8)), (22, (.sl (.int .u8))), (27, (.sl (.int .i64))), (44, (.sl tyGate)), (46, tyCircuit), (47, (.sl .bool)), (67, (.int .u64)), (69, tyl1Cur), (83, tyGate)]
def nfsL : List (Nat × Nat) := [(46, 3), (69, 3), (83, 3)]
def cellsL : List Nat := []
def mtysL : List (Nat × (Nat × Nat)) := []
noncomputable def keysL : List (Nat × FnH) := [(7, h_laws_big), (100, h_spec_l1Cur_next), (70, h_spec_l1Cur_pick), (67, h_spec_l4Wires), (98, h_spec_l1Cur_wires), (99, h_spec_l1Cur_among), (69, h_spec_l1Cur_circuit), (80, h_spec_l1Cur_one), (90, h_spec_l1Cur_bools), (60, h_spec_DrawAllWires), (26, h_spec_DrawRunCircuit), (95, h_impl_Gate_uses), (102, h_impl_areWiresBelow_1), (82, h_slices_IndexFunc_int_by_areWiresBelow_1), (101, h_slices_ContainsFunc_int_by_areWiresBelow_1), (71, h_impl_areWiresBelow), (93, h_impl_isGate), (65, h_impl_Circuit_wires), (63, h_impl_GoodCircuit), (116, h_slices_Clone_bool), (91, h_impl_Circuit_allWires), (61, h_impl_AllWires), (27, h_impl_RunCircuit), (58, h_spec_l1In), (96, h_spec_l4Gate), (97, h_spec_l1All), (66, h_spec_GoodCircuit), (92, h_spec_l4Run), (62, h_spec_AllWires), (28, h_spec_RunCircuit), (64, h_impl_Circuit_coneOf), (29, h_impl_PruneCircuit), (79, h_spec_l1Put), (68, h_spec_l4Cone), (59, h_spec_l1Has), (30, h_spec_PruneCircuit), (31, h_laws_sameBools), (13, h_laws_sameInts), (32, h_laws_sameCircuit), (33, h_spec_DrawConeOf), (34, h_impl_ConeOf), (35, h_spec_ConeOf), (14, h_laws_has), (36, h_laws_within), (5, h_laws_FnPruned)]
def itersL : List (Nat × Nat) := [(117, 83)]
noncomputable def H : Hints := { extF := fun f => lookupN extsL f, ty := fun T => lookupN tysL T, nf := fun T => match lookupN nfsL T with | some n => n | none => 0, cell := fun T => hasN cellsL T, key := fun k => lookupN keysL k, mty := fun T => lookupN mtysL T, iter := fun f => lookupN itersL f }
noncomputable def laws_big (code : Bool × List Int) (more : Bool × List Int) : Option Bool := (inf H).call 7 (code, more)
noncomputable def spec_l1Cur_next (a0_0 : Bool × List Int) (a0_1 : Int) (a0_2 : Int) : Option (Dl1Cur × Int) := (inf H).call 100 (a0_0, (a0_1, a0_2))
noncomputable def spec_l1Cur_pick (c : Dl1Cur) (n : Int) : Option (Dl1Cur × Int) := (inf H).call 70 (c, n)
noncomputable def spec_l4Wires (c : DCircuit) : Option Int := (inf H).call 67 c
noncomputable def spec_l1Cur_wires (c : Dl1Cur) (n : Int) (many : Int) : Option (Dl1Cur × Bool × List Int) := (inf H).call 98 (c, (n, many))
theorem key_spec_l1Cur_wires : H.key 98 = some h_spec_l1Cur_wires := by kernel_rfl
noncomputable def spec_l1Cur_wires_L0 (c : Dl1Cur) (n : Int) (many : Int) (l : Bool × List Int) : Option (Dl1Cur × Bool × List Int) := (inf H).loop 98 0 (loopCode Try.f98 0) (c, (n, (many, l)))
noncomputable def spec_l1Cur_among (c : Dl1Cur) (list : Bool × List Int) : Option (Dl1Cur × Int) := (inf H).call 99 (c, list)
noncomputable def spec_l1Cur_circuit (c : Dl1Cur) : Option (Dl1Cur × DCircuit) := (inf H).call 69 c
theorem key_spec_l1Cur_circuit : H.key 69 = some h_spec_l1Cur_circuit := by kernel_rfl
noncomputable def spec_l1Cur_circuit_L0 (c : Dl1Cur) (out_0 : Int) (out_1 : Bool × List DGate) (out_2 : Bool × List Int) (n : Int) : Option (Dl1Cur × DCircuit) := (inf H).loop 69 0 (loopCode Try.f69 0) (c, (out_0, (out_1, (out_2, n))))
noncomputable def spec_l1Cur_circuit_L3 (c : Dl1Cur) (out_0 : Int) (out_1 : Bool × List DGate) (out_2 : Bool × List Int) : Option (Dl1Cur × DCircuit) := (inf H).loop 69 3 (loopCode Try.f69 3) (c, (out_0, (out_1, out_2)))
noncomputable def spec_l1Cur_one (c : Dl1Cur) (n : Int) : Option (Dl1Cur × Bool) := (inf H).call 80 (c, n)
noncomputable def spec_l1Cur_bools (c : Dl1Cur) (n : Int) : Option (Dl1Cur × Bool × List Bool) := (inf H).call 90 (c, n)
theorem key_spec_l1Cur_bools : H.key 90 = some h_spec_l1Cur_bools := by kernel_rfl
noncomputable def spec_l1Cur_bools_L0 (c : Dl1Cur) (n : Int) (l : Bool × List Bool) : Option (Dl1Cur × Bool × List Bool) := (inf H).loop 90 0 (loopCode Try.f90 0) (c, (n, l))
noncomputable def spec_DrawAllWires (code : Bool × List Int) : Option (Int × (Bool × List DGate) × (Bool × List Int) × Bool × List Bool) := (inf H).call 60 code
noncomputable def spec_DrawRunCircuit (code : Bool × List Int) : Option (Int × (Bool × List DGate) × (Bool × List Int) × Bool × List Bool) := (inf H).call 26 code
noncomputable def impl_Gate_uses (g : DGate) : Option (Bool × List Int) := (inf H).call 95 g
noncomputable def impl_areWiresBelow_1 (w : Int) (a1 : Int) : Option Bool := (inf H).call 102 (w, a1)
noncomputable def slices_IndexFunc_int_by_areWiresBelow_1 (s : Bool × List Int) (f : Int × Unit) : Option Int := (inf H).call 82 (s, f)
theorem key_slices_IndexFunc_int_by_areWiresBelow_1 : H.key 82 = some h_slices_IndexFunc_int_by_areWiresBelow_1 := by kernel_rfl
noncomputable def slices_IndexFunc_int_by_areWiresBelow_1_L0 (s : Bool × List Int) (f : Int × Unit) (t7 : Int) (t8 : Int) : Option (Int ⊕ Unit) := (inf H).loop 82 0 (loopCode Try.f82 0) (s, (f, (t7, t8)))
noncomputable def slices_ContainsFunc_int_by_areWiresBelow_1 (s : Bool × List Int) (f : Int × Unit) : Option Bool := (inf H).call 101 (s, f)
noncomputable def impl_areWiresBelow (list : Bool × List Int) (bound : Int) : Option Bool := (inf H).call 71 (list, bound)
noncomputable def impl_isGate (g : DGate) (wire : Int) : Option Bool := (inf H).call 93 (g, wire)
noncomputable def impl_Circuit_wires (c : DCircuit) : Option Int := (inf H).call 65 c
noncomputable def impl_GoodCircuit (c : DCircuit) : Option Bool := (inf H).call 63 c
theorem key_impl_GoodCircuit : H.key 63 = some h_impl_GoodCircuit := by kernel_rfl
noncomputable def impl_GoodCircuit_L0 (c : DCircuit) (t26 : Bool × List DGate) (t27 : Int) (t28 : Int) : Option (Bool ⊕ Unit) := (inf H).loop 63 0 (loopCode Try.f63 0) (c, (t26, (t27, t28)))
noncomputable def slices_Clone_bool (s : Bool × List Bool) : Option (Bool × List Bool) := (inf H).call 116 s
noncomputable def impl_Circuit_allWires (c : DCircuit) (ins : Bool × List Bool) : Option (Bool × List Bool) := (inf H).call 91 (c, ins)
theorem key_impl_Circuit_allWires : H.key 91 = some h_impl_Circuit_allWires := by kernel_rfl
noncomputable def impl_Circuit_allWires_L0 (out : Bool × List Bool) (t12 : Bool × List DGate) (t13 : Int) (t14 : Int) : Option (Bool × List Bool) := (inf H).loop 91 0 (loopCode Try.f91 0) (out, (t12, (t13, t14)))
noncomputable def impl_AllWires (c : DCircuit) (ins : Bool × List Bool) : Option ((Bool × List Bool) × Bool) := (inf H).call 61 (c, ins)
noncomputable def impl_RunCircuit (c : DCircuit) (ins : Bool × List Bool) : Option ((Bool × List Bool) × Bool) := (inf H).call 27 (c, ins)
theorem key_impl_RunCircuit : H.key 27 = some h_impl_RunCircuit := by kernel_rfl
noncomputable def impl_RunCircuit_L0 (values : Bool × List Bool) (out : Bool × List Bool) (t21 : Bool × List Int) (t22 : Int) (t23 : Int) : Option (Bool × List Bool) := (inf H).loop 27 0 (loopCode Try.f27 0) (values, (out, (t21, (t22, t23))))
noncomputable def spec_l1In (n : Int) (lo : Int) (hi : Int) : Option Bool := (inf H).call 58 (n, (lo, hi))
noncomputable def spec_l4Gate (g : DGate) (own : Int) : Option Bool := (inf H).call 96 (g, own)
noncomputable def spec_l1All (l : Bool × List Int) (lo : Int) (hi : Int) : Option Bool := (inf H).call 97 (l, (lo, hi))
theorem key_spec_l1All : H.key 97 = some h_spec_l1All := by kernel_rfl
noncomputable def spec_l1All_L0 (lo : Int) (hi : Int) (t9 : Bool × List Int) (t10 : Int) (t11 : Int) : Option (Bool ⊕ Unit) := (inf H).loop 97 0 (loopCode Try.f97 0) (lo, (hi, (t9, (t10, t11))))
noncomputable def spec_GoodCircuit (c : DCircuit) : Option Bool := (inf H).call 66 c
theorem key_spec_GoodCircuit : H.key 66 = some h_spec_GoodCircuit := by kernel_rfl
noncomputable def spec_GoodCircuit_L0 (c : DCircuit) (t22 : Bool × List DGate) (t23 : Int) (t24 : Int) : Option (Bool ⊕ Unit) := (inf H).loop 66 0 (loopCode Try.f66 0) (c, (t22, (t23, t24)))
noncomputable def spec_l4Run (c : DCircuit) (ins : Bool × List Bool) : Option (Bool × List Bool) := (inf H).call 92 (c, ins)
theorem key_spec_l4Run : H.key 92 = some h_spec_l4Run := by kernel_rfl
noncomputable def spec_l4Run_L0 (out : Bool × List Bool) (t13 : Bool × List DGate) (t14 : Int) (t15 : Int) : Option (Bool × List Bool) := (inf H).loop 92 0 (loopCode Try.f92 0) (out, (t13, (t14, t15)))
noncomputable def spec_AllWires (c : DCircuit) (ins : Bool × List Bool) : Option ((Bool × List Bool) × Bool) := (inf H).call 62 (c, ins)
noncomputable def spec_RunCircuit (c : DCircuit) (ins : Bool × List Bool) : Option ((Bool × List Bool) × Bool) := (inf H).call 28 (c, ins)
theorem key_spec_RunCircuit : H.key 28 = some h_spec_RunCircuit := by kernel_rfl
noncomputable def spec_RunCircuit_L0 (all_ : Bool × List Bool) (out : Bool × List Bool) (t20 : Bool × List Int) (t21 : Int) (t22 : Int) : Option (Bool × List Bool) := (inf H).loop 28 0 (loopCode Try.f28 0) (all_, (out, (t20, (t21, t22))))
noncomputable def impl_Circuit_coneOf (c : DCircuit) (wires : Bool × List Int) : Option (Bool × List Bool) := (inf H).call 64 (c, wires)
theorem key_impl_Circuit_coneOf : H.key 64 = some h_impl_Circuit_coneOf := by kernel_rfl
noncomputable def impl_Circuit_coneOf_L0 (c : DCircuit) (t4 : Bool × List Bool) (in_ : Bool × List Bool) (t15 : Bool × List Int) (t16 : Int) (t17 : Int) : Option (Bool × List Bool) := (inf H).loop 64 0 (loopCode Try.f64 0) (c, (t4, (in_, (t15, (t16, t17)))))
noncomputable def impl_Circuit_coneOf_L2 (c : DCircuit) (in_ : Bool × List Bool) (t27 : Bool × List DGate) (t28 : Int) : Option (Bool × List Bool) := (inf H).loop 64 2 (loopCode Try.f64 2) (c, (in_, (t27, t28)))
noncomputable def impl_Circuit_coneOf_L4 (c : DCircuit) (in_ : Bool × List Bool) (t27 : (Bool × List DGate) × Unit) (t38 : Bool × List Int) (t39 : Int) (t40 : Int) : Option (Bool × List Bool) := (inf H).loop 64 4 (loopCode Try.f64 4) (c, (in_, (t27, (t38, (t39, t40)))))
noncomputable def impl_PruneCircuit (c : DCircuit) : Option (Int × (Bool × List DGate) × (Bool × List Int) × Bool) := (inf H).call 29 c
theorem key_impl_PruneCircuit : H.key 29 = some h_impl_PruneCircuit := by kernel_rfl
noncomputable def impl_PruneCircuit_L0 (c : DCircuit) (t2 : DCircuit) (in_ : Bool × List Bool) (number : Bool × List Int) (out : DCircuit) (t27 : Int) (t28 : Int) : Option (Bool × List Int) := (inf H).loop 29 0 (loopCode Try.f29 0) (c, (t2, (in_, (number, (out, (t27, t28))))))
noncomputable def impl_PruneCircuit_L2 (c : DCircuit) (t2 : DCircuit) (in_ : Bool × List Bool) (number : Bool × List Int) (out_0 : Int) (out_1 : Bool × List DGate) (out_2 : Bool × List Int) (t37 : Bool × List DGate) (t38 : Int) (t39 : Int) : Option ((Bool × List Int) × DCircuit) := (inf H).loop 29 2 (loopCode Try.f29 2) (c, (t2, (in_, (number, (out_0, (out_1, (out_2, (t37, (t38, t39)))))))))
noncomputable def impl_PruneCircuit_L4 (t2 : DCircuit) (number : Bool × List Int) (out_0 : Int) (out_1 : Bool × List DGate) (out_2 : Bool × List Int) (t86 : Bool × List Int) (t87 : Int) (t88 : Int) : Option DCircuit := (inf H).loop 29 4 (loopCode Try.f29 4) (t2, (number, (out_0, (out_1, (out_2, (t86, (t87, t88)))))))
noncomputable def spec_l1Put (l : Bool × List Int) (n : Int) : Option (Bool × List Int) := (inf H).call 79 (l, n)
theorem key_spec_l1Put : H.key 79 = some h_spec_l1Put := by kernel_rfl
noncomputable def spec_l1Put_L0 (l : Bool × List Int) (n : Int) (k_ : Int) : Option Int := (inf H).loop 79 0 (loopCode Try.f79 0) (l, (n, k_))
noncomputable def spec_l4Cone (c : DCircuit) (wires : Bool × List Int) : Option (Bool × List Int) := (inf H).call 68 (c, wires)
theorem key_spec_l4Cone : H.key 68 = some h_spec_l4Cone := by kernel_rfl
noncomputable def spec_l4Cone_L0 (c : DCircuit) (in_ : Bool × List Bool) (t13 : Bool × List Int) (t14 : Int) (t15 : Int) : Option (Bool × List Bool) := (inf H).loop 68 0 (loopCode Try.f68 0) (c, (in_, (t13, (t14, t15))))
noncomputable def spec_l4Cone_L2 (c : DCircuit) (in_ : Bool × List Bool) (out : Bool × List Int) (w : Int) : Option ((Bool × List Bool) × Bool × List Int) := (inf H).loop 68 2 (loopCode Try.f68 2) (c, (in_, (out, w)))
noncomputable def spec_l1Has (l : Bool × List Int) (n : Int) : Option Bool := (inf H).call 59 (l, n)
theorem key_spec_l1Has : H.key 59 = some h_spec_l1Has := by kernel_rfl
noncomputable def spec_l1Has_L0 (n : Int) (t7 : Bool × List Int) (t8 : Int) (t9 : Int) : Option (Bool ⊕ Unit) := (inf H).loop 59 0 (loopCode Try.f59 0) (n, (t7, (t8, t9)))
noncomputable def spec_PruneCircuit (c : DCircuit) : Option (Int × (Bool × List DGate) × (Bool × List Int) × Bool) := (inf H).call 30 c
theorem key_spec_PruneCircuit : H.key 30 = some h_spec_PruneCircuit := by kernel_rfl
noncomputable def spec_PruneCircuit_L0 (c : DCircuit) (t2 : DCircuit) (out : DCircuit) (at_ : Bool × List Int) (w : Int) : Option (Bool × List Int) := (inf H).loop 30 0 (loopCode Try.f30 0) (c, (t2, (out, (at_, w))))
noncomputable def spec_PruneCircuit_L2 (c : DCircuit) (t2 : DCircuit) (out_0 : Int) (out_1 : Bool × List DGate) (out_2 : Bool × List Int) (at_ : Bool × List Int) (cone : Bool × List Int) (t37 : Bool × List DGate) (t38 : Int) (t39 : Int) : Option ((Bool × List Int) × DCircuit) := (inf H).loop 30 2 (loopCode Try.f30 2) (c, (t2, (out_0, (out_1, (out_2, (at_, (cone, (t37, (t38, t39)))))))))
noncomputable def spec_PruneCircuit_L4 (t2 : DCircuit) (out_0 : Int) (out_1 : Bool × List DGate) (out_2 : Bool × List Int) (at_ : Bool × List Int) (t85 : Bool × List Int) (t86 : Int) (t87 : Int) : Option DCircuit := (inf H).loop 30 4 (loopCode Try.f30 4) (t2, (out_0, (out_1, (out_2, (at_, (t85, (t86, t87)))))))
noncomputable def laws_sameBools (a : Bool × List Bool) (b : Bool × List Bool) : Option Bool := (inf H).call 31 (a, b)
theorem key_laws_sameBools : H.key 31 = some h_laws_sameBools := by kernel_rfl
noncomputable def laws_sameBools_L0 (a : Bool × List Bool) (b : Bool × List Bool) (t12 : Int) (t13 : Int) : Option (Bool ⊕ Unit) := (inf H).loop 31 0 (loopCode Try.f31 0) (a, (b, (t12, t13)))
noncomputable def laws_sameInts (a : Bool × List Int) (b : Bool × List Int) : Option Bool := (inf H).call 13 (a, b)
theorem key_laws_sameInts : H.key 13 = some h_laws_sameInts := by kernel_rfl
noncomputable def laws_sameInts_L0 (a : Bool × List Int) (b : Bool × List Int) (t12 : Int) (t13 : Int) : Option (Bool ⊕ Unit) := (inf H).loop 13 0 (loopCode Try.f13 0) (a, (b, (t12, t13)))
noncomputable def laws_sameCircuit (a : DCircuit) (b : DCircuit) : Option Bool := (inf H).call 32 (a, b)
theorem key_laws_sameCircuit : H.key 32 = some h_laws_sameCircuit := by kernel_rfl
noncomputable def laws_sameCircuit_L0 (a : DCircuit) (b : DCircuit) (t30 : Int) (t31 : Int) : Option (Bool ⊕ Unit) := (inf H).loop 32 0 (loopCode Try.f32 0) (a, (b, (t30, t31)))
noncomputable def spec_DrawConeOf (code : Bool × List Int) : Option (Int × (Bool × List DGate) × (Bool × List Int) × Int) := (inf H).call 33 code
noncomputable def impl_ConeOf (c : DCircuit) (wire : Int) : Option ((Bool × List Int) × Bool) := (inf H).call 34 (c, wire)
theorem key_impl_ConeOf : H.key 34 = some h_impl_ConeOf := by kernel_rfl
noncomputable def impl_ConeOf_L0 (out : Bool × List Int) (t24 : Bool × List Bool) (t25 : Int) (t26 : Int) : Option (Bool × List Int) := (inf H).loop 34 0 (loopCode Try.f34 0) (out, (t24, (t25, t26)))
noncomputable def spec_ConeOf (c : DCircuit) (wire : Int) : Option ((Bool × List Int) × Bool) := (inf H).call 35 (c, wire)
noncomputable def laws_has (l : Bool × List Int) (n : Int) : Option Bool := (inf H).call 14 (l, n)
theorem key_laws_has : H.key 14 = some h_laws_has := by kernel_rfl
noncomputable def laws_has_L0 (n : Int) (t7 : Bool × List Int) (t8 : Int) (t9 : Int) : Option (Bool ⊕ Unit) := (inf H).loop 14 0 (loopCode Try.f14 0) (n, (t7, (t8, t9)))
noncomputable def laws_within (some_ : Bool × List Int) (in_ : Bool × List Int) : Option Bool := (inf H).call 36 (some_, in_)
theorem key_laws_within : H.key 36 = some h_laws_within := by kernel_rfl
noncomputable def laws_within_L0 (in_ : Bool × List Int) (t7 : Bool × List Int) (t8 : Int) (t9 : Int) : Option (Bool ⊕ Unit) := (inf H).loop 36 0 (loopCode Try.f36 0) (in_, (t7, (t8, t9)))
noncomputable def laws_FnPruned (code : Bool × List Int) (more : Bool × List Int) : Option Bool := (inf H).call 5 (code, more)
theorem key_laws_FnPruned : H.key 5 = some h_laws_FnPruned := by kernel_rfl
noncomputable def laws_FnPruned_L0 (u : DCircuit) (l : Bool × List Int) (t148 : Bool × List Int) (t149 : Int) (t150 : Int) : Option (Bool ⊕ Unit) := (inf H).loop 5 0 (loopCode Try.f5 0) (u, (l, (t148, (t149, t150))))
theorem laws_big_eq (code : Bool × List Int) (more : Bool × List Int) : laws_big code more =
 bif decide ((code.2.length : Int) > 1048576) then
 some true
else 
 some (decide ((more.2.length : Int) > (IntKind.i64.wrap (1048576 - (code.2.length : Int))))) := Eq.trans (inf_call_eq (H := H) 7 (code, more)) (by kernel_rfl)
theorem spec_l1Cur_next_eq (a0_0 : Bool × List Int) (a0_1 : Int) (a0_2 : Int) : spec_l1Cur_next a0_0 a0_1 a0_2 =
 bif decide (a0_1 < (a0_0.2.length : Int)) then
 bif decide (0 ≤ a0_1) then
 bif decide (a0_1 < (a0_0.2.length : Int)) then
 bif decide ((IntKind.i64.wrap (a0_1 + 1)) ≤ (a0_0.2.length : Int)) then
 some ((a0_0, (IntKind.i64.wrap (a0_1 + 1), IntKind.u64.wrap ((IntKind.u64.wrap ((IntKind.u64.wrap (a0_2 * 6364136223846793005)) + (IntKind.u64.wrap (IntKind.i64.wrap (a0_0.2.getD (Int.toNat a0_1) 0))))) + 1442695040888963407))), IntKind.i64.wrap (a0_0.2.getD (Int.toNat a0_1) 0))
else 
 some ((a0_0, (IntKind.i64.wrap (a0_1 + 1), IntKind.u64.wrap ((IntKind.u64.wrap ((IntKind.u64.wrap (a0_2 * 6364136223846793005)) + (IntKind.u64.wrap (IntKind.i64.wrap (a0_0.2.getD (Int.toNat a0_1) 0))))) + 1442695040888963407))), IntKind.i64.wrap (bAnd .u64 (bShr .u64 (IntKind.u64.wrap ((IntKind.u64.wrap ((IntKind.u64.wrap (a0_2 * 6364136223846793005)) + (IntKind.u64.wrap (IntKind.i64.wrap (a0_0.2.getD (Int.toNat a0_1) 0))))) + 1442695040888963407)) 40) 255))
else none
else none
else 
 bif decide ((IntKind.i64.wrap (a0_1 + 1)) ≤ (a0_0.2.length : Int)) then
 some ((a0_0, (IntKind.i64.wrap (a0_1 + 1), IntKind.u64.wrap ((IntKind.u64.wrap ((IntKind.u64.wrap (a0_2 * 6364136223846793005)) + (IntKind.u64.wrap 0))) + 1442695040888963407))), 0)
else 
 some ((a0_0, (IntKind.i64.wrap (a0_1 + 1), IntKind.u64.wrap ((IntKind.u64.wrap ((IntKind.u64.wrap (a0_2 * 6364136223846793005)) + (IntKind.u64.wrap 0))) + 1442695040888963407))), IntKind.i64.wrap (bAnd .u64 (bShr .u64 (IntKind.u64.wrap ((IntKind.u64.wrap ((IntKind.u64.wrap (a0_2 * 6364136223846793005)) + (IntKind.u64.wrap 0))) + 1442695040888963407)) 40) 255)) := Eq.trans (inf_call_eq (H := H) 100 (a0_0, (a0_1, a0_2))) (by kernel_rfl)
theorem spec_l1Cur_pick_eq (c : Dl1Cur) (n : Int) : spec_l1Cur_pick c n =
 bif decide (n ≤ 1) then
 some (c, 0)
else 
(spec_l1Cur_next c.1 c.2.1 c.2.2).bind fun r =>
 bif decide (n > 200) then
(spec_l1Cur_next r.1.1 r.1.2.1 r.1.2.2).bind fun r1 =>
 bif (n == 0) then
 none
else 
 some (r1.1, Int.tmod (IntKind.i64.wrap ((IntKind.i64.wrap (r.2 * 256)) + r1.2)) n)
else 
 bif (n == 0) then
 none
else 
 some (r.1, Int.tmod r.2 n) := Eq.trans (inf_call_eq (H := H) 70 (c, n)) (by kernel_rfl)
theorem spec_l4Wires_eq (c : DCircuit) : spec_l4Wires c =
 some (IntKind.i64.wrap (c.1 + (c.2.1.2.length : Int))) := Eq.trans (inf_call_eq (H := H) 67 c) (by kernel_rfl)
theorem spec_l1Cur_wires_L0_eq (c : Dl1Cur) (n : Int) (many : Int) (l : Bool × List Int) : spec_l1Cur_wires_L0 c n many l =
 bif decide (many > 0) then
(spec_l1Cur_pick c n).bind fun r =>
 bif decide (l.2.length + [r.2].length ≤ lim) then
(spec_l1Cur_wires_L0 r.1 n (IntKind.i64.wrap (many - 1)) ((l.1 && false), (l.2 ++ [r.2]))).bind fun r => some r
else none
else 
 some (c, (l.1, l.2)) := Eq.trans (inf_loop_eq (H := H) 98 0 (loopCode Try.f98 0) (c, (n, (many, l))) key_spec_l1Cur_wires) (by kernel_rfl)
theorem spec_l1Cur_wires_eq (c : Dl1Cur) (n : Int) (many : Int) : spec_l1Cur_wires c n many =
(spec_l1Cur_wires_L0 c n many (true, [])).bind fun r =>
 some (r.1, (r.2.1, r.2.2)) := Eq.trans (inf_call_eq (H := H) 98 (c, (n, many))) (by kernel_rfl)
theorem spec_l1Cur_among_eq (c : Dl1Cur) (list : Bool × List Int) : spec_l1Cur_among c list =
(spec_l1Cur_pick c (list.2.length : Int)).bind fun r =>
 bif decide (0 ≤ r.2) then
 bif decide (r.2 < (list.2.length : Int)) then
 some (r.1, (list.2.getD (Int.toNat r.2) 0))
else none
else none := Eq.trans (inf_call_eq (H := H) 99 (c, list)) (by kernel_rfl)
theorem spec_l1Cur_circuit_L0_eq (c : Dl1Cur) (out_0 : Int) (out_1 : Bool × List DGate) (out_2 : Bool × List Int) (n : Int) : spec_l1Cur_circuit_L0 c out_0 out_1 out_2 n =
 bif decide (n > 0) then
(spec_l1Cur_pick c 5).bind fun r =>
 bif ((IntKind.i64.wrap (1 + r.2)) == 1) then
(spec_l1Cur_pick r.1 2).bind fun r1 =>
 bif decide ((IntKind.i64.wrap (1 + r.2)) > 2) then
(spec_l4Wires (out_0, ((out_1.1, out_1.2), (out_2.1, out_2.2)))).bind fun r2 =>
(spec_l1Cur_pick r1.1 r2).bind fun r3 =>
 bif decide (out_1.2.length + [(IntKind.i64.wrap (1 + r.2), (r1.2, r3.2))].length ≤ lim) then
(spec_l1Cur_circuit_L0 r3.1 out_0 ((out_1.1 && false), (out_1.2 ++ [(IntKind.i64.wrap (1 + r.2), (r1.2, r3.2))])) (out_2.1, out_2.2) (IntKind.i64.wrap (n - 1))).bind fun r => some r
else none
else 
 bif decide (out_1.2.length + [(IntKind.i64.wrap (1 + r.2), (r1.2, 0))].length ≤ lim) then
(spec_l1Cur_circuit_L0 r1.1 out_0 ((out_1.1 && false), (out_1.2 ++ [(IntKind.i64.wrap (1 + r.2), (r1.2, 0))])) (out_2.1, out_2.2) (IntKind.i64.wrap (n - 1))).bind fun r => some r
else none
else 
(spec_l4Wires (out_0, ((out_1.1, out_1.2), (out_2.1, out_2.2)))).bind fun r4 =>
(spec_l1Cur_pick r.1 r4).bind fun r5 =>
 bif decide ((IntKind.i64.wrap (1 + r.2)) > 2) then
(spec_l4Wires (out_0, ((out_1.1, out_1.2), (out_2.1, out_2.2)))).bind fun r6 =>
(spec_l1Cur_pick r5.1 r6).bind fun r7 =>
 bif decide (out_1.2.length + [(IntKind.i64.wrap (1 + r.2), (r5.2, r7.2))].length ≤ lim) then
(spec_l1Cur_circuit_L0 r7.1 out_0 ((out_1.1 && false), (out_1.2 ++ [(IntKind.i64.wrap (1 + r.2), (r5.2, r7.2))])) (out_2.1, out_2.2) (IntKind.i64.wrap (n - 1))).bind fun r => some r
else none
else 
 bif decide (out_1.2.length + [(IntKind.i64.wrap (1 + r.2), (r5.2, 0))].length ≤ lim) then
(spec_l1Cur_circuit_L0 r5.1 out_0 ((out_1.1 && false), (out_1.2 ++ [(IntKind.i64.wrap (1 + r.2), (r5.2, 0))])) (out_2.1, out_2.2) (IntKind.i64.wrap (n - 1))).bind fun r => some r
else none
else 
 some (c, (out_0, ((out_1.1, out_1.2), (out_2.1, out_2.2)))) := Eq.trans (inf_loop_eq (H := H) 69 0 (loopCode Try.f69 0) (c, (out_0, (out_1, (out_2, n)))) key_spec_l1Cur_circuit) (by kernel_rfl)
theorem spec_l1Cur_circuit_L3_eq (c : Dl1Cur) (out_0 : Int) (out_1 : Bool × List DGate) (out_2 : Bool × List Int) : spec_l1Cur_circuit_L3 c out_0 out_1 out_2 =
(spec_l1Cur_pick c 2).bind fun r =>
 bif decide ((out_1.2.length : Int) < (IntKind.i64.wrap (300 + r.2))) then
 bif decide (out_1.2.length + [(2, (0, 0))].length ≤ lim) then
(spec_l1Cur_circuit_L3 r.1 out_0 ((out_1.1 && false), (out_1.2 ++ [(2, (0, 0))])) (out_2.1, out_2.2)).bind fun r => some r
else none
else 
 some (r.1, (out_0, ((out_1.1, out_1.2), (out_2.1, out_2.2)))) := Eq.trans (inf_loop_eq (H := H) 69 3 (loopCode Try.f69 3) (c, (out_0, (out_1, out_2))) key_spec_l1Cur_circuit) (by kernel_rfl)
theorem spec_l1Cur_circuit_eq (c : Dl1Cur) : spec_l1Cur_circuit c =
(spec_l1Cur_pick c 8).bind fun r =>
(spec_l1Cur_pick r.1 20).bind fun r1 =>
(spec_l1Cur_circuit_L0 r1.1 (IntKind.i64.wrap (1 + r.2)) (true, []) (true, []) r1.2).bind fun r2 =>
(spec_l4Wires (r2.2.1, ((r2.2.2.1.1, r2.2.2.1.2), (r2.2.2.2.1, r2.2.2.2.2)))).bind fun r3 =>
(spec_l1Cur_pick r2.1 5).bind fun r4 =>
(spec_l1Cur_wires r4.1 r3 r4.2).bind fun r5 =>
(spec_l1Cur_pick r5.1 30).bind fun r6 =>
 bif (r6.2 == 0) then
(spec_l4Wires (r2.2.1, ((r2.2.2.1.1, r2.2.2.1.2), (r5.2.1, r5.2.2)))).bind fun r7 =>
 bif decide (r5.2.2.length + [r7].length ≤ lim) then
 some (r6.1, (r2.2.1, ((r2.2.2.1.1, r2.2.2.1.2), ((r5.2.1 && false), (r5.2.2 ++ [r7])))))
else none
else 
 bif (r6.2 == 1) then
(spec_l1Cur_among r6.1 (false, [(-1), 0, 16, 17])).bind fun r8 =>
 some (r8.1, (r8.2, ((r2.2.2.1.1, r2.2.2.1.2), (r5.2.1, r5.2.2))))
else 
 bif (r6.2 == 2) then
(spec_l1Cur_circuit_L3 r6.1 r2.2.1 (r2.2.2.1.1, r2.2.2.1.2) (r5.2.1, r5.2.2)).bind fun r9 =>
 some (r9.1, (r9.2.1, ((r9.2.2.1.1, r9.2.2.1.2), (r9.2.2.2.1, r9.2.2.2.2))))
else 
 some (r6.1, (r2.2.1, ((r2.2.2.1.1, r2.2.2.1.2), (r5.2.1, r5.2.2)))) := Eq.trans (inf_call_eq (H := H) 69 c) (by kernel_rfl)
theorem spec_l1Cur_one_eq (c : Dl1Cur) (n : Int) : spec_l1Cur_one c n =
(spec_l1Cur_pick c n).bind fun r =>
 some (r.1, (r.2 == 0)) := Eq.trans (inf_call_eq (H := H) 80 (c, n)) (by kernel_rfl)
theorem spec_l1Cur_bools_L0_eq (c : Dl1Cur) (n : Int) (l : Bool × List Bool) : spec_l1Cur_bools_L0 c n l =
 bif decide (n > 0) then
(spec_l1Cur_one c 2).bind fun r =>
 bif decide (l.2.length + [r.2].length ≤ lim) then
(spec_l1Cur_bools_L0 r.1 (IntKind.i64.wrap (n - 1)) ((l.1 && false), (l.2 ++ [r.2]))).bind fun r => some r
else none
else 
 some (c, (l.1, l.2)) := Eq.trans (inf_loop_eq (H := H) 90 0 (loopCode Try.f90 0) (c, (n, l)) key_spec_l1Cur_bools) (by kernel_rfl)
theorem spec_l1Cur_bools_eq (c : Dl1Cur) (n : Int) : spec_l1Cur_bools c n =
(spec_l1Cur_bools_L0 c n (true, [])).bind fun r =>
 some (r.1, (r.2.1, r.2.2)) := Eq.trans (inf_call_eq (H := H) 90 (c, n)) (by kernel_rfl)
theorem spec_DrawAllWires_eq (code : Bool × List Int) : spec_DrawAllWires code =
(spec_l1Cur_circuit (code, (0, 0))).bind fun r =>
(spec_l1Cur_pick r.1 20).bind fun r1 =>
(spec_l1Cur_bools r1.1 (IntKind.i64.wrap (r.2.1 + (IntKind.i64.wrap (Int.tdiv r1.2 19))))).bind fun r2 =>
 some (r.2.1, ((r.2.2.1.1, r.2.2.1.2), ((r.2.2.2.1, r.2.2.2.2), (r2.2.1, r2.2.2)))) := Eq.trans (inf_call_eq (H := H) 60 code) (by kernel_rfl)
theorem spec_DrawRunCircuit_eq (code : Bool × List Int) : spec_DrawRunCircuit code =
(spec_DrawAllWires code).bind fun r =>
 some (r.1, ((r.2.1.1, r.2.1.2), ((r.2.2.1.1, r.2.2.1.2), (r.2.2.2.1, r.2.2.2.2)))) := Eq.trans (inf_call_eq (H := H) 26 code) (by kernel_rfl)
theorem impl_Gate_uses_eq (g : DGate) : impl_Gate_uses g =
 bif (g.1 == 1) then
 some (true, [])
else 
 bif (g.1 == 2) then
 some (false, [g.2.1])
else 
 some (false, [g.2.1, g.2.2]) := Eq.trans (inf_call_eq (H := H) 95 g) (by kernel_rfl)
theorem impl_areWiresBelow_1_eq (w : Int) (a1 : Int) : impl_areWiresBelow_1 w a1 =
 bif decide (w < 0) then
 some true
else 
 some (decide (w ≥ a1)) := Eq.trans (inf_call_eq (H := H) 102 (w, a1)) (by kernel_rfl)
theorem slices_IndexFunc_int_by_areWiresBelow_1_L0_eq (s : Bool × List Int) (f : Int × Unit) (t7 : Int) (t8 : Int) : slices_IndexFunc_int_by_areWiresBelow_1_L0 s f t7 t8 =
 bif decide (t8 < t7) then
 bif decide (0 ≤ t8) then
 bif decide (t8 < (s.2.length : Int)) then
(impl_areWiresBelow_1 (s.2.getD (Int.toNat t8) 0) f.1).bind fun r =>
 bif r then
 some (.inl t8)
else 
(slices_IndexFunc_int_by_areWiresBelow_1_L0 s f t7 (IntKind.i64.wrap (t8 + 1))).bind fun r => some r
else none
else none
else 
 some (.inr ()) := Eq.trans (inf_loop_eq (H := H) 82 0 (loopCode Try.f82 0) (s, (f, (t7, t8))) key_slices_IndexFunc_int_by_areWiresBelow_1) (by kernel_rfl)
theorem slices_IndexFunc_int_by_areWiresBelow_1_eq (s : Bool × List Int) (f : Int × Unit) : slices_IndexFunc_int_by_areWiresBelow_1 s f =
(slices_IndexFunc_int_by_areWiresBelow_1_L0 s f (s.2.length : Int) 0).bind fun r =>
 match r with
| .inl y =>
 some y
| .inr z =>
 some (-1) := Eq.trans (inf_call_eq (H := H) 82 (s, f)) (by kernel_rfl)
theorem slices_ContainsFunc_int_by_areWiresBelow_1_eq (s : Bool × List Int) (f : Int × Unit) : slices_ContainsFunc_int_by_areWiresBelow_1 s f =
(slices_IndexFunc_int_by_areWiresBelow_1 s f).bind fun r =>
 some (decide (r ≥ 0)) := Eq.trans (inf_call_eq (H := H) 101 (s, f)) (by kernel_rfl)
theorem impl_areWiresBelow_eq (list : Bool × List Int) (bound : Int) : impl_areWiresBelow list bound =
(slices_ContainsFunc_int_by_areWiresBelow_1 list (bound, ())).bind fun r =>
 some (!r) := Eq.trans (inf_call_eq (H := H) 71 (list, bound)) (by kernel_rfl)
theorem impl_isGate_eq (g : DGate) (wire : Int) : impl_isGate g wire =
 bif decide (g.1 < 1) then
 some false
else 
 bif decide (g.1 > 5) then
 some false
else 
 bif (g.1 == 1) then
 bif decide (g.2.1 < 0) then
 some false
else 
 bif decide (g.2.1 > 1) then
 some false
else 
 bif decide (g.1 ≤ 2) then
 bif (g.2.2 != 0) then
 some false
else 
(impl_Gate_uses g).bind fun r =>
(impl_areWiresBelow (r.1, r.2) wire).bind fun r1 =>
 some r1
else 
(impl_Gate_uses g).bind fun r2 =>
(impl_areWiresBelow (r2.1, r2.2) wire).bind fun r3 =>
 some r3
else 
 bif decide (g.1 ≤ 2) then
 bif (g.2.2 != 0) then
 some false
else 
(impl_Gate_uses g).bind fun r4 =>
(impl_areWiresBelow (r4.1, r4.2) wire).bind fun r5 =>
 some r5
else 
(impl_Gate_uses g).bind fun r6 =>
(impl_areWiresBelow (r6.1, r6.2) wire).bind fun r7 =>
 some r7 := Eq.trans (inf_call_eq (H := H) 93 (g, wire)) (by kernel_rfl)
theorem impl_Circuit_wires_eq (c : DCircuit) : impl_Circuit_wires c =
 some (IntKind.i64.wrap (c.1 + (c.2.1.2.length : Int))) := Eq.trans (inf_call_eq (H := H) 65 c) (by kernel_rfl)
theorem impl_GoodCircuit_L0_eq (c : DCircuit) (t26 : Bool × List DGate) (t27 : Int) (t28 : Int) : impl_GoodCircuit_L0 c t26 t27 t28 =
 bif decide (t28 < t27) then
 bif decide (0 ≤ t28) then
 bif decide (t28 < (t26.2.length : Int)) then
(impl_isGate (t26.2.getD (Int.toNat t28) (0, (0, 0))) (IntKind.i64.wrap (c.1 + t28))).bind fun r =>
 bif !r then
 some (.inl false)
else 
(impl_GoodCircuit_L0 c t26 t27 (IntKind.i64.wrap (t28 + 1))).bind fun r => some r
else none
else none
else 
 some (.inr ()) := Eq.trans (inf_loop_eq (H := H) 63 0 (loopCode Try.f63 0) (c, (t26, (t27, t28))) key_impl_GoodCircuit) (by kernel_rfl)
theorem impl_GoodCircuit_eq (c : DCircuit) : impl_GoodCircuit c =
 bif decide (c.1 < 0) then
 some false
else 
 bif decide (c.1 > 16) then
 some false
else 
 bif decide ((c.2.1.2.length : Int) > 300) then
 some false
else 
 bif decide ((c.2.2.2.length : Int) > 16) then
 some false
else 
(impl_GoodCircuit_L0 c c.2.1 (c.2.1.2.length : Int) 0).bind fun r =>
 match r with
| .inl y =>
 some y
| .inr z =>
(impl_Circuit_wires c).bind fun r1 =>
(impl_areWiresBelow c.2.2 r1).bind fun r2 =>
 some r2 := Eq.trans (inf_call_eq (H := H) 63 c) (by kernel_rfl)
theorem slices_Clone_bool_eq (s : Bool × List Bool) : slices_Clone_bool s =
 bif s.1 then
 some (true, [])
else 
 bif decide (([] : List Bool).length + s.2.length ≤ lim) then
 some (false, ([] ++ s.2))
else none := Eq.trans (inf_call_eq (H := H) 116 s) (by kernel_rfl)
theorem impl_Circuit_allWires_L0_eq (out : Bool × List Bool) (t12 : Bool × List DGate) (t13 : Int) (t14 : Int) : impl_Circuit_allWires_L0 out t12 t13 t14 =
 bif decide (t14 < t13) then
 bif decide (0 ≤ t14) then
 bif decide (t14 < (t12.2.length : Int)) then
 bif (((t12.2.getD (Int.toNat t14) (0, (0, 0))).1) == 2) then
 bif decide (0 ≤ (((t12.2.getD (Int.toNat t14) (0, (0, 0))).2).1)) then
 bif decide ((((t12.2.getD (Int.toNat t14) (0, (0, 0))).2).1) < (out.2.length : Int)) then
 bif decide (out.2.length + [!(out.2.getD (Int.toNat (((t12.2.getD (Int.toNat t14) (0, (0, 0))).2).1)) false)].length ≤ lim) then
(impl_Circuit_allWires_L0 ((out.1 && false), (out.2 ++ [!(out.2.getD (Int.toNat (((t12.2.getD (Int.toNat t14) (0, (0, 0))).2).1)) false)])) t12 t13 (IntKind.i64.wrap (t14 + 1))).bind fun r => some r
else none
else none
else none
else 
 bif (((t12.2.getD (Int.toNat t14) (0, (0, 0))).1) == 3) then
 bif decide (0 ≤ (((t12.2.getD (Int.toNat t14) (0, (0, 0))).2).1)) then
 bif decide ((((t12.2.getD (Int.toNat t14) (0, (0, 0))).2).1) < (out.2.length : Int)) then
 bif (out.2.getD (Int.toNat (((t12.2.getD (Int.toNat t14) (0, (0, 0))).2).1)) false) then
 bif decide (0 ≤ (((t12.2.getD (Int.toNat t14) (0, (0, 0))).2).2)) then
 bif decide ((((t12.2.getD (Int.toNat t14) (0, (0, 0))).2).2) < (out.2.length : Int)) then
 bif decide (out.2.length + [(out.2.getD (Int.toNat (((t12.2.getD (Int.toNat t14) (0, (0, 0))).2).2)) false)].length ≤ lim) then
(impl_Circuit_allWires_L0 ((out.1 && false), (out.2 ++ [(out.2.getD (Int.toNat (((t12.2.getD (Int.toNat t14) (0, (0, 0))).2).2)) false)])) t12 t13 (IntKind.i64.wrap (t14 + 1))).bind fun r => some r
else none
else none
else none
else 
 bif decide (out.2.length + [false].length ≤ lim) then
(impl_Circuit_allWires_L0 ((out.1 && false), (out.2 ++ [false])) t12 t13 (IntKind.i64.wrap (t14 + 1))).bind fun r => some r
else none
else none
else none
else 
 bif (((t12.2.getD (Int.toNat t14) (0, (0, 0))).1) == 4) then
 bif decide (0 ≤ (((t12.2.getD (Int.toNat t14) (0, (0, 0))).2).1)) then
 bif decide ((((t12.2.getD (Int.toNat t14) (0, (0, 0))).2).1) < (out.2.length : Int)) then
 bif (out.2.getD (Int.toNat (((t12.2.getD (Int.toNat t14) (0, (0, 0))).2).1)) false) then
 bif decide (out.2.length + [true].length ≤ lim) then
(impl_Circuit_allWires_L0 ((out.1 && false), (out.2 ++ [true])) t12 t13 (IntKind.i64.wrap (t14 + 1))).bind fun r => some r
else none
else 
 bif decide (0 ≤ (((t12.2.getD (Int.toNat t14) (0, (0, 0))).2).2)) then
 bif decide ((((t12.2.getD (Int.toNat t14) (0, (0, 0))).2).2) < (out.2.length : Int)) then
 bif decide (out.2.length + [(out.2.getD (Int.toNat (((t12.2.getD (Int.toNat t14) (0, (0, 0))).2).2)) false)].length ≤ lim) then
(impl_Circuit_allWires_L0 ((out.1 && false), (out.2 ++ [(out.2.getD (Int.toNat (((t12.2.getD (Int.toNat t14) (0, (0, 0))).2).2)) false)])) t12 t13 (IntKind.i64.wrap (t14 + 1))).bind fun r => some r
else none
else none
else none
else none
else none
else 
 bif (((t12.2.getD (Int.toNat t14) (0, (0, 0))).1) == 5) then
 bif decide (0 ≤ (((t12.2.getD (Int.toNat t14) (0, (0, 0))).2).1)) then
 bif decide ((((t12.2.getD (Int.toNat t14) (0, (0, 0))).2).1) < (out.2.length : Int)) then
 bif decide (0 ≤ (((t12.2.getD (Int.toNat t14) (0, (0, 0))).2).2)) then
 bif decide ((((t12.2.getD (Int.toNat t14) (0, (0, 0))).2).2) < (out.2.length : Int)) then
 bif decide (out.2.length + [!((out.2.getD (Int.toNat (((t12.2.getD (Int.toNat t14) (0, (0, 0))).2).1)) false) == (out.2.getD (Int.toNat (((t12.2.getD (Int.toNat t14) (0, (0, 0))).2).2)) false))].length ≤ lim) then
(impl_Circuit_allWires_L0 ((out.1 && false), (out.2 ++ [!((out.2.getD (Int.toNat (((t12.2.getD (Int.toNat t14) (0, (0, 0))).2).1)) false) == (out.2.getD (Int.toNat (((t12.2.getD (Int.toNat t14) (0, (0, 0))).2).2)) false))])) t12 t13 (IntKind.i64.wrap (t14 + 1))).bind fun r => some r
else none
else none
else none
else none
else none
else 
 bif decide (out.2.length + [((((t12.2.getD (Int.toNat t14) (0, (0, 0))).2).1) == 1)].length ≤ lim) then
(impl_Circuit_allWires_L0 ((out.1 && false), (out.2 ++ [((((t12.2.getD (Int.toNat t14) (0, (0, 0))).2).1) == 1)])) t12 t13 (IntKind.i64.wrap (t14 + 1))).bind fun r => some r
else none
else none
else none
else 
 some (out.1, out.2) := Eq.trans (inf_loop_eq (H := H) 91 0 (loopCode Try.f91 0) (out, (t12, (t13, t14))) key_impl_Circuit_allWires) (by kernel_rfl)
theorem impl_Circuit_allWires_eq (c : DCircuit) (ins : Bool × List Bool) : impl_Circuit_allWires c ins =
(slices_Clone_bool ins).bind fun r =>
(impl_Circuit_allWires_L0 (r.1, r.2) c.2.1 (c.2.1.2.length : Int) 0).bind fun r1 =>
 some (r1.1, r1.2) := Eq.trans (inf_call_eq (H := H) 91 (c, ins)) (by kernel_rfl)
theorem impl_AllWires_eq (c : DCircuit) (ins : Bool × List Bool) : impl_AllWires c ins =
(impl_GoodCircuit c).bind fun r =>
 bif !r then
 some ((true, []), false)
else 
 bif ((ins.2.length : Int) != c.1) then
 some ((true, []), false)
else 
(impl_Circuit_allWires c ins).bind fun r1 =>
 some ((r1.1, r1.2), true) := Eq.trans (inf_call_eq (H := H) 61 (c, ins)) (by kernel_rfl)
theorem impl_RunCircuit_L0_eq (values : Bool × List Bool) (out : Bool × List Bool) (t21 : Bool × List Int) (t22 : Int) (t23 : Int) : impl_RunCircuit_L0 values out t21 t22 t23 =
 bif decide (t23 < t22) then
 bif decide (0 ≤ t23) then
 bif decide (t23 < (t21.2.length : Int)) then
 bif decide (0 ≤ (t21.2.getD (Int.toNat t23) 0)) then
 bif decide ((t21.2.getD (Int.toNat t23) 0) < (values.2.length : Int)) then
 bif decide (out.2.length + [(values.2.getD (Int.toNat (t21.2.getD (Int.toNat t23) 0)) false)].length ≤ lim) then
(impl_RunCircuit_L0 values ((out.1 && false), (out.2 ++ [(values.2.getD (Int.toNat (t21.2.getD (Int.toNat t23) 0)) false)])) t21 t22 (IntKind.i64.wrap (t23 + 1))).bind fun r => some r
else none
else none
else none
else none
else none
else 
 some (out.1, out.2) := Eq.trans (inf_loop_eq (H := H) 27 0 (loopCode Try.f27 0) (values, (out, (t21, (t22, t23)))) key_impl_RunCircuit) (by kernel_rfl)
theorem impl_RunCircuit_eq (c : DCircuit) (ins : Bool × List Bool) : impl_RunCircuit c ins =
(impl_AllWires c ins).bind fun r =>
 bif !r.2 then
 some ((true, []), false)
else 
(impl_RunCircuit_L0 (r.1.1, r.1.2) (false, []) c.2.2 (c.2.2.2.length : Int) 0).bind fun r1 =>
 some ((r1.1, r1.2), true) := Eq.trans (inf_call_eq (H := H) 27 (c, ins)) (by kernel_rfl)
theorem spec_l1In_eq (n : Int) (lo : Int) (hi : Int) : spec_l1In n lo hi =
 bif decide (n ≥ lo) then
 some (decide (n ≤ hi))
else 
 some false := Eq.trans (inf_call_eq (H := H) 58 (n, (lo, hi))) (by kernel_rfl)
theorem spec_l4Gate_eq (g : DGate) (own : Int) : spec_l4Gate g own =
 bif (g.1 == 1) then
(spec_l1In g.2.1 0 1).bind fun r =>
 bif r then
 some (g.2.2 == 0)
else 
 some false
else 
 bif (g.1 == 2) then
(spec_l1In g.2.1 0 (IntKind.i64.wrap (own - 1))).bind fun r1 =>
 bif r1 then
 some (g.2.2 == 0)
else 
 some false
else 
 bif (g.1 == 3) then
 bif (g.1 == 3) then
(spec_l1In g.2.1 0 (IntKind.i64.wrap (own - 1))).bind fun r2 =>
 bif r2 then
(spec_l1In g.2.2 0 (IntKind.i64.wrap (own - 1))).bind fun r3 =>
 some r3
else 
 some false
else 
 some false
else 
 bif (g.1 == 4) then
 bif (g.1 == 4) then
(spec_l1In g.2.1 0 (IntKind.i64.wrap (own - 1))).bind fun r4 =>
 bif r4 then
(spec_l1In g.2.2 0 (IntKind.i64.wrap (own - 1))).bind fun r5 =>
 some r5
else 
 some false
else 
 some false
else 
 bif (g.1 == 5) then
(spec_l1In g.2.1 0 (IntKind.i64.wrap (own - 1))).bind fun r6 =>
 bif r6 then
(spec_l1In g.2.2 0 (IntKind.i64.wrap (own - 1))).bind fun r7 =>
 some r7
else 
 some false
else 
 some false := Eq.trans (inf_call_eq (H := H) 96 (g, own)) (by kernel_rfl)
theorem spec_l1All_L0_eq (lo : Int) (hi : Int) (t9 : Bool × List Int) (t10 : Int) (t11 : Int) : spec_l1All_L0 lo hi t9 t10 t11 =
 bif decide (t11 < t10) then
 bif decide (0 ≤ t11) then
 bif decide (t11 < (t9.2.length : Int)) then
(spec_l1In (t9.2.getD (Int.toNat t11) 0) lo hi).bind fun r =>
 bif !r then
 some (.inl false)
else 
(spec_l1All_L0 lo hi t9 t10 (IntKind.i64.wrap (t11 + 1))).bind fun r => some r
else none
else none
else 
 some (.inr ()) := Eq.trans (inf_loop_eq (H := H) 97 0 (loopCode Try.f97 0) (lo, (hi, (t9, (t10, t11)))) key_spec_l1All) (by kernel_rfl)
theorem spec_l1All_eq (l : Bool × List Int) (lo : Int) (hi : Int) : spec_l1All l lo hi =
(spec_l1All_L0 lo hi l (l.2.length : Int) 0).bind fun r =>
 match r with
| .inl y =>
 some y
| .inr z =>
 some true := Eq.trans (inf_call_eq (H := H) 97 (l, (lo, hi))) (by kernel_rfl)
theorem spec_GoodCircuit_L0_eq (c : DCircuit) (t22 : Bool × List DGate) (t23 : Int) (t24 : Int) : spec_GoodCircuit_L0 c t22 t23 t24 =
 bif decide (t24 < t23) then
 bif decide (0 ≤ t24) then
 bif decide (t24 < (t22.2.length : Int)) then
(spec_l4Gate (t22.2.getD (Int.toNat t24) (0, (0, 0))) (IntKind.i64.wrap (c.1 + t24))).bind fun r =>
 bif !r then
 some (.inl false)
else 
(spec_GoodCircuit_L0 c t22 t23 (IntKind.i64.wrap (t24 + 1))).bind fun r => some r
else none
else none
else 
 some (.inr ()) := Eq.trans (inf_loop_eq (H := H) 66 0 (loopCode Try.f66 0) (c, (t22, (t23, t24))) key_spec_GoodCircuit) (by kernel_rfl)
theorem spec_GoodCircuit_eq (c : DCircuit) : spec_GoodCircuit c =
(spec_l1In c.1 0 16).bind fun r =>
 bif !r then
 some false
else 
 bif decide ((c.2.1.2.length : Int) > 300) then
 some false
else 
 bif decide ((c.2.2.2.length : Int) > 16) then
 some false
else 
(spec_GoodCircuit_L0 c c.2.1 (c.2.1.2.length : Int) 0).bind fun r1 =>
 match r1 with
| .inl y =>
 some y
| .inr z =>
(spec_l4Wires c).bind fun r2 =>
(spec_l1All c.2.2 0 (IntKind.i64.wrap (r2 - 1))).bind fun r3 =>
 some r3 := Eq.trans (inf_call_eq (H := H) 66 c) (by kernel_rfl)
theorem spec_l4Run_L0_eq (out : Bool × List Bool) (t13 : Bool × List DGate) (t14 : Int) (t15 : Int) : spec_l4Run_L0 out t13 t14 t15 =
 bif decide (t15 < t14) then
 bif decide (0 ≤ t15) then
 bif decide (t15 < (t13.2.length : Int)) then
 bif (((t13.2.getD (Int.toNat t15) (0, (0, 0))).1) == 1) then
 bif decide (out.2.length + [((((t13.2.getD (Int.toNat t15) (0, (0, 0))).2).1) == 1)].length ≤ lim) then
(spec_l4Run_L0 ((out.1 && false), (out.2 ++ [((((t13.2.getD (Int.toNat t15) (0, (0, 0))).2).1) == 1)])) t13 t14 (IntKind.i64.wrap (t15 + 1))).bind fun r => some r
else none
else 
 bif (((t13.2.getD (Int.toNat t15) (0, (0, 0))).1) == 2) then
 bif decide (0 ≤ (((t13.2.getD (Int.toNat t15) (0, (0, 0))).2).1)) then
 bif decide ((((t13.2.getD (Int.toNat t15) (0, (0, 0))).2).1) < (out.2.length : Int)) then
 bif decide (out.2.length + [!(out.2.getD (Int.toNat (((t13.2.getD (Int.toNat t15) (0, (0, 0))).2).1)) false)].length ≤ lim) then
(spec_l4Run_L0 ((out.1 && false), (out.2 ++ [!(out.2.getD (Int.toNat (((t13.2.getD (Int.toNat t15) (0, (0, 0))).2).1)) false)])) t13 t14 (IntKind.i64.wrap (t15 + 1))).bind fun r => some r
else none
else none
else none
else 
 bif (((t13.2.getD (Int.toNat t15) (0, (0, 0))).1) == 3) then
 bif decide (0 ≤ (((t13.2.getD (Int.toNat t15) (0, (0, 0))).2).1)) then
 bif decide ((((t13.2.getD (Int.toNat t15) (0, (0, 0))).2).1) < (out.2.length : Int)) then
 bif (out.2.getD (Int.toNat (((t13.2.getD (Int.toNat t15) (0, (0, 0))).2).1)) false) then
 bif decide (0 ≤ (((t13.2.getD (Int.toNat t15) (0, (0, 0))).2).2)) then
 bif decide ((((t13.2.getD (Int.toNat t15) (0, (0, 0))).2).2) < (out.2.length : Int)) then
 bif decide (out.2.length + [(out.2.getD (Int.toNat (((t13.2.getD (Int.toNat t15) (0, (0, 0))).2).2)) false)].length ≤ lim) then
(spec_l4Run_L0 ((out.1 && false), (out.2 ++ [(out.2.getD (Int.toNat (((t13.2.getD (Int.toNat t15) (0, (0, 0))).2).2)) false)])) t13 t14 (IntKind.i64.wrap (t15 + 1))).bind fun r => some r
else none
else none
else none
else 
 bif decide (out.2.length + [false].length ≤ lim) then
(spec_l4Run_L0 ((out.1 && false), (out.2 ++ [false])) t13 t14 (IntKind.i64.wrap (t15 + 1))).bind fun r => some r
else none
else none
else none
else 
 bif (((t13.2.getD (Int.toNat t15) (0, (0, 0))).1) == 4) then
 bif decide (0 ≤ (((t13.2.getD (Int.toNat t15) (0, (0, 0))).2).1)) then
 bif decide ((((t13.2.getD (Int.toNat t15) (0, (0, 0))).2).1) < (out.2.length : Int)) then
 bif (out.2.getD (Int.toNat (((t13.2.getD (Int.toNat t15) (0, (0, 0))).2).1)) false) then
 bif decide (out.2.length + [true].length ≤ lim) then
(spec_l4Run_L0 ((out.1 && false), (out.2 ++ [true])) t13 t14 (IntKind.i64.wrap (t15 + 1))).bind fun r => some r
else none
else 
 bif decide (0 ≤ (((t13.2.getD (Int.toNat t15) (0, (0, 0))).2).2)) then
 bif decide ((((t13.2.getD (Int.toNat t15) (0, (0, 0))).2).2) < (out.2.length : Int)) then
 bif decide (out.2.length + [(out.2.getD (Int.toNat (((t13.2.getD (Int.toNat t15) (0, (0, 0))).2).2)) false)].length ≤ lim) then
(spec_l4Run_L0 ((out.1 && false), (out.2 ++ [(out.2.getD (Int.toNat (((t13.2.getD (Int.toNat t15) (0, (0, 0))).2).2)) false)])) t13 t14 (IntKind.i64.wrap (t15 + 1))).bind fun r => some r
else none
else none
else none
else none
else none
else 
 bif (((t13.2.getD (Int.toNat t15) (0, (0, 0))).1) == 5) then
 bif decide (0 ≤ (((t13.2.getD (Int.toNat t15) (0, (0, 0))).2).1)) then
 bif decide ((((t13.2.getD (Int.toNat t15) (0, (0, 0))).2).1) < (out.2.length : Int)) then
 bif decide (0 ≤ (((t13.2.getD (Int.toNat t15) (0, (0, 0))).2).2)) then
 bif decide ((((t13.2.getD (Int.toNat t15) (0, (0, 0))).2).2) < (out.2.length : Int)) then
 bif decide (out.2.length + [!((out.2.getD (Int.toNat (((t13.2.getD (Int.toNat t15) (0, (0, 0))).2).1)) false) == (out.2.getD (Int.toNat (((t13.2.getD (Int.toNat t15) (0, (0, 0))).2).2)) false))].length ≤ lim) then
(spec_l4Run_L0 ((out.1 && false), (out.2 ++ [!((out.2.getD (Int.toNat (((t13.2.getD (Int.toNat t15) (0, (0, 0))).2).1)) false) == (out.2.getD (Int.toNat (((t13.2.getD (Int.toNat t15) (0, (0, 0))).2).2)) false))])) t13 t14 (IntKind.i64.wrap (t15 + 1))).bind fun r => some r
else none
else none
else none
else none
else none
else 
 bif decide (out.2.length + [false].length ≤ lim) then
(spec_l4Run_L0 ((out.1 && false), (out.2 ++ [false])) t13 t14 (IntKind.i64.wrap (t15 + 1))).bind fun r => some r
else none
else none
else none
else 
 some (out.1, out.2) := Eq.trans (inf_loop_eq (H := H) 92 0 (loopCode Try.f92 0) (out, (t13, (t14, t15))) key_spec_l4Run) (by kernel_rfl)
theorem spec_l4Run_eq (c : DCircuit) (ins : Bool × List Bool) : spec_l4Run c ins =
 bif decide (([] : List Bool).length + ins.2.length ≤ lim) then
(spec_l4Run_L0 (false, ([] ++ ins.2)) c.2.1 (c.2.1.2.length : Int) 0).bind fun r =>
 some (r.1, r.2)
else none := Eq.trans (inf_call_eq (H := H) 92 (c, ins)) (by kernel_rfl)
theorem spec_AllWires_eq (c : DCircuit) (ins : Bool × List Bool) : spec_AllWires c ins =
(spec_GoodCircuit c).bind fun r =>
 bif !r then
 some ((true, []), false)
else 
 bif ((ins.2.length : Int) != c.1) then
 some ((true, []), false)
else 
(spec_l4Run c ins).bind fun r1 =>
 some ((r1.1, r1.2), true) := Eq.trans (inf_call_eq (H := H) 62 (c, ins)) (by kernel_rfl)
theorem spec_RunCircuit_L0_eq (all_ : Bool × List Bool) (out : Bool × List Bool) (t20 : Bool × List Int) (t21 : Int) (t22 : Int) : spec_RunCircuit_L0 all_ out t20 t21 t22 =
 bif decide (t22 < t21) then
 bif decide (0 ≤ t22) then
 bif decide (t22 < (t20.2.length : Int)) then
 bif decide (0 ≤ (t20.2.getD (Int.toNat t22) 0)) then
 bif decide ((t20.2.getD (Int.toNat t22) 0) < (all_.2.length : Int)) then
 bif decide (out.2.length + [(all_.2.getD (Int.toNat (t20.2.getD (Int.toNat t22) 0)) false)].length ≤ lim) then
(spec_RunCircuit_L0 all_ ((out.1 && false), (out.2 ++ [(all_.2.getD (Int.toNat (t20.2.getD (Int.toNat t22) 0)) false)])) t20 t21 (IntKind.i64.wrap (t22 + 1))).bind fun r => some r
else none
else none
else none
else none
else none
else 
 some (out.1, out.2) := Eq.trans (inf_loop_eq (H := H) 28 0 (loopCode Try.f28 0) (all_, (out, (t20, (t21, t22)))) key_spec_RunCircuit) (by kernel_rfl)
theorem spec_RunCircuit_eq (c : DCircuit) (ins : Bool × List Bool) : spec_RunCircuit c ins =
(spec_AllWires c ins).bind fun r =>
 bif !r.2 then
 some ((true, []), false)
else 
(spec_RunCircuit_L0 (r.1.1, r.1.2) (true, []) c.2.2 (c.2.2.2.length : Int) 0).bind fun r1 =>
 some ((r1.1, r1.2), true) := Eq.trans (inf_call_eq (H := H) 28 (c, ins)) (by kernel_rfl)
theorem impl_Circuit_coneOf_L0_eq (c : DCircuit) (t4 : Bool × List Bool) (in_ : Bool × List Bool) (t15 : Bool × List Int) (t16 : Int) (t17 : Int) : impl_Circuit_coneOf_L0 c t4 in_ t15 t16 t17 =
 bif decide (t17 < t16) then
 bif decide (0 ≤ t17) then
 bif decide (t17 < (t15.2.length : Int)) then
 bif decide (0 ≤ (t15.2.getD (Int.toNat t17) 0)) then
 bif decide ((t15.2.getD (Int.toNat t17) 0) < (in_.2.length : Int)) then
(impl_Circuit_coneOf_L0 c t4 (in_.1, (in_.2.set (Int.toNat (t15.2.getD (Int.toNat t17) 0)) true)) t15 t16 (IntKind.i64.wrap (t17 + 1))).bind fun r => some r
else none
else none
else none
else none
else 
 some (in_.1, in_.2) := Eq.trans (inf_loop_eq (H := H) 64 0 (loopCode Try.f64 0) (c, (t4, (in_, (t15, (t16, t17))))) key_impl_Circuit_coneOf) (by kernel_rfl)
theorem impl_Circuit_coneOf_L2_eq (c : DCircuit) (in_ : Bool × List Bool) (t27 : Bool × List DGate) (t28 : Int) : impl_Circuit_coneOf_L2 c in_ t27 t28 =
 bif decide (t28 < 0) then
 some (in_.1, in_.2)
else 
 bif decide (t28 < (t27.2.length : Int)) then
 bif decide (0 ≤ (IntKind.i64.wrap (c.1 + t28))) then
 bif decide ((IntKind.i64.wrap (c.1 + t28)) < (in_.2.length : Int)) then
 bif (in_.2.getD (Int.toNat (IntKind.i64.wrap (c.1 + t28))) false) then
(impl_Gate_uses (t27.2.getD (Int.toNat t28) (0, (0, 0)))).bind fun r =>
(impl_Circuit_coneOf_L4 c (in_.1, in_.2) (t27, ()) (r.1, r.2) (r.2.length : Int) 0).bind fun r1 =>
(impl_Circuit_coneOf_L2 c (r1.1, r1.2) t27 (t28 - 1)).bind fun r => some r
else 
(impl_Circuit_coneOf_L2 c (in_.1, in_.2) t27 (t28 - 1)).bind fun r => some r
else none
else none
else none := Eq.trans (inf_loop_eq (H := H) 64 2 (loopCode Try.f64 2) (c, (in_, (t27, t28))) key_impl_Circuit_coneOf) (by kernel_rfl)
theorem impl_Circuit_coneOf_L4_eq (c : DCircuit) (in_ : Bool × List Bool) (t27 : (Bool × List DGate) × Unit) (t38 : Bool × List Int) (t39 : Int) (t40 : Int) : impl_Circuit_coneOf_L4 c in_ t27 t38 t39 t40 =
 bif decide (t40 < t39) then
 bif decide (0 ≤ t40) then
 bif decide (t40 < (t38.2.length : Int)) then
 bif decide (0 ≤ (t38.2.getD (Int.toNat t40) 0)) then
 bif decide ((t38.2.getD (Int.toNat t40) 0) < (in_.2.length : Int)) then
(impl_Circuit_coneOf_L4 c (in_.1, (in_.2.set (Int.toNat (t38.2.getD (Int.toNat t40) 0)) true)) t27 t38 t39 (IntKind.i64.wrap (t40 + 1))).bind fun r => some r
else none
else none
else none
else none
else 
 some (in_.1, in_.2) := Eq.trans (inf_loop_eq (H := H) 64 4 (loopCode Try.f64 4) (c, (in_, (t27, (t38, (t39, t40))))) key_impl_Circuit_coneOf) (by kernel_rfl)
theorem impl_Circuit_coneOf_eq (c : DCircuit) (wires : Bool × List Int) : impl_Circuit_coneOf c wires =
(impl_Circuit_wires c).bind fun r =>
 bif decide (0 ≤ r) then
 bif decide (r ≤ lim) then
 bif decide (r ≤ r) then
 bif decide (r ≤ lim) then
(impl_Circuit_coneOf_L0 c (true, []) (false, (List.replicate (Int.toNat r) (false : Bool))) wires (wires.2.length : Int) 0).bind fun r1 =>
(impl_Circuit_coneOf_L2 c (r1.1, r1.2) c.2.1 ((c.2.1.2.length : Int) - 1)).bind fun r2 =>
 some (r2.1, r2.2)
else none
else none
else none
else none := Eq.trans (inf_call_eq (H := H) 64 (c, wires)) (by kernel_rfl)
theorem impl_PruneCircuit_L0_eq (c : DCircuit) (t2 : DCircuit) (in_ : Bool × List Bool) (number : Bool × List Int) (out : DCircuit) (t27 : Int) (t28 : Int) : impl_PruneCircuit_L0 c t2 in_ number out t27 t28 =
 bif decide (t28 < t27) then
 bif decide (0 ≤ t28) then
 bif decide (t28 < (number.2.length : Int)) then
(impl_PruneCircuit_L0 c t2 in_ (number.1, (number.2.set (Int.toNat t28) t28)) out t27 (IntKind.i64.wrap (t28 + 1))).bind fun r => some r
else none
else none
else 
 some (number.1, number.2) := Eq.trans (inf_loop_eq (H := H) 29 0 (loopCode Try.f29 0) (c, (t2, (in_, (number, (out, (t27, t28)))))) key_impl_PruneCircuit) (by kernel_rfl)
theorem impl_PruneCircuit_L2_eq (c : DCircuit) (t2 : DCircuit) (in_ : Bool × List Bool) (number : Bool × List Int) (out_0 : Int) (out_1 : Bool × List DGate) (out_2 : Bool × List Int) (t37 : Bool × List DGate) (t38 : Int) (t39 : Int) : impl_PruneCircuit_L2 c t2 in_ number out_0 out_1 out_2 t37 t38 t39 =
 bif decide (t39 < t38) then
 bif decide (0 ≤ t39) then
 bif decide (t39 < (t37.2.length : Int)) then
 bif decide (0 ≤ (IntKind.i64.wrap (c.1 + t39))) then
 bif decide ((IntKind.i64.wrap (c.1 + t39)) < (in_.2.length : Int)) then
 bif !(in_.2.getD (Int.toNat (IntKind.i64.wrap (c.1 + t39))) false) then
(impl_PruneCircuit_L2 c t2 in_ (number.1, number.2) out_0 (out_1.1, out_1.2) (out_2.1, out_2.2) t37 t38 (IntKind.i64.wrap (t39 + 1))).bind fun r => some r
else 
 bif (((t37.2.getD (Int.toNat t39) (0, (0, 0))).1) != 1) then
 bif decide (0 ≤ (((t37.2.getD (Int.toNat t39) (0, (0, 0))).2).1)) then
 bif decide ((((t37.2.getD (Int.toNat t39) (0, (0, 0))).2).1) < (number.2.length : Int)) then
 bif decide (((t37.2.getD (Int.toNat t39) (0, (0, 0))).1) > 2) then
 bif decide (0 ≤ (((t37.2.getD (Int.toNat t39) (0, (0, 0))).2).2)) then
 bif decide ((((t37.2.getD (Int.toNat t39) (0, (0, 0))).2).2) < (number.2.length : Int)) then
(impl_Circuit_wires (out_0, ((out_1.1, out_1.2), (out_2.1, out_2.2)))).bind fun r =>
 bif decide (0 ≤ (IntKind.i64.wrap (c.1 + t39))) then
 bif decide ((IntKind.i64.wrap (c.1 + t39)) < (number.2.length : Int)) then
 bif decide (out_1.2.length + [((t37.2.getD (Int.toNat t39) (0, (0, 0))).1, ((number.2.getD (Int.toNat (((t37.2.getD (Int.toNat t39) (0, (0, 0))).2).1)) 0), (number.2.getD (Int.toNat (((t37.2.getD (Int.toNat t39) (0, (0, 0))).2).2)) 0)))].length ≤ lim) then
(impl_PruneCircuit_L2 c t2 in_ (number.1, (number.2.set (Int.toNat (IntKind.i64.wrap (c.1 + t39))) r)) out_0 ((out_1.1 && false), (out_1.2 ++ [((t37.2.getD (Int.toNat t39) (0, (0, 0))).1, ((number.2.getD (Int.toNat (((t37.2.getD (Int.toNat t39) (0, (0, 0))).2).1)) 0), (number.2.getD (Int.toNat (((t37.2.getD (Int.toNat t39) (0, (0, 0))).2).2)) 0)))])) (out_2.1, out_2.2) t37 t38 (IntKind.i64.wrap (t39 + 1))).bind fun r => some r
else none
else none
else none
else none
else none
else 
(impl_Circuit_wires (out_0, ((out_1.1, out_1.2), (out_2.1, out_2.2)))).bind fun r1 =>
 bif decide (0 ≤ (IntKind.i64.wrap (c.1 + t39))) then
 bif decide ((IntKind.i64.wrap (c.1 + t39)) < (number.2.length : Int)) then
 bif decide (out_1.2.length + [((t37.2.getD (Int.toNat t39) (0, (0, 0))).1, ((number.2.getD (Int.toNat (((t37.2.getD (Int.toNat t39) (0, (0, 0))).2).1)) 0), ((t37.2.getD (Int.toNat t39) (0, (0, 0))).2).2))].length ≤ lim) then
(impl_PruneCircuit_L2 c t2 in_ (number.1, (number.2.set (Int.toNat (IntKind.i64.wrap (c.1 + t39))) r1)) out_0 ((out_1.1 && false), (out_1.2 ++ [((t37.2.getD (Int.toNat t39) (0, (0, 0))).1, ((number.2.getD (Int.toNat (((t37.2.getD (Int.toNat t39) (0, (0, 0))).2).1)) 0), ((t37.2.getD (Int.toNat t39) (0, (0, 0))).2).2))])) (out_2.1, out_2.2) t37 t38 (IntKind.i64.wrap (t39 + 1))).bind fun r => some r
else none
else none
else none
else none
else none
else 
 bif decide (((t37.2.getD (Int.toNat t39) (0, (0, 0))).1) > 2) then
 bif decide (0 ≤ (((t37.2.getD (Int.toNat t39) (0, (0, 0))).2).2)) then
 bif decide ((((t37.2.getD (Int.toNat t39) (0, (0, 0))).2).2) < (number.2.length : Int)) then
(impl_Circuit_wires (out_0, ((out_1.1, out_1.2), (out_2.1, out_2.2)))).bind fun r2 =>
 bif decide (0 ≤ (IntKind.i64.wrap (c.1 + t39))) then
 bif decide ((IntKind.i64.wrap (c.1 + t39)) < (number.2.length : Int)) then
 bif decide (out_1.2.length + [((t37.2.getD (Int.toNat t39) (0, (0, 0))).1, (((t37.2.getD (Int.toNat t39) (0, (0, 0))).2).1, (number.2.getD (Int.toNat (((t37.2.getD (Int.toNat t39) (0, (0, 0))).2).2)) 0)))].length ≤ lim) then
(impl_PruneCircuit_L2 c t2 in_ (number.1, (number.2.set (Int.toNat (IntKind.i64.wrap (c.1 + t39))) r2)) out_0 ((out_1.1 && false), (out_1.2 ++ [((t37.2.getD (Int.toNat t39) (0, (0, 0))).1, (((t37.2.getD (Int.toNat t39) (0, (0, 0))).2).1, (number.2.getD (Int.toNat (((t37.2.getD (Int.toNat t39) (0, (0, 0))).2).2)) 0)))])) (out_2.1, out_2.2) t37 t38 (IntKind.i64.wrap (t39 + 1))).bind fun r => some r
else none
else none
else none
else none
else none
else 
(impl_Circuit_wires (out_0, ((out_1.1, out_1.2), (out_2.1, out_2.2)))).bind fun r3 =>
 bif decide (0 ≤ (IntKind.i64.wrap (c.1 + t39))) then
 bif decide ((IntKind.i64.wrap (c.1 + t39)) < (number.2.length : Int)) then
 bif decide (out_1.2.length + [(t37.2.getD (Int.toNat t39) (0, (0, 0)))].length ≤ lim) then
(impl_PruneCircuit_L2 c t2 in_ (number.1, (number.2.set (Int.toNat (IntKind.i64.wrap (c.1 + t39))) r3)) out_0 ((out_1.1 && false), (out_1.2 ++ [(t37.2.getD (Int.toNat t39) (0, (0, 0)))])) (out_2.1, out_2.2) t37 t38 (IntKind.i64.wrap (t39 + 1))).bind fun r => some r
else none
else none
else none
else none
else none
else none
else none
else 
 some ((number.1, number.2), (out_0, ((out_1.1, out_1.2), (out_2.1, out_2.2)))) := Eq.trans (inf_loop_eq (H := H) 29 2 (loopCode Try.f29 2) (c, (t2, (in_, (number, (out_0, (out_1, (out_2, (t37, (t38, t39))))))))) key_impl_PruneCircuit) (by kernel_rfl)
theorem impl_PruneCircuit_L4_eq (t2 : DCircuit) (number : Bool × List Int) (out_0 : Int) (out_1 : Bool × List DGate) (out_2 : Bool × List Int) (t86 : Bool × List Int) (t87 : Int) (t88 : Int) : impl_PruneCircuit_L4 t2 number out_0 out_1 out_2 t86 t87 t88 =
 bif decide (t88 < t87) then
 bif decide (0 ≤ t88) then
 bif decide (t88 < (t86.2.length : Int)) then
 bif decide (0 ≤ (t86.2.getD (Int.toNat t88) 0)) then
 bif decide ((t86.2.getD (Int.toNat t88) 0) < (number.2.length : Int)) then
 bif decide (out_2.2.length + [(number.2.getD (Int.toNat (t86.2.getD (Int.toNat t88) 0)) 0)].length ≤ lim) then
(impl_PruneCircuit_L4 t2 number out_0 (out_1.1, out_1.2) ((out_2.1 && false), (out_2.2 ++ [(number.2.getD (Int.toNat (t86.2.getD (Int.toNat t88) 0)) 0)])) t86 t87 (IntKind.i64.wrap (t88 + 1))).bind fun r => some r
else none
else none
else none
else none
else none
else 
 some (out_0, ((out_1.1, out_1.2), (out_2.1, out_2.2))) := Eq.trans (inf_loop_eq (H := H) 29 4 (loopCode Try.f29 4) (t2, (number, (out_0, (out_1, (out_2, (t86, (t87, t88))))))) key_impl_PruneCircuit) (by kernel_rfl)
theorem impl_PruneCircuit_eq (c : DCircuit) : impl_PruneCircuit c =
(impl_GoodCircuit c).bind fun r =>
 bif !r then
 some (0, ((true, []), ((true, []), false)))
else 
(impl_Circuit_coneOf c c.2.2).bind fun r1 =>
(impl_Circuit_wires c).bind fun r2 =>
 bif decide (0 ≤ r2) then
 bif decide (r2 ≤ lim) then
 bif decide (r2 ≤ r2) then
 bif decide (r2 ≤ lim) then
(impl_PruneCircuit_L0 c (0, ((true, []), (true, []))) (r1.1, r1.2) (false, (List.replicate (Int.toNat r2) (0 : Int))) (c.1, ((true, []), (true, []))) c.1 0).bind fun r3 =>
(impl_PruneCircuit_L2 c (0, ((true, []), (true, []))) (r1.1, r1.2) (r3.1, r3.2) c.1 (true, []) (true, []) c.2.1 (c.2.1.2.length : Int) 0).bind fun r4 =>
(impl_PruneCircuit_L4 (0, ((true, []), (true, []))) (r4.1.1, r4.1.2) r4.2.1 (r4.2.2.1.1, r4.2.2.1.2) (r4.2.2.2.1, r4.2.2.2.2) c.2.2 (c.2.2.2.length : Int) 0).bind fun r5 =>
 some (r5.1, ((r5.2.1.1, r5.2.1.2), ((r5.2.2.1, r5.2.2.2), true)))
else none
else none
else none
else none := Eq.trans (inf_call_eq (H := H) 29 c) (by kernel_rfl)
theorem spec_l1Put_L0_eq (l : Bool × List Int) (n : Int) (k_ : Int) : spec_l1Put_L0 l n k_ =
 bif decide (k_ < (l.2.length : Int)) then
 bif decide (0 ≤ k_) then
 bif decide (k_ < (l.2.length : Int)) then
 bif decide ((l.2.getD (Int.toNat k_) 0) < n) then
(spec_l1Put_L0 l n (IntKind.i64.wrap (k_ + 1))).bind fun r => some r
else 
 some k_
else none
else none
else 
 some k_ := Eq.trans (inf_loop_eq (H := H) 79 0 (loopCode Try.f79 0) (l, (n, k_)) key_spec_l1Put) (by kernel_rfl)
theorem spec_l1Put_eq (l : Bool × List Int) (n : Int) : spec_l1Put l n =
(spec_l1Put_L0 l n 0).bind fun r =>
 bif decide (r < (l.2.length : Int)) then
 bif decide (0 ≤ r) then
 bif decide (r < (l.2.length : Int)) then
 bif ((l.2.getD (Int.toNat r) 0) == n) then
 some l
else 
 bif decide (0 ≤ r) then
 bif decide (r ≤ (l.2.length : Int)) then
 bif decide (([] : List Int).length + ((l.2.take (Int.toNat r)).drop 0).length ≤ lim) then
 bif decide (([] ++ ((l.2.take (Int.toNat r)).drop 0)).length + [n].length ≤ lim) then
 bif decide (0 ≤ r) then
 bif decide (r ≤ (l.2.length : Int)) then
 bif decide ((([] ++ ((l.2.take (Int.toNat r)).drop 0)) ++ [n]).length + ((l.2.take l.2.length).drop (Int.toNat r)).length ≤ lim) then
 some (false, ((([] ++ ((l.2.take (Int.toNat r)).drop 0)) ++ [n]) ++ ((l.2.take l.2.length).drop (Int.toNat r))))
else none
else none
else none
else none
else none
else none
else none
else none
else none
else 
 bif decide (0 ≤ r) then
 bif decide (r ≤ (l.2.length : Int)) then
 bif decide (([] : List Int).length + ((l.2.take (Int.toNat r)).drop 0).length ≤ lim) then
 bif decide (([] ++ ((l.2.take (Int.toNat r)).drop 0)).length + [n].length ≤ lim) then
 bif decide (0 ≤ r) then
 bif decide (r ≤ (l.2.length : Int)) then
 bif decide ((([] ++ ((l.2.take (Int.toNat r)).drop 0)) ++ [n]).length + ((l.2.take l.2.length).drop (Int.toNat r)).length ≤ lim) then
 some (false, ((([] ++ ((l.2.take (Int.toNat r)).drop 0)) ++ [n]) ++ ((l.2.take l.2.length).drop (Int.toNat r))))
else none
else none
else none
else none
else none
else none
else none := Eq.trans (inf_call_eq (H := H) 79 (l, n)) (by kernel_rfl)
theorem spec_l4Cone_L0_eq (c : DCircuit) (in_ : Bool × List Bool) (t13 : Bool × List Int) (t14 : Int) (t15 : Int) : spec_l4Cone_L0 c in_ t13 t14 t15 =
 bif decide (t15 < t14) then
 bif decide (0 ≤ t15) then
 bif decide (t15 < (t13.2.length : Int)) then
 bif decide (0 ≤ (t13.2.getD (Int.toNat t15) 0)) then
 bif decide ((t13.2.getD (Int.toNat t15) 0) < (in_.2.length : Int)) then
(spec_l4Cone_L0 c (in_.1, (in_.2.set (Int.toNat (t13.2.getD (Int.toNat t15) 0)) true)) t13 t14 (IntKind.i64.wrap (t15 + 1))).bind fun r => some r
else none
else none
else none
else none
else 
 some (in_.1, in_.2) := Eq.trans (inf_loop_eq (H := H) 68 0 (loopCode Try.f68 0) (c, (in_, (t13, (t14, t15)))) key_spec_l4Cone) (by kernel_rfl)
theorem spec_l4Cone_L2_eq (c : DCircuit) (in_ : Bool × List Bool) (out : Bool × List Int) (w : Int) : spec_l4Cone_L2 c in_ out w =
 bif decide (w ≥ 0) then
 bif decide (0 ≤ w) then
 bif decide (w < (in_.2.length : Int)) then
 bif !(in_.2.getD (Int.toNat w) false) then
(spec_l4Cone_L2 c (in_.1, in_.2) out (IntKind.i64.wrap (w - 1))).bind fun r => some r
else 
(spec_l1Put out w).bind fun r =>
 bif decide (w ≥ c.1) then
 bif decide (0 ≤ (IntKind.i64.wrap (w - c.1))) then
 bif decide ((IntKind.i64.wrap (w - c.1)) < (c.2.1.2.length : Int)) then
 bif (((c.2.1.2.getD (Int.toNat (IntKind.i64.wrap (w - c.1))) (0, (0, 0))).1) != 1) then
 bif decide (0 ≤ (IntKind.i64.wrap (w - c.1))) then
 bif decide ((IntKind.i64.wrap (w - c.1)) < (c.2.1.2.length : Int)) then
 bif decide (0 ≤ (((c.2.1.2.getD (Int.toNat (IntKind.i64.wrap (w - c.1))) (0, (0, 0))).2).1)) then
 bif decide ((((c.2.1.2.getD (Int.toNat (IntKind.i64.wrap (w - c.1))) (0, (0, 0))).2).1) < (in_.2.length : Int)) then
 bif decide (0 ≤ (IntKind.i64.wrap (w - c.1))) then
 bif decide ((IntKind.i64.wrap (w - c.1)) < (c.2.1.2.length : Int)) then
 bif (((c.2.1.2.getD (Int.toNat (IntKind.i64.wrap (w - c.1))) (0, (0, 0))).1) != 2) then
 bif decide (0 ≤ (IntKind.i64.wrap (w - c.1))) then
 bif decide ((IntKind.i64.wrap (w - c.1)) < (c.2.1.2.length : Int)) then
 bif decide (0 ≤ (((c.2.1.2.getD (Int.toNat (IntKind.i64.wrap (w - c.1))) (0, (0, 0))).2).2)) then
 bif decide ((((c.2.1.2.getD (Int.toNat (IntKind.i64.wrap (w - c.1))) (0, (0, 0))).2).2) < ((in_.2.set (Int.toNat (((c.2.1.2.getD (Int.toNat (IntKind.i64.wrap (w - c.1))) (0, (0, 0))).2).1)) true).length : Int)) then
(spec_l4Cone_L2 c (in_.1, ((in_.2.set (Int.toNat (((c.2.1.2.getD (Int.toNat (IntKind.i64.wrap (w - c.1))) (0, (0, 0))).2).1)) true).set (Int.toNat (((c.2.1.2.getD (Int.toNat (IntKind.i64.wrap (w - c.1))) (0, (0, 0))).2).2)) true)) r (IntKind.i64.wrap (w - 1))).bind fun r => some r
else none
else none
else none
else none
else 
(spec_l4Cone_L2 c (in_.1, (in_.2.set (Int.toNat (((c.2.1.2.getD (Int.toNat (IntKind.i64.wrap (w - c.1))) (0, (0, 0))).2).1)) true)) r (IntKind.i64.wrap (w - 1))).bind fun r => some r
else none
else none
else none
else none
else none
else none
else 
(spec_l4Cone_L2 c (in_.1, in_.2) r (IntKind.i64.wrap (w - 1))).bind fun r => some r
else none
else none
else 
(spec_l4Cone_L2 c (in_.1, in_.2) r (IntKind.i64.wrap (w - 1))).bind fun r => some r
else none
else none
else 
 some ((in_.1, in_.2), out) := Eq.trans (inf_loop_eq (H := H) 68 2 (loopCode Try.f68 2) (c, (in_, (out, w))) key_spec_l4Cone) (by kernel_rfl)
theorem spec_l4Cone_eq (c : DCircuit) (wires : Bool × List Int) : spec_l4Cone c wires =
(spec_l4Wires c).bind fun r =>
 bif decide (0 ≤ r) then
 bif decide (r ≤ lim) then
 bif decide (r ≤ r) then
 bif decide (r ≤ lim) then
(spec_l4Cone_L0 c (false, (List.replicate (Int.toNat r) (false : Bool))) wires (wires.2.length : Int) 0).bind fun r1 =>
(spec_l4Cone_L2 c (r1.1, r1.2) (true, []) (IntKind.i64.wrap ((r1.2.length : Int) - 1))).bind fun r2 =>
 some r2.2
else none
else none
else none
else none := Eq.trans (inf_call_eq (H := H) 68 (c, wires)) (by kernel_rfl)
theorem spec_l1Has_L0_eq (n : Int) (t7 : Bool × List Int) (t8 : Int) (t9 : Int) : spec_l1Has_L0 n t7 t8 t9 =
 bif decide (t9 < t8) then
 bif decide (0 ≤ t9) then
 bif decide (t9 < (t7.2.length : Int)) then
 bif ((t7.2.getD (Int.toNat t9) 0) == n) then
 some (.inl true)
else 
(spec_l1Has_L0 n t7 t8 (IntKind.i64.wrap (t9 + 1))).bind fun r => some r
else none
else none
else 
 some (.inr ()) := Eq.trans (inf_loop_eq (H := H) 59 0 (loopCode Try.f59 0) (n, (t7, (t8, t9))) key_spec_l1Has) (by kernel_rfl)
theorem spec_l1Has_eq (l : Bool × List Int) (n : Int) : spec_l1Has l n =
(spec_l1Has_L0 n l (l.2.length : Int) 0).bind fun r =>
 match r with
| .inl y =>
 some y
| .inr z =>
 some false := Eq.trans (inf_call_eq (H := H) 59 (l, n)) (by kernel_rfl)
theorem spec_PruneCircuit_L0_eq (c : DCircuit) (t2 : DCircuit) (out : DCircuit) (at_ : Bool × List Int) (w : Int) : spec_PruneCircuit_L0 c t2 out at_ w =
 bif decide (w < c.1) then
 bif decide (0 ≤ w) then
 bif decide (w < (at_.2.length : Int)) then
(spec_PruneCircuit_L0 c t2 out (at_.1, (at_.2.set (Int.toNat w) w)) (IntKind.i64.wrap (w + 1))).bind fun r => some r
else none
else none
else 
 some (at_.1, at_.2) := Eq.trans (inf_loop_eq (H := H) 30 0 (loopCode Try.f30 0) (c, (t2, (out, (at_, w)))) key_spec_PruneCircuit) (by kernel_rfl)
theorem spec_PruneCircuit_L2_eq (c : DCircuit) (t2 : DCircuit) (out_0 : Int) (out_1 : Bool × List DGate) (out_2 : Bool × List Int) (at_ : Bool × List Int) (cone : Bool × List Int) (t37 : Bool × List DGate) (t38 : Int) (t39 : Int) : spec_PruneCircuit_L2 c t2 out_0 out_1 out_2 at_ cone t37 t38 t39 =
 bif decide (t39 < t38) then
 bif decide (0 ≤ t39) then
 bif decide (t39 < (t37.2.length : Int)) then
(spec_l1Has cone (IntKind.i64.wrap (c.1 + t39))).bind fun r =>
 bif !r then
(spec_PruneCircuit_L2 c t2 out_0 (out_1.1, out_1.2) (out_2.1, out_2.2) (at_.1, at_.2) cone t37 t38 (IntKind.i64.wrap (t39 + 1))).bind fun r => some r
else 
 bif (((t37.2.getD (Int.toNat t39) (0, (0, 0))).1) != 1) then
 bif decide (0 ≤ (((t37.2.getD (Int.toNat t39) (0, (0, 0))).2).1)) then
 bif decide ((((t37.2.getD (Int.toNat t39) (0, (0, 0))).2).1) < (at_.2.length : Int)) then
 bif decide (((t37.2.getD (Int.toNat t39) (0, (0, 0))).1) > 2) then
 bif decide (0 ≤ (((t37.2.getD (Int.toNat t39) (0, (0, 0))).2).2)) then
 bif decide ((((t37.2.getD (Int.toNat t39) (0, (0, 0))).2).2) < (at_.2.length : Int)) then
(spec_l4Wires (out_0, ((out_1.1, out_1.2), (out_2.1, out_2.2)))).bind fun r1 =>
 bif decide (0 ≤ (IntKind.i64.wrap (c.1 + t39))) then
 bif decide ((IntKind.i64.wrap (c.1 + t39)) < (at_.2.length : Int)) then
 bif decide (out_1.2.length + [((t37.2.getD (Int.toNat t39) (0, (0, 0))).1, ((at_.2.getD (Int.toNat (((t37.2.getD (Int.toNat t39) (0, (0, 0))).2).1)) 0), (at_.2.getD (Int.toNat (((t37.2.getD (Int.toNat t39) (0, (0, 0))).2).2)) 0)))].length ≤ lim) then
(spec_PruneCircuit_L2 c t2 out_0 ((out_1.1 && false), (out_1.2 ++ [((t37.2.getD (Int.toNat t39) (0, (0, 0))).1, ((at_.2.getD (Int.toNat (((t37.2.getD (Int.toNat t39) (0, (0, 0))).2).1)) 0), (at_.2.getD (Int.toNat (((t37.2.getD (Int.toNat t39) (0, (0, 0))).2).2)) 0)))])) (out_2.1, out_2.2) (at_.1, (at_.2.set (Int.toNat (IntKind.i64.wrap (c.1 + t39))) r1)) cone t37 t38 (IntKind.i64.wrap (t39 + 1))).bind fun r => some r
else none
else none
else none
else none
else none
else 
(spec_l4Wires (out_0, ((out_1.1, out_1.2), (out_2.1, out_2.2)))).bind fun r2 =>
 bif decide (0 ≤ (IntKind.i64.wrap (c.1 + t39))) then
 bif decide ((IntKind.i64.wrap (c.1 + t39)) < (at_.2.length : Int)) then
 bif decide (out_1.2.length + [((t37.2.getD (Int.toNat t39) (0, (0, 0))).1, ((at_.2.getD (Int.toNat (((t37.2.getD (Int.toNat t39) (0, (0, 0))).2).1)) 0), ((t37.2.getD (Int.toNat t39) (0, (0, 0))).2).2))].length ≤ lim) then
(spec_PruneCircuit_L2 c t2 out_0 ((out_1.1 && false), (out_1.2 ++ [((t37.2.getD (Int.toNat t39) (0, (0, 0))).1, ((at_.2.getD (Int.toNat (((t37.2.getD (Int.toNat t39) (0, (0, 0))).2).1)) 0), ((t37.2.getD (Int.toNat t39) (0, (0, 0))).2).2))])) (out_2.1, out_2.2) (at_.1, (at_.2.set (Int.toNat (IntKind.i64.wrap (c.1 + t39))) r2)) cone t37 t38 (IntKind.i64.wrap (t39 + 1))).bind fun r => some r
else none
else none
else none
else none
else none
else 
 bif decide (((t37.2.getD (Int.toNat t39) (0, (0, 0))).1) > 2) then
 bif decide (0 ≤ (((t37.2.getD (Int.toNat t39) (0, (0, 0))).2).2)) then
 bif decide ((((t37.2.getD (Int.toNat t39) (0, (0, 0))).2).2) < (at_.2.length : Int)) then
(spec_l4Wires (out_0, ((out_1.1, out_1.2), (out_2.1, out_2.2)))).bind fun r3 =>
 bif decide (0 ≤ (IntKind.i64.wrap (c.1 + t39))) then
 bif decide ((IntKind.i64.wrap (c.1 + t39)) < (at_.2.length : Int)) then
 bif decide (out_1.2.length + [((t37.2.getD (Int.toNat t39) (0, (0, 0))).1, (((t37.2.getD (Int.toNat t39) (0, (0, 0))).2).1, (at_.2.getD (Int.toNat (((t37.2.getD (Int.toNat t39) (0, (0, 0))).2).2)) 0)))].length ≤ lim) then
(spec_PruneCircuit_L2 c t2 out_0 ((out_1.1 && false), (out_1.2 ++ [((t37.2.getD (Int.toNat t39) (0, (0, 0))).1, (((t37.2.getD (Int.toNat t39) (0, (0, 0))).2).1, (at_.2.getD (Int.toNat (((t37.2.getD (Int.toNat t39) (0, (0, 0))).2).2)) 0)))])) (out_2.1, out_2.2) (at_.1, (at_.2.set (Int.toNat (IntKind.i64.wrap (c.1 + t39))) r3)) cone t37 t38 (IntKind.i64.wrap (t39 + 1))).bind fun r => some r
else none
else none
else none
else none
else none
else 
(spec_l4Wires (out_0, ((out_1.1, out_1.2), (out_2.1, out_2.2)))).bind fun r4 =>
 bif decide (0 ≤ (IntKind.i64.wrap (c.1 + t39))) then
 bif decide ((IntKind.i64.wrap (c.1 + t39)) < (at_.2.length : Int)) then
 bif decide (out_1.2.length + [(t37.2.getD (Int.toNat t39) (0, (0, 0)))].length ≤ lim) then
(spec_PruneCircuit_L2 c t2 out_0 ((out_1.1 && false), (out_1.2 ++ [(t37.2.getD (Int.toNat t39) (0, (0, 0)))])) (out_2.1, out_2.2) (at_.1, (at_.2.set (Int.toNat (IntKind.i64.wrap (c.1 + t39))) r4)) cone t37 t38 (IntKind.i64.wrap (t39 + 1))).bind fun r => some r
else none
else none
else none
else none
else none
else 
 some ((at_.1, at_.2), (out_0, ((out_1.1, out_1.2), (out_2.1, out_2.2)))) := Eq.trans (inf_loop_eq (H := H) 30 2 (loopCode Try.f30 2) (c, (t2, (out_0, (out_1, (out_2, (at_, (cone, (t37, (t38, t39))))))))) key_spec_PruneCircuit) (by kernel_rfl)
theorem spec_PruneCircuit_L4_eq (t2 : DCircuit) (out_0 : Int) (out_1 : Bool × List DGate) (out_2 : Bool × List Int) (at_ : Bool × List Int) (t85 : Bool × List Int) (t86 : Int) (t87 : Int) : spec_PruneCircuit_L4 t2 out_0 out_1 out_2 at_ t85 t86 t87 =
 bif decide (t87 < t86) then
 bif decide (0 ≤ t87) then
 bif decide (t87 < (t85.2.length : Int)) then
 bif decide (0 ≤ (t85.2.getD (Int.toNat t87) 0)) then
 bif decide ((t85.2.getD (Int.toNat t87) 0) < (at_.2.length : Int)) then
 bif decide (out_2.2.length + [(at_.2.getD (Int.toNat (t85.2.getD (Int.toNat t87) 0)) 0)].length ≤ lim) then
(spec_PruneCircuit_L4 t2 out_0 (out_1.1, out_1.2) ((out_2.1 && false), (out_2.2 ++ [(at_.2.getD (Int.toNat (t85.2.getD (Int.toNat t87) 0)) 0)])) at_ t85 t86 (IntKind.i64.wrap (t87 + 1))).bind fun r => some r
else none
else none
else none
else none
else none
else 
 some (out_0, ((out_1.1, out_1.2), (out_2.1, out_2.2))) := Eq.trans (inf_loop_eq (H := H) 30 4 (loopCode Try.f30 4) (t2, (out_0, (out_1, (out_2, (at_, (t85, (t86, t87))))))) key_spec_PruneCircuit) (by kernel_rfl)
theorem spec_PruneCircuit_eq (c : DCircuit) : spec_PruneCircuit c =
(spec_GoodCircuit c).bind fun r =>
 bif !r then
 some (0, ((true, []), ((true, []), false)))
else 
(spec_l4Wires c).bind fun r1 =>
 bif decide (0 ≤ r1) then
 bif decide (r1 ≤ lim) then
 bif decide (r1 ≤ r1) then
 bif decide (r1 ≤ lim) then
(spec_PruneCircuit_L0 c (0, ((true, []), (true, []))) (c.1, ((true, []), (true, []))) (false, (List.replicate (Int.toNat r1) (0 : Int))) 0).bind fun r2 =>
(spec_l4Cone c c.2.2).bind fun r3 =>
(spec_PruneCircuit_L2 c (0, ((true, []), (true, []))) c.1 (true, []) (true, []) (r2.1, r2.2) r3 c.2.1 (c.2.1.2.length : Int) 0).bind fun r4 =>
(spec_PruneCircuit_L4 (0, ((true, []), (true, []))) r4.2.1 (r4.2.2.1.1, r4.2.2.1.2) (r4.2.2.2.1, r4.2.2.2.2) (r4.1.1, r4.1.2) c.2.2 (c.2.2.2.length : Int) 0).bind fun r5 =>
 some (r5.1, ((r5.2.1.1, r5.2.1.2), ((r5.2.2.1, r5.2.2.2), true)))
else none
else none
else none
else none := Eq.trans (inf_call_eq (H := H) 30 c) (by kernel_rfl)
theorem laws_sameBools_L0_eq (a : Bool × List Bool) (b : Bool × List Bool) (t12 : Int) (t13 : Int) : laws_sameBools_L0 a b t12 t13 =
 bif decide (t13 < t12) then
 bif decide (0 ≤ t13) then
 bif decide (t13 < (a.2.length : Int)) then
 bif decide (0 ≤ t13) then
 bif decide (t13 < (b.2.length : Int)) then
 bif !((a.2.getD (Int.toNat t13) false) == (b.2.getD (Int.toNat t13) false)) then
 some (.inl false)
else 
(laws_sameBools_L0 a b t12 (IntKind.i64.wrap (t13 + 1))).bind fun r => some r
else none
else none
else none
else none
else 
 some (.inr ()) := Eq.trans (inf_loop_eq (H := H) 31 0 (loopCode Try.f31 0) (a, (b, (t12, t13))) key_laws_sameBools) (by kernel_rfl)
theorem laws_sameBools_eq (a : Bool × List Bool) (b : Bool × List Bool) : laws_sameBools a b =
 bif ((a.2.length : Int) != (b.2.length : Int)) then
 some false
else 
(laws_sameBools_L0 a b (a.2.length : Int) 0).bind fun r =>
 match r with
| .inl y =>
 some y
| .inr z =>
 some true := Eq.trans (inf_call_eq (H := H) 31 (a, b)) (by kernel_rfl)
theorem laws_sameInts_L0_eq (a : Bool × List Int) (b : Bool × List Int) (t12 : Int) (t13 : Int) : laws_sameInts_L0 a b t12 t13 =
 bif decide (t13 < t12) then
 bif decide (0 ≤ t13) then
 bif decide (t13 < (a.2.length : Int)) then
 bif decide (0 ≤ t13) then
 bif decide (t13 < (b.2.length : Int)) then
 bif ((a.2.getD (Int.toNat t13) 0) != (b.2.getD (Int.toNat t13) 0)) then
 some (.inl false)
else 
(laws_sameInts_L0 a b t12 (IntKind.i64.wrap (t13 + 1))).bind fun r => some r
else none
else none
else none
else none
else 
 some (.inr ()) := Eq.trans (inf_loop_eq (H := H) 13 0 (loopCode Try.f13 0) (a, (b, (t12, t13))) key_laws_sameInts) (by kernel_rfl)
theorem laws_sameInts_eq (a : Bool × List Int) (b : Bool × List Int) : laws_sameInts a b =
 bif ((a.2.length : Int) != (b.2.length : Int)) then
 some false
else 
(laws_sameInts_L0 a b (a.2.length : Int) 0).bind fun r =>
 match r with
| .inl y =>
 some y
| .inr z =>
 some true := Eq.trans (inf_call_eq (H := H) 13 (a, b)) (by kernel_rfl)
theorem laws_sameCircuit_L0_eq (a : DCircuit) (b : DCircuit) (t30 : Int) (t31 : Int) : laws_sameCircuit_L0 a b t30 t31 =
 bif decide (t31 < t30) then
 bif decide (0 ≤ t31) then
 bif decide (t31 < (a.2.1.2.length : Int)) then
 bif decide (0 ≤ t31) then
 bif decide (t31 < (b.2.1.2.length : Int)) then
 bif !((((a.2.1.2.getD (Int.toNat t31) (0, (0, 0))).1) == ((b.2.1.2.getD (Int.toNat t31) (0, (0, 0))).1)) && (((((a.2.1.2.getD (Int.toNat t31) (0, (0, 0))).2).1) == (((b.2.1.2.getD (Int.toNat t31) (0, (0, 0))).2).1)) && ((((a.2.1.2.getD (Int.toNat t31) (0, (0, 0))).2).2) == (((b.2.1.2.getD (Int.toNat t31) (0, (0, 0))).2).2)))) then
 some (.inl false)
else 
(laws_sameCircuit_L0 a b t30 (IntKind.i64.wrap (t31 + 1))).bind fun r => some r
else none
else none
else none
else none
else 
 some (.inr ()) := Eq.trans (inf_loop_eq (H := H) 32 0 (loopCode Try.f32 0) (a, (b, (t30, t31))) key_laws_sameCircuit) (by kernel_rfl)
theorem laws_sameCircuit_eq (a : DCircuit) (b : DCircuit) : laws_sameCircuit a b =
 bif (a.1 != b.1) then
 some false
else 
 bif ((a.2.1.2.length : Int) != (b.2.1.2.length : Int)) then
 some false
else 
(laws_sameInts a.2.2 b.2.2).bind fun r =>
 bif !r then
 some false
else 
(laws_sameCircuit_L0 a b (a.2.1.2.length : Int) 0).bind fun r1 =>
 match r1 with
| .inl y =>
 some y
| .inr z =>
 some true := Eq.trans (inf_call_eq (H := H) 32 (a, b)) (by kernel_rfl)
theorem spec_DrawConeOf_eq (code : Bool × List Int) : spec_DrawConeOf code =
(spec_l1Cur_circuit (code, (0, 0))).bind fun r =>
(spec_l4Wires (r.2.1, ((r.2.2.1.1, r.2.2.1.2), (r.2.2.2.1, r.2.2.2.2)))).bind fun r1 =>
(spec_l1Cur_pick r.1 (IntKind.i64.wrap (r1 + 2))).bind fun r2 =>
 some (r.2.1, ((r.2.2.1.1, r.2.2.1.2), ((r.2.2.2.1, r.2.2.2.2), IntKind.i64.wrap (r2.2 - 1)))) := Eq.trans (inf_call_eq (H := H) 33 code) (by kernel_rfl)
theorem impl_ConeOf_L0_eq (out : Bool × List Int) (t24 : Bool × List Bool) (t25 : Int) (t26 : Int) : impl_ConeOf_L0 out t24 t25 t26 =
 bif decide (t26 < t25) then
 bif decide (0 ≤ t26) then
 bif decide (t26 < (t24.2.length : Int)) then
 bif (t24.2.getD (Int.toNat t26) false) then
 bif decide (out.2.length + [t26].length ≤ lim) then
(impl_ConeOf_L0 ((out.1 && false), (out.2 ++ [t26])) t24 t25 (IntKind.i64.wrap (t26 + 1))).bind fun r => some r
else none
else 
(impl_ConeOf_L0 (out.1, out.2) t24 t25 (IntKind.i64.wrap (t26 + 1))).bind fun r => some r
else none
else none
else 
 some (out.1, out.2) := Eq.trans (inf_loop_eq (H := H) 34 0 (loopCode Try.f34 0) (out, (t24, (t25, t26))) key_impl_ConeOf) (by kernel_rfl)
theorem impl_ConeOf_eq (c : DCircuit) (wire : Int) : impl_ConeOf c wire =
(impl_GoodCircuit c).bind fun r =>
 bif !r then
 some ((true, []), false)
else 
(impl_Circuit_wires c).bind fun r1 =>
(impl_areWiresBelow (false, [wire]) r1).bind fun r2 =>
 bif !r2 then
 some ((true, []), false)
else 
(impl_Circuit_coneOf c (false, [wire])).bind fun r3 =>
(impl_ConeOf_L0 (false, []) (r3.1, r3.2) (r3.2.length : Int) 0).bind fun r4 =>
 some ((r4.1, r4.2), true) := Eq.trans (inf_call_eq (H := H) 34 (c, wire)) (by kernel_rfl)
theorem spec_ConeOf_eq (c : DCircuit) (wire : Int) : spec_ConeOf c wire =
(spec_GoodCircuit c).bind fun r =>
 bif !r then
 some ((true, []), false)
else 
(spec_l4Wires c).bind fun r1 =>
(spec_l1In wire 0 (IntKind.i64.wrap (r1 - 1))).bind fun r2 =>
 bif !r2 then
 some ((true, []), false)
else 
(spec_l4Cone c (false, [wire])).bind fun r3 =>
 some (r3, true) := Eq.trans (inf_call_eq (H := H) 35 (c, wire)) (by kernel_rfl)
theorem laws_has_L0_eq (n : Int) (t7 : Bool × List Int) (t8 : Int) (t9 : Int) : laws_has_L0 n t7 t8 t9 =
 bif decide (t9 < t8) then
 bif decide (0 ≤ t9) then
 bif decide (t9 < (t7.2.length : Int)) then
 bif ((t7.2.getD (Int.toNat t9) 0) == n) then
 some (.inl true)
else 
(laws_has_L0 n t7 t8 (IntKind.i64.wrap (t9 + 1))).bind fun r => some r
else none
else none
else 
 some (.inr ()) := Eq.trans (inf_loop_eq (H := H) 14 0 (loopCode Try.f14 0) (n, (t7, (t8, t9))) key_laws_has) (by kernel_rfl)
theorem laws_has_eq (l : Bool × List Int) (n : Int) : laws_has l n =
(laws_has_L0 n l (l.2.length : Int) 0).bind fun r =>
 match r with
| .inl y =>
 some y
| .inr z =>
 some false := Eq.trans (inf_call_eq (H := H) 14 (l, n)) (by kernel_rfl)
theorem laws_within_L0_eq (in_ : Bool × List Int) (t7 : Bool × List Int) (t8 : Int) (t9 : Int) : laws_within_L0 in_ t7 t8 t9 =
 bif decide (t9 < t8) then
 bif decide (0 ≤ t9) then
 bif decide (t9 < (t7.2.length : Int)) then
(laws_has in_ (t7.2.getD (Int.toNat t9) 0)).bind fun r =>
 bif !r then
 some (.inl false)
else 
(laws_within_L0 in_ t7 t8 (IntKind.i64.wrap (t9 + 1))).bind fun r => some r
else none
else none
else 
 some (.inr ()) := Eq.trans (inf_loop_eq (H := H) 36 0 (loopCode Try.f36 0) (in_, (t7, (t8, t9))) key_laws_within) (by kernel_rfl)
theorem laws_within_eq (some_ : Bool × List Int) (in_ : Bool × List Int) : laws_within some_ in_ =
(laws_within_L0 in_ some_ (some_.2.length : Int) 0).bind fun r =>
 match r with
| .inl y =>
 some y
| .inr z =>
 some true := Eq.trans (inf_call_eq (H := H) 36 (some_, in_)) (by kernel_rfl)
theorem laws_FnPruned_L0_eq (u : DCircuit) (l : Bool × List Int) (t148 : Bool × List Int) (t149 : Int) (t150 : Int) : laws_FnPruned_L0 u l t148 t149 t150 =
 bif decide (t150 < t149) then
 bif decide (0 ≤ t150) then
 bif decide (t150 < (t148.2.length : Int)) then
(impl_ConeOf u (t148.2.getD (Int.toNat t150) 0)).bind fun r =>
 bif !r.2 then
 some (.inl false)
else 
(laws_within (r.1.1, r.1.2) l).bind fun r1 =>
 bif !r1 then
 some (.inl false)
else 
(laws_FnPruned_L0 u l t148 t149 (IntKind.i64.wrap (t150 + 1))).bind fun r => some r
else none
else none
else 
 some (.inr ()) := Eq.trans (inf_loop_eq (H := H) 5 0 (loopCode Try.f5 0) (u, (l, (t148, (t149, t150)))) key_laws_FnPruned) (by kernel_rfl)
theorem laws_FnPruned_eq (code : Bool × List Int) (more : Bool × List Int) : laws_FnPruned code more =
(laws_big code more).bind fun r =>
 bif r then
 some true
else 
(spec_DrawRunCircuit code).bind fun r1 =>
(impl_RunCircuit (r1.1, ((r1.2.1.1, r1.2.1.2), (r1.2.2.1.1, r1.2.2.1.2))) (r1.2.2.2.1, r1.2.2.2.2)).bind fun r2 =>
(spec_RunCircuit (r1.1, ((r1.2.1.1, r1.2.1.2), (r1.2.2.1.1, r1.2.2.1.2))) (r1.2.2.2.1, r1.2.2.2.2)).bind fun r3 =>
(impl_PruneCircuit (r1.1, ((r1.2.1.1, r1.2.1.2), (r1.2.2.1.1, r1.2.2.1.2)))).bind fun r4 =>
(spec_PruneCircuit (r1.1, ((r1.2.1.1, r1.2.1.2), (r1.2.2.1.1, r1.2.2.1.2)))).bind fun r5 =>
 bif !(r2.2 == r3.2) then
 some false
else 
(laws_sameBools (r2.1.1, r2.1.2) (r3.1.1, r3.1.2)).bind fun r6 =>
 bif !r6 then
 some false
else 
 bif !(r4.2.2.2 == r5.2.2.2) then
 some false
else 
(laws_sameCircuit (r4.1, ((r4.2.1.1, r4.2.1.2), (r4.2.2.1.1, r4.2.2.1.2))) (r5.1, ((r5.2.1.1, r5.2.1.2), (r5.2.2.1.1, r5.2.2.1.2)))).bind fun r7 =>
 bif !r7 then
 some false
else 
 bif r2.2 then
(impl_RunCircuit (r4.1, ((r4.2.1.1, r4.2.1.2), (r4.2.2.1.1, r4.2.2.1.2))) (r1.2.2.2.1, r1.2.2.2.2)).bind fun r8 =>
(impl_PruneCircuit (r4.1, ((r4.2.1.1, r4.2.1.2), (r4.2.2.1.1, r4.2.2.1.2)))).bind fun r9 =>
 bif !r4.2.2.2 then
 some false
else 
 bif !r8.2 then
 some false
else 
 bif !r9.2.2.2 then
 some false
else 
(laws_sameBools (r8.1.1, r8.1.2) (r2.1.1, r2.1.2)).bind fun r10 =>
 bif !r10 then
 some false
else 
(laws_sameCircuit (r9.1, ((r9.2.1.1, r9.2.1.2), (r9.2.2.1.1, r9.2.2.1.2))) (r4.1, ((r4.2.1.1, r4.2.1.2), (r4.2.2.1.1, r4.2.2.1.2)))).bind fun r11 =>
 bif !r11 then
 some false
else 
 bif decide ((r4.2.1.2.length : Int) > (r1.2.1.2.length : Int)) then
 some false
else 
(spec_DrawConeOf more).bind fun r12 =>
(impl_ConeOf (r12.1, ((r12.2.1.1, r12.2.1.2), (r12.2.2.1.1, r12.2.2.1.2))) r12.2.2.2).bind fun r13 =>
(spec_ConeOf (r12.1, ((r12.2.1.1, r12.2.1.2), (r12.2.2.1.1, r12.2.2.1.2))) r12.2.2.2).bind fun r14 =>
 bif !(r13.2 == r14.2) then
 some false
else 
(laws_sameInts (r13.1.1, r13.1.2) r14.1).bind fun r15 =>
 bif !r15 then
 some false
else 
(laws_FnPruned_L0 (r12.1, ((r12.2.1.1, r12.2.1.2), (r12.2.2.1.1, r12.2.2.1.2))) (r13.1.1, r13.1.2) (r13.1.1, r13.1.2) (r13.1.2.length : Int) 0).bind fun r16 =>
 match r16 with
| .inl y =>
 some y
| .inr z =>
 some true
else 
(spec_DrawConeOf more).bind fun r17 =>
(impl_ConeOf (r17.1, ((r17.2.1.1, r17.2.1.2), (r17.2.2.1.1, r17.2.2.1.2))) r17.2.2.2).bind fun r18 =>
(spec_ConeOf (r17.1, ((r17.2.1.1, r17.2.1.2), (r17.2.2.1.1, r17.2.2.1.2))) r17.2.2.2).bind fun r19 =>
 bif !(r18.2 == r19.2) then
 some false
else 
(laws_sameInts (r18.1.1, r18.1.2) r19.1).bind fun r20 =>
 bif !r20 then
 some false
else 
(laws_FnPruned_L0 (r17.1, ((r17.2.1.1, r17.2.1.2), (r17.2.2.1.1, r17.2.2.1.2))) (r18.1.1, r18.1.2) (r18.1.1, r18.1.2) (r18.1.2.length : Int) 0).bind fun r21 =>
 match r21 with
| .inl y1 =>
 some y1
| .inr z1 =>
 some true := Eq.trans (inf_call_eq (H := H) 5 (code, more)) (by kernel_rfl)
theorem fit : Fit Try.prog H := fit_of (exts := extsL) (tys := tysL) (cells := cellsL) (keys := keysL) (mtys := mtysL) rfl rfl rfl rfl rfl (iters := itersL) rfl (by kernel_rfl) (by kernel_rfl) (by kernel_rfl) ⟨⟨Try.func7, by kernel_rfl, by kernel_rfl⟩, ⟨Try.func100, by kernel_rfl, by kernel_rfl⟩, ⟨Try.func70, by kernel_rfl, by kernel_rfl⟩, ⟨Try.func67, by kernel_rfl, by kernel_rfl⟩, ⟨Try.func98, by kernel_rfl, by kernel_rfl⟩, ⟨Try.func99, by kernel_rfl, by kernel_rfl⟩, ⟨Try.func69, by kernel_rfl, by kernel_rfl⟩, ⟨Try.func80, by kernel_rfl, by kernel_rfl⟩, ⟨Try.func90, by kernel_rfl, by kernel_rfl⟩, ⟨Try.func60, by kernel_rfl, by kernel_rfl⟩, ⟨Try.func26, by kernel_rfl, by kernel_rfl⟩, ⟨Try.func95, by kernel_rfl, by kernel_rfl⟩, ⟨Try.func102, by kernel_rfl, by kernel_rfl⟩, ⟨Try.func82, by kernel_rfl, by kernel_rfl⟩, ⟨Try.func101, by kernel_rfl, by kernel_rfl⟩, ⟨Try.func71, by kernel_rfl, by kernel_rfl⟩, ⟨Try.func93, by kernel_rfl, by kernel_rfl⟩, ⟨Try.func65, by kernel_rfl, by kernel_rfl⟩, ⟨Try.func63, by kernel_rfl, by kernel_rfl⟩, ⟨Try.func116, by kernel_rfl, by kernel_rfl⟩, ⟨Try.func91, by kernel_rfl, by kernel_rfl⟩, ⟨Try.func61, by kernel_rfl, by kernel_rfl⟩, ⟨Try.func27, by kernel_rfl, by kernel_rfl⟩, ⟨Try.func58, by kernel_rfl, by kernel_rfl⟩, ⟨Try.func96, by kernel_rfl, by kernel_rfl⟩, ⟨Try.func97, by kernel_rfl, by kernel_rfl⟩, ⟨Try.func66, by kernel_rfl, by kernel_rfl⟩, ⟨Try.func92, by kernel_rfl, by kernel_rfl⟩, ⟨Try.func62, by kernel_rfl, by kernel_rfl⟩, ⟨Try.func28, by kernel_rfl, by kernel_rfl⟩, ⟨Try.func64, by kernel_rfl, by kernel_rfl⟩, ⟨Try.func29, by kernel_rfl, by kernel_rfl⟩, ⟨Try.func79, by kernel_rfl, by kernel_rfl⟩, ⟨Try.func68, by kernel_rfl, by kernel_rfl⟩, ⟨Try.func59, by kernel_rfl, by kernel_rfl⟩, ⟨Try.func30, by kernel_rfl, by kernel_rfl⟩, ⟨Try.func31, by kernel_rfl, by kernel_rfl⟩, ⟨Try.func13, by kernel_rfl, by kernel_rfl⟩, ⟨Try.func32, by kernel_rfl, by kernel_rfl⟩, ⟨Try.func33, by kernel_rfl, by kernel_rfl⟩, ⟨Try.func34, by kernel_rfl, by kernel_rfl⟩, ⟨Try.func35, by kernel_rfl, by kernel_rfl⟩, ⟨Try.func14, by kernel_rfl, by kernel_rfl⟩, ⟨Try.func36, by kernel_rfl, by kernel_rfl⟩, ⟨Try.func5, by kernel_rfl, by kernel_rfl⟩, trivial⟩ ⟨back94, trivial⟩ ⟨⟨tyGate, by kernel_rfl, iter117⟩, trivial⟩ (by kernel_rfl)
theorem nats : NatOk Try.prog H := nat_of (keys := keysL) rfl ⟨.plain rfl, .plain rfl, .plain rfl, .plain rfl, .plain rfl, .plain rfl, .plain rfl, .plain rfl, .plain rfl, .plain rfl, .plain rfl, .plain rfl, .plain rfl, .plain rfl, .plain rfl, .plain rfl, .plain rfl, .plain rfl, .plain rfl, .plain rfl, .plain rfl, .plain rfl, .plain rfl, .plain rfl, .plain rfl, .plain rfl, .plain rfl, .plain rfl, .plain rfl, .plain rfl, .plain rfl, .plain rfl, .plain rfl, .plain rfl, .plain rfl, .plain rfl, .plain rfl, .plain rfl, .plain rfl, .plain rfl, .plain rfl, .plain rfl, .plain rfl, .plain rfl, .plain rfl, trivial⟩
end Go.Proofs.Ytnnoohfloniinaa.R
