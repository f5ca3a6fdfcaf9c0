/- Kinds, signatures and loops of the functions that the laws J77, and what each computes. -/
import Derived.Test.YtnnoohfloniinaaRfD
import Derived.Test.YtnnoohfloniinaaProg
import Derived.KernelRfl
set_option linter.unusedVariables false
namespace Go.Proofs.Ytnnoohfloniinaa.R
open Go.Rf Go.Proofs
def tyl1Cur : Ty := (.pair (.sl (.int .u8)) (.pair (.int .i64) (.int .u64)))
abbrev Dl1Cur := (Bool × List Int) × Int × Int
def tyGate : Ty := (.pair (.int .i64) (.pair (.int .i64) (.int .i64)))
abbrev DGate := Int × Int × Int
def tyboundsError : Ty := (.pair (.int .i64) (.pair (.int .i64) (.pair .bool (.int .u8))))
abbrev DboundsError := Int × Int × Bool × Int
def tyGraph : Ty := (.one (.sl (.sl (.int .i64))))
abbrev DGraph := Bool × List (Bool × List Int)
def tyl11Walk : Ty := (.pair (.sl (.sl (.int .i64))) (.pair (.sl .bool) (.sl (.int .i64))))
abbrev Dl11Walk := (Bool × List (Bool × List Int)) × (Bool × List Bool) × Bool × List Int
def tyCircuit : Ty := (.pair (.int .i64) (.pair (.sl tyGate) (.sl (.int .i64))))
abbrev DCircuit := Int × (Bool × List DGate) × Bool × List Int
def tytarjan : Ty := (.pair (.sl (.sl (.int .i64))) (.pair (.sl (.int .i64)) (.pair (.sl (.int .i64)) (.pair (.sl (.int .i64)) (.pair (.sl (.int .i64)) (.int .i64))))))
abbrev Dtarjan := (Bool × List (Bool × List Int)) × (Bool × List Int) × (Bool × List Int) × (Bool × List Int) × (Bool × List Int) × Int
def s0 : SS := .v (.int .i64)
def s1 : SS := .v (.sl (.sl (.int .i64)))
def s2 : SS := .v (.sl (.int .i64))
def s3 : SS := .tup (.v .bool) .unit
def s4 : SS := .tup s0 .unit
def s5 : SS := .tup (.v (.int .u64)) (.tup (.v (.int .u64)) .unit)
def s6 : SS := .v (.sl (.int .u8))
def s7 : SS := .tup (.v tyGraph) .unit
def s8 : SS := .tup s2 .unit
def s9 : SS := .v tyl1Cur
noncomputable def F14H : FnH := ⟨7, Try.f7, (.tup s6 (.tup s6 .unit)), s3, [], [], [], [], [], none⟩
noncomputable def FuH : FnH := ⟨100, Try.f100, (.tup (.box 206849 (.pair s6 (.pair s0 (.v (.int .u64))))) .unit), (.tup (.box 206849 s9) s4), [206849], [], [], [], [], none⟩
noncomputable def FqH : FnH := ⟨70, Try.f70, (.tup (.box 206850 s9) s4), (.tup (.box 206850 s9) s4), [206850], [], [], [], [], none⟩
noncomputable def FkH : FnH := ⟨79, Try.f79, (.tup (.own 206855 (.int .i64) true) s4), (.tup .any (.tup (.own 206856 (.int .i64) true) .unit)), [206855], [], [(0, ⟨[(0, s2), (1, s0), (5, s0)], [(.exit 0, [(5, s0)])], [0, 1]⟩)], [], [], none⟩
noncomputable def F3H : FnH := ⟨43, Try.f43, (.tup (.box 206851 s9) .unit), (.tup (.box 206851 s9) (.tup (.one (.own 206869 (.sl (.int .i64)) true)) .unit)), [206851], [], [(0, ⟨[(0, (.box 206852 s9)), (3, s0), (4, (.box 206860 (.one (.own 206861 (.sl (.int .i64)) true)))), (5, s0)], [(.exit 0, [(2206852, (.box 206852 s9)), (2206860, (.box 206860 (.one (.own 206865 (.sl (.int .i64)) true))))])], [0, 2, 3, 4]⟩), (2, ⟨[(0, (.box 206854 s9)), (3, s0), (5, s0), (6, (.own 206853 (.int .i64) true)), (7, s0)], [(.exit 2, [(2206854, (.box 206854 s9)), (6, (.own 206858 (.int .i64) true))])], [0, 3, 4, 5]⟩), (5, ⟨[(0, (.box 206871 s9)), (4, (.box 206873 (.one (.own 206874 (.sl (.int .i64)) true))))], [(.exit 5, [(2206871, (.box 206871 s9)), (2206873, (.box 206873 (.one (.own 206877 (.sl (.int .i64)) true))))])], [2, 4]⟩)], [], [], none⟩
noncomputable def FzH : FnH := ⟨52, Try.f52, (.tup s6 .unit), (.tup (.one (.own 206879 (.sl (.int .i64)) true)) .unit), [], [], [], [], [], none⟩
noncomputable def F18H : FnH := ⟨15, Try.f15, (.tup s6 .unit), (.tup (.one (.own 206880 (.sl (.int .i64)) true)) .unit), [], [], [], [], [], none⟩
noncomputable def FbH : FnH := ⟨46, Try.f46, (.tup s2 s4), s3, [], [], [(0, ⟨[(0, s2), (1, s0), (7, s2), (8, s0), (9, s0)], [(.ret, [(4, (.v .bool))]), (.exit 0, [])], []⟩)], [], [], none⟩
noncomputable def FaH : FnH := ⟨21, Try.f21, s7, s3, [], [], [(0, ⟨[(1, (.sp tyGraph)), (3, s0), (11, s1), (12, s0), (13, s0)], [(.ret, [(2, (.v .bool))]), (.exit 0, [(3, s0)])], []⟩)], [], [], none⟩
noncomputable def F10H : FnH := ⟨120, Try.f120, s5, s5, [], [], [], [], [], none⟩
noncomputable def FpH : FnH := ⟨114, Try.f114, s5, s5, [], [], [], [], [], none⟩
noncomputable def FjH : FnH := ⟨86, Try.f86, (.tup s2 s4), (.tup (.own 206882 (.int .i64) true) .unit), [], [], [(0, ⟨[(7, (.own 206881 (.int .i64) true)), (8, s0)], [(.exit 0, [(1206881, (.own 206881 (.int .i64) true))])], [7]⟩)], [], [], none⟩
noncomputable def FeH : FnH := ⟨89, Try.f89, (.tup s2 s4), s4, [], [], [(0, ⟨[(0, s2), (1, s0), (7, s0), (8, s0)], [(.ret, [(4, s0)]), (.exit 0, [])], []⟩)], [], [], none⟩
noncomputable def FmH : FnH := ⟨115, Try.f115, s8, s4, [], [], [(0, ⟨[(0, s2), (3, s0), (4, s0)], [(.exit 0, [(3, s0)])], []⟩)], [], [], none⟩
noncomputable def F4H : FnH := ⟨87, Try.f87, (.tup (.box 206883 (.pair s1 (.pair (.own 206884 (.int .i64) true) (.pair (.own 206885 (.int .i64) true) (.pair (.own 206901 (.int .i64) true) (.pair (.own 206886 (.int .i64) true) s0)))))) s4), (.tup (.box 206883 (.pair s1 (.pair (.own 206891 (.int .i64) true) (.pair (.own 206892 (.int .i64) true) (.pair (.own 206902 (.int .i64) true) (.pair (.own 206893 (.int .i64) true) s0)))))) .unit), [206883], [], [(0, ⟨[(0, (.box 206887 (.pair s1 (.pair (.own 206888 (.int .i64) true) (.pair (.own 206889 (.int .i64) true) (.pair (.own 206900 (.int .i64) true) (.pair (.own 206890 (.int .i64) true) s0))))))), (1, s0), (53, s2), (54, s0), (55, s0)], [(.exit 0, [(2206887, (.box 206887 (.pair s1 (.pair (.own 206903 (.int .i64) true) (.pair (.own 206904 (.int .i64) true) (.pair (.own 206905 (.int .i64) true) (.pair (.own 206906 (.int .i64) true) s0)))))))])], [0, 1]⟩), (2, ⟨[(0, (.box 206897 (.pair s1 (.pair (.own 206907 (.int .i64) true) (.pair (.own 206909 (.int .i64) true) (.pair (.own 206898 (.int .i64) true) (.pair (.own 206912 (.int .i64) true) s0))))))), (6, s0), (7, s0), (154, (.subr 206912 (.int .i64))), (155, s0), (156, s0)], [(.exit 2, [(2206897, (.box 206897 (.pair s1 (.pair (.own 206908 (.int .i64) true) (.pair (.own 206910 (.int .i64) true) (.pair (.own 206898 (.int .i64) true) (.pair (.own 206911 (.int .i64) true) s0)))))))])], [0, 6]⟩)], [], [], none⟩
noncomputable def FfH : FnH := ⟨53, Try.f53, (.tup s1 .unit), (.tup (.own 206922 (.int .i64) true) .unit), [], [], [(0, ⟨[(4, (.box 206913 (.pair s1 (.pair (.own 206914 (.int .i64) true) (.pair (.own 206915 (.int .i64) true) (.pair (.own 206916 (.int .i64) true) (.pair (.own 206917 (.int .i64) true) s0))))))), (19, s0), (20, s0)], [(.exit 0, [(2206913, (.box 206913 (.pair s1 (.pair (.own 206918 (.int .i64) true) (.pair (.own 206919 (.int .i64) true) (.pair (.own 206920 (.int .i64) true) (.pair (.own 206921 (.int .i64) true) s0)))))))])], [4]⟩)], [], [], none⟩
noncomputable def FsH : FnH := ⟨16, Try.f16, s7, (.tup (.own 206923 (.int .i64) true) s3), [], [], [], [], [], none⟩
noncomputable def FvH : FnH := ⟨58, Try.f58, (.tup s0 (.tup s0 s4)), s3, [], [], [], [], [], none⟩
noncomputable def FiH : FnH := ⟨84, Try.f84, (.tup s2 (.tup s0 s4)), s3, [], [], [(0, ⟨[(0, s2), (1, s0), (2, s0), (9, s2), (10, s0), (11, s0)], [(.ret, [(6, (.v .bool))]), (.exit 0, [])], []⟩)], [], [], none⟩
noncomputable def F17H : FnH := ⟨48, Try.f48, (.tup s2 s4), s3, [], [], [], [], [], none⟩
noncomputable def F9H : FnH := ⟨22, Try.f22, s7, s3, [], [], [(0, ⟨[(1, (.sp tyGraph)), (3, s0), (11, s1), (12, s0), (13, s0)], [(.ret, [(2, (.v .bool))]), (.exit 0, [(3, s0)])], []⟩)], [], [], none⟩
noncomputable def FdH : FnH := ⟨88, Try.f88, (.tup (.box 206924 (.pair s1 (.pair (.own 206925 .bool true) (.own 206932 (.int .i64) true)))) s4), (.tup (.box 206924 (.pair s1 (.pair (.own 206926 .bool true) (.own 206933 (.int .i64) true)))) .unit), [206924], [], [(0, ⟨[(0, (.box 206927 (.pair s1 (.pair (.own 206928 .bool true) (.own 206931 (.int .i64) true))))), (1, s0), (25, s2), (26, s0), (27, s0)], [(.exit 0, [(2206927, (.box 206927 (.pair s1 (.pair (.own 206934 .bool true) (.own 206935 (.int .i64) true)))))])], [0, 1]⟩)], [], [], none⟩
noncomputable def F5H : FnH := ⟨56, Try.f56, (.tup s1 .unit), (.tup (.own 206943 (.sl (.int .i64)) true) .unit), [], [], [(0, ⟨[(3, (.own 206942 (.sl (.int .i64)) true)), (11, s1), (12, s0), (13, s0)], [(.exit 0, [(1206942, (.own 206942 (.sl (.int .i64)) true))])], [3]⟩), (2, ⟨[(3, (.own 206941 (.sl (.int .i64)) true)), (4, s0), (11, s1), (12, s0), (13, s0), (18, s2), (19, s0), (20, s0)], [(.exit 2, [(1206941, (.own 206941 (.sl (.int .i64)) true))])], [3, 11, 12, 13]⟩)], [], [], none⟩
noncomputable def F1H : FnH := ⟨54, Try.f54, (.tup s1 .unit), (.tup (.own 206952 (.int .i64) true) .unit), [], [], [(0, ⟨[(0, s1), (3, (.box 206936 (.pair s1 (.pair (.own 206937 .bool true) (.own 206938 (.int .i64) true))))), (20, s0), (21, s0)], [(.exit 0, [(2206936, (.box 206936 (.pair s1 (.pair (.own 206939 .bool true) (.own 206940 (.int .i64) true)))))])], [0, 3]⟩), (2, ⟨[(0, s1), (3, (.sp tyl11Walk)), (5, (.box 206944 (.pair s1 (.pair (.own 206945 .bool true) (.own 206948 (.int .i64) true))))), (6, (.own 206947 (.int .i64) true)), (7, s0)], [(.exit 2, [(1206947, (.own 206947 (.int .i64) true)), (2206944, (.box 206944 (.pair s1 (.pair (.own 206949 .bool true) (.own 206950 (.int .i64) true)))))])], [6]⟩), (4, ⟨[(0, s1), (3, (.sp tyl11Walk)), (5, (.sp tyl11Walk)), (6, s2), (7, s0), (8, s0), (65, s2), (66, s0), (67, s0)], [(.exit 4, [(8, s0)])], [0, 3, 5, 6, 7]⟩), (6, ⟨[(0, s1), (3, (.sp tyl11Walk)), (5, (.sp tyl11Walk)), (6, (.own 206946 (.int .i64) true)), (7, s0), (8, s0), (79, s2), (80, s0), (81, s0)], [(.exit 6, [(1206946, (.own 206946 (.int .i64) true))])], [0, 3, 5, 6, 7]⟩)], [], [], none⟩
noncomputable def F16H : FnH := ⟨17, Try.f17, s7, (.tup (.own 206953 (.int .i64) true) s3), [], [], [], [], [], none⟩
noncomputable def F6H : FnH := ⟨55, Try.f55, (.tup s1 .unit), (.tup (.own 206956 (.sl (.int .i64)) true) .unit), [], [], [(0, ⟨[(3, (.own 206955 (.sl (.int .i64)) true)), (11, s1), (12, s0), (13, s0)], [(.exit 0, [(1206955, (.own 206955 (.sl (.int .i64)) true))])], [3]⟩), (2, ⟨[(3, (.own 206954 (.sl (.int .i64)) true)), (4, s0), (11, s1), (12, s0), (13, s0), (18, s2), (19, s0), (20, s0)], [(.exit 2, [(1206954, (.own 206954 (.sl (.int .i64)) true))])], [3, 11, 12, 13]⟩)], [], [], none⟩
noncomputable def F11H : FnH := ⟨18, Try.f18, s7, (.tup (.one (.own 206957 (.sl (.int .i64)) true)) s3), [], [], [], [], [], none⟩
noncomputable def F1gH : FnH := ⟨19, Try.f19, s7, (.tup (.one (.own 206958 (.sl (.int .i64)) true)) s3), [], [], [], [], [], none⟩
noncomputable def F8H : FnH := ⟨13, Try.f13, (.tup s2 s8), s3, [], [], [(0, ⟨[(0, s2), (1, s2), (12, s0), (13, s0)], [(.ret, [(4, (.v .bool))]), (.exit 0, [])], []⟩)], [], [], none⟩
noncomputable def FlH : FnH := ⟨20, Try.f20, (.tup s1 (.tup s1 .unit)), s3, [], [], [(0, ⟨[(0, s1), (1, s1), (12, s0), (13, s0)], [(.ret, [(4, (.v .bool))]), (.exit 0, [])], []⟩)], [], [], none⟩
noncomputable def FhH : FnH := ⟨23, Try.f23, (.tup s6 .unit), s4, [], [], [(0, ⟨[(3, s0), (6, s6), (7, s0), (8, s0)], [(.exit 0, [(3, s0)])], []⟩)], [], [], none⟩
noncomputable def FwH : FnH := ⟨45, Try.f45, (.tup (.v tyGraph) s8), s3, [], [], [], [], [], none⟩
noncomputable def FxH : FnH := ⟨108, Try.f108, s8, (.tup (.own 206959 (.int .i64) true) .unit), [], [], [], [], [], none⟩
noncomputable def F2H : FnH := ⟨81, Try.f81, (.tup s1 s8), (.tup (.own 206966 (.int .i64) true) .unit), [], [], [(0, ⟨[(0, s1), (5, (.own 206960 (.int .i64) true)), (6, s2), (17, s2), (18, s0), (19, s0)], [(.exit 0, [(1206960, (.own 206960 (.int .i64) true))])], [0, 5, 6]⟩), (2, ⟨[(0, s1), (5, (.own 206964 (.int .i64) true)), (6, (.own 206961 (.int .i64) true))], [(.exit 2, [(1206964, (.own 206964 (.int .i64) true))])], [5]⟩), (4, ⟨[(0, s1), (5, (.own 206963 (.int .i64) true)), (6, (.own 206962 (.int .i64) true)), (37, s2), (38, s0), (39, s0)], [(.exit 4, [(1206963, (.own 206963 (.int .i64) true)), (6, (.own 206965 (.int .i64) true))])], [0, 5]⟩)], [], [], none⟩
noncomputable def FcH : FnH := ⟨50, Try.f50, (.tup s1 s8), (.tup (.own 206969 (.int .i64) true) .unit), [], [], [(0, ⟨[(5, (.own 206967 (.int .i64) true)), (11, s2), (12, s0), (13, s0)], [(.exit 0, [(5, (.own 206968 (.int .i64) true))])], []⟩)], [], [], none⟩
noncomputable def FrH : FnH := ⟨11, Try.f11, (.tup (.v tyGraph) s8), (.tup (.own 206970 (.int .i64) true) s3), [], [], [], [], [], none⟩
noncomputable def F1hH : FnH := ⟨57, Try.f57, (.tup s2 s4), s3, [], [], [], [], [], none⟩
noncomputable def F15H : FnH := ⟨24, Try.f24, (.tup (.v tyGraph) s4), (.tup (.v .bool) s3), [], [], [], [], [], none⟩
noncomputable def F19H : FnH := ⟨113, Try.f113, s8, (.tup (.own 206973 (.int .i64) true) .unit), [], [], [], [], [], none⟩
noncomputable def F0H : FnH := ⟨85, Try.f85, (.tup s1 s8), (.tup (.own 206979 (.int .i64) true) .unit), [], [], [(0, ⟨[(0, s1), (1, s2), (5, (.own 206971 (.int .i64) true)), (17, s0), (18, s0)], [(.exit 0, [(1206971, (.own 206971 (.int .i64) true))])], [0, 1, 5]⟩), (2, ⟨[(0, s1), (1, s2), (5, (.own 206972 (.int .i64) true)), (25, s2), (26, s0), (27, s0)], [(.exit 2, [(1206972, (.own 206972 (.int .i64) true))])], [0, 1, 5]⟩), (4, ⟨[(0, s1), (5, (.own 206977 (.int .i64) true)), (9, (.own 206974 (.int .i64) true))], [(.exit 4, [(1206977, (.own 206977 (.int .i64) true))])], [5]⟩), (6, ⟨[(0, s1), (5, (.own 206976 (.int .i64) true)), (9, (.own 206975 (.int .i64) true)), (10, s0), (48, s2), (49, s0), (50, s0)], [(.exit 6, [(1206976, (.own 206976 (.int .i64) true)), (9, (.own 206978 (.int .i64) true))])], [0, 5]⟩)], [], [], none⟩
noncomputable def FgH : FnH := ⟨51, Try.f51, (.tup s1 s8), (.tup (.own 206982 (.int .i64) true) .unit), [], [], [(0, ⟨[(5, (.own 206980 (.int .i64) true)), (10, s2), (11, s0), (12, s0)], [(.exit 0, [(5, (.own 206981 (.int .i64) true))])], []⟩)], [], [], none⟩
noncomputable def FoH : FnH := ⟨59, Try.f59, (.tup s2 s4), s3, [], [], [(0, ⟨[(1, s0), (7, s2), (8, s0), (9, s0)], [(.ret, [(4, (.v .bool))]), (.exit 0, [])], []⟩)], [], [], none⟩
noncomputable def F1dH : FnH := ⟨25, Try.f25, (.tup (.v tyGraph) s4), (.tup (.v .bool) s3), [], [], [], [], [], none⟩
noncomputable def F7H : FnH := ⟨14, Try.f14, (.tup s2 s4), s3, [], [], [(0, ⟨[(1, s0), (7, s2), (8, s0), (9, s0)], [(.ret, [(4, (.v .bool))]), (.exit 0, [])], []⟩)], [], [], none⟩
noncomputable def F1rH : FnH := ⟨4, Try.f4, (.tup s6 (.tup s6 .unit)), s3, [], [], [], [], [], none⟩
def extsL : List (Nat × ExtF) := []
def tysL : List (Nat × Ty) := [(3, (.int .i64)), (4, .bool), (5, (.int .u8)), (22, (.sl (.int .u8))), (24, (.sl (.sl (.int .i64)))), (26, tyGraph), (27, (.sl (.int .i64))), (47, (.sl .bool)), (67, (.int .u64)), (69, tyl1Cur), (98, tytarjan), (102, tyl11Walk), (123, (.int .u64))]
def nfsL : List (Nat × Nat) := [(26, 1), (69, 3), (98, 6), (102, 3)]
def cellsL : List Nat := []
def mtysL : List (Nat × (Nat × Nat)) := []
noncomputable def keysL : List (Nat × FnH) := [(7, F14H), (100, FuH), (70, FqH), (79, FkH), (43, F3H), (52, FzH), (15, F18H), (46, FbH), (21, FaH), (120, F10H), (114, FpH), (86, FjH), (89, FeH), (115, FmH), (87, F4H), (53, FfH), (16, FsH), (58, FvH), (84, FiH), (48, F17H), (22, F9H), (88, FdH), (56, F5H), (54, F1H), (17, F16H), (55, F6H), (18, F11H), (19, F1gH), (13, F8H), (20, FlH), (23, FhH), (45, FwH), (108, FxH), (81, F2H), (50, FcH), (11, FrH), (57, F1hH), (24, F15H), (113, F19H), (85, F0H), (51, FgH), (59, FoH), (25, F1dH), (14, F7H), (4, F1rH)]
noncomputable def H : Hints := { extF := fun f => J1b extsL f, ty := fun T => J1b tysL T, nf := fun T => match J1b nfsL T with | some n => n | none => 0, cell := fun T => hasN cellsL T, key := fun k => J1b keysL k, mty := fun T => J1b mtysL T }
abbrev DRI := Bool × List (Bool × List Int)
abbrev DLI := Bool × List Int
abbrev DLB := Bool × List Bool
noncomputable def F14 (code : DLI) (more : DLI) : Option Bool := (inf H).call 7 (code, more)
noncomputable def Fu (a0_0 : DLI) (a0_1 : Int) (a0_2 : Int) : Option (Dl1Cur × Int) := (inf H).call 100 (a0_0, (a0_1, a0_2))
noncomputable def Fq (c : Dl1Cur) (n : Int) : Option (Dl1Cur × Int) := (inf H).call 70 (c, n)
noncomputable def Fk (l : DLI) (n : Int) : Option DLI := (inf H).call 79 (l, n)
theorem FkK : H.key 79 = some FkH := by kernel_rfl
noncomputable def F22 (l : DLI) (n : Int) (k_ : Int) : Option Int := (inf H).loop 79 0 (Jc5 Try.f79 0) (l, (n, k_))
noncomputable def F3 (c : Dl1Cur) : Option (Dl1Cur × DRI) := (inf H).call 43 c
theorem F3K : H.key 43 = some F3H := by kernel_rfl
noncomputable def F1z (c : Dl1Cur) (n : Int) (g : DRI) (k_ : Int) : Option (Dl1Cur × DRI) := (inf H).loop 43 0 (Jc5 Try.f43 0) (c, (n, (g, k_)))
noncomputable def F1t (c : Dl1Cur) (n : Int) (k_ : Int) (l : DLI) (m : Int) : Option (Dl1Cur × DLI) := (inf H).loop 43 2 (Jc5 Try.f43 2) (c, (n, (k_, (l, m))))
noncomputable def F29 (c : Dl1Cur) (g : DRI) : Option (Dl1Cur × DRI) := (inf H).loop 43 5 (Jc5 Try.f43 5) (c, g)
noncomputable def Fz (code : DLI) : Option DRI := (inf H).call 52 code
noncomputable def F18 (code : DLI) : Option DRI := (inf H).call 15 code
noncomputable def Fb (list : DLI) (bound : Int) : Option Bool := (inf H).call 46 (list, bound)
theorem FbK : H.key 46 = some FbH := by kernel_rfl
noncomputable def F1f (list : DLI) (bound : Int) (t7 : DLI) (t8 : Int) (t9 : Int) : Option (Bool ⊕ Unit) := (inf H).loop 46 0 (Jc5 Try.f46 0) (list, (bound, (t7, (t8, t9))))
noncomputable def Fa (g : DGraph) : Option Bool := (inf H).call 21 g
theorem FaK : H.key 21 = some FaH := by kernel_rfl
noncomputable def F1j (g : DGraph) (arcs : Int) (t11 : DRI) (t12 : Int) (t13 : Int) : Option (Bool ⊕ Int) := (inf H).loop 21 0 (Jc5 Try.f21 0) (g, (arcs, (t11, (t12, t13))))
noncomputable def F10 (x : Int) (y : Int) : Option (Int × Int) := (inf H).call 120 (x, y)
noncomputable def Fp (x : Int) (y : Int) : Option (Int × Int) := (inf H).call 114 (x, y)
noncomputable def Fj (x : DLI) (count : Int) : Option DLI := (inf H).call 86 (x, count)
theorem FjK : H.key 86 = some FjH := by kernel_rfl
noncomputable def F1p (newslice : DLI) (n : Int) : Option DLI := (inf H).loop 86 0 (Jc5 Try.f86 0) (newslice, n)
noncomputable def Fe (s : DLI) (v : Int) : Option Int := (inf H).call 89 (s, v)
theorem FeK : H.key 89 = some FeH := by kernel_rfl
noncomputable def F26 (s : DLI) (v : Int) (t7 : Int) (t8 : Int) : Option (Int ⊕ Unit) := (inf H).loop 89 0 (Jc5 Try.f89 0) (s, (v, (t7, t8)))
noncomputable def Fm (x : DLI) : Option Int := (inf H).call 115 x
theorem FmK : H.key 115 = some FmH := by kernel_rfl
noncomputable def F1n (x : DLI) (m : Int) (i : Int) : Option Int := (inf H).loop 115 0 (Jc5 Try.f115 0) (x, (m, i))
noncomputable def F4 (a0_0 : DRI) (a0_1 : DLI) (a0_2 : DLI) (a0_3 : DLI) (a0_4 : DLI) (a0_5 : Int) (v : Int) : Option Dtarjan := (inf H).call 87 (a0_0, (a0_1, (a0_2, (a0_3, (a0_4, (a0_5, v))))))
theorem F4K : H.key 87 = some F4H := by kernel_rfl
noncomputable def Ft (t_0 : DRI) (t_1 : DLI) (t_2 : DLI) (t_3 : DLI) (t_4 : DLI) (t_5 : Int) (v : Int) (t53 : DLI) (t54 : Int) (t55 : Int) : Option Dtarjan := (inf H).loop 87 0 (Jc5 Try.f87 0) (t_0, (t_1, (t_2, (t_3, (t_4, (t_5, (v, (t53, (t54, t55)))))))))
noncomputable def F25 (t_0 : DRI) (t_1 : DLI) (t_2 : DLI) (t_3 : DLI) (t_4 : DLI) (t_5 : Int) (k_ : Int) (least : Int) (t154_0 : Int) (t154_1 : Int) (t155 : Int) (t156 : Int) : Option Dtarjan := (inf H).loop 87 2 (Jc5 Try.f87 2) (t_0, (t_1, (t_2, (t_3, (t_4, (t_5, (k_, (least, (t154_0, (t154_1, (t155, t156)))))))))))
noncomputable def Ff (next : DRI) : Option DLI := (inf H).call 53 next
theorem FfK : H.key 53 = some FfH := by kernel_rfl
noncomputable def F1b (t_0 : DRI) (t_1 : DLI) (t_2 : DLI) (t_3 : DLI) (t_4 : DLI) (t_5 : Int) (t19 : Int) (t20 : Int) : Option Dtarjan := (inf H).loop 53 0 (Jc5 Try.f53 0) (t_0, (t_1, (t_2, (t_3, (t_4, (t_5, (t19, t20)))))))
noncomputable def Fs (g : DGraph) : Option (DLI × Bool) := (inf H).call 16 g
noncomputable def Fv (n : Int) (lo : Int) (hi : Int) : Option Bool := (inf H).call 58 (n, (lo, hi))
noncomputable def Fi (l : DLI) (lo : Int) (hi : Int) : Option Bool := (inf H).call 84 (l, (lo, hi))
theorem FiK : H.key 84 = some FiH := by kernel_rfl
noncomputable def Fy (l : DLI) (lo : Int) (hi : Int) (t9 : DLI) (t10 : Int) (t11 : Int) : Option (Bool ⊕ Unit) := (inf H).loop 84 0 (Jc5 Try.f84 0) (l, (lo, (hi, (t9, (t10, t11)))))
noncomputable def F17 (l : DLI) (n : Int) : Option Bool := (inf H).call 48 (l, n)
noncomputable def F9 (g : DGraph) : Option Bool := (inf H).call 22 g
theorem F9K : H.key 22 = some F9H := by kernel_rfl
noncomputable def F1x (g : DGraph) (n : Int) (t11 : DRI) (t12 : Int) (t13 : Int) : Option (Bool ⊕ Int) := (inf H).loop 22 0 (Jc5 Try.f22 0) (g, (n, (t11, (t12, t13))))
noncomputable def Fd (a0_0 : DRI) (a0_1 : DLB) (a0_2 : DLI) (k_ : Int) : Option Dl11Walk := (inf H).call 88 (a0_0, (a0_1, (a0_2, k_)))
theorem FdK : H.key 88 = some FdH := by kernel_rfl
noncomputable def F1i (w_0 : DRI) (w_1 : DLB) (w_2 : DLI) (k_ : Int) (t25 : DLI) (t26 : Int) (t27 : Int) : Option Dl11Walk := (inf H).loop 88 0 (Jc5 Try.f88 0) (w_0, (w_1, (w_2, (k_, (t25, (t26, t27))))))
noncomputable def F5 (next : DRI) : Option DRI := (inf H).call 56 next
theorem F5K : H.key 56 = some F5H := by kernel_rfl
noncomputable def F27 (out : DRI) (t11 : DRI) (t12 : Int) (t13 : Int) : Option DRI := (inf H).loop 56 0 (Jc5 Try.f56 0) (out, (t11, (t12, t13)))
noncomputable def F1u (out : DRI) (k_ : Int) (t11 : DRI) (t12 : Int) (t13 : Int) (t18 : DLI) (t19 : Int) (t20 : Int) : Option DRI := (inf H).loop 56 2 (Jc5 Try.f56 2) (out, (k_, (t11, (t12, (t13, (t18, (t19, t20)))))))
noncomputable def F1 (next : DRI) : Option DLI := (inf H).call 54 next
theorem F1K : H.key 54 = some F1H := by kernel_rfl
noncomputable def F1s (next : DRI) (w_0 : DRI) (w_1 : DLB) (w_2 : DLI) (t20 : Int) (t21 : Int) : Option Dl11Walk := (inf H).loop 54 0 (Jc5 Try.f54 0) (next, (w_0, (w_1, (w_2, (t20, t21)))))
noncomputable def F1w (next : DRI) (w : Dl11Walk) (back_0 : DRI) (back_1 : DLB) (back_2 : DLI) (out : DLI) (i : Int) : Option (DLI × Dl11Walk) := (inf H).loop 54 2 (Jc5 Try.f54 2) (next, (w, (back_0, (back_1, (back_2, (out, i))))))
noncomputable def F12 (next : DRI) (w : Dl11Walk) (back : Dl11Walk) (out : DLI) (i : Int) (least : Int) (t65 : DLI) (t66 : Int) (t67 : Int) : Option Int := (inf H).loop 54 4 (Jc5 Try.f54 4) (next, (w, (back, (out, (i, (least, (t65, (t66, t67))))))))
noncomputable def F1y (next : DRI) (w : Dl11Walk) (back : Dl11Walk) (out : DLI) (i : Int) (least : Int) (t79 : DLI) (t80 : Int) (t81 : Int) : Option DLI := (inf H).loop 54 6 (Jc5 Try.f54 6) (next, (w, (back, (out, (i, (least, (t79, (t80, t81))))))))
noncomputable def F16 (g : DGraph) : Option (DLI × Bool) := (inf H).call 17 g
noncomputable def F6 (g : DRI) : Option DRI := (inf H).call 55 g
theorem F6K : H.key 55 = some F6H := by kernel_rfl
noncomputable def F1o (out : DRI) (t11 : DRI) (t12 : Int) (t13 : Int) : Option DRI := (inf H).loop 55 0 (Jc5 Try.f55 0) (out, (t11, (t12, t13)))
noncomputable def F24 (out : DRI) (v : Int) (t11 : DRI) (t12 : Int) (t13 : Int) (t18 : DLI) (t19 : Int) (t20 : Int) : Option DRI := (inf H).loop 55 2 (Jc5 Try.f55 2) (out, (v, (t11, (t12, (t13, (t18, (t19, t20)))))))
noncomputable def F11 (g : DGraph) : Option (DRI × Bool) := (inf H).call 18 g
noncomputable def F1g (g : DGraph) : Option (DRI × Bool) := (inf H).call 19 g
noncomputable def F8 (a : DLI) (b : DLI) : Option Bool := (inf H).call 13 (a, b)
theorem F8K : H.key 13 = some F8H := by kernel_rfl
noncomputable def F2a (a : DLI) (b : DLI) (t12 : Int) (t13 : Int) : Option (Bool ⊕ Unit) := (inf H).loop 13 0 (Jc5 Try.f13 0) (a, (b, (t12, t13)))
noncomputable def Fl (a : DRI) (b : DRI) : Option Bool := (inf H).call 20 (a, b)
theorem FlK : H.key 20 = some FlH := by kernel_rfl
noncomputable def F23 (a : DRI) (b : DRI) (t12 : Int) (t13 : Int) : Option (Bool ⊕ Unit) := (inf H).loop 20 0 (Jc5 Try.f20 0) (a, (b, (t12, t13)))
noncomputable def Fh (b : DLI) : Option Int := (inf H).call 23 b
theorem FhK : H.key 23 = some FhH := by kernel_rfl
noncomputable def F1k (n : Int) (t6 : DLI) (t7 : Int) (t8 : Int) : Option Int := (inf H).loop 23 0 (Jc5 Try.f23 0) (n, (t6, (t7, t8)))
noncomputable def Fw (g : DGraph) (from_ : DLI) : Option Bool := (inf H).call 45 (g, from_)
noncomputable def Fx (s : DLI) : Option DLI := (inf H).call 108 s
noncomputable def F2 (g : DRI) (some_ : DLI) : Option DLI := (inf H).call 81 (g, some_)
theorem F2K : H.key 81 = some F2H := by kernel_rfl
noncomputable def F21 (g : DRI) (steps : DLI) (open_ : DLI) (t17 : DLI) (t18 : Int) (t19 : Int) : Option DLI := (inf H).loop 81 0 (Jc5 Try.f81 0) (g, (steps, (open_, (t17, (t18, t19)))))
noncomputable def F1v (g : DRI) (steps : DLI) (open_ : DLI) : Option DLI := (inf H).loop 81 2 (Jc5 Try.f81 2) (g, (steps, open_))
noncomputable def F1a (g : DRI) (steps : DLI) (open_ : DLI) (t37 : DLI) (t38 : Int) (t39 : Int) : Option (DLI × DLI) := (inf H).loop 81 4 (Jc5 Try.f81 4) (g, (steps, (open_, (t37, (t38, t39)))))
noncomputable def Fc (g : DRI) (some_ : DLI) : Option DLI := (inf H).call 50 (g, some_)
theorem FcK : H.key 50 = some FcH := by kernel_rfl
noncomputable def F1e (out : DLI) (t11 : DLI) (t12 : Int) (t13 : Int) : Option DLI := (inf H).loop 50 0 (Jc5 Try.f50 0) (out, (t11, (t12, t13)))
noncomputable def Fr (g : DGraph) (from_ : DLI) : Option (DLI × Bool) := (inf H).call 11 (g, from_)
noncomputable def F1h (s : DLI) (v : Int) : Option Bool := (inf H).call 57 (s, v)
noncomputable def F15 (g : DGraph) (n : Int) : Option (Bool × Bool) := (inf H).call 24 (g, n)
noncomputable def F19 (l : DLI) : Option DLI := (inf H).call 113 l
noncomputable def F0 (next : DRI) (from_ : DLI) : Option DLI := (inf H).call 85 (next, from_)
theorem F0K : H.key 85 = some F0H := by kernel_rfl
noncomputable def F20 (next : DRI) (from_ : DLI) (out : DLI) (t17 : Int) (t18 : Int) : Option DLI := (inf H).loop 85 0 (Jc5 Try.f85 0) (next, (from_, (out, (t17, t18))))
noncomputable def F1q (next : DRI) (from_ : DLI) (out : DLI) (t25 : DLI) (t26 : Int) (t27 : Int) : Option DLI := (inf H).loop 85 2 (Jc5 Try.f85 2) (next, (from_, (out, (t25, (t26, t27)))))
noncomputable def F1l (next : DRI) (out : DLI) (row_ : DLI) : Option DLI := (inf H).loop 85 4 (Jc5 Try.f85 4) (next, (out, row_))
noncomputable def F13 (next : DRI) (out : DLI) (row_ : DLI) (k_ : Int) (t48 : DLI) (t49 : Int) (t50 : Int) : Option (DLI × DLI) := (inf H).loop 85 6 (Jc5 Try.f85 6) (next, (out, (row_, (k_, (t48, (t49, t50))))))
noncomputable def Fg (next : DRI) (from_ : DLI) : Option DLI := (inf H).call 51 (next, from_)
theorem FgK : H.key 51 = some FgH := by kernel_rfl
noncomputable def F1c (out : DLI) (t10 : DLI) (t11 : Int) (t12 : Int) : Option DLI := (inf H).loop 51 0 (Jc5 Try.f51 0) (out, (t10, (t11, t12)))
noncomputable def Fo (l : DLI) (n : Int) : Option Bool := (inf H).call 59 (l, n)
theorem FoK : H.key 59 = some FoH := by kernel_rfl
noncomputable def F28 (n : Int) (t7 : DLI) (t8 : Int) (t9 : Int) : Option (Bool ⊕ Unit) := (inf H).loop 59 0 (Jc5 Try.f59 0) (n, (t7, (t8, t9)))
noncomputable def F1d (g : DGraph) (n : Int) : Option (Bool × Bool) := (inf H).call 25 (g, n)
noncomputable def F7 (l : DLI) (n : Int) : Option Bool := (inf H).call 14 (l, n)
theorem F7K : H.key 14 = some F7H := by kernel_rfl
noncomputable def F1m (n : Int) (t7 : DLI) (t8 : Int) (t9 : Int) : Option (Bool ⊕ Unit) := (inf H).loop 14 0 (Jc5 Try.f14 0) (n, (t7, (t8, t9)))
noncomputable def F1r (code : DLI) (more : DLI) : Option Bool := (inf H).call 4 (code, more)
theorem tC {k : Nat} {x : Den (tyOf (aTys H k))} {y} (h : J65 H (inf H) k x = y := by kernel_rfl) : (inf H).call k x = y := (J6d k x).trans h
theorem tL {k n : Nat} {c : Code} {x : Den (tyOf (hTys (Jc H k n)))} {f : FnH} {y} (hf : H.key k = some f) (h : J2p H k f (inf H) n c x = y := by kernel_rfl) : (inf H).loop k n c x = y := (J6e k n c x hf).trans h
theorem F14E (code more) : F14 code more =
 bif decide ((code.2.length : Int) > 1048576) then
 some true
else 
 some (decide ((more.2.length : Int) > (IntKind.i64.wrap (1048576 - (code.2.length : Int))))) := tC
theorem FuE (a0_0 a0_1 a0_2) : Fu a0_0 a0_1 a0_2 =
 bif decide (a0_1 < (a0_0.2.length : Int)) then
 bif decide (0 ≤ a0_1) then
 bif decide (a0_1 < (a0_0.2.length : Int)) then
 bif decide ((IntKind.i64.wrap (a0_1 + 1)) ≤ (a0_0.2.length : Int)) then
 some ((a0_0, (IntKind.i64.wrap (a0_1 + 1), IntKind.u64.wrap ((IntKind.u64.wrap ((IntKind.u64.wrap (a0_2 * 6364136223846793005)) + (IntKind.u64.wrap (IntKind.i64.wrap (a0_0.2.getD (Int.toNat a0_1) 0))))) + 1442695040888963407))), IntKind.i64.wrap (a0_0.2.getD (Int.toNat a0_1) 0))
else 
 some ((a0_0, (IntKind.i64.wrap (a0_1 + 1), IntKind.u64.wrap ((IntKind.u64.wrap ((IntKind.u64.wrap (a0_2 * 6364136223846793005)) + (IntKind.u64.wrap (IntKind.i64.wrap (a0_0.2.getD (Int.toNat a0_1) 0))))) + 1442695040888963407))), IntKind.i64.wrap (bAnd .u64 (bShr .u64 (IntKind.u64.wrap ((IntKind.u64.wrap ((IntKind.u64.wrap (a0_2 * 6364136223846793005)) + (IntKind.u64.wrap (IntKind.i64.wrap (a0_0.2.getD (Int.toNat a0_1) 0))))) + 1442695040888963407)) 40) 255))
else none
else none
else 
 bif decide ((IntKind.i64.wrap (a0_1 + 1)) ≤ (a0_0.2.length : Int)) then
 some ((a0_0, (IntKind.i64.wrap (a0_1 + 1), IntKind.u64.wrap ((IntKind.u64.wrap ((IntKind.u64.wrap (a0_2 * 6364136223846793005)) + (IntKind.u64.wrap 0))) + 1442695040888963407))), 0)
else 
 some ((a0_0, (IntKind.i64.wrap (a0_1 + 1), IntKind.u64.wrap ((IntKind.u64.wrap ((IntKind.u64.wrap (a0_2 * 6364136223846793005)) + (IntKind.u64.wrap 0))) + 1442695040888963407))), IntKind.i64.wrap (bAnd .u64 (bShr .u64 (IntKind.u64.wrap ((IntKind.u64.wrap ((IntKind.u64.wrap (a0_2 * 6364136223846793005)) + (IntKind.u64.wrap 0))) + 1442695040888963407)) 40) 255)) := tC
theorem FqE (c n) : Fq c n =
 bif decide (n ≤ 1) then
 some (c, 0)
else 
(Fu c.1 c.2.1 c.2.2).bind fun r =>
 bif decide (n > 200) then
(Fu r.1.1 r.1.2.1 r.1.2.2).bind fun r1 =>
 bif (n == 0) then
 none
else 
 some (r1.1, Int.tmod (IntKind.i64.wrap ((IntKind.i64.wrap (r.2 * 256)) + r1.2)) n)
else 
 bif (n == 0) then
 none
else 
 some (r.1, Int.tmod r.2 n) := tC
theorem F22E (l n k_) : F22 l n k_ =
 bif decide (k_ < (l.2.length : Int)) then
 bif decide (0 ≤ k_) then
 bif decide (k_ < (l.2.length : Int)) then
 bif decide ((l.2.getD (Int.toNat k_) 0) < n) then
(F22 l n (IntKind.i64.wrap (k_ + 1))).bind fun r => some r
else 
 some k_
else none
else none
else 
 some k_ := tL FkK
theorem FkE (l n) : Fk l n =
(F22 (l.1, l.2) n 0).bind fun r =>
 bif decide (r < (l.2.length : Int)) then
 bif decide (0 ≤ r) then
 bif decide (r < (l.2.length : Int)) then
 bif ((l.2.getD (Int.toNat r) 0) == n) then
 some (l.1, l.2)
else 
 bif decide (0 ≤ r) then
 bif decide (r ≤ (l.2.length : Int)) then
 bif decide (([] : List Int).length + ((l.2.take (Int.toNat r)).drop 0).length ≤ lim) then
 bif decide (([] ++ ((l.2.take (Int.toNat r)).drop 0)).length + [n].length ≤ lim) then
 bif decide (0 ≤ r) then
 bif decide (r ≤ (l.2.length : Int)) then
 bif decide ((([] ++ ((l.2.take (Int.toNat r)).drop 0)) ++ [n]).length + ((l.2.take l.2.length).drop (Int.toNat r)).length ≤ lim) then
 some (false, ((([] ++ ((l.2.take (Int.toNat r)).drop 0)) ++ [n]) ++ ((l.2.take l.2.length).drop (Int.toNat r))))
else none
else none
else none
else none
else none
else none
else none
else none
else none
else 
 bif decide (0 ≤ r) then
 bif decide (r ≤ (l.2.length : Int)) then
 bif decide (([] : List Int).length + ((l.2.take (Int.toNat r)).drop 0).length ≤ lim) then
 bif decide (([] ++ ((l.2.take (Int.toNat r)).drop 0)).length + [n].length ≤ lim) then
 bif decide (0 ≤ r) then
 bif decide (r ≤ (l.2.length : Int)) then
 bif decide ((([] ++ ((l.2.take (Int.toNat r)).drop 0)) ++ [n]).length + ((l.2.take l.2.length).drop (Int.toNat r)).length ≤ lim) then
 some (false, ((([] ++ ((l.2.take (Int.toNat r)).drop 0)) ++ [n]) ++ ((l.2.take l.2.length).drop (Int.toNat r))))
else none
else none
else none
else none
else none
else none
else none := tC
theorem F1zE (c n g k_) : F1z c n g k_ =
 bif decide (k_ < n) then
(Fq c 4).bind fun r =>
(F1t r.1 n k_ (true, []) r.2).bind fun r1 =>
 bif decide (g.2.length + [(r1.2.1, r1.2.2)].length ≤ lim) then
(F1z r1.1 n ((g.1 && false), (g.2 ++ [(r1.2.1, r1.2.2)])) (IntKind.i64.wrap (k_ + 1))).bind fun r => some r
else none
else 
 some (c, (g.1, g.2)) := tL F3K
theorem F1tE (c n k_ l m) : F1t c n k_ l m =
 bif decide (m > 0) then
(Fq c n).bind fun r =>
(Fk (l.1, l.2) r.2).bind fun r1 =>
(F1t r.1 n k_ (r1.1, r1.2) (IntKind.i64.wrap (m - 1))).bind fun r => some r
else 
 some (c, (l.1, l.2)) := tL F3K
theorem F29E (c g) : F29 c g =
(Fq c 2).bind fun r =>
 bif decide ((g.2.length : Int) < (IntKind.i64.wrap (1200 + r.2))) then
 bif decide (g.2.length + ([(true, [])] : List (Bool × List Int)).length ≤ lim) then
(F29 r.1 ((g.1 && false), (g.2 ++ [(true, [])]))).bind fun r => some r
else none
else 
 some (r.1, (g.1, g.2)) := tL F3K
theorem F3E (c) : F3 c =
(Fq c 12).bind fun r =>
(F1z r.1 (IntKind.i64.wrap (1 + r.2)) (true, []) 0).bind fun r1 =>
(Fq r1.1 40).bind fun r2 =>
 bif (r2.2 == 0) then
 bif decide (0 < (r1.2.2.length : Int)) then
 bif decide (((r1.2.2.getD 0 (true, [])).2).length + [IntKind.i64.wrap (1 + r.2)].length ≤ lim) then
 bif decide (0 < (r1.2.2.length : Int)) then
 bif (0 == 0) then
 some (r2.1, (r1.2.1, (r1.2.2.set 0 ((((r1.2.2.getD 0 (true, [])).1) && false), (((r1.2.2.getD 0 (true, [])).2) ++ [IntKind.i64.wrap (1 + r.2)])))))
else none
else none
else none
else none
else 
 bif (r2.2 == 1) then
 bif decide (0 < (r1.2.2.length : Int)) then
 some (r2.1, (r1.2.1, (r1.2.2.set 0 (false, [1, 0]))))
else none
else 
 bif (r2.2 == 2) then
(F29 r2.1 (r1.2.1, r1.2.2)).bind fun r3 =>
 some (r3.1, (r3.2.1, r3.2.2))
else 
 some (r2.1, (r1.2.1, r1.2.2)) := tC
theorem FzE (code) : Fz code =
(F3 (code, (0, 0))).bind fun r =>
 some (r.2.1, r.2.2) := tC
theorem F18E (code) : F18 code =
(Fz code).bind fun r =>
 some (r.1, r.2) := tC
theorem F1fE (list bound t7 t8 t9) : F1f list bound t7 t8 t9 =
 bif decide (t9 < t8) then
 bif decide (0 ≤ t9) then
 bif decide (t9 < (t7.2.length : Int)) then
 bif decide ((t7.2.getD (Int.toNat t9) 0) < 0) then
 some (.inl false)
else 
 bif decide ((t7.2.getD (Int.toNat t9) 0) ≥ bound) then
 some (.inl false)
else 
 bif decide (t9 > 0) then
 bif decide (0 ≤ (IntKind.i64.wrap (t9 - 1))) then
 bif decide ((IntKind.i64.wrap (t9 - 1)) < (list.2.length : Int)) then
 bif decide ((list.2.getD (Int.toNat (IntKind.i64.wrap (t9 - 1))) 0) ≥ (t7.2.getD (Int.toNat t9) 0)) then
 some (.inl false)
else 
(F1f list bound t7 t8 (IntKind.i64.wrap (t9 + 1))).bind fun r => some r
else none
else none
else 
(F1f list bound t7 t8 (IntKind.i64.wrap (t9 + 1))).bind fun r => some r
else none
else none
else 
 some (.inr ()) := tL FbK
theorem FbE (list bound) : Fb list bound =
(F1f list bound list (list.2.length : Int) 0).bind fun r =>
 match r with
| .inl y =>
 some y
| .inr z =>
 some true := tC
theorem F1jE (g arcs t11 t12 t13) : F1j g arcs t11 t12 t13 =
 bif decide (t13 < t12) then
 bif decide (0 ≤ t13) then
 bif decide (t13 < (t11.2.length : Int)) then
(Fb (t11.2.getD (Int.toNat t13) (true, [])) (g.2.length : Int)).bind fun r =>
 bif !r then
 some (.inl false)
else 
(F1j g (IntKind.i64.wrap (arcs + (((t11.2.getD (Int.toNat t13) (true, [])).2).length : Int))) t11 t12 (IntKind.i64.wrap (t13 + 1))).bind fun r => some r
else none
else none
else 
 some (.inr arcs) := tL FaK
theorem FaE (g) : Fa g =
 bif decide ((g.2.length : Int) > 1200) then
 some false
else 
(F1j g 0 g (g.2.length : Int) 0).bind fun r =>
 match r with
| .inl y =>
 some y
| .inr z =>
 some (decide (z ≤ 20000)) := tC
theorem F10E (x y) : F10 x y =
 some (IntKind.u64.wrap ((IntKind.u64.wrap ((IntKind.u64.wrap ((bShr .u64 x 32) * (bShr .u64 y 32))) + (bShr .u64 (IntKind.u64.wrap ((IntKind.u64.wrap ((bShr .u64 x 32) * (bAnd .u64 y 4294967295))) + (bShr .u64 (IntKind.u64.wrap ((bAnd .u64 x 4294967295) * (bAnd .u64 y 4294967295))) 32))) 32))) + (bShr .u64 (IntKind.u64.wrap ((bAnd .u64 (IntKind.u64.wrap ((IntKind.u64.wrap ((bShr .u64 x 32) * (bAnd .u64 y 4294967295))) + (bShr .u64 (IntKind.u64.wrap ((bAnd .u64 x 4294967295) * (bAnd .u64 y 4294967295))) 32))) 4294967295) + (IntKind.u64.wrap ((bAnd .u64 x 4294967295) * (bShr .u64 y 32))))) 32)), IntKind.u64.wrap (x * y)) := tC
theorem FpE (x y) : Fp x y =
(F10 x y).bind fun r =>
 some (r.1, r.2) := tC
theorem F1pE (newslice n) : F1p newslice n =
 bif decide (n < (newslice.2.length : Int)) then
 bif decide (0 ≤ n) then
 bif decide (n ≤ (newslice.2.length : Int)) then
 bif decide (0 ≤ n) then
 bif decide (n ≤ (newslice.2.length : Int)) then
(F1p (newslice.1, (newslice.2.take (Int.toNat n) ++ (((newslice.2.take (Int.toNat n)).drop 0).take (newslice.2.length - (Int.toNat n)) ++ newslice.2.drop ((Int.toNat n) + (min ((newslice.2.take (Int.toNat n)).drop 0).length (newslice.2.length - (Int.toNat n))))))) (IntKind.i64.wrap (n + ((min ((newslice.2.take (Int.toNat n)).drop 0).length (newslice.2.length - (Int.toNat n)) : Nat) : Int)))).bind fun r => some r
else none
else none
else none
else none
else 
 some (newslice.1, newslice.2) := tL FjK
theorem FjE (x count) : Fj x count =
 bif decide (count < 0) then
 none
else 
(Fp (IntKind.u64.wrap (x.2.length : Int)) (IntKind.u64.wrap count)).bind fun r =>
 bif decide (r.1 > 0) then
 none
else 
 bif decide (r.2 > 9223372036854775807) then
 none
else 
 bif decide (0 ≤ (IntKind.i64.wrap r.2)) then
 bif decide ((IntKind.i64.wrap r.2) ≤ lim) then
 bif decide ((IntKind.i64.wrap r.2) ≤ (IntKind.i64.wrap r.2)) then
 bif decide ((IntKind.i64.wrap r.2) ≤ lim) then
(F1p (false, (x.2.take (List.replicate (Int.toNat (IntKind.i64.wrap r.2)) (0 : Int)).length ++ (List.replicate (Int.toNat (IntKind.i64.wrap r.2)) (0 : Int)).drop (min x.2.length (List.replicate (Int.toNat (IntKind.i64.wrap r.2)) (0 : Int)).length))) ((min x.2.length (List.replicate (Int.toNat (IntKind.i64.wrap r.2)) (0 : Int)).length : Nat) : Int)).bind fun r1 =>
 some (r1.1, r1.2)
else none
else none
else none
else none := tC
theorem F26E (s v t7 t8) : F26 s v t7 t8 =
 bif decide (t8 < t7) then
 bif decide (0 ≤ t8) then
 bif decide (t8 < (s.2.length : Int)) then
 bif (v == (s.2.getD (Int.toNat t8) 0)) then
 some (.inl t8)
else 
(F26 s v t7 (IntKind.i64.wrap (t8 + 1))).bind fun r => some r
else none
else none
else 
 some (.inr ()) := tL FeK
theorem FeE (s v) : Fe s v =
(F26 s v (s.2.length : Int) 0).bind fun r =>
 match r with
| .inl y =>
 some y
| .inr z =>
 some (-1) := tC
theorem F1nE (x m i) : F1n x m i =
 bif decide (i < (x.2.length : Int)) then
 bif decide (0 ≤ i) then
 bif decide (i < (x.2.length : Int)) then
(F1n x (bif decide ((x.2.getD (Int.toNat i) 0) < m) then (x.2.getD (Int.toNat i) 0) else m) (IntKind.i64.wrap (i + 1))).bind fun r => some r
else none
else none
else 
 some m := tL FmK
theorem FmE (x) : Fm x =
 bif decide ((x.2.length : Int) < 1) then
 none
else 
 bif decide (0 < (x.2.length : Int)) then
(F1n x (x.2.getD 0 0) 1).bind fun r =>
 some r
else none := tC
theorem FtE (t_0 t_1 t_2 t_3 t_4 t_5 v t53 t54 t55) : Ft t_0 t_1 t_2 t_3 t_4 t_5 v t53 t54 t55 =
 bif decide (t55 < t54) then
 bif decide (0 ≤ t55) then
 bif decide (t55 < (t53.2.length : Int)) then
 bif decide (0 ≤ (t53.2.getD (Int.toNat t55) 0)) then
 bif decide ((t53.2.getD (Int.toNat t55) 0) < (t_1.2.length : Int)) then
 bif ((t_1.2.getD (Int.toNat (t53.2.getD (Int.toNat t55) 0)) 0) == 0) then
(F4 t_0 (t_1.1, t_1.2) (t_2.1, t_2.2) (t_3.1, t_3.2) (t_4.1, t_4.2) t_5 (t53.2.getD (Int.toNat t55) 0)).bind fun r =>
 bif decide (0 ≤ v) then
 bif decide (v < (r.2.2.1.2.length : Int)) then
 bif decide (0 ≤ (t53.2.getD (Int.toNat t55) 0)) then
 bif decide ((t53.2.getD (Int.toNat t55) 0) < (r.2.2.1.2.length : Int)) then
 bif decide (0 ≤ v) then
 bif decide (v < (r.2.2.1.2.length : Int)) then
(Ft r.1 (r.2.1.1, r.2.1.2) (r.2.2.1.1, (r.2.2.1.2.set (Int.toNat v) (bif decide ((r.2.2.1.2.getD (Int.toNat (t53.2.getD (Int.toNat t55) 0)) 0) < (r.2.2.1.2.getD (Int.toNat v) 0)) then (r.2.2.1.2.getD (Int.toNat (t53.2.getD (Int.toNat t55) 0)) 0) else (r.2.2.1.2.getD (Int.toNat v) 0)))) (r.2.2.2.1.1, r.2.2.2.1.2) (r.2.2.2.2.1.1, r.2.2.2.2.1.2) r.2.2.2.2.2 v t53 t54 (IntKind.i64.wrap (t55 + 1))).bind fun r => some r
else none
else none
else none
else none
else none
else none
else 
 bif decide (0 ≤ (t53.2.getD (Int.toNat t55) 0)) then
 bif decide ((t53.2.getD (Int.toNat t55) 0) < (t_3.2.length : Int)) then
 bif decide ((t_3.2.getD (Int.toNat (t53.2.getD (Int.toNat t55) 0)) 0) < 0) then
 bif decide (0 ≤ v) then
 bif decide (v < (t_2.2.length : Int)) then
 bif decide (0 ≤ (t53.2.getD (Int.toNat t55) 0)) then
 bif decide ((t53.2.getD (Int.toNat t55) 0) < (t_1.2.length : Int)) then
 bif decide (0 ≤ v) then
 bif decide (v < (t_2.2.length : Int)) then
(Ft t_0 (t_1.1, t_1.2) (t_2.1, (t_2.2.set (Int.toNat v) (bif decide ((t_1.2.getD (Int.toNat (t53.2.getD (Int.toNat t55) 0)) 0) < (t_2.2.getD (Int.toNat v) 0)) then (t_1.2.getD (Int.toNat (t53.2.getD (Int.toNat t55) 0)) 0) else (t_2.2.getD (Int.toNat v) 0)))) (t_3.1, t_3.2) (t_4.1, t_4.2) t_5 v t53 t54 (IntKind.i64.wrap (t55 + 1))).bind fun r => some r
else none
else none
else none
else none
else none
else none
else 
(Ft t_0 (t_1.1, t_1.2) (t_2.1, t_2.2) (t_3.1, t_3.2) (t_4.1, t_4.2) t_5 v t53 t54 (IntKind.i64.wrap (t55 + 1))).bind fun r => some r
else none
else none
else none
else none
else none
else none
else 
 some (t_0, ((t_1.1, t_1.2), ((t_2.1, t_2.2), ((t_3.1, t_3.2), ((t_4.1, t_4.2), t_5))))) := tL F4K
theorem F25E (t_0 t_1 t_2 t_3 t_4 t_5 k_ least t154_0 t154_1 t155 t156) : F25 t_0 t_1 t_2 t_3 t_4 t_5 k_ least t154_0 t154_1 t155 t156 =
 bif decide (t156 < t155) then
 bif decide (0 ≤ t156) then
 bif decide (t156 < (((Int.toNat t154_1) - (Int.toNat t154_0) : Nat) : Int)) then
 bif decide (0 ≤ (t_4.2.getD ((Int.toNat t154_0) + (Int.toNat t156)) 0)) then
 bif decide ((t_4.2.getD ((Int.toNat t154_0) + (Int.toNat t156)) 0) < (t_3.2.length : Int)) then
(F25 t_0 (t_1.1, t_1.2) (t_2.1, t_2.2) (t_3.1, (t_3.2.set (Int.toNat (t_4.2.getD ((Int.toNat t154_0) + (Int.toNat t156)) 0)) least)) (t_4.1, t_4.2) t_5 k_ least ((Int.toNat t154_0) : Int) ((Int.toNat t154_1) : Int) t155 (IntKind.i64.wrap (t156 + 1))).bind fun r => some r
else none
else none
else none
else none
else 
 some (t_0, ((t_1.1, t_1.2), ((t_2.1, t_2.2), ((t_3.1, t_3.2), ((t_4.1, t_4.2), t_5))))) := tL F4K
theorem F4E (a0_0 a0_1 a0_2 a0_3 a0_4 a0_5 v) : F4 a0_0 a0_1 a0_2 a0_3 a0_4 a0_5 v =
 bif decide (0 ≤ v) then
 bif decide (v < (a0_1.2.length : Int)) then
 bif decide (0 ≤ v) then
 bif decide (v < (a0_2.2.length : Int)) then
 bif decide (a0_4.2.length + [v].length ≤ lim) then
 bif decide (0 ≤ v) then
 bif decide (v < (a0_0.2.length : Int)) then
(Ft a0_0 (a0_1.1, (a0_1.2.set (Int.toNat v) (IntKind.i64.wrap (a0_5 + 1)))) (a0_2.1, (a0_2.2.set (Int.toNat v) (IntKind.i64.wrap (a0_5 + 1)))) (a0_3.1, a0_3.2) ((a0_4.1 && false), (a0_4.2 ++ [v])) (IntKind.i64.wrap (a0_5 + 1)) v (a0_0.2.getD (Int.toNat v) (true, [])) (((a0_0.2.getD (Int.toNat v) (true, [])).2).length : Int) 0).bind fun r =>
 bif decide (0 ≤ v) then
 bif decide (v < (r.2.2.1.2.length : Int)) then
 bif decide (0 ≤ v) then
 bif decide (v < (r.2.1.2.length : Int)) then
 bif decide ((r.2.2.1.2.getD (Int.toNat v) 0) < (r.2.1.2.getD (Int.toNat v) 0)) then
 some (r.1, ((r.2.1.1, r.2.1.2), ((r.2.2.1.1, r.2.2.1.2), ((r.2.2.2.1.1, r.2.2.2.1.2), ((r.2.2.2.2.1.1, r.2.2.2.2.1.2), r.2.2.2.2.2)))))
else 
(Fe (r.2.2.2.2.1.1, r.2.2.2.2.1.2) v).bind fun r1 =>
 bif decide (0 ≤ r1) then
 bif decide (r1 ≤ (r.2.2.2.2.1.2.length : Int)) then
(Fm (r.2.2.2.2.1.1, ((r.2.2.2.2.1.2.take r.2.2.2.2.1.2.length).drop (Int.toNat r1)))).bind fun r2 =>
 bif decide (0 ≤ r1) then
 bif decide (r1 ≤ (r.2.2.2.2.1.2.length : Int)) then
(F25 r.1 (r.2.1.1, r.2.1.2) (r.2.2.1.1, r.2.2.1.2) (r.2.2.2.1.1, r.2.2.2.1.2) (r.2.2.2.2.1.1, r.2.2.2.2.1.2) r.2.2.2.2.2 r1 r2 ((Int.toNat r1) : Int) (r.2.2.2.2.1.2.length : Int) ((r.2.2.2.2.1.2.length - (Int.toNat r1) : Nat) : Int) 0).bind fun r3 =>
 bif decide (0 ≤ r1) then
 bif decide (r1 ≤ (r3.2.2.2.2.1.2.length : Int)) then
 some (r3.1, ((r3.2.1.1, r3.2.1.2), ((r3.2.2.1.1, r3.2.2.1.2), ((r3.2.2.2.1.1, r3.2.2.2.1.2), ((r3.2.2.2.2.1.1, ((r3.2.2.2.2.1.2.take (Int.toNat r1)).drop 0)), r3.2.2.2.2.2)))))
else none
else none
else none
else none
else none
else none
else none
else none
else none
else none
else none
else none
else none
else none
else none
else none
else none := tC
theorem F1bE (t_0 t_1 t_2 t_3 t_4 t_5 t19 t20) : F1b t_0 t_1 t_2 t_3 t_4 t_5 t19 t20 =
 bif decide (t20 < t19) then
 bif decide (0 ≤ t20) then
 bif decide (t20 < (t_1.2.length : Int)) then
 bif ((t_1.2.getD (Int.toNat t20) 0) == 0) then
(F4 t_0 (t_1.1, t_1.2) (t_2.1, t_2.2) (t_3.1, t_3.2) (t_4.1, t_4.2) t_5 t20).bind fun r =>
(F1b r.1 (r.2.1.1, r.2.1.2) (r.2.2.1.1, r.2.2.1.2) (r.2.2.2.1.1, r.2.2.2.1.2) (r.2.2.2.2.1.1, r.2.2.2.2.1.2) r.2.2.2.2.2 t19 (IntKind.i64.wrap (t20 + 1))).bind fun r => some r
else 
(F1b t_0 (t_1.1, t_1.2) (t_2.1, t_2.2) (t_3.1, t_3.2) (t_4.1, t_4.2) t_5 t19 (IntKind.i64.wrap (t20 + 1))).bind fun r => some r
else none
else none
else 
 some (t_0, ((t_1.1, t_1.2), ((t_2.1, t_2.2), ((t_3.1, t_3.2), ((t_4.1, t_4.2), t_5))))) := tL FfK
theorem FfE (next) : Ff next =
 bif decide (0 ≤ (next.2.length : Int)) then
 bif decide ((next.2.length : Int) ≤ lim) then
 bif decide ((next.2.length : Int) ≤ (next.2.length : Int)) then
 bif decide ((next.2.length : Int) ≤ lim) then
 bif decide (0 ≤ (next.2.length : Int)) then
 bif decide ((next.2.length : Int) ≤ lim) then
 bif decide ((next.2.length : Int) ≤ (next.2.length : Int)) then
 bif decide ((next.2.length : Int) ≤ lim) then
(Fj (false, [(-1)]) (next.2.length : Int)).bind fun r =>
(F1b next (false, (List.replicate (Int.toNat (next.2.length : Int)) (0 : Int))) (false, (List.replicate (Int.toNat (next.2.length : Int)) (0 : Int))) (r.1, r.2) (true, []) 0 (next.2.length : Int) 0).bind fun r1 =>
 some (r1.2.2.2.1.1, r1.2.2.2.1.2)
else none
else none
else none
else none
else none
else none
else none
else none := tC
theorem FsE (g) : Fs g =
(Fa g).bind fun r =>
 bif !r then
 some ((true, []), false)
else 
(Ff g).bind fun r1 =>
 some ((r1.1, r1.2), true) := tC
theorem FvE (n lo hi) : Fv n lo hi =
 bif decide (n ≥ lo) then
 some (decide (n ≤ hi))
else 
 some false := tC
theorem FyE (l lo hi t9 t10 t11) : Fy l lo hi t9 t10 t11 =
 bif decide (t11 < t10) then
 bif decide (0 ≤ t11) then
 bif decide (t11 < (t9.2.length : Int)) then
(Fv (t9.2.getD (Int.toNat t11) 0) lo hi).bind fun r =>
 bif !r then
 some (.inl false)
else 
 bif decide (t11 > 0) then
 bif decide (0 ≤ (IntKind.i64.wrap (t11 - 1))) then
 bif decide ((IntKind.i64.wrap (t11 - 1)) < (l.2.length : Int)) then
 bif decide ((l.2.getD (Int.toNat (IntKind.i64.wrap (t11 - 1))) 0) ≥ (t9.2.getD (Int.toNat t11) 0)) then
 some (.inl false)
else 
(Fy l lo hi t9 t10 (IntKind.i64.wrap (t11 + 1))).bind fun r => some r
else none
else none
else 
(Fy l lo hi t9 t10 (IntKind.i64.wrap (t11 + 1))).bind fun r => some r
else none
else none
else 
 some (.inr ()) := tL FiK
theorem FiE (l lo hi) : Fi l lo hi =
(Fy l lo hi l (l.2.length : Int) 0).bind fun r =>
 match r with
| .inl y =>
 some y
| .inr z =>
 some true := tC
theorem F17E (l n) : F17 l n =
(Fi l 0 (IntKind.i64.wrap (n - 1))).bind fun r =>
 some r := tC
theorem F1xE (g n t11 t12 t13) : F1x g n t11 t12 t13 =
 bif decide (t13 < t12) then
 bif decide (0 ≤ t13) then
 bif decide (t13 < (t11.2.length : Int)) then
 bif decide ((((t11.2.getD (Int.toNat t13) (true, [])).2).length : Int) > 1200) then
 some (.inl false)
else 
(F17 (t11.2.getD (Int.toNat t13) (true, [])) (g.2.length : Int)).bind fun r =>
 bif !r then
 some (.inl false)
else 
(F1x g (IntKind.i64.wrap (n + (((t11.2.getD (Int.toNat t13) (true, [])).2).length : Int))) t11 t12 (IntKind.i64.wrap (t13 + 1))).bind fun r => some r
else none
else none
else 
 some (.inr n) := tL F9K
theorem F9E (g) : F9 g =
 bif decide ((g.2.length : Int) > 1200) then
 some false
else 
(F1x g 0 g (g.2.length : Int) 0).bind fun r =>
 match r with
| .inl y =>
 some y
| .inr z =>
 some (decide (z ≤ 20000)) := tC
theorem F1iE (w_0 w_1 w_2 k_ t25 t26 t27) : F1i w_0 w_1 w_2 k_ t25 t26 t27 =
 bif decide (t27 < t26) then
 bif decide (0 ≤ t27) then
 bif decide (t27 < (t25.2.length : Int)) then
(Fd w_0 (w_1.1, w_1.2) (w_2.1, w_2.2) (t25.2.getD (Int.toNat t27) 0)).bind fun r =>
(F1i r.1 (r.2.1.1, r.2.1.2) (r.2.2.1, r.2.2.2) k_ t25 t26 (IntKind.i64.wrap (t27 + 1))).bind fun r => some r
else none
else none
else 
 some (w_0, ((w_1.1, w_1.2), (w_2.1, w_2.2))) := tL FdK
theorem FdE (a0_0 a0_1 a0_2 k_) : Fd a0_0 a0_1 a0_2 k_ =
 bif decide (0 ≤ k_) then
 bif decide (k_ < (a0_1.2.length : Int)) then
 bif (a0_1.2.getD (Int.toNat k_) false) then
 some (a0_0, ((a0_1.1, a0_1.2), (a0_2.1, a0_2.2)))
else 
 bif decide (0 ≤ k_) then
 bif decide (k_ < (a0_1.2.length : Int)) then
 bif decide (0 ≤ k_) then
 bif decide (k_ < (a0_0.2.length : Int)) then
(F1i a0_0 (a0_1.1, (a0_1.2.set (Int.toNat k_) true)) (a0_2.1, a0_2.2) k_ (a0_0.2.getD (Int.toNat k_) (true, [])) (((a0_0.2.getD (Int.toNat k_) (true, [])).2).length : Int) 0).bind fun r =>
 bif decide (r.2.2.2.length + [k_].length ≤ lim) then
 some (r.1, ((r.2.1.1, r.2.1.2), ((r.2.2.1 && false), (r.2.2.2 ++ [k_]))))
else none
else none
else none
else none
else none
else none
else none := tC
theorem F27E (out t11 t12 t13) : F27 out t11 t12 t13 =
 bif decide (t13 < t12) then
 bif decide (0 ≤ t13) then
 bif decide (t13 < (t11.2.length : Int)) then
(F1u (out.1, out.2) t13 t11 t12 t13 (t11.2.getD (Int.toNat t13) (true, [])) (((t11.2.getD (Int.toNat t13) (true, [])).2).length : Int) 0).bind fun r =>
(F27 (r.1, r.2) t11 t12 (IntKind.i64.wrap (t13 + 1))).bind fun r => some r
else none
else none
else 
 some (out.1, out.2) := tL F5K
theorem F1uE (out k_ t11 t12 t13 t18 t19 t20) : F1u out k_ t11 t12 t13 t18 t19 t20 =
 bif decide (t20 < t19) then
 bif decide (0 ≤ t20) then
 bif decide (t20 < (t18.2.length : Int)) then
 bif decide (0 ≤ (t18.2.getD (Int.toNat t20) 0)) then
 bif decide ((t18.2.getD (Int.toNat t20) 0) < (out.2.length : Int)) then
 bif decide (((out.2.getD (Int.toNat (t18.2.getD (Int.toNat t20) 0)) (true, [])).2).length + [k_].length ≤ lim) then
 bif decide (0 ≤ (t18.2.getD (Int.toNat t20) 0)) then
 bif decide ((t18.2.getD (Int.toNat t20) 0) < (out.2.length : Int)) then
 bif ((Int.toNat (t18.2.getD (Int.toNat t20) 0)) == (Int.toNat (t18.2.getD (Int.toNat t20) 0))) then
(F1u (out.1, (out.2.set (Int.toNat (t18.2.getD (Int.toNat t20) 0)) ((((out.2.getD (Int.toNat (t18.2.getD (Int.toNat t20) 0)) (true, [])).1) && false), (((out.2.getD (Int.toNat (t18.2.getD (Int.toNat t20) 0)) (true, [])).2) ++ [k_])))) k_ t11 t12 t13 t18 t19 (IntKind.i64.wrap (t20 + 1))).bind fun r => some r
else none
else none
else none
else none
else none
else none
else none
else none
else 
 some (out.1, out.2) := tL F5K
theorem F5E (next) : F5 next =
 bif decide (0 ≤ (next.2.length : Int)) then
 bif decide ((next.2.length : Int) ≤ lim) then
 bif decide ((next.2.length : Int) ≤ (next.2.length : Int)) then
 bif decide ((next.2.length : Int) ≤ lim) then
(F27 (false, (List.replicate (Int.toNat (next.2.length : Int)) ((true, []) : Bool × List Int))) next (next.2.length : Int) 0).bind fun r =>
 some (r.1, r.2)
else none
else none
else none
else none := tC
theorem F1sE (next w_0 w_1 w_2 t20 t21) : F1s next w_0 w_1 w_2 t20 t21 =
 bif decide (t21 < t20) then
(Fd w_0 (w_1.1, w_1.2) (w_2.1, w_2.2) t21).bind fun r =>
(F1s next r.1 (r.2.1.1, r.2.1.2) (r.2.2.1, r.2.2.2) t20 (IntKind.i64.wrap (t21 + 1))).bind fun r => some r
else 
 some (w_0, ((w_1.1, w_1.2), (w_2.1, w_2.2))) := tL F1K
theorem F1wE (next w back_0 back_1 back_2 out i) : F1w next w back_0 back_1 back_2 out i =
 bif decide (i ≥ 0) then
 bif decide (0 ≤ i) then
 bif decide (i < (w.2.2.2.length : Int)) then
(Fd back_0 (back_1.1, back_1.2) (true, []) (w.2.2.2.getD (Int.toNat i) 0)).bind fun r =>
(F12 next w (r.1, ((r.2.1.1, r.2.1.2), (r.2.2.1, r.2.2.2))) (out.1, out.2) i (next.2.length : Int) (r.2.2.1, r.2.2.2) (r.2.2.2.length : Int) 0).bind fun r1 =>
(F1y next w (r.1, ((r.2.1.1, r.2.1.2), (r.2.2.1, r.2.2.2))) (out.1, out.2) i r1 (r.2.2.1, r.2.2.2) (r.2.2.2.length : Int) 0).bind fun r2 =>
(F1w next w r.1 (r.2.1.1, r.2.1.2) (r.2.2.1, r.2.2.2) (r2.1, r2.2) (IntKind.i64.wrap (i - 1))).bind fun r => some r
else none
else none
else 
 some ((out.1, out.2), (back_0, ((back_1.1, back_1.2), (back_2.1, back_2.2)))) := tL F1K
theorem F12E (next w back out i least t65 t66 t67) : F12 next w back out i least t65 t66 t67 =
 bif decide (t67 < t66) then
 bif decide (0 ≤ t67) then
 bif decide (t67 < (t65.2.length : Int)) then
 bif decide ((t65.2.getD (Int.toNat t67) 0) < least) then
(F12 next w back out i (t65.2.getD (Int.toNat t67) 0) t65 t66 (IntKind.i64.wrap (t67 + 1))).bind fun r => some r
else 
(F12 next w back out i least t65 t66 (IntKind.i64.wrap (t67 + 1))).bind fun r => some r
else none
else none
else 
 some least := tL F1K
theorem F1yE (next w back out i least t79 t80 t81) : F1y next w back out i least t79 t80 t81 =
 bif decide (t81 < t80) then
 bif decide (0 ≤ t81) then
 bif decide (t81 < (t79.2.length : Int)) then
 bif decide (0 ≤ (t79.2.getD (Int.toNat t81) 0)) then
 bif decide ((t79.2.getD (Int.toNat t81) 0) < (out.2.length : Int)) then
(F1y next w back (out.1, (out.2.set (Int.toNat (t79.2.getD (Int.toNat t81) 0)) least)) i least t79 t80 (IntKind.i64.wrap (t81 + 1))).bind fun r => some r
else none
else none
else none
else none
else 
 some (out.1, out.2) := tL F1K
theorem F1E (next) : F1 next =
 bif decide (0 ≤ (next.2.length : Int)) then
 bif decide ((next.2.length : Int) ≤ lim) then
 bif decide ((next.2.length : Int) ≤ (next.2.length : Int)) then
 bif decide ((next.2.length : Int) ≤ lim) then
(F1s next next (false, (List.replicate (Int.toNat (next.2.length : Int)) (false : Bool))) (true, []) (next.2.length : Int) 0).bind fun r =>
(F5 next).bind fun r1 =>
 bif decide (0 ≤ (next.2.length : Int)) then
 bif decide ((next.2.length : Int) ≤ lim) then
 bif decide ((next.2.length : Int) ≤ (next.2.length : Int)) then
 bif decide ((next.2.length : Int) ≤ lim) then
 bif decide (0 ≤ (next.2.length : Int)) then
 bif decide ((next.2.length : Int) ≤ lim) then
 bif decide ((next.2.length : Int) ≤ (next.2.length : Int)) then
 bif decide ((next.2.length : Int) ≤ lim) then
(F1w next (r.1, ((r.2.1.1, r.2.1.2), (r.2.2.1, r.2.2.2))) (r1.1, r1.2) (false, (List.replicate (Int.toNat (next.2.length : Int)) (false : Bool))) (true, []) (false, (List.replicate (Int.toNat (next.2.length : Int)) (0 : Int))) (IntKind.i64.wrap ((r.2.2.2.length : Int) - 1))).bind fun r2 =>
 some (r2.1.1, r2.1.2)
else none
else none
else none
else none
else none
else none
else none
else none
else none
else none
else none
else none := tC
theorem F16E (g) : F16 g =
(F9 g).bind fun r =>
 bif !r then
 some ((true, []), false)
else 
(F1 g).bind fun r1 =>
 some ((r1.1, r1.2), true) := tC
theorem F1oE (out t11 t12 t13) : F1o out t11 t12 t13 =
 bif decide (t13 < t12) then
 bif decide (0 ≤ t13) then
 bif decide (t13 < (t11.2.length : Int)) then
(F24 (out.1, out.2) t13 t11 t12 t13 (t11.2.getD (Int.toNat t13) (true, [])) (((t11.2.getD (Int.toNat t13) (true, [])).2).length : Int) 0).bind fun r =>
(F1o (r.1, r.2) t11 t12 (IntKind.i64.wrap (t13 + 1))).bind fun r => some r
else none
else none
else 
 some (out.1, out.2) := tL F6K
theorem F24E (out v t11 t12 t13 t18 t19 t20) : F24 out v t11 t12 t13 t18 t19 t20 =
 bif decide (t20 < t19) then
 bif decide (0 ≤ t20) then
 bif decide (t20 < (t18.2.length : Int)) then
 bif decide (0 ≤ (t18.2.getD (Int.toNat t20) 0)) then
 bif decide ((t18.2.getD (Int.toNat t20) 0) < (out.2.length : Int)) then
 bif decide (((out.2.getD (Int.toNat (t18.2.getD (Int.toNat t20) 0)) (true, [])).2).length + [v].length ≤ lim) then
 bif decide (0 ≤ (t18.2.getD (Int.toNat t20) 0)) then
 bif decide ((t18.2.getD (Int.toNat t20) 0) < (out.2.length : Int)) then
 bif ((Int.toNat (t18.2.getD (Int.toNat t20) 0)) == (Int.toNat (t18.2.getD (Int.toNat t20) 0))) then
(F24 (out.1, (out.2.set (Int.toNat (t18.2.getD (Int.toNat t20) 0)) ((((out.2.getD (Int.toNat (t18.2.getD (Int.toNat t20) 0)) (true, [])).1) && false), (((out.2.getD (Int.toNat (t18.2.getD (Int.toNat t20) 0)) (true, [])).2) ++ [v])))) v t11 t12 t13 t18 t19 (IntKind.i64.wrap (t20 + 1))).bind fun r => some r
else none
else none
else none
else none
else none
else none
else none
else none
else 
 some (out.1, out.2) := tL F6K
theorem F6E (g) : F6 g =
 bif decide (0 ≤ (g.2.length : Int)) then
 bif decide ((g.2.length : Int) ≤ lim) then
 bif decide ((g.2.length : Int) ≤ (g.2.length : Int)) then
 bif decide ((g.2.length : Int) ≤ lim) then
(F1o (false, (List.replicate (Int.toNat (g.2.length : Int)) ((true, []) : Bool × List Int))) g (g.2.length : Int) 0).bind fun r =>
 some (r.1, r.2)
else none
else none
else none
else none := tC
theorem F11E (g) : F11 g =
(Fa g).bind fun r =>
 bif !r then
 some ((true, []), false)
else 
(F6 g).bind fun r1 =>
 some ((r1.1, r1.2), true) := tC
theorem F1gE (g) : F1g g =
(F9 g).bind fun r =>
 bif !r then
 some ((true, []), false)
else 
(F5 g).bind fun r1 =>
 some ((r1.1, r1.2), true) := tC
theorem F2aE (a b t12 t13) : F2a a b t12 t13 =
 bif decide (t13 < t12) then
 bif decide (0 ≤ t13) then
 bif decide (t13 < (a.2.length : Int)) then
 bif decide (0 ≤ t13) then
 bif decide (t13 < (b.2.length : Int)) then
 bif ((a.2.getD (Int.toNat t13) 0) != (b.2.getD (Int.toNat t13) 0)) then
 some (.inl false)
else 
(F2a a b t12 (IntKind.i64.wrap (t13 + 1))).bind fun r => some r
else none
else none
else none
else none
else 
 some (.inr ()) := tL F8K
theorem F8E (a b) : F8 a b =
 bif ((a.2.length : Int) != (b.2.length : Int)) then
 some false
else 
(F2a a b (a.2.length : Int) 0).bind fun r =>
 match r with
| .inl y =>
 some y
| .inr z =>
 some true := tC
theorem F23E (a b t12 t13) : F23 a b t12 t13 =
 bif decide (t13 < t12) then
 bif decide (0 ≤ t13) then
 bif decide (t13 < (a.2.length : Int)) then
 bif decide (0 ≤ t13) then
 bif decide (t13 < (b.2.length : Int)) then
(F8 (a.2.getD (Int.toNat t13) (true, [])) (b.2.getD (Int.toNat t13) (true, []))).bind fun r =>
 bif !r then
 some (.inl false)
else 
(F23 a b t12 (IntKind.i64.wrap (t13 + 1))).bind fun r => some r
else none
else none
else none
else none
else 
 some (.inr ()) := tL FlK
theorem FlE (a b) : Fl a b =
 bif ((a.2.length : Int) != (b.2.length : Int)) then
 some false
else 
(F23 a b (a.2.length : Int) 0).bind fun r =>
 match r with
| .inl y =>
 some y
| .inr z =>
 some true := tC
theorem F1kE (n t6 t7 t8) : F1k n t6 t7 t8 =
 bif decide (t8 < t7) then
 bif decide (0 ≤ t8) then
 bif decide (t8 < (t6.2.length : Int)) then
(F1k (Int.tmod (IntKind.i64.wrap ((IntKind.i64.wrap (31 * n)) + (IntKind.i64.wrap (t6.2.getD (Int.toNat t8) 0)))) 1000003) t6 t7 (IntKind.i64.wrap (t8 + 1))).bind fun r => some r
else none
else none
else 
 some n := tL FhK
theorem FhE (b) : Fh b =
(F1k 0 b (b.2.length : Int) 0).bind fun r =>
 some r := tC
theorem FwE (g from_) : Fw g from_ =
(Fa g).bind fun r =>
 bif r then
(Fb from_ (g.2.length : Int)).bind fun r1 =>
 some r1
else 
 some false := tC
theorem FxE (s) : Fx s =
 bif s.1 then
 some (true, [])
else 
 bif decide (([] : List Int).length + s.2.length ≤ lim) then
 some (false, ([] ++ s.2))
else none := tC
theorem F21E (g steps open_ t17 t18 t19) : F21 g steps open_ t17 t18 t19 =
 bif decide (t19 < t18) then
 bif decide (0 ≤ t19) then
 bif decide (t19 < (t17.2.length : Int)) then
 bif decide (0 ≤ (t17.2.getD (Int.toNat t19) 0)) then
 bif decide ((t17.2.getD (Int.toNat t19) 0) < (steps.2.length : Int)) then
(F21 g (steps.1, (steps.2.set (Int.toNat (t17.2.getD (Int.toNat t19) 0)) 0)) open_ t17 t18 (IntKind.i64.wrap (t19 + 1))).bind fun r => some r
else none
else none
else none
else none
else 
 some (steps.1, steps.2) := tL F2K
theorem F1vE (g steps open_) : F1v g steps open_ =
 bif decide ((open_.2.length : Int) > 0) then
 bif decide (0 < (open_.2.length : Int)) then
 bif decide (0 ≤ (open_.2.getD 0 0)) then
 bif decide ((open_.2.getD 0 0) < (g.2.length : Int)) then
(F1a g (steps.1, steps.2) (open_.1, open_.2) (g.2.getD (Int.toNat (open_.2.getD 0 0)) (true, [])) (((g.2.getD (Int.toNat (open_.2.getD 0 0)) (true, [])).2).length : Int) 0).bind fun r =>
 bif decide (1 ≤ (r.2.2.length : Int)) then
(F1v g (r.1.1, r.1.2) (r.2.1, ((r.2.2.take r.2.2.length).drop 1))).bind fun r => some r
else none
else none
else none
else none
else 
 some (steps.1, steps.2) := tL F2K
theorem F1aE (g steps open_ t37 t38 t39) : F1a g steps open_ t37 t38 t39 =
 bif decide (t39 < t38) then
 bif decide (0 ≤ t39) then
 bif decide (t39 < (t37.2.length : Int)) then
 bif decide (0 ≤ (t37.2.getD (Int.toNat t39) 0)) then
 bif decide ((t37.2.getD (Int.toNat t39) 0) < (steps.2.length : Int)) then
 bif decide ((steps.2.getD (Int.toNat (t37.2.getD (Int.toNat t39) 0)) 0) < 0) then
 bif decide (0 < (open_.2.length : Int)) then
 bif decide (0 ≤ (open_.2.getD 0 0)) then
 bif decide ((open_.2.getD 0 0) < (steps.2.length : Int)) then
 bif decide (0 ≤ (t37.2.getD (Int.toNat t39) 0)) then
 bif decide ((t37.2.getD (Int.toNat t39) 0) < (steps.2.length : Int)) then
 bif decide (open_.2.length + [(t37.2.getD (Int.toNat t39) 0)].length ≤ lim) then
(F1a g (steps.1, (steps.2.set (Int.toNat (t37.2.getD (Int.toNat t39) 0)) (IntKind.i64.wrap ((steps.2.getD (Int.toNat (open_.2.getD 0 0)) 0) + 1)))) ((open_.1 && false), (open_.2 ++ [(t37.2.getD (Int.toNat t39) 0)])) t37 t38 (IntKind.i64.wrap (t39 + 1))).bind fun r => some r
else none
else none
else none
else none
else none
else none
else 
(F1a g (steps.1, steps.2) (open_.1, open_.2) t37 t38 (IntKind.i64.wrap (t39 + 1))).bind fun r => some r
else none
else none
else none
else none
else 
 some ((steps.1, steps.2), (open_.1, open_.2)) := tL F2K
theorem F2E (g some_) : F2 g some_ =
(Fj (false, [(-1)]) (g.2.length : Int)).bind fun r =>
(Fx some_).bind fun r1 =>
(F21 g (r.1, r.2) (r1.1, r1.2) some_ (some_.2.length : Int) 0).bind fun r2 =>
(F1v g (r2.1, r2.2) (r1.1, r1.2)).bind fun r3 =>
 some (r3.1, r3.2) := tC
theorem F1eE (out t11 t12 t13) : F1e out t11 t12 t13 =
 bif decide (t13 < t12) then
 bif decide (0 ≤ t13) then
 bif decide (t13 < (t11.2.length : Int)) then
 bif decide ((t11.2.getD (Int.toNat t13) 0) ≥ 0) then
 bif decide (out.2.length + [t13].length ≤ lim) then
(F1e ((out.1 && false), (out.2 ++ [t13])) t11 t12 (IntKind.i64.wrap (t13 + 1))).bind fun r => some r
else none
else 
(F1e (out.1, out.2) t11 t12 (IntKind.i64.wrap (t13 + 1))).bind fun r => some r
else none
else none
else 
 some (out.1, out.2) := tL FcK
theorem FcE (g some_) : Fc g some_ =
(F2 g some_).bind fun r =>
(F1e (false, []) (r.1, r.2) (r.2.length : Int) 0).bind fun r1 =>
 some (r1.1, r1.2) := tC
theorem FrE (g from_) : Fr g from_ =
(Fw g from_).bind fun r =>
 bif !r then
 some ((true, []), false)
else 
(Fc g from_).bind fun r1 =>
 some ((r1.1, r1.2), true) := tC
theorem F1hE (s v) : F1h s v =
(Fe s v).bind fun r =>
 some (decide (r ≥ 0)) := tC
theorem F15E (g n) : F15 g n =
(Fw g (false, [n])).bind fun r =>
 bif !r then
 some (false, false)
else 
 bif decide (0 ≤ n) then
 bif decide (n < (g.2.length : Int)) then
(Fc g (g.2.getD (Int.toNat n) (true, []))).bind fun r1 =>
(F1h (r1.1, r1.2) n).bind fun r2 =>
 some (r2, true)
else none
else none := tC
theorem F19E (l) : F19 l =
 bif decide (([] : List Int).length + l.2.length ≤ lim) then
 some (false, ([] ++ l.2))
else none := tC
theorem F20E (next from_ out t17 t18) : F20 next from_ out t17 t18 =
 bif decide (t18 < t17) then
 bif decide (0 ≤ t18) then
 bif decide (t18 < (out.2.length : Int)) then
(F20 next from_ (out.1, (out.2.set (Int.toNat t18) (-1))) t17 (IntKind.i64.wrap (t18 + 1))).bind fun r => some r
else none
else none
else 
 some (out.1, out.2) := tL F0K
theorem F1qE (next from_ out t25 t26 t27) : F1q next from_ out t25 t26 t27 =
 bif decide (t27 < t26) then
 bif decide (0 ≤ t27) then
 bif decide (t27 < (t25.2.length : Int)) then
 bif decide (0 ≤ (t25.2.getD (Int.toNat t27) 0)) then
 bif decide ((t25.2.getD (Int.toNat t27) 0) < (out.2.length : Int)) then
(F1q next from_ (out.1, (out.2.set (Int.toNat (t25.2.getD (Int.toNat t27) 0)) 0)) t25 t26 (IntKind.i64.wrap (t27 + 1))).bind fun r => some r
else none
else none
else none
else none
else 
 some (out.1, out.2) := tL F0K
theorem F1lE (next out row_) : F1l next out row_ =
 bif decide ((row_.2.length : Int) > 0) then
 bif decide (0 < (row_.2.length : Int)) then
 bif decide (1 ≤ (row_.2.length : Int)) then
 bif decide (0 ≤ (row_.2.getD 0 0)) then
 bif decide ((row_.2.getD 0 0) < (next.2.length : Int)) then
(F13 next (out.1, out.2) (row_.1, ((row_.2.take row_.2.length).drop 1)) (row_.2.getD 0 0) (next.2.getD (Int.toNat (row_.2.getD 0 0)) (true, [])) (((next.2.getD (Int.toNat (row_.2.getD 0 0)) (true, [])).2).length : Int) 0).bind fun r =>
(F1l next (r.1.1, r.1.2) (r.2.1, r.2.2)).bind fun r => some r
else none
else none
else none
else none
else 
 some (out.1, out.2) := tL F0K
theorem F13E (next out row_ k_ t48 t49 t50) : F13 next out row_ k_ t48 t49 t50 =
 bif decide (t50 < t49) then
 bif decide (0 ≤ t50) then
 bif decide (t50 < (t48.2.length : Int)) then
 bif decide (0 ≤ (t48.2.getD (Int.toNat t50) 0)) then
 bif decide ((t48.2.getD (Int.toNat t50) 0) < (out.2.length : Int)) then
 bif decide ((out.2.getD (Int.toNat (t48.2.getD (Int.toNat t50) 0)) 0) < 0) then
 bif decide (0 ≤ k_) then
 bif decide (k_ < (out.2.length : Int)) then
 bif decide (0 ≤ (t48.2.getD (Int.toNat t50) 0)) then
 bif decide ((t48.2.getD (Int.toNat t50) 0) < (out.2.length : Int)) then
 bif decide (row_.2.length + [(t48.2.getD (Int.toNat t50) 0)].length ≤ lim) then
(F13 next (out.1, (out.2.set (Int.toNat (t48.2.getD (Int.toNat t50) 0)) (IntKind.i64.wrap ((out.2.getD (Int.toNat k_) 0) + 1)))) ((row_.1 && false), (row_.2 ++ [(t48.2.getD (Int.toNat t50) 0)])) k_ t48 t49 (IntKind.i64.wrap (t50 + 1))).bind fun r => some r
else none
else none
else none
else none
else none
else 
(F13 next (out.1, out.2) (row_.1, row_.2) k_ t48 t49 (IntKind.i64.wrap (t50 + 1))).bind fun r => some r
else none
else none
else none
else none
else 
 some ((out.1, out.2), (row_.1, row_.2)) := tL F0K
theorem F0E (next from_) : F0 next from_ =
 bif decide (0 ≤ (next.2.length : Int)) then
 bif decide ((next.2.length : Int) ≤ lim) then
 bif decide ((next.2.length : Int) ≤ (next.2.length : Int)) then
 bif decide ((next.2.length : Int) ≤ lim) then
(F20 next from_ (false, (List.replicate (Int.toNat (next.2.length : Int)) (0 : Int))) ((List.replicate (Int.toNat (next.2.length : Int)) (0 : Int)).length : Int) 0).bind fun r =>
(F1q next from_ (r.1, r.2) from_ (from_.2.length : Int) 0).bind fun r1 =>
(F19 from_).bind fun r2 =>
(F1l next (r1.1, r1.2) (r2.1, r2.2)).bind fun r3 =>
 some (r3.1, r3.2)
else none
else none
else none
else none := tC
theorem F1cE (out t10 t11 t12) : F1c out t10 t11 t12 =
 bif decide (t12 < t11) then
 bif decide (0 ≤ t12) then
 bif decide (t12 < (t10.2.length : Int)) then
 bif decide ((t10.2.getD (Int.toNat t12) 0) ≥ 0) then
 bif decide (out.2.length + [t12].length ≤ lim) then
(F1c ((out.1 && false), (out.2 ++ [t12])) t10 t11 (IntKind.i64.wrap (t12 + 1))).bind fun r => some r
else none
else 
(F1c (out.1, out.2) t10 t11 (IntKind.i64.wrap (t12 + 1))).bind fun r => some r
else none
else none
else 
 some (out.1, out.2) := tL FgK
theorem FgE (next from_) : Fg next from_ =
(F0 next from_).bind fun r =>
(F1c (true, []) (r.1, r.2) (r.2.length : Int) 0).bind fun r1 =>
 some (r1.1, r1.2) := tC
theorem F28E (n t7 t8 t9) : F28 n t7 t8 t9 =
 bif decide (t9 < t8) then
 bif decide (0 ≤ t9) then
 bif decide (t9 < (t7.2.length : Int)) then
 bif ((t7.2.getD (Int.toNat t9) 0) == n) then
 some (.inl true)
else 
(F28 n t7 t8 (IntKind.i64.wrap (t9 + 1))).bind fun r => some r
else none
else none
else 
 some (.inr ()) := tL FoK
theorem FoE (l n) : Fo l n =
(F28 n l (l.2.length : Int) 0).bind fun r =>
 match r with
| .inl y =>
 some y
| .inr z =>
 some false := tC
theorem F1dE (g n) : F1d g n =
(F9 g).bind fun r =>
 bif !r then
 some (false, false)
else 
(Fv n 0 (IntKind.i64.wrap ((g.2.length : Int) - 1))).bind fun r1 =>
 bif !r1 then
 some (false, false)
else 
 bif decide (0 ≤ n) then
 bif decide (n < (g.2.length : Int)) then
(Fg g (g.2.getD (Int.toNat n) (true, []))).bind fun r2 =>
(Fo (r2.1, r2.2) n).bind fun r3 =>
 some (r3, true)
else none
else none := tC
theorem F1mE (n t7 t8 t9) : F1m n t7 t8 t9 =
 bif decide (t9 < t8) then
 bif decide (0 ≤ t9) then
 bif decide (t9 < (t7.2.length : Int)) then
 bif ((t7.2.getD (Int.toNat t9) 0) == n) then
 some (.inl true)
else 
(F1m n t7 t8 (IntKind.i64.wrap (t9 + 1))).bind fun r => some r
else none
else none
else 
 some (.inr ()) := tL F7K
theorem F7E (l n) : F7 l n =
(F1m n l (l.2.length : Int) 0).bind fun r =>
 match r with
| .inl y =>
 some y
| .inr z =>
 some false := tC
theorem F1rE (code more) : F1r code more =
(F14 code more).bind fun r =>
 bif r then
 some true
else 
(F18 code).bind fun r1 =>
(Fs (r1.1, r1.2)).bind fun r2 =>
(F16 (r1.1, r1.2)).bind fun r3 =>
(F11 (r1.1, r1.2)).bind fun r4 =>
(F1g (r1.1, r1.2)).bind fun r5 =>
 bif !(r2.2 == r3.2) then
 some false
else 
(F8 (r2.1.1, r2.1.2) (r3.1.1, r3.1.2)).bind fun r6 =>
 bif !r6 then
 some false
else 
 bif !(r4.2 == r5.2) then
 some false
else 
(Fl (r4.1.1, r4.1.2) (r5.1.1, r5.1.2)).bind fun r7 =>
 bif !r7 then
 some false
else 
(Fa (r1.1, r1.2)).bind fun r8 =>
(F9 (r1.1, r1.2)).bind fun r9 =>
 bif !(r8 == r9) then
 some false
else 
 bif !r2.2 then
 some true
else 
 bif ((r2.1.2.length : Int) == 0) then
 some true
else 
(Fh more).bind fun r10 =>
 bif ((r2.1.2.length : Int) == 0) then
 none
else 
(Fh more).bind fun r11 =>
 bif ((r2.1.2.length : Int) == 0) then
 none
else 
(Fr (r1.1, r1.2) (false, [Int.tmod r10 (r2.1.2.length : Int)])).bind fun r12 =>
(Fr (r1.1, r1.2) (false, [Int.tmod (IntKind.i64.wrap (Int.tdiv r11 7)) (r2.1.2.length : Int)])).bind fun r13 =>
(Fr (r4.1.1, r4.1.2) (false, [Int.tmod r10 (r2.1.2.length : Int)])).bind fun r14 =>
(Fs (r4.1.1, r4.1.2)).bind fun r15 =>
(F15 (r1.1, r1.2) (Int.tmod r10 (r2.1.2.length : Int))).bind fun r16 =>
(F1d (r1.1, r1.2) (Int.tmod r10 (r2.1.2.length : Int))).bind fun r17 =>
 bif r12.2 then
 bif r13.2 then
 bif r14.2 then
 bif r15.2 then
 bif r16.2 then
 bif r17.2 then
 bif (r16.1 == r17.1) then
 bif decide (0 ≤ (Int.tmod r10 (r2.1.2.length : Int))) then
 bif decide ((Int.tmod r10 (r2.1.2.length : Int)) < (r2.1.2.length : Int)) then
 bif decide (0 ≤ (Int.tmod (IntKind.i64.wrap (Int.tdiv r11 7)) (r2.1.2.length : Int))) then
 bif decide ((Int.tmod (IntKind.i64.wrap (Int.tdiv r11 7)) (r2.1.2.length : Int)) < (r2.1.2.length : Int)) then
(F7 (r12.1.1, r12.1.2) (Int.tmod (IntKind.i64.wrap (Int.tdiv r11 7)) (r2.1.2.length : Int))).bind fun r18 =>
 bif r18 then
(F7 (r13.1.1, r13.1.2) (Int.tmod r10 (r2.1.2.length : Int))).bind fun r19 =>
 bif (((r2.1.2.getD (Int.toNat (Int.tmod r10 (r2.1.2.length : Int))) 0) == (r2.1.2.getD (Int.toNat (Int.tmod (IntKind.i64.wrap (Int.tdiv r11 7)) (r2.1.2.length : Int))) 0)) == r19) then
 bif decide (0 ≤ (Int.tmod r10 (r2.1.2.length : Int))) then
 bif decide ((Int.tmod r10 (r2.1.2.length : Int)) < (r2.1.2.length : Int)) then
 bif decide (0 ≤ (Int.tmod (IntKind.i64.wrap (Int.tdiv r11 7)) (r2.1.2.length : Int))) then
 bif decide ((Int.tmod (IntKind.i64.wrap (Int.tdiv r11 7)) (r2.1.2.length : Int)) < (r2.1.2.length : Int)) then
(F7 (r12.1.1, r12.1.2) (Int.tmod (IntKind.i64.wrap (Int.tdiv r11 7)) (r2.1.2.length : Int))).bind fun r20 =>
 bif r20 then
(F7 (r14.1.1, r14.1.2) (Int.tmod (IntKind.i64.wrap (Int.tdiv r11 7)) (r2.1.2.length : Int))).bind fun r21 =>
 bif (((r2.1.2.getD (Int.toNat (Int.tmod r10 (r2.1.2.length : Int))) 0) == (r2.1.2.getD (Int.toNat (Int.tmod (IntKind.i64.wrap (Int.tdiv r11 7)) (r2.1.2.length : Int))) 0)) == r21) then
(F8 (r15.1.1, r15.1.2) (r2.1.1, r2.1.2)).bind fun r22 =>
 some r22
else 
 some false
else 
 bif (((r2.1.2.getD (Int.toNat (Int.tmod r10 (r2.1.2.length : Int))) 0) == (r2.1.2.getD (Int.toNat (Int.tmod (IntKind.i64.wrap (Int.tdiv r11 7)) (r2.1.2.length : Int))) 0)) == false) then
(F8 (r15.1.1, r15.1.2) (r2.1.1, r2.1.2)).bind fun r23 =>
 some r23
else 
 some false
else none
else none
else none
else none
else 
 some false
else 
 bif (((r2.1.2.getD (Int.toNat (Int.tmod r10 (r2.1.2.length : Int))) 0) == (r2.1.2.getD (Int.toNat (Int.tmod (IntKind.i64.wrap (Int.tdiv r11 7)) (r2.1.2.length : Int))) 0)) == false) then
 bif decide (0 ≤ (Int.tmod r10 (r2.1.2.length : Int))) then
 bif decide ((Int.tmod r10 (r2.1.2.length : Int)) < (r2.1.2.length : Int)) then
 bif decide (0 ≤ (Int.tmod (IntKind.i64.wrap (Int.tdiv r11 7)) (r2.1.2.length : Int))) then
 bif decide ((Int.tmod (IntKind.i64.wrap (Int.tdiv r11 7)) (r2.1.2.length : Int)) < (r2.1.2.length : Int)) then
(F7 (r12.1.1, r12.1.2) (Int.tmod (IntKind.i64.wrap (Int.tdiv r11 7)) (r2.1.2.length : Int))).bind fun r24 =>
 bif r24 then
(F7 (r14.1.1, r14.1.2) (Int.tmod (IntKind.i64.wrap (Int.tdiv r11 7)) (r2.1.2.length : Int))).bind fun r25 =>
 bif (((r2.1.2.getD (Int.toNat (Int.tmod r10 (r2.1.2.length : Int))) 0) == (r2.1.2.getD (Int.toNat (Int.tmod (IntKind.i64.wrap (Int.tdiv r11 7)) (r2.1.2.length : Int))) 0)) == r25) then
(F8 (r15.1.1, r15.1.2) (r2.1.1, r2.1.2)).bind fun r26 =>
 some r26
else 
 some false
else 
 bif (((r2.1.2.getD (Int.toNat (Int.tmod r10 (r2.1.2.length : Int))) 0) == (r2.1.2.getD (Int.toNat (Int.tmod (IntKind.i64.wrap (Int.tdiv r11 7)) (r2.1.2.length : Int))) 0)) == false) then
(F8 (r15.1.1, r15.1.2) (r2.1.1, r2.1.2)).bind fun r27 =>
 some r27
else 
 some false
else none
else none
else none
else none
else 
 some false
else none
else none
else none
else none
else 
 some false
else 
 some false
else 
 some false
else 
 some false
else 
 some false
else 
 some false
else 
 some false := tC
theorem fit : Fit Try.prog H := Jgx (exts := extsL) (tys := tysL) (cells := cellsL) (keys := keysL) (mtys := mtysL) rfl rfl rfl rfl rfl (by kernel_rfl) (by kernel_rfl) (by kernel_rfl) ⟨⟨Try.func7, by kernel_rfl, by kernel_rfl⟩, ⟨Try.func100, by kernel_rfl, by kernel_rfl⟩, ⟨Try.func70, by kernel_rfl, by kernel_rfl⟩, ⟨Try.func79, by kernel_rfl, by kernel_rfl⟩, ⟨Try.func43, by kernel_rfl, by kernel_rfl⟩, ⟨Try.func52, by kernel_rfl, by kernel_rfl⟩, ⟨Try.func15, by kernel_rfl, by kernel_rfl⟩, ⟨Try.func46, by kernel_rfl, by kernel_rfl⟩, ⟨Try.func21, by kernel_rfl, by kernel_rfl⟩, ⟨Try.func120, by kernel_rfl, by kernel_rfl⟩, ⟨Try.func114, by kernel_rfl, by kernel_rfl⟩, ⟨Try.func86, by kernel_rfl, by kernel_rfl⟩, ⟨Try.func89, by kernel_rfl, by kernel_rfl⟩, ⟨Try.func115, by kernel_rfl, by kernel_rfl⟩, ⟨Try.func87, by kernel_rfl, by kernel_rfl⟩, ⟨Try.func53, by kernel_rfl, by kernel_rfl⟩, ⟨Try.func16, by kernel_rfl, by kernel_rfl⟩, ⟨Try.func58, by kernel_rfl, by kernel_rfl⟩, ⟨Try.func84, by kernel_rfl, by kernel_rfl⟩, ⟨Try.func48, by kernel_rfl, by kernel_rfl⟩, ⟨Try.func22, by kernel_rfl, by kernel_rfl⟩, ⟨Try.func88, by kernel_rfl, by kernel_rfl⟩, ⟨Try.func56, by kernel_rfl, by kernel_rfl⟩, ⟨Try.func54, by kernel_rfl, by kernel_rfl⟩, ⟨Try.func17, by kernel_rfl, by kernel_rfl⟩, ⟨Try.func55, by kernel_rfl, by kernel_rfl⟩, ⟨Try.func18, by kernel_rfl, by kernel_rfl⟩, ⟨Try.func19, by kernel_rfl, by kernel_rfl⟩, ⟨Try.func13, by kernel_rfl, by kernel_rfl⟩, ⟨Try.func20, by kernel_rfl, by kernel_rfl⟩, ⟨Try.func23, by kernel_rfl, by kernel_rfl⟩, ⟨Try.func45, by kernel_rfl, by kernel_rfl⟩, ⟨Try.func108, by kernel_rfl, by kernel_rfl⟩, ⟨Try.func81, by kernel_rfl, by kernel_rfl⟩, ⟨Try.func50, by kernel_rfl, by kernel_rfl⟩, ⟨Try.func11, by kernel_rfl, by kernel_rfl⟩, ⟨Try.func57, by kernel_rfl, by kernel_rfl⟩, ⟨Try.func24, by kernel_rfl, by kernel_rfl⟩, ⟨Try.func113, by kernel_rfl, by kernel_rfl⟩, ⟨Try.func85, by kernel_rfl, by kernel_rfl⟩, ⟨Try.func51, by kernel_rfl, by kernel_rfl⟩, ⟨Try.func59, by kernel_rfl, by kernel_rfl⟩, ⟨Try.func25, by kernel_rfl, by kernel_rfl⟩, ⟨Try.func14, by kernel_rfl, by kernel_rfl⟩, ⟨Try.func4, by kernel_rfl, by kernel_rfl⟩, trivial⟩ trivial (by kernel_rfl)
theorem nats : Jdl Try.prog H := Jh1 (keys := keysL) rfl ⟨.plain rfl, .plain rfl, .plain rfl, .plain rfl, .plain rfl, .plain rfl, .plain rfl, .plain rfl, .plain rfl, .plain rfl, .plain rfl, .plain rfl, .plain rfl, .plain rfl, .plain rfl, .plain rfl, .plain rfl, .plain rfl, .plain rfl, .plain rfl, .plain rfl, .plain rfl, .plain rfl, .plain rfl, .plain rfl, .plain rfl, .plain rfl, .plain rfl, .plain rfl, .plain rfl, .plain rfl, .plain rfl, .plain rfl, .plain rfl, .plain rfl, .plain rfl, .plain rfl, .plain rfl, .plain rfl, .plain rfl, .plain rfl, .plain rfl, .plain rfl, .plain rfl, .plain rfl, trivial⟩
end Go.Proofs.Ytnnoohfloniinaa.R
