/- Kinds, signatures and loops of the functions that the laws J77, and what each computes. -/
import Derived.Test.YtnnoohfloniinaaRfD
import Derived.Test.YtnnoohfloniinaaProg
import Derived.KernelRfl
set_option linter.unusedVariables false
namespace Go.Proofs.Ytnnoohfloniinaa.R
open Go.Rf Go.Proofs
def tyl1Cur : Ty := (.pair (.sl (.int .u8)) (.pair (.int .i64) (.int .u64)))
abbrev Dl1Cur := (Bool × List Int) × Int × Int
def tyGate : Ty := (.pair (.int .i64) (.pair (.int .i64) (.int .i64)))
abbrev DGate := Int × Int × Int
def tyboundsError : Ty := (.pair (.int .i64) (.pair (.int .i64) (.pair .bool (.int .u8))))
abbrev DboundsError := Int × Int × Bool × Int
def tyGraph : Ty := (.one (.sl (.sl (.int .i64))))
abbrev DGraph := Bool × List (Bool × List Int)
def tyl11Walk : Ty := (.pair (.sl (.sl (.int .i64))) (.pair (.sl .bool) (.sl (.int .i64))))
abbrev Dl11Walk := (Bool × List (Bool × List Int)) × (Bool × List Bool) × Bool × List Int
def tyCircuit : Ty := (.pair (.int .i64) (.pair (.sl tyGate) (.sl (.int .i64))))
abbrev DCircuit := Int × (Bool × List DGate) × Bool × List Int
def tytarjan : Ty := (.pair (.sl (.sl (.int .i64))) (.pair (.sl (.int .i64)) (.pair (.sl (.int .i64)) (.pair (.sl (.int .i64)) (.pair (.sl (.int .i64)) (.int .i64))))))
abbrev Dtarjan := (Bool × List (Bool × List Int)) × (Bool × List Int) × (Bool × List Int) × (Bool × List Int) × (Bool × List Int) × Int
def s0 : SS := .v (.int .i64)
def s1 : SS := .v (.sl (.int .i64))
def s2 : SS := .v (.sl (.sl (.int .i64)))
def s3 : SS := .tup (.v .bool) .unit
def s4 : SS := .tup (.v (.int .u64)) (.tup (.v (.int .u64)) .unit)
def s5 : SS := .tup s1 .unit
def s6 : SS := .tup s0 .unit
def s7 : SS := .v tyl1Cur
def s8 : SS := .v (.sl (.int .u8))
noncomputable def FtH : FnH := ⟨7, Try.f7, (.tup s8 (.tup s8 .unit)), s3, [], [], [], [], [], none⟩
noncomputable def FrH : FnH := ⟨100, Try.f100, (.tup (.box 206849 (.pair s8 (.pair s0 (.v (.int .u64))))) .unit), (.tup (.box 206849 s7) s6), [206849], [], [], [], [], none⟩
noncomputable def FkH : FnH := ⟨70, Try.f70, (.tup (.box 206850 s7) s6), (.tup (.box 206850 s7) s6), [206850], [], [], [], [], none⟩
noncomputable def FfH : FnH := ⟨79, Try.f79, (.tup (.own 206855 (.int .i64) true) s6), (.tup .any (.tup (.own 206856 (.int .i64) true) .unit)), [206855], [], [(0, ⟨[(0, s1), (1, s0), (5, s0)], [(.exit 0, [(5, s0)])], [0, 1]⟩)], [], [], none⟩
noncomputable def F4H : FnH := ⟨43, Try.f43, (.tup (.box 206851 s7) .unit), (.tup (.box 206851 s7) (.tup (.one (.own 206869 (.sl (.int .i64)) true)) .unit)), [206851], [], [(0, ⟨[(0, (.box 206852 s7)), (3, s0), (4, (.box 206860 (.one (.own 206861 (.sl (.int .i64)) true)))), (5, s0)], [(.exit 0, [(2206852, (.box 206852 s7)), (2206860, (.box 206860 (.one (.own 206865 (.sl (.int .i64)) true))))])], [0, 2, 3, 4]⟩), (2, ⟨[(0, (.box 206854 s7)), (3, s0), (5, s0), (6, (.own 206853 (.int .i64) true)), (7, s0)], [(.exit 2, [(2206854, (.box 206854 s7)), (6, (.own 206858 (.int .i64) true))])], [0, 3, 4, 5]⟩), (5, ⟨[(0, (.box 206871 s7)), (4, (.box 206873 (.one (.own 206874 (.sl (.int .i64)) true))))], [(.exit 5, [(2206871, (.box 206871 s7)), (2206873, (.box 206873 (.one (.own 206877 (.sl (.int .i64)) true))))])], [2, 4]⟩)], [], [], none⟩
noncomputable def F18H : FnH := ⟨80, Try.f80, (.tup (.box 206886 s7) s6), (.tup (.box 206886 s7) s3), [206886], [], [], [], [], none⟩
noncomputable def FeH : FnH := ⟨44, Try.f44, (.tup (.box 206879 s7) (.tup s0 s6)), (.tup (.box 206879 s7) (.tup (.own 206887 (.int .i64) true) .unit)), [206879], [], [(0, ⟨[(0, (.box 206881 s7)), (1, s0), (7, (.own 206880 (.int .i64) true)), (8, s0)], [(.exit 0, [(2206881, (.box 206881 s7)), (7, (.own 206884 (.int .i64) true))])], [0, 1]⟩)], [], [], none⟩
noncomputable def F10H : FnH := ⟨8, Try.f8, (.tup s8 .unit), (.tup (.one (.own 206889 (.sl (.int .i64)) true)) (.tup (.own 206890 (.int .i64) true) (.tup (.own 206891 (.int .i64) true) .unit))), [], [], [], [], [], none⟩
noncomputable def F9H : FnH := ⟨46, Try.f46, (.tup s1 s6), s3, [], [], [(0, ⟨[(0, s1), (1, s0), (7, s1), (8, s0), (9, s0)], [(.ret, [(4, (.v .bool))]), (.exit 0, [])], []⟩)], [], [], none⟩
noncomputable def FjH : FnH := ⟨21, Try.f21, (.tup (.v tyGraph) .unit), s3, [], [], [(0, ⟨[(1, (.sp tyGraph)), (3, s0), (11, s2), (12, s0), (13, s0)], [(.ret, [(2, (.v .bool))]), (.exit 0, [(3, s0)])], []⟩)], [], [], none⟩
noncomputable def FsH : FnH := ⟨45, Try.f45, (.tup (.v tyGraph) s5), s3, [], [], [], [], [], none⟩
noncomputable def F6H : FnH := ⟨55, Try.f55, (.tup s2 .unit), (.tup (.own 206894 (.sl (.int .i64)) true) .unit), [], [], [(0, ⟨[(3, (.own 206893 (.sl (.int .i64)) true)), (11, s2), (12, s0), (13, s0)], [(.exit 0, [(1206893, (.own 206893 (.sl (.int .i64)) true))])], [3]⟩), (2, ⟨[(3, (.own 206892 (.sl (.int .i64)) true)), (4, s0), (11, s2), (12, s0), (13, s0), (18, s1), (19, s0), (20, s0)], [(.exit 2, [(1206892, (.own 206892 (.sl (.int .i64)) true))])], [3, 11, 12, 13]⟩)], [], [], none⟩
noncomputable def FvH : FnH := ⟨120, Try.f120, s4, s4, [], [], [], [], [], none⟩
noncomputable def FlH : FnH := ⟨114, Try.f114, s4, s4, [], [], [], [], [], none⟩
noncomputable def FhH : FnH := ⟨86, Try.f86, (.tup s1 s6), (.tup (.own 206896 (.int .i64) true) .unit), [], [], [(0, ⟨[(7, (.own 206895 (.int .i64) true)), (8, s0)], [(.exit 0, [(1206895, (.own 206895 (.int .i64) true))])], [7]⟩)], [], [], none⟩
noncomputable def F12H : FnH := ⟨108, Try.f108, s5, (.tup (.own 206897 (.int .i64) true) .unit), [], [], [], [], [], none⟩
noncomputable def F3H : FnH := ⟨81, Try.f81, (.tup s2 s5), (.tup (.own 206904 (.int .i64) true) .unit), [], [], [(0, ⟨[(0, s2), (5, (.own 206898 (.int .i64) true)), (6, s1), (17, s1), (18, s0), (19, s0)], [(.exit 0, [(1206898, (.own 206898 (.int .i64) true))])], [0, 5, 6]⟩), (2, ⟨[(0, s2), (5, (.own 206902 (.int .i64) true)), (6, (.own 206899 (.int .i64) true))], [(.exit 2, [(1206902, (.own 206902 (.int .i64) true))])], [5]⟩), (4, ⟨[(0, s2), (5, (.own 206901 (.int .i64) true)), (6, (.own 206900 (.int .i64) true)), (37, s1), (38, s0), (39, s0)], [(.exit 4, [(1206901, (.own 206901 (.int .i64) true)), (6, (.own 206903 (.int .i64) true))])], [0, 5]⟩)], [], [], none⟩
noncomputable def F15H : FnH := ⟨83, Try.f83, (.tup s0 (.tup (.sp (.sl (.int .i64))) (.tup (.sp (.int .i64)) .unit))), s3, [], [], [], [], [], none⟩
noncomputable def FiH : FnH := ⟨82, Try.f82, (.tup s1 (.tup (.v (.fn 83 (.pair (.sl (.int .i64)) (.pair (.int .i64) .nil)))) .unit)), s6, [], [], [(0, ⟨[(0, s1), (1, (.v (.fn 83 (.pair (.sl (.int .i64)) (.pair (.int .i64) .nil))))), (7, s0), (8, s0)], [(.ret, [(4, s0)]), (.exit 0, [])], []⟩)], [], [], none⟩
noncomputable def F1H : FnH := ⟨47, Try.f47, (.tup s2 (.tup s1 s5)), (.tup (.own 206908 (.int .i64) true) .unit), [], [], [(0, ⟨[(0, s2), (7, (.sp (.sl (.int .i64)))), (8, s0), (18, s1), (19, s0), (20, s0)], [(.exit 0, [(8, s0)])], [0, 7]⟩), (2, ⟨[(0, s2), (7, (.sp (.sl (.int .i64)))), (11, (.own 206905 (.int .i64) true)), (12, (.box 206906 s0))], [(.exit 2, [(11, (.own 206907 (.int .i64) true))])], []⟩)], [], [], none⟩
noncomputable def F19H : FnH := ⟨9, Try.f9, (.tup (.v tyGraph) (.tup s1 s5)), (.tup (.own 206909 (.int .i64) true) s3), [], [], [], [], [], none⟩
noncomputable def F17H : FnH := ⟨58, Try.f58, (.tup s0 (.tup s0 s6)), s3, [], [], [], [], [], none⟩
noncomputable def FdH : FnH := ⟨84, Try.f84, (.tup s1 (.tup s0 s6)), s3, [], [], [(0, ⟨[(0, s1), (1, s0), (2, s0), (9, s1), (10, s0), (11, s0)], [(.ret, [(6, (.v .bool))]), (.exit 0, [])], []⟩)], [], [], none⟩
noncomputable def FmH : FnH := ⟨48, Try.f48, (.tup s1 s6), s3, [], [], [], [], [], none⟩
noncomputable def FgH : FnH := ⟨22, Try.f22, (.tup (.v tyGraph) .unit), s3, [], [], [(0, ⟨[(1, (.sp tyGraph)), (3, s0), (11, s2), (12, s0), (13, s0)], [(.ret, [(2, (.v .bool))]), (.exit 0, [(3, s0)])], []⟩)], [], [], none⟩
noncomputable def F8H : FnH := ⟨56, Try.f56, (.tup s2 .unit), (.tup (.own 206912 (.sl (.int .i64)) true) .unit), [], [], [(0, ⟨[(3, (.own 206911 (.sl (.int .i64)) true)), (11, s2), (12, s0), (13, s0)], [(.exit 0, [(1206911, (.own 206911 (.sl (.int .i64)) true))])], [3]⟩), (2, ⟨[(3, (.own 206910 (.sl (.int .i64)) true)), (4, s0), (11, s2), (12, s0), (13, s0), (18, s1), (19, s0), (20, s0)], [(.exit 2, [(1206910, (.own 206910 (.sl (.int .i64)) true))])], [3, 11, 12, 13]⟩)], [], [], none⟩
noncomputable def F11H : FnH := ⟨113, Try.f113, s5, (.tup (.own 206915 (.int .i64) true) .unit), [], [], [], [], [], none⟩
noncomputable def F0H : FnH := ⟨85, Try.f85, (.tup s2 s5), (.tup (.own 206921 (.int .i64) true) .unit), [], [], [(0, ⟨[(0, s2), (1, s1), (5, (.own 206913 (.int .i64) true)), (17, s0), (18, s0)], [(.exit 0, [(1206913, (.own 206913 (.int .i64) true))])], [0, 1, 5]⟩), (2, ⟨[(0, s2), (1, s1), (5, (.own 206914 (.int .i64) true)), (25, s1), (26, s0), (27, s0)], [(.exit 2, [(1206914, (.own 206914 (.int .i64) true))])], [0, 1, 5]⟩), (4, ⟨[(0, s2), (5, (.own 206919 (.int .i64) true)), (9, (.own 206916 (.int .i64) true))], [(.exit 4, [(1206919, (.own 206919 (.int .i64) true))])], [5]⟩), (6, ⟨[(0, s2), (5, (.own 206918 (.int .i64) true)), (9, (.own 206917 (.int .i64) true)), (10, s0), (48, s1), (49, s0), (50, s0)], [(.exit 6, [(1206918, (.own 206918 (.int .i64) true)), (9, (.own 206920 (.int .i64) true))])], [0, 5]⟩)], [], [], none⟩
noncomputable def F2H : FnH := ⟨49, Try.f49, (.tup s2 (.tup s1 s5)), (.tup (.own 206924 (.int .i64) true) s3), [], [], [(0, ⟨[(0, s2), (8, s1), (9, s0), (19, s1), (20, s0), (21, s0)], [(.exit 0, [(9, s0)])], [0, 8]⟩), (2, ⟨[(0, s2), (8, s1), (9, s0), (12, (.own 206922 (.int .i64) true))], [(.exit 2, [(12, (.own 206923 (.int .i64) true))])], []⟩), (4, ⟨[(0, s2), (8, s1), (9, s0), (12, s1), (59, s1), (60, s0), (61, s0)], [(.exit 4, [(9, s0)])], [0, 8, 12]⟩)], [], [], none⟩
noncomputable def FyH : FnH := ⟨10, Try.f10, (.tup (.v tyGraph) (.tup s1 s5)), (.tup (.own 206925 (.int .i64) true) s3), [], [], [], [], [], none⟩
noncomputable def FcH : FnH := ⟨50, Try.f50, (.tup s2 s5), (.tup (.own 206928 (.int .i64) true) .unit), [], [], [(0, ⟨[(5, (.own 206926 (.int .i64) true)), (11, s1), (12, s0), (13, s0)], [(.exit 0, [(5, (.own 206927 (.int .i64) true))])], []⟩)], [], [], none⟩
noncomputable def F1aH : FnH := ⟨11, Try.f11, (.tup (.v tyGraph) s5), (.tup (.own 206929 (.int .i64) true) s3), [], [], [], [], [], none⟩
noncomputable def FaH : FnH := ⟨51, Try.f51, (.tup s2 s5), (.tup (.own 206932 (.int .i64) true) .unit), [], [], [(0, ⟨[(5, (.own 206930 (.int .i64) true)), (10, s1), (11, s0), (12, s0)], [(.exit 0, [(5, (.own 206931 (.int .i64) true))])], []⟩)], [], [], none⟩
noncomputable def FzH : FnH := ⟨12, Try.f12, (.tup (.v tyGraph) s5), (.tup (.own 206933 (.int .i64) true) s3), [], [], [], [], [], none⟩
noncomputable def FbH : FnH := ⟨13, Try.f13, (.tup s1 s5), s3, [], [], [(0, ⟨[(0, s1), (1, s1), (12, s0), (13, s0)], [(.ret, [(4, (.v .bool))]), (.exit 0, [])], []⟩)], [], [], none⟩
noncomputable def F7H : FnH := ⟨14, Try.f14, (.tup s1 s6), s3, [], [], [(0, ⟨[(1, s0), (7, s1), (8, s0), (9, s0)], [(.ret, [(4, (.v .bool))]), (.exit 0, [])], []⟩)], [], [], none⟩
noncomputable def F5H : FnH := ⟨3, Try.f3, (.tup s8 (.tup s8 .unit)), s3, [], [], [(0, ⟨[(5, (.sp tyGraph)), (6, s1), (7, s1), (8, s1), (16, s0)], [(.ret, [(4, (.v .bool))]), (.exit 0, [])], []⟩), (2, ⟨[(5, (.sp tyGraph)), (12, s1), (17, (.v .bool)), (18, (.v .bool)), (141, s1), (142, s0), (143, s0)], [(.exit 2, [(17, (.v .bool)), (18, (.v .bool))])], []⟩)], [], [], none⟩
def extsL : List (Nat × ExtF) := []
def tysL : List (Nat × Ty) := [(3, (.int .i64)), (4, .bool), (5, (.int .u8)), (22, (.sl (.int .u8))), (24, (.sl (.sl (.int .i64)))), (26, tyGraph), (27, (.sl (.int .i64))), (67, (.int .u64)), (69, tyl1Cur), (123, (.int .u64))]
def nfsL : List (Nat × Nat) := [(26, 1), (69, 3)]
def cellsL : List Nat := []
def mtysL : List (Nat × (Nat × Nat)) := []
noncomputable def keysL : List (Nat × FnH) := [(7, FtH), (100, FrH), (70, FkH), (79, FfH), (43, F4H), (80, F18H), (44, FeH), (8, F10H), (46, F9H), (21, FjH), (45, FsH), (55, F6H), (120, FvH), (114, FlH), (86, FhH), (108, F12H), (81, F3H), (83, F15H), (82, FiH), (47, F1H), (9, F19H), (58, F17H), (84, FdH), (48, FmH), (22, FgH), (56, F8H), (113, F11H), (85, F0H), (49, F2H), (10, FyH), (50, FcH), (11, F1aH), (51, FaH), (12, FzH), (13, FbH), (14, F7H), (3, F5H)]
noncomputable def H : Hints := { extF := fun f => J1b extsL f, ty := fun T => J1b tysL T, nf := fun T => match J1b nfsL T with | some n => n | none => 0, cell := fun T => hasN cellsL T, key := fun k => J1b keysL k, mty := fun T => J1b mtysL T }
abbrev DRI := Bool × List (Bool × List Int)
abbrev DLI := Bool × List Int
noncomputable def Ft (code : DLI) (more : DLI) : Option Bool := (inf H).call 7 (code, more)
noncomputable def Fr (a0_0 : DLI) (a0_1 : Int) (a0_2 : Int) : Option (Dl1Cur × Int) := (inf H).call 100 (a0_0, (a0_1, a0_2))
noncomputable def Fk (c : Dl1Cur) (n : Int) : Option (Dl1Cur × Int) := (inf H).call 70 (c, n)
noncomputable def Ff (l : DLI) (n : Int) : Option DLI := (inf H).call 79 (l, n)
theorem FfK : H.key 79 = some FfH := by kernel_rfl
noncomputable def F1n (l : DLI) (n : Int) (k_ : Int) : Option Int := (inf H).loop 79 0 (Jc5 Try.f79 0) (l, (n, k_))
noncomputable def F4 (c : Dl1Cur) : Option (Dl1Cur × DRI) := (inf H).call 43 c
theorem F4K : H.key 43 = some F4H := by kernel_rfl
noncomputable def F1r (c : Dl1Cur) (n : Int) (g : DRI) (k_ : Int) : Option (Dl1Cur × DRI) := (inf H).loop 43 0 (Jc5 Try.f43 0) (c, (n, (g, k_)))
noncomputable def F1y (c : Dl1Cur) (n : Int) (k_ : Int) (l : DLI) (m : Int) : Option (Dl1Cur × DLI) := (inf H).loop 43 2 (Jc5 Try.f43 2) (c, (n, (k_, (l, m))))
noncomputable def F1g (c : Dl1Cur) (g : DRI) : Option (Dl1Cur × DRI) := (inf H).loop 43 5 (Jc5 Try.f43 5) (c, g)
noncomputable def F18 (c : Dl1Cur) (n : Int) : Option (Dl1Cur × Bool) := (inf H).call 80 (c, n)
noncomputable def Fe (c : Dl1Cur) (n : Int) (most : Int) : Option (Dl1Cur × DLI) := (inf H).call 44 (c, (n, most))
theorem FeK : H.key 44 = some FeH := by kernel_rfl
noncomputable def F1j (c : Dl1Cur) (n : Int) (l : DLI) (k_ : Int) : Option (Dl1Cur × DLI) := (inf H).loop 44 0 (Jc5 Try.f44 0) (c, (n, (l, k_)))
noncomputable def F10 (code : DLI) : Option (DRI × DLI × DLI) := (inf H).call 8 code
noncomputable def F9 (list : DLI) (bound : Int) : Option Bool := (inf H).call 46 (list, bound)
theorem F9K : H.key 46 = some F9H := by kernel_rfl
noncomputable def Fw (list : DLI) (bound : Int) (t7 : DLI) (t8 : Int) (t9 : Int) : Option (Bool ⊕ Unit) := (inf H).loop 46 0 (Jc5 Try.f46 0) (list, (bound, (t7, (t8, t9))))
noncomputable def Fj (g : DGraph) : Option Bool := (inf H).call 21 g
theorem FjK : H.key 21 = some FjH := by kernel_rfl
noncomputable def F1b (g : DGraph) (arcs : Int) (t11 : DRI) (t12 : Int) (t13 : Int) : Option (Bool ⊕ Int) := (inf H).loop 21 0 (Jc5 Try.f21 0) (g, (arcs, (t11, (t12, t13))))
noncomputable def Fs (g : DGraph) (from_ : DLI) : Option Bool := (inf H).call 45 (g, from_)
noncomputable def F6 (g : DRI) : Option DRI := (inf H).call 55 g
theorem F6K : H.key 55 = some F6H := by kernel_rfl
noncomputable def F1q (out : DRI) (t11 : DRI) (t12 : Int) (t13 : Int) : Option DRI := (inf H).loop 55 0 (Jc5 Try.f55 0) (out, (t11, (t12, t13)))
noncomputable def F1x (out : DRI) (v : Int) (t11 : DRI) (t12 : Int) (t13 : Int) (t18 : DLI) (t19 : Int) (t20 : Int) : Option DRI := (inf H).loop 55 2 (Jc5 Try.f55 2) (out, (v, (t11, (t12, (t13, (t18, (t19, t20)))))))
noncomputable def Fv (x : Int) (y : Int) : Option (Int × Int) := (inf H).call 120 (x, y)
noncomputable def Fl (x : Int) (y : Int) : Option (Int × Int) := (inf H).call 114 (x, y)
noncomputable def Fh (x : DLI) (count : Int) : Option DLI := (inf H).call 86 (x, count)
theorem FhK : H.key 86 = some FhH := by kernel_rfl
noncomputable def F1w (newslice : DLI) (n : Int) : Option DLI := (inf H).loop 86 0 (Jc5 Try.f86 0) (newslice, n)
noncomputable def F12 (s : DLI) : Option DLI := (inf H).call 108 s
noncomputable def F3 (g : DRI) (some_ : DLI) : Option DLI := (inf H).call 81 (g, some_)
theorem F3K : H.key 81 = some F3H := by kernel_rfl
noncomputable def F1i (g : DRI) (steps : DLI) (open_ : DLI) (t17 : DLI) (t18 : Int) (t19 : Int) : Option DLI := (inf H).loop 81 0 (Jc5 Try.f81 0) (g, (steps, (open_, (t17, (t18, t19)))))
noncomputable def F1c (g : DRI) (steps : DLI) (open_ : DLI) : Option DLI := (inf H).loop 81 2 (Jc5 Try.f81 2) (g, (steps, open_))
noncomputable def Fu (g : DRI) (steps : DLI) (open_ : DLI) (t37 : DLI) (t38 : Int) (t39 : Int) : Option (DLI × DLI) := (inf H).loop 81 4 (Jc5 Try.f81 4) (g, (steps, (open_, (t37, (t38, t39)))))
noncomputable def F15 (w : Int) (a1 : DLI) (a2 : Int) : Option Bool := (inf H).call 83 (w, (a1, a2))
noncomputable def Fi (s : DLI) (f : DLI × Int × Unit) : Option Int := (inf H).call 82 (s, f)
theorem FiK : H.key 82 = some FiH := by kernel_rfl
noncomputable def F1k (s : DLI) (f : DLI × Int × Unit) (t7 : Int) (t8 : Int) : Option (Int ⊕ Unit) := (inf H).loop 82 0 (Jc5 Try.f82 0) (s, (f, (t7, t8)))
noncomputable def F1 (g : DRI) (from_ : DLI) (to : DLI) : Option DLI := (inf H).call 47 (g, (from_, to))
theorem F1K : H.key 47 = some F1H := by kernel_rfl
noncomputable def Fq (g : DRI) (steps : DLI) (best : Int) (t18 : DLI) (t19 : Int) (t20 : Int) : Option Int := (inf H).loop 47 0 (Jc5 Try.f47 0) (g, (steps, (best, (t18, (t19, t20)))))
noncomputable def F1p (g : DRI) (steps : DLI) (way : DLI) (v : Int) : Option DLI := (inf H).loop 47 2 (Jc5 Try.f47 2) (g, (steps, (way, v)))
noncomputable def F19 (g : DGraph) (from_ : DLI) (to : DLI) : Option (DLI × Bool) := (inf H).call 9 (g, (from_, to))
noncomputable def F17 (n : Int) (lo : Int) (hi : Int) : Option Bool := (inf H).call 58 (n, (lo, hi))
noncomputable def Fd (l : DLI) (lo : Int) (hi : Int) : Option Bool := (inf H).call 84 (l, (lo, hi))
theorem FdK : H.key 84 = some FdH := by kernel_rfl
noncomputable def Fx (l : DLI) (lo : Int) (hi : Int) (t9 : DLI) (t10 : Int) (t11 : Int) : Option (Bool ⊕ Unit) := (inf H).loop 84 0 (Jc5 Try.f84 0) (l, (lo, (hi, (t9, (t10, t11)))))
noncomputable def Fm (l : DLI) (n : Int) : Option Bool := (inf H).call 48 (l, n)
noncomputable def Fg (g : DGraph) : Option Bool := (inf H).call 22 g
theorem FgK : H.key 22 = some FgH := by kernel_rfl
noncomputable def F1o (g : DGraph) (n : Int) (t11 : DRI) (t12 : Int) (t13 : Int) : Option (Bool ⊕ Int) := (inf H).loop 22 0 (Jc5 Try.f22 0) (g, (n, (t11, (t12, t13))))
noncomputable def F8 (next : DRI) : Option DRI := (inf H).call 56 next
theorem F8K : H.key 56 = some F8H := by kernel_rfl
noncomputable def F1e (out : DRI) (t11 : DRI) (t12 : Int) (t13 : Int) : Option DRI := (inf H).loop 56 0 (Jc5 Try.f56 0) (out, (t11, (t12, t13)))
noncomputable def F1s (out : DRI) (k_ : Int) (t11 : DRI) (t12 : Int) (t13 : Int) (t18 : DLI) (t19 : Int) (t20 : Int) : Option DRI := (inf H).loop 56 2 (Jc5 Try.f56 2) (out, (k_, (t11, (t12, (t13, (t18, (t19, t20)))))))
noncomputable def F11 (l : DLI) : Option DLI := (inf H).call 113 l
noncomputable def F0 (next : DRI) (from_ : DLI) : Option DLI := (inf H).call 85 (next, from_)
theorem F0K : H.key 85 = some F0H := by kernel_rfl
noncomputable def F1l (next : DRI) (from_ : DLI) (out : DLI) (t17 : Int) (t18 : Int) : Option DLI := (inf H).loop 85 0 (Jc5 Try.f85 0) (next, (from_, (out, (t17, t18))))
noncomputable def F1m (next : DRI) (from_ : DLI) (out : DLI) (t25 : DLI) (t26 : Int) (t27 : Int) : Option DLI := (inf H).loop 85 2 (Jc5 Try.f85 2) (next, (from_, (out, (t25, (t26, t27)))))
noncomputable def F1h (next : DRI) (out : DLI) (row_ : DLI) : Option DLI := (inf H).loop 85 4 (Jc5 Try.f85 4) (next, (out, row_))
noncomputable def F14 (next : DRI) (out : DLI) (row_ : DLI) (k_ : Int) (t48 : DLI) (t49 : Int) (t50 : Int) : Option (DLI × DLI) := (inf H).loop 85 6 (Jc5 Try.f85 6) (next, (out, (row_, (k_, (t48, (t49, t50))))))
noncomputable def F2 (next : DRI) (from_ : DLI) (to : DLI) : Option (DLI × Bool) := (inf H).call 49 (next, (from_, to))
theorem F2K : H.key 49 = some F2H := by kernel_rfl
noncomputable def Fo (next : DRI) (far : DLI) (best : Int) (t19 : DLI) (t20 : Int) (t21 : Int) : Option Int := (inf H).loop 49 0 (Jc5 Try.f49 0) (next, (far, (best, (t19, (t20, t21)))))
noncomputable def F1d (next : DRI) (far : DLI) (best : Int) (out : DLI) : Option DLI := (inf H).loop 49 2 (Jc5 Try.f49 2) (next, (far, (best, out)))
noncomputable def F1f (next : DRI) (far : DLI) (best : Int) (out : DLI) (t59 : DLI) (t60 : Int) (t61 : Int) : Option Int := (inf H).loop 49 4 (Jc5 Try.f49 4) (next, (far, (best, (out, (t59, (t60, t61))))))
noncomputable def Fy (g : DGraph) (from_ : DLI) (to : DLI) : Option (DLI × Bool) := (inf H).call 10 (g, (from_, to))
noncomputable def Fc (g : DRI) (some_ : DLI) : Option DLI := (inf H).call 50 (g, some_)
theorem FcK : H.key 50 = some FcH := by kernel_rfl
noncomputable def F13 (out : DLI) (t11 : DLI) (t12 : Int) (t13 : Int) : Option DLI := (inf H).loop 50 0 (Jc5 Try.f50 0) (out, (t11, (t12, t13)))
noncomputable def F1a (g : DGraph) (from_ : DLI) : Option (DLI × Bool) := (inf H).call 11 (g, from_)
noncomputable def Fa (next : DRI) (from_ : DLI) : Option DLI := (inf H).call 51 (next, from_)
theorem FaK : H.key 51 = some FaH := by kernel_rfl
noncomputable def F16 (out : DLI) (t10 : DLI) (t11 : Int) (t12 : Int) : Option DLI := (inf H).loop 51 0 (Jc5 Try.f51 0) (out, (t10, (t11, t12)))
noncomputable def Fz (g : DGraph) (from_ : DLI) : Option (DLI × Bool) := (inf H).call 12 (g, from_)
noncomputable def Fb (a : DLI) (b : DLI) : Option Bool := (inf H).call 13 (a, b)
theorem FbK : H.key 13 = some FbH := by kernel_rfl
noncomputable def F1t (a : DLI) (b : DLI) (t12 : Int) (t13 : Int) : Option (Bool ⊕ Unit) := (inf H).loop 13 0 (Jc5 Try.f13 0) (a, (b, (t12, t13)))
noncomputable def F7 (l : DLI) (n : Int) : Option Bool := (inf H).call 14 (l, n)
theorem F7K : H.key 14 = some F7H := by kernel_rfl
noncomputable def F1v (n : Int) (t7 : DLI) (t8 : Int) (t9 : Int) : Option (Bool ⊕ Unit) := (inf H).loop 14 0 (Jc5 Try.f14 0) (n, (t7, (t8, t9)))
noncomputable def F5 (code : DLI) (more : DLI) : Option Bool := (inf H).call 3 (code, more)
theorem F5K : H.key 3 = some F5H := by kernel_rfl
noncomputable def F1u (g : DGraph) (from_ : DLI) (to : DLI) (p : DLI) (k_ : Int) : Option (Bool ⊕ Unit) := (inf H).loop 3 0 (Jc5 Try.f3 0) (g, (from_, (to, (p, k_))))
noncomputable def Fp (g : DGraph) (r : DLI) (fits : Bool) (met : Bool) (t141 : DLI) (t142 : Int) (t143 : Int) : Option (Bool × Bool) := (inf H).loop 3 2 (Jc5 Try.f3 2) (g, (r, (fits, (met, (t141, (t142, t143))))))
theorem tC {k : Nat} {x : Den (tyOf (aTys H k))} {y} (h : J65 H (inf H) k x = y := by kernel_rfl) : (inf H).call k x = y := (J6d k x).trans h
theorem tL {k n : Nat} {c : Code} {x : Den (tyOf (hTys (Jc H k n)))} {f : FnH} {y} (hf : H.key k = some f) (h : J2p H k f (inf H) n c x = y := by kernel_rfl) : (inf H).loop k n c x = y := (J6e k n c x hf).trans h
theorem FtE (code more) : Ft code more =
 bif decide ((code.2.length : Int) > 1048576) then
 some true
else 
 some (decide ((more.2.length : Int) > (IntKind.i64.wrap (1048576 - (code.2.length : Int))))) := tC
theorem FrE (a0_0 a0_1 a0_2) : Fr a0_0 a0_1 a0_2 =
 bif decide (a0_1 < (a0_0.2.length : Int)) then
 bif decide (0 ≤ a0_1) then
 bif decide (a0_1 < (a0_0.2.length : Int)) then
 bif decide ((IntKind.i64.wrap (a0_1 + 1)) ≤ (a0_0.2.length : Int)) then
 some ((a0_0, (IntKind.i64.wrap (a0_1 + 1), IntKind.u64.wrap ((IntKind.u64.wrap ((IntKind.u64.wrap (a0_2 * 6364136223846793005)) + (IntKind.u64.wrap (IntKind.i64.wrap (a0_0.2.getD (Int.toNat a0_1) 0))))) + 1442695040888963407))), IntKind.i64.wrap (a0_0.2.getD (Int.toNat a0_1) 0))
else 
 some ((a0_0, (IntKind.i64.wrap (a0_1 + 1), IntKind.u64.wrap ((IntKind.u64.wrap ((IntKind.u64.wrap (a0_2 * 6364136223846793005)) + (IntKind.u64.wrap (IntKind.i64.wrap (a0_0.2.getD (Int.toNat a0_1) 0))))) + 1442695040888963407))), IntKind.i64.wrap (bAnd .u64 (bShr .u64 (IntKind.u64.wrap ((IntKind.u64.wrap ((IntKind.u64.wrap (a0_2 * 6364136223846793005)) + (IntKind.u64.wrap (IntKind.i64.wrap (a0_0.2.getD (Int.toNat a0_1) 0))))) + 1442695040888963407)) 40) 255))
else none
else none
else 
 bif decide ((IntKind.i64.wrap (a0_1 + 1)) ≤ (a0_0.2.length : Int)) then
 some ((a0_0, (IntKind.i64.wrap (a0_1 + 1), IntKind.u64.wrap ((IntKind.u64.wrap ((IntKind.u64.wrap (a0_2 * 6364136223846793005)) + (IntKind.u64.wrap 0))) + 1442695040888963407))), 0)
else 
 some ((a0_0, (IntKind.i64.wrap (a0_1 + 1), IntKind.u64.wrap ((IntKind.u64.wrap ((IntKind.u64.wrap (a0_2 * 6364136223846793005)) + (IntKind.u64.wrap 0))) + 1442695040888963407))), IntKind.i64.wrap (bAnd .u64 (bShr .u64 (IntKind.u64.wrap ((IntKind.u64.wrap ((IntKind.u64.wrap (a0_2 * 6364136223846793005)) + (IntKind.u64.wrap 0))) + 1442695040888963407)) 40) 255)) := tC
theorem FkE (c n) : Fk c n =
 bif decide (n ≤ 1) then
 some (c, 0)
else 
(Fr c.1 c.2.1 c.2.2).bind fun r =>
 bif decide (n > 200) then
(Fr r.1.1 r.1.2.1 r.1.2.2).bind fun r1 =>
 bif (n == 0) then
 none
else 
 some (r1.1, Int.tmod (IntKind.i64.wrap ((IntKind.i64.wrap (r.2 * 256)) + r1.2)) n)
else 
 bif (n == 0) then
 none
else 
 some (r.1, Int.tmod r.2 n) := tC
theorem F1nE (l n k_) : F1n l n k_ =
 bif decide (k_ < (l.2.length : Int)) then
 bif decide (0 ≤ k_) then
 bif decide (k_ < (l.2.length : Int)) then
 bif decide ((l.2.getD (Int.toNat k_) 0) < n) then
(F1n l n (IntKind.i64.wrap (k_ + 1))).bind fun r => some r
else 
 some k_
else none
else none
else 
 some k_ := tL FfK
theorem FfE (l n) : Ff l n =
(F1n (l.1, l.2) n 0).bind fun r =>
 bif decide (r < (l.2.length : Int)) then
 bif decide (0 ≤ r) then
 bif decide (r < (l.2.length : Int)) then
 bif ((l.2.getD (Int.toNat r) 0) == n) then
 some (l.1, l.2)
else 
 bif decide (0 ≤ r) then
 bif decide (r ≤ (l.2.length : Int)) then
 bif decide (([] : List Int).length + ((l.2.take (Int.toNat r)).drop 0).length ≤ lim) then
 bif decide (([] ++ ((l.2.take (Int.toNat r)).drop 0)).length + [n].length ≤ lim) then
 bif decide (0 ≤ r) then
 bif decide (r ≤ (l.2.length : Int)) then
 bif decide ((([] ++ ((l.2.take (Int.toNat r)).drop 0)) ++ [n]).length + ((l.2.take l.2.length).drop (Int.toNat r)).length ≤ lim) then
 some (false, ((([] ++ ((l.2.take (Int.toNat r)).drop 0)) ++ [n]) ++ ((l.2.take l.2.length).drop (Int.toNat r))))
else none
else none
else none
else none
else none
else none
else none
else none
else none
else 
 bif decide (0 ≤ r) then
 bif decide (r ≤ (l.2.length : Int)) then
 bif decide (([] : List Int).length + ((l.2.take (Int.toNat r)).drop 0).length ≤ lim) then
 bif decide (([] ++ ((l.2.take (Int.toNat r)).drop 0)).length + [n].length ≤ lim) then
 bif decide (0 ≤ r) then
 bif decide (r ≤ (l.2.length : Int)) then
 bif decide ((([] ++ ((l.2.take (Int.toNat r)).drop 0)) ++ [n]).length + ((l.2.take l.2.length).drop (Int.toNat r)).length ≤ lim) then
 some (false, ((([] ++ ((l.2.take (Int.toNat r)).drop 0)) ++ [n]) ++ ((l.2.take l.2.length).drop (Int.toNat r))))
else none
else none
else none
else none
else none
else none
else none := tC
theorem F1rE (c n g k_) : F1r c n g k_ =
 bif decide (k_ < n) then
(Fk c 4).bind fun r =>
(F1y r.1 n k_ (true, []) r.2).bind fun r1 =>
 bif decide (g.2.length + [(r1.2.1, r1.2.2)].length ≤ lim) then
(F1r r1.1 n ((g.1 && false), (g.2 ++ [(r1.2.1, r1.2.2)])) (IntKind.i64.wrap (k_ + 1))).bind fun r => some r
else none
else 
 some (c, (g.1, g.2)) := tL F4K
theorem F1yE (c n k_ l m) : F1y c n k_ l m =
 bif decide (m > 0) then
(Fk c n).bind fun r =>
(Ff (l.1, l.2) r.2).bind fun r1 =>
(F1y r.1 n k_ (r1.1, r1.2) (IntKind.i64.wrap (m - 1))).bind fun r => some r
else 
 some (c, (l.1, l.2)) := tL F4K
theorem F1gE (c g) : F1g c g =
(Fk c 2).bind fun r =>
 bif decide ((g.2.length : Int) < (IntKind.i64.wrap (1200 + r.2))) then
 bif decide (g.2.length + ([(true, [])] : List (Bool × List Int)).length ≤ lim) then
(F1g r.1 ((g.1 && false), (g.2 ++ [(true, [])]))).bind fun r => some r
else none
else 
 some (r.1, (g.1, g.2)) := tL F4K
theorem F4E (c) : F4 c =
(Fk c 12).bind fun r =>
(F1r r.1 (IntKind.i64.wrap (1 + r.2)) (true, []) 0).bind fun r1 =>
(Fk r1.1 40).bind fun r2 =>
 bif (r2.2 == 0) then
 bif decide (0 < (r1.2.2.length : Int)) then
 bif decide (((r1.2.2.getD 0 (true, [])).2).length + [IntKind.i64.wrap (1 + r.2)].length ≤ lim) then
 bif decide (0 < (r1.2.2.length : Int)) then
 bif (0 == 0) then
 some (r2.1, (r1.2.1, (r1.2.2.set 0 ((((r1.2.2.getD 0 (true, [])).1) && false), (((r1.2.2.getD 0 (true, [])).2) ++ [IntKind.i64.wrap (1 + r.2)])))))
else none
else none
else none
else none
else 
 bif (r2.2 == 1) then
 bif decide (0 < (r1.2.2.length : Int)) then
 some (r2.1, (r1.2.1, (r1.2.2.set 0 (false, [1, 0]))))
else none
else 
 bif (r2.2 == 2) then
(F1g r2.1 (r1.2.1, r1.2.2)).bind fun r3 =>
 some (r3.1, (r3.2.1, r3.2.2))
else 
 some (r2.1, (r1.2.1, r1.2.2)) := tC
theorem F18E (c n) : F18 c n =
(Fk c n).bind fun r =>
 some (r.1, (r.2 == 0)) := tC
theorem F1jE (c n l k_) : F1j c n l k_ =
 bif decide (k_ > 0) then
(Fk c n).bind fun r =>
(Ff (l.1, l.2) r.2).bind fun r1 =>
(F1j r.1 n (r1.1, r1.2) (IntKind.i64.wrap (k_ - 1))).bind fun r => some r
else 
 some (c, (l.1, l.2)) := tL FeK
theorem FeE (c n most) : Fe c n most =
(Fk c (IntKind.i64.wrap (most + 1))).bind fun r =>
(F1j r.1 n (true, []) r.2).bind fun r1 =>
(F18 r1.1 40).bind fun r2 =>
 bif r2.2 then
 bif decide (r1.2.2.length + [n].length ≤ lim) then
 some (r2.1, ((r1.2.1 && false), (r1.2.2 ++ [n])))
else none
else 
 some (r2.1, (r1.2.1, r1.2.2)) := tC
theorem F10E (code) : F10 code =
(F4 (code, (0, 0))).bind fun r =>
(Fe r.1 (r.2.2.length : Int) 3).bind fun r1 =>
(Fe r1.1 (r.2.2.length : Int) 2).bind fun r2 =>
 some ((r.2.1, r.2.2), ((r1.2.1, r1.2.2), (r2.2.1, r2.2.2))) := tC
theorem FwE (list bound t7 t8 t9) : Fw list bound t7 t8 t9 =
 bif decide (t9 < t8) then
 bif decide (0 ≤ t9) then
 bif decide (t9 < (t7.2.length : Int)) then
 bif decide ((t7.2.getD (Int.toNat t9) 0) < 0) then
 some (.inl false)
else 
 bif decide ((t7.2.getD (Int.toNat t9) 0) ≥ bound) then
 some (.inl false)
else 
 bif decide (t9 > 0) then
 bif decide (0 ≤ (IntKind.i64.wrap (t9 - 1))) then
 bif decide ((IntKind.i64.wrap (t9 - 1)) < (list.2.length : Int)) then
 bif decide ((list.2.getD (Int.toNat (IntKind.i64.wrap (t9 - 1))) 0) ≥ (t7.2.getD (Int.toNat t9) 0)) then
 some (.inl false)
else 
(Fw list bound t7 t8 (IntKind.i64.wrap (t9 + 1))).bind fun r => some r
else none
else none
else 
(Fw list bound t7 t8 (IntKind.i64.wrap (t9 + 1))).bind fun r => some r
else none
else none
else 
 some (.inr ()) := tL F9K
theorem F9E (list bound) : F9 list bound =
(Fw list bound list (list.2.length : Int) 0).bind fun r =>
 match r with
| .inl y =>
 some y
| .inr z =>
 some true := tC
theorem F1bE (g arcs t11 t12 t13) : F1b g arcs t11 t12 t13 =
 bif decide (t13 < t12) then
 bif decide (0 ≤ t13) then
 bif decide (t13 < (t11.2.length : Int)) then
(F9 (t11.2.getD (Int.toNat t13) (true, [])) (g.2.length : Int)).bind fun r =>
 bif !r then
 some (.inl false)
else 
(F1b g (IntKind.i64.wrap (arcs + (((t11.2.getD (Int.toNat t13) (true, [])).2).length : Int))) t11 t12 (IntKind.i64.wrap (t13 + 1))).bind fun r => some r
else none
else none
else 
 some (.inr arcs) := tL FjK
theorem FjE (g) : Fj g =
 bif decide ((g.2.length : Int) > 1200) then
 some false
else 
(F1b g 0 g (g.2.length : Int) 0).bind fun r =>
 match r with
| .inl y =>
 some y
| .inr z =>
 some (decide (z ≤ 20000)) := tC
theorem FsE (g from_) : Fs g from_ =
(Fj g).bind fun r =>
 bif r then
(F9 from_ (g.2.length : Int)).bind fun r1 =>
 some r1
else 
 some false := tC
theorem F1qE (out t11 t12 t13) : F1q out t11 t12 t13 =
 bif decide (t13 < t12) then
 bif decide (0 ≤ t13) then
 bif decide (t13 < (t11.2.length : Int)) then
(F1x (out.1, out.2) t13 t11 t12 t13 (t11.2.getD (Int.toNat t13) (true, [])) (((t11.2.getD (Int.toNat t13) (true, [])).2).length : Int) 0).bind fun r =>
(F1q (r.1, r.2) t11 t12 (IntKind.i64.wrap (t13 + 1))).bind fun r => some r
else none
else none
else 
 some (out.1, out.2) := tL F6K
theorem F1xE (out v t11 t12 t13 t18 t19 t20) : F1x out v t11 t12 t13 t18 t19 t20 =
 bif decide (t20 < t19) then
 bif decide (0 ≤ t20) then
 bif decide (t20 < (t18.2.length : Int)) then
 bif decide (0 ≤ (t18.2.getD (Int.toNat t20) 0)) then
 bif decide ((t18.2.getD (Int.toNat t20) 0) < (out.2.length : Int)) then
 bif decide (((out.2.getD (Int.toNat (t18.2.getD (Int.toNat t20) 0)) (true, [])).2).length + [v].length ≤ lim) then
 bif decide (0 ≤ (t18.2.getD (Int.toNat t20) 0)) then
 bif decide ((t18.2.getD (Int.toNat t20) 0) < (out.2.length : Int)) then
 bif ((Int.toNat (t18.2.getD (Int.toNat t20) 0)) == (Int.toNat (t18.2.getD (Int.toNat t20) 0))) then
(F1x (out.1, (out.2.set (Int.toNat (t18.2.getD (Int.toNat t20) 0)) ((((out.2.getD (Int.toNat (t18.2.getD (Int.toNat t20) 0)) (true, [])).1) && false), (((out.2.getD (Int.toNat (t18.2.getD (Int.toNat t20) 0)) (true, [])).2) ++ [v])))) v t11 t12 t13 t18 t19 (IntKind.i64.wrap (t20 + 1))).bind fun r => some r
else none
else none
else none
else none
else none
else none
else none
else none
else 
 some (out.1, out.2) := tL F6K
theorem F6E (g) : F6 g =
 bif decide (0 ≤ (g.2.length : Int)) then
 bif decide ((g.2.length : Int) ≤ lim) then
 bif decide ((g.2.length : Int) ≤ (g.2.length : Int)) then
 bif decide ((g.2.length : Int) ≤ lim) then
(F1q (false, (List.replicate (Int.toNat (g.2.length : Int)) ((true, []) : Bool × List Int))) g (g.2.length : Int) 0).bind fun r =>
 some (r.1, r.2)
else none
else none
else none
else none := tC
theorem FvE (x y) : Fv x y =
 some (IntKind.u64.wrap ((IntKind.u64.wrap ((IntKind.u64.wrap ((bShr .u64 x 32) * (bShr .u64 y 32))) + (bShr .u64 (IntKind.u64.wrap ((IntKind.u64.wrap ((bShr .u64 x 32) * (bAnd .u64 y 4294967295))) + (bShr .u64 (IntKind.u64.wrap ((bAnd .u64 x 4294967295) * (bAnd .u64 y 4294967295))) 32))) 32))) + (bShr .u64 (IntKind.u64.wrap ((bAnd .u64 (IntKind.u64.wrap ((IntKind.u64.wrap ((bShr .u64 x 32) * (bAnd .u64 y 4294967295))) + (bShr .u64 (IntKind.u64.wrap ((bAnd .u64 x 4294967295) * (bAnd .u64 y 4294967295))) 32))) 4294967295) + (IntKind.u64.wrap ((bAnd .u64 x 4294967295) * (bShr .u64 y 32))))) 32)), IntKind.u64.wrap (x * y)) := tC
theorem FlE (x y) : Fl x y =
(Fv x y).bind fun r =>
 some (r.1, r.2) := tC
theorem F1wE (newslice n) : F1w newslice n =
 bif decide (n < (newslice.2.length : Int)) then
 bif decide (0 ≤ n) then
 bif decide (n ≤ (newslice.2.length : Int)) then
 bif decide (0 ≤ n) then
 bif decide (n ≤ (newslice.2.length : Int)) then
(F1w (newslice.1, (newslice.2.take (Int.toNat n) ++ (((newslice.2.take (Int.toNat n)).drop 0).take (newslice.2.length - (Int.toNat n)) ++ newslice.2.drop ((Int.toNat n) + (min ((newslice.2.take (Int.toNat n)).drop 0).length (newslice.2.length - (Int.toNat n))))))) (IntKind.i64.wrap (n + ((min ((newslice.2.take (Int.toNat n)).drop 0).length (newslice.2.length - (Int.toNat n)) : Nat) : Int)))).bind fun r => some r
else none
else none
else none
else none
else 
 some (newslice.1, newslice.2) := tL FhK
theorem FhE (x count) : Fh x count =
 bif decide (count < 0) then
 none
else 
(Fl (IntKind.u64.wrap (x.2.length : Int)) (IntKind.u64.wrap count)).bind fun r =>
 bif decide (r.1 > 0) then
 none
else 
 bif decide (r.2 > 9223372036854775807) then
 none
else 
 bif decide (0 ≤ (IntKind.i64.wrap r.2)) then
 bif decide ((IntKind.i64.wrap r.2) ≤ lim) then
 bif decide ((IntKind.i64.wrap r.2) ≤ (IntKind.i64.wrap r.2)) then
 bif decide ((IntKind.i64.wrap r.2) ≤ lim) then
(F1w (false, (x.2.take (List.replicate (Int.toNat (IntKind.i64.wrap r.2)) (0 : Int)).length ++ (List.replicate (Int.toNat (IntKind.i64.wrap r.2)) (0 : Int)).drop (min x.2.length (List.replicate (Int.toNat (IntKind.i64.wrap r.2)) (0 : Int)).length))) ((min x.2.length (List.replicate (Int.toNat (IntKind.i64.wrap r.2)) (0 : Int)).length : Nat) : Int)).bind fun r1 =>
 some (r1.1, r1.2)
else none
else none
else none
else none := tC
theorem F12E (s) : F12 s =
 bif s.1 then
 some (true, [])
else 
 bif decide (([] : List Int).length + s.2.length ≤ lim) then
 some (false, ([] ++ s.2))
else none := tC
theorem F1iE (g steps open_ t17 t18 t19) : F1i g steps open_ t17 t18 t19 =
 bif decide (t19 < t18) then
 bif decide (0 ≤ t19) then
 bif decide (t19 < (t17.2.length : Int)) then
 bif decide (0 ≤ (t17.2.getD (Int.toNat t19) 0)) then
 bif decide ((t17.2.getD (Int.toNat t19) 0) < (steps.2.length : Int)) then
(F1i g (steps.1, (steps.2.set (Int.toNat (t17.2.getD (Int.toNat t19) 0)) 0)) open_ t17 t18 (IntKind.i64.wrap (t19 + 1))).bind fun r => some r
else none
else none
else none
else none
else 
 some (steps.1, steps.2) := tL F3K
theorem F1cE (g steps open_) : F1c g steps open_ =
 bif decide ((open_.2.length : Int) > 0) then
 bif decide (0 < (open_.2.length : Int)) then
 bif decide (0 ≤ (open_.2.getD 0 0)) then
 bif decide ((open_.2.getD 0 0) < (g.2.length : Int)) then
(Fu g (steps.1, steps.2) (open_.1, open_.2) (g.2.getD (Int.toNat (open_.2.getD 0 0)) (true, [])) (((g.2.getD (Int.toNat (open_.2.getD 0 0)) (true, [])).2).length : Int) 0).bind fun r =>
 bif decide (1 ≤ (r.2.2.length : Int)) then
(F1c g (r.1.1, r.1.2) (r.2.1, ((r.2.2.take r.2.2.length).drop 1))).bind fun r => some r
else none
else none
else none
else none
else 
 some (steps.1, steps.2) := tL F3K
theorem FuE (g steps open_ t37 t38 t39) : Fu g steps open_ t37 t38 t39 =
 bif decide (t39 < t38) then
 bif decide (0 ≤ t39) then
 bif decide (t39 < (t37.2.length : Int)) then
 bif decide (0 ≤ (t37.2.getD (Int.toNat t39) 0)) then
 bif decide ((t37.2.getD (Int.toNat t39) 0) < (steps.2.length : Int)) then
 bif decide ((steps.2.getD (Int.toNat (t37.2.getD (Int.toNat t39) 0)) 0) < 0) then
 bif decide (0 < (open_.2.length : Int)) then
 bif decide (0 ≤ (open_.2.getD 0 0)) then
 bif decide ((open_.2.getD 0 0) < (steps.2.length : Int)) then
 bif decide (0 ≤ (t37.2.getD (Int.toNat t39) 0)) then
 bif decide ((t37.2.getD (Int.toNat t39) 0) < (steps.2.length : Int)) then
 bif decide (open_.2.length + [(t37.2.getD (Int.toNat t39) 0)].length ≤ lim) then
(Fu g (steps.1, (steps.2.set (Int.toNat (t37.2.getD (Int.toNat t39) 0)) (IntKind.i64.wrap ((steps.2.getD (Int.toNat (open_.2.getD 0 0)) 0) + 1)))) ((open_.1 && false), (open_.2 ++ [(t37.2.getD (Int.toNat t39) 0)])) t37 t38 (IntKind.i64.wrap (t39 + 1))).bind fun r => some r
else none
else none
else none
else none
else none
else none
else 
(Fu g (steps.1, steps.2) (open_.1, open_.2) t37 t38 (IntKind.i64.wrap (t39 + 1))).bind fun r => some r
else none
else none
else none
else none
else 
 some ((steps.1, steps.2), (open_.1, open_.2)) := tL F3K
theorem F3E (g some_) : F3 g some_ =
(Fh (false, [(-1)]) (g.2.length : Int)).bind fun r =>
(F12 some_).bind fun r1 =>
(F1i g (r.1, r.2) (r1.1, r1.2) some_ (some_.2.length : Int) 0).bind fun r2 =>
(F1c g (r2.1, r2.2) (r1.1, r1.2)).bind fun r3 =>
 some (r3.1, r3.2) := tC
theorem F15E (w a1 a2) : F15 w a1 a2 =
 bif decide (0 ≤ w) then
 bif decide (w < (a1.2.length : Int)) then
 bif decide (0 ≤ a2) then
 bif decide (a2 < (a1.2.length : Int)) then
 some ((a1.2.getD (Int.toNat w) 0) == (IntKind.i64.wrap ((a1.2.getD (Int.toNat a2) 0) - 1)))
else none
else none
else none
else none := tC
theorem F1kE (s f t7 t8) : F1k s f t7 t8 =
 bif decide (t8 < t7) then
 bif decide (0 ≤ t8) then
 bif decide (t8 < (s.2.length : Int)) then
(F15 (s.2.getD (Int.toNat t8) 0) f.1 f.2.1).bind fun r =>
 bif r then
 some (.inl t8)
else 
(F1k s f t7 (IntKind.i64.wrap (t8 + 1))).bind fun r => some r
else none
else none
else 
 some (.inr ()) := tL FiK
theorem FiE (s f) : Fi s f =
(F1k s f (s.2.length : Int) 0).bind fun r =>
 match r with
| .inl y =>
 some y
| .inr z =>
 some (-1) := tC
theorem FqE (g steps best t18 t19 t20) : Fq g steps best t18 t19 t20 =
 bif decide (t20 < t19) then
 bif decide (0 ≤ t20) then
 bif decide (t20 < (t18.2.length : Int)) then
 bif decide (0 ≤ (t18.2.getD (Int.toNat t20) 0)) then
 bif decide ((t18.2.getD (Int.toNat t20) 0) < (steps.2.length : Int)) then
 bif decide ((steps.2.getD (Int.toNat (t18.2.getD (Int.toNat t20) 0)) 0) ≥ 0) then
 bif decide (best < 0) then
(Fq g steps (t18.2.getD (Int.toNat t20) 0) t18 t19 (IntKind.i64.wrap (t20 + 1))).bind fun r => some r
else 
 bif decide (0 ≤ (t18.2.getD (Int.toNat t20) 0)) then
 bif decide ((t18.2.getD (Int.toNat t20) 0) < (steps.2.length : Int)) then
 bif decide (0 ≤ best) then
 bif decide (best < (steps.2.length : Int)) then
 bif decide ((steps.2.getD (Int.toNat (t18.2.getD (Int.toNat t20) 0)) 0) < (steps.2.getD (Int.toNat best) 0)) then
(Fq g steps (t18.2.getD (Int.toNat t20) 0) t18 t19 (IntKind.i64.wrap (t20 + 1))).bind fun r => some r
else 
(Fq g steps best t18 t19 (IntKind.i64.wrap (t20 + 1))).bind fun r => some r
else none
else none
else none
else none
else 
(Fq g steps best t18 t19 (IntKind.i64.wrap (t20 + 1))).bind fun r => some r
else none
else none
else none
else none
else 
 some best := tL F1K
theorem F1pE (g steps way v) : F1p g steps way v =
 bif decide (0 ≤ v) then
 bif decide (v < (steps.2.length : Int)) then
 bif decide ((steps.2.getD (Int.toNat v) 0) > 0) then
 bif decide (0 ≤ v) then
 bif decide (v < (g.2.length : Int)) then
(Fi (g.2.getD (Int.toNat v) (true, [])) (steps, (v, ()))).bind fun r =>
 bif decide (0 ≤ v) then
 bif decide (v < (g.2.length : Int)) then
 bif decide (0 ≤ r) then
 bif decide (r < (((g.2.getD (Int.toNat v) (true, [])).2).length : Int)) then
 bif decide (way.2.length + ([(((g.2.getD (Int.toNat v) (true, [])).2).getD (Int.toNat r) 0)] : List Int).length ≤ lim) then
(F1p g steps ((way.1 && false), (way.2 ++ [(((g.2.getD (Int.toNat v) (true, [])).2).getD (Int.toNat r) 0)])) (((g.2.getD (Int.toNat v) (true, [])).2).getD (Int.toNat r) 0)).bind fun r => some r
else none
else none
else none
else none
else none
else none
else none
else 
 some (way.1, way.2)
else none
else none := tL F1K
theorem F1E (g from_ to) : F1 g from_ to =
(F6 g).bind fun r =>
(F3 (r.1, r.2) to).bind fun r1 =>
(Fq g (r1.1, r1.2) (-1) from_ (from_.2.length : Int) 0).bind fun r2 =>
 bif decide (r2 < 0) then
 some (true, [])
else 
(F1p g (r1.1, r1.2) (false, [r2]) r2).bind fun r3 =>
 some (r3.1, r3.2) := tC
theorem F19E (g from_ to) : F19 g from_ to =
(Fs g from_).bind fun r =>
 bif !r then
 some ((true, []), false)
else 
(F9 to (g.2.length : Int)).bind fun r1 =>
 bif !r1 then
 some ((true, []), false)
else 
(F1 g from_ to).bind fun r2 =>
 some ((r2.1, r2.2), !r2.1) := tC
theorem F17E (n lo hi) : F17 n lo hi =
 bif decide (n ≥ lo) then
 some (decide (n ≤ hi))
else 
 some false := tC
theorem FxE (l lo hi t9 t10 t11) : Fx l lo hi t9 t10 t11 =
 bif decide (t11 < t10) then
 bif decide (0 ≤ t11) then
 bif decide (t11 < (t9.2.length : Int)) then
(F17 (t9.2.getD (Int.toNat t11) 0) lo hi).bind fun r =>
 bif !r then
 some (.inl false)
else 
 bif decide (t11 > 0) then
 bif decide (0 ≤ (IntKind.i64.wrap (t11 - 1))) then
 bif decide ((IntKind.i64.wrap (t11 - 1)) < (l.2.length : Int)) then
 bif decide ((l.2.getD (Int.toNat (IntKind.i64.wrap (t11 - 1))) 0) ≥ (t9.2.getD (Int.toNat t11) 0)) then
 some (.inl false)
else 
(Fx l lo hi t9 t10 (IntKind.i64.wrap (t11 + 1))).bind fun r => some r
else none
else none
else 
(Fx l lo hi t9 t10 (IntKind.i64.wrap (t11 + 1))).bind fun r => some r
else none
else none
else 
 some (.inr ()) := tL FdK
theorem FdE (l lo hi) : Fd l lo hi =
(Fx l lo hi l (l.2.length : Int) 0).bind fun r =>
 match r with
| .inl y =>
 some y
| .inr z =>
 some true := tC
theorem FmE (l n) : Fm l n =
(Fd l 0 (IntKind.i64.wrap (n - 1))).bind fun r =>
 some r := tC
theorem F1oE (g n t11 t12 t13) : F1o g n t11 t12 t13 =
 bif decide (t13 < t12) then
 bif decide (0 ≤ t13) then
 bif decide (t13 < (t11.2.length : Int)) then
 bif decide ((((t11.2.getD (Int.toNat t13) (true, [])).2).length : Int) > 1200) then
 some (.inl false)
else 
(Fm (t11.2.getD (Int.toNat t13) (true, [])) (g.2.length : Int)).bind fun r =>
 bif !r then
 some (.inl false)
else 
(F1o g (IntKind.i64.wrap (n + (((t11.2.getD (Int.toNat t13) (true, [])).2).length : Int))) t11 t12 (IntKind.i64.wrap (t13 + 1))).bind fun r => some r
else none
else none
else 
 some (.inr n) := tL FgK
theorem FgE (g) : Fg g =
 bif decide ((g.2.length : Int) > 1200) then
 some false
else 
(F1o g 0 g (g.2.length : Int) 0).bind fun r =>
 match r with
| .inl y =>
 some y
| .inr z =>
 some (decide (z ≤ 20000)) := tC
theorem F1eE (out t11 t12 t13) : F1e out t11 t12 t13 =
 bif decide (t13 < t12) then
 bif decide (0 ≤ t13) then
 bif decide (t13 < (t11.2.length : Int)) then
(F1s (out.1, out.2) t13 t11 t12 t13 (t11.2.getD (Int.toNat t13) (true, [])) (((t11.2.getD (Int.toNat t13) (true, [])).2).length : Int) 0).bind fun r =>
(F1e (r.1, r.2) t11 t12 (IntKind.i64.wrap (t13 + 1))).bind fun r => some r
else none
else none
else 
 some (out.1, out.2) := tL F8K
theorem F1sE (out k_ t11 t12 t13 t18 t19 t20) : F1s out k_ t11 t12 t13 t18 t19 t20 =
 bif decide (t20 < t19) then
 bif decide (0 ≤ t20) then
 bif decide (t20 < (t18.2.length : Int)) then
 bif decide (0 ≤ (t18.2.getD (Int.toNat t20) 0)) then
 bif decide ((t18.2.getD (Int.toNat t20) 0) < (out.2.length : Int)) then
 bif decide (((out.2.getD (Int.toNat (t18.2.getD (Int.toNat t20) 0)) (true, [])).2).length + [k_].length ≤ lim) then
 bif decide (0 ≤ (t18.2.getD (Int.toNat t20) 0)) then
 bif decide ((t18.2.getD (Int.toNat t20) 0) < (out.2.length : Int)) then
 bif ((Int.toNat (t18.2.getD (Int.toNat t20) 0)) == (Int.toNat (t18.2.getD (Int.toNat t20) 0))) then
(F1s (out.1, (out.2.set (Int.toNat (t18.2.getD (Int.toNat t20) 0)) ((((out.2.getD (Int.toNat (t18.2.getD (Int.toNat t20) 0)) (true, [])).1) && false), (((out.2.getD (Int.toNat (t18.2.getD (Int.toNat t20) 0)) (true, [])).2) ++ [k_])))) k_ t11 t12 t13 t18 t19 (IntKind.i64.wrap (t20 + 1))).bind fun r => some r
else none
else none
else none
else none
else none
else none
else none
else none
else 
 some (out.1, out.2) := tL F8K
theorem F8E (next) : F8 next =
 bif decide (0 ≤ (next.2.length : Int)) then
 bif decide ((next.2.length : Int) ≤ lim) then
 bif decide ((next.2.length : Int) ≤ (next.2.length : Int)) then
 bif decide ((next.2.length : Int) ≤ lim) then
(F1e (false, (List.replicate (Int.toNat (next.2.length : Int)) ((true, []) : Bool × List Int))) next (next.2.length : Int) 0).bind fun r =>
 some (r.1, r.2)
else none
else none
else none
else none := tC
theorem F11E (l) : F11 l =
 bif decide (([] : List Int).length + l.2.length ≤ lim) then
 some (false, ([] ++ l.2))
else none := tC
theorem F1lE (next from_ out t17 t18) : F1l next from_ out t17 t18 =
 bif decide (t18 < t17) then
 bif decide (0 ≤ t18) then
 bif decide (t18 < (out.2.length : Int)) then
(F1l next from_ (out.1, (out.2.set (Int.toNat t18) (-1))) t17 (IntKind.i64.wrap (t18 + 1))).bind fun r => some r
else none
else none
else 
 some (out.1, out.2) := tL F0K
theorem F1mE (next from_ out t25 t26 t27) : F1m next from_ out t25 t26 t27 =
 bif decide (t27 < t26) then
 bif decide (0 ≤ t27) then
 bif decide (t27 < (t25.2.length : Int)) then
 bif decide (0 ≤ (t25.2.getD (Int.toNat t27) 0)) then
 bif decide ((t25.2.getD (Int.toNat t27) 0) < (out.2.length : Int)) then
(F1m next from_ (out.1, (out.2.set (Int.toNat (t25.2.getD (Int.toNat t27) 0)) 0)) t25 t26 (IntKind.i64.wrap (t27 + 1))).bind fun r => some r
else none
else none
else none
else none
else 
 some (out.1, out.2) := tL F0K
theorem F1hE (next out row_) : F1h next out row_ =
 bif decide ((row_.2.length : Int) > 0) then
 bif decide (0 < (row_.2.length : Int)) then
 bif decide (1 ≤ (row_.2.length : Int)) then
 bif decide (0 ≤ (row_.2.getD 0 0)) then
 bif decide ((row_.2.getD 0 0) < (next.2.length : Int)) then
(F14 next (out.1, out.2) (row_.1, ((row_.2.take row_.2.length).drop 1)) (row_.2.getD 0 0) (next.2.getD (Int.toNat (row_.2.getD 0 0)) (true, [])) (((next.2.getD (Int.toNat (row_.2.getD 0 0)) (true, [])).2).length : Int) 0).bind fun r =>
(F1h next (r.1.1, r.1.2) (r.2.1, r.2.2)).bind fun r => some r
else none
else none
else none
else none
else 
 some (out.1, out.2) := tL F0K
theorem F14E (next out row_ k_ t48 t49 t50) : F14 next out row_ k_ t48 t49 t50 =
 bif decide (t50 < t49) then
 bif decide (0 ≤ t50) then
 bif decide (t50 < (t48.2.length : Int)) then
 bif decide (0 ≤ (t48.2.getD (Int.toNat t50) 0)) then
 bif decide ((t48.2.getD (Int.toNat t50) 0) < (out.2.length : Int)) then
 bif decide ((out.2.getD (Int.toNat (t48.2.getD (Int.toNat t50) 0)) 0) < 0) then
 bif decide (0 ≤ k_) then
 bif decide (k_ < (out.2.length : Int)) then
 bif decide (0 ≤ (t48.2.getD (Int.toNat t50) 0)) then
 bif decide ((t48.2.getD (Int.toNat t50) 0) < (out.2.length : Int)) then
 bif decide (row_.2.length + [(t48.2.getD (Int.toNat t50) 0)].length ≤ lim) then
(F14 next (out.1, (out.2.set (Int.toNat (t48.2.getD (Int.toNat t50) 0)) (IntKind.i64.wrap ((out.2.getD (Int.toNat k_) 0) + 1)))) ((row_.1 && false), (row_.2 ++ [(t48.2.getD (Int.toNat t50) 0)])) k_ t48 t49 (IntKind.i64.wrap (t50 + 1))).bind fun r => some r
else none
else none
else none
else none
else none
else 
(F14 next (out.1, out.2) (row_.1, row_.2) k_ t48 t49 (IntKind.i64.wrap (t50 + 1))).bind fun r => some r
else none
else none
else none
else none
else 
 some ((out.1, out.2), (row_.1, row_.2)) := tL F0K
theorem F0E (next from_) : F0 next from_ =
 bif decide (0 ≤ (next.2.length : Int)) then
 bif decide ((next.2.length : Int) ≤ lim) then
 bif decide ((next.2.length : Int) ≤ (next.2.length : Int)) then
 bif decide ((next.2.length : Int) ≤ lim) then
(F1l next from_ (false, (List.replicate (Int.toNat (next.2.length : Int)) (0 : Int))) ((List.replicate (Int.toNat (next.2.length : Int)) (0 : Int)).length : Int) 0).bind fun r =>
(F1m next from_ (r.1, r.2) from_ (from_.2.length : Int) 0).bind fun r1 =>
(F11 from_).bind fun r2 =>
(F1h next (r1.1, r1.2) (r2.1, r2.2)).bind fun r3 =>
 some (r3.1, r3.2)
else none
else none
else none
else none := tC
theorem FoE (next far best t19 t20 t21) : Fo next far best t19 t20 t21 =
 bif decide (t21 < t20) then
 bif decide (0 ≤ t21) then
 bif decide (t21 < (t19.2.length : Int)) then
 bif decide (0 ≤ (t19.2.getD (Int.toNat t21) 0)) then
 bif decide ((t19.2.getD (Int.toNat t21) 0) < (far.2.length : Int)) then
 bif decide ((far.2.getD (Int.toNat (t19.2.getD (Int.toNat t21) 0)) 0) ≥ 0) then
 bif decide (best < 0) then
(Fo next far (t19.2.getD (Int.toNat t21) 0) t19 t20 (IntKind.i64.wrap (t21 + 1))).bind fun r => some r
else 
 bif decide (0 ≤ (t19.2.getD (Int.toNat t21) 0)) then
 bif decide ((t19.2.getD (Int.toNat t21) 0) < (far.2.length : Int)) then
 bif decide (0 ≤ best) then
 bif decide (best < (far.2.length : Int)) then
 bif decide ((far.2.getD (Int.toNat (t19.2.getD (Int.toNat t21) 0)) 0) < (far.2.getD (Int.toNat best) 0)) then
(Fo next far (t19.2.getD (Int.toNat t21) 0) t19 t20 (IntKind.i64.wrap (t21 + 1))).bind fun r => some r
else 
(Fo next far best t19 t20 (IntKind.i64.wrap (t21 + 1))).bind fun r => some r
else none
else none
else none
else none
else 
(Fo next far best t19 t20 (IntKind.i64.wrap (t21 + 1))).bind fun r => some r
else none
else none
else none
else none
else 
 some best := tL F2K
theorem F1dE (next far best out) : F1d next far best out =
 bif decide (0 ≤ best) then
 bif decide (best < (far.2.length : Int)) then
 bif decide ((far.2.getD (Int.toNat best) 0) > 0) then
 bif decide (0 ≤ best) then
 bif decide (best < (next.2.length : Int)) then
(F1f next far best (out.1, out.2) (next.2.getD (Int.toNat best) (true, [])) (((next.2.getD (Int.toNat best) (true, [])).2).length : Int) 0).bind fun r =>
 bif decide (out.2.length + [r].length ≤ lim) then
(F1d next far r ((out.1 && false), (out.2 ++ [r]))).bind fun r => some r
else none
else none
else none
else 
 some (out.1, out.2)
else none
else none := tL F2K
theorem F1fE (next far best out t59 t60 t61) : F1f next far best out t59 t60 t61 =
 bif decide (t61 < t60) then
 bif decide (0 ≤ t61) then
 bif decide (t61 < (t59.2.length : Int)) then
 bif decide (0 ≤ (t59.2.getD (Int.toNat t61) 0)) then
 bif decide ((t59.2.getD (Int.toNat t61) 0) < (far.2.length : Int)) then
 bif decide (0 ≤ best) then
 bif decide (best < (far.2.length : Int)) then
 bif ((far.2.getD (Int.toNat (t59.2.getD (Int.toNat t61) 0)) 0) == (IntKind.i64.wrap ((far.2.getD (Int.toNat best) 0) - 1))) then
 some (t59.2.getD (Int.toNat t61) 0)
else 
(F1f next far best out t59 t60 (IntKind.i64.wrap (t61 + 1))).bind fun r => some r
else none
else none
else none
else none
else none
else none
else 
 some best := tL F2K
theorem F2E (next from_ to) : F2 next from_ to =
(F8 next).bind fun r =>
(F0 (r.1, r.2) to).bind fun r1 =>
(Fo next (r1.1, r1.2) (-1) from_ (from_.2.length : Int) 0).bind fun r2 =>
 bif decide (r2 < 0) then
 some ((true, []), false)
else 
(F1d next (r1.1, r1.2) r2 (false, [r2])).bind fun r3 =>
 some ((r3.1, r3.2), true) := tC
theorem FyE (g from_ to) : Fy g from_ to =
(Fg g).bind fun r =>
 bif !r then
 some ((true, []), false)
else 
(Fm from_ (g.2.length : Int)).bind fun r1 =>
 bif !r1 then
 some ((true, []), false)
else 
(Fm to (g.2.length : Int)).bind fun r2 =>
 bif !r2 then
 some ((true, []), false)
else 
(F2 g from_ to).bind fun r3 =>
 some ((r3.1.1, r3.1.2), r3.2) := tC
theorem F13E (out t11 t12 t13) : F13 out t11 t12 t13 =
 bif decide (t13 < t12) then
 bif decide (0 ≤ t13) then
 bif decide (t13 < (t11.2.length : Int)) then
 bif decide ((t11.2.getD (Int.toNat t13) 0) ≥ 0) then
 bif decide (out.2.length + [t13].length ≤ lim) then
(F13 ((out.1 && false), (out.2 ++ [t13])) t11 t12 (IntKind.i64.wrap (t13 + 1))).bind fun r => some r
else none
else 
(F13 (out.1, out.2) t11 t12 (IntKind.i64.wrap (t13 + 1))).bind fun r => some r
else none
else none
else 
 some (out.1, out.2) := tL FcK
theorem FcE (g some_) : Fc g some_ =
(F3 g some_).bind fun r =>
(F13 (false, []) (r.1, r.2) (r.2.length : Int) 0).bind fun r1 =>
 some (r1.1, r1.2) := tC
theorem F1aE (g from_) : F1a g from_ =
(Fs g from_).bind fun r =>
 bif !r then
 some ((true, []), false)
else 
(Fc g from_).bind fun r1 =>
 some ((r1.1, r1.2), true) := tC
theorem F16E (out t10 t11 t12) : F16 out t10 t11 t12 =
 bif decide (t12 < t11) then
 bif decide (0 ≤ t12) then
 bif decide (t12 < (t10.2.length : Int)) then
 bif decide ((t10.2.getD (Int.toNat t12) 0) ≥ 0) then
 bif decide (out.2.length + [t12].length ≤ lim) then
(F16 ((out.1 && false), (out.2 ++ [t12])) t10 t11 (IntKind.i64.wrap (t12 + 1))).bind fun r => some r
else none
else 
(F16 (out.1, out.2) t10 t11 (IntKind.i64.wrap (t12 + 1))).bind fun r => some r
else none
else none
else 
 some (out.1, out.2) := tL FaK
theorem FaE (next from_) : Fa next from_ =
(F0 next from_).bind fun r =>
(F16 (true, []) (r.1, r.2) (r.2.length : Int) 0).bind fun r1 =>
 some (r1.1, r1.2) := tC
theorem FzE (g from_) : Fz g from_ =
(Fg g).bind fun r =>
 bif !r then
 some ((true, []), false)
else 
(Fm from_ (g.2.length : Int)).bind fun r1 =>
 bif !r1 then
 some ((true, []), false)
else 
(Fa g from_).bind fun r2 =>
 some ((r2.1, r2.2), true) := tC
theorem F1tE (a b t12 t13) : F1t a b t12 t13 =
 bif decide (t13 < t12) then
 bif decide (0 ≤ t13) then
 bif decide (t13 < (a.2.length : Int)) then
 bif decide (0 ≤ t13) then
 bif decide (t13 < (b.2.length : Int)) then
 bif ((a.2.getD (Int.toNat t13) 0) != (b.2.getD (Int.toNat t13) 0)) then
 some (.inl false)
else 
(F1t a b t12 (IntKind.i64.wrap (t13 + 1))).bind fun r => some r
else none
else none
else none
else none
else 
 some (.inr ()) := tL FbK
theorem FbE (a b) : Fb a b =
 bif ((a.2.length : Int) != (b.2.length : Int)) then
 some false
else 
(F1t a b (a.2.length : Int) 0).bind fun r =>
 match r with
| .inl y =>
 some y
| .inr z =>
 some true := tC
theorem F1vE (n t7 t8 t9) : F1v n t7 t8 t9 =
 bif decide (t9 < t8) then
 bif decide (0 ≤ t9) then
 bif decide (t9 < (t7.2.length : Int)) then
 bif ((t7.2.getD (Int.toNat t9) 0) == n) then
 some (.inl true)
else 
(F1v n t7 t8 (IntKind.i64.wrap (t9 + 1))).bind fun r => some r
else none
else none
else 
 some (.inr ()) := tL F7K
theorem F7E (l n) : F7 l n =
(F1v n l (l.2.length : Int) 0).bind fun r =>
 match r with
| .inl y =>
 some y
| .inr z =>
 some false := tC
theorem F1uE (g from_ to p k_) : F1u g from_ to p k_ =
 bif decide (k_ < (p.2.length : Int)) then
 bif decide (0 ≤ (IntKind.i64.wrap (k_ - 1))) then
 bif decide ((IntKind.i64.wrap (k_ - 1)) < (p.2.length : Int)) then
 bif decide (0 ≤ (p.2.getD (Int.toNat (IntKind.i64.wrap (k_ - 1))) 0)) then
 bif decide ((p.2.getD (Int.toNat (IntKind.i64.wrap (k_ - 1))) 0) < (g.2.length : Int)) then
 bif decide (0 ≤ k_) then
 bif decide (k_ < (p.2.length : Int)) then
(F7 (g.2.getD (Int.toNat (p.2.getD (Int.toNat (IntKind.i64.wrap (k_ - 1))) 0)) (true, [])) (p.2.getD (Int.toNat k_) 0)).bind fun r =>
 bif !r then
 some (.inl false)
else 
 bif decide (0 ≤ k_) then
 bif decide (k_ < (p.2.length : Int)) then
(F7 from_ (p.2.getD (Int.toNat k_) 0)).bind fun r1 =>
 bif r1 then
 some (.inl false)
else 
 bif decide (0 ≤ (IntKind.i64.wrap (k_ - 1))) then
 bif decide ((IntKind.i64.wrap (k_ - 1)) < (p.2.length : Int)) then
(F7 to (p.2.getD (Int.toNat (IntKind.i64.wrap (k_ - 1))) 0)).bind fun r2 =>
 bif r2 then
 some (.inl false)
else 
(F1u g from_ to p (IntKind.i64.wrap (k_ + 1))).bind fun r => some r
else none
else none
else none
else none
else none
else none
else none
else none
else none
else none
else 
 some (.inr ()) := tL F5K
theorem FpE (g r fits met t141 t142 t143) : Fp g r fits met t141 t142 t143 =
 bif decide (t143 < t142) then
 bif decide (0 ≤ t143) then
 bif decide (t143 < (t141.2.length : Int)) then
 bif fits then
 bif met then
(Fp g r (decide ((t141.2.getD (Int.toNat t143) 0) < (g.2.length : Int))) true t141 t142 (IntKind.i64.wrap (t143 + 1))).bind fun r => some r
else 
(F7 r (t141.2.getD (Int.toNat t143) 0)).bind fun r1 =>
(Fp g r (decide ((t141.2.getD (Int.toNat t143) 0) < (g.2.length : Int))) r1 t141 t142 (IntKind.i64.wrap (t143 + 1))).bind fun r => some r
else 
 bif met then
(Fp g r false true t141 t142 (IntKind.i64.wrap (t143 + 1))).bind fun r => some r
else 
(F7 r (t141.2.getD (Int.toNat t143) 0)).bind fun r2 =>
(Fp g r false r2 t141 t142 (IntKind.i64.wrap (t143 + 1))).bind fun r => some r
else none
else none
else 
 some (fits, met) := tL F5K
theorem F5E (code more) : F5 code more =
(Ft code more).bind fun r =>
 bif r then
 some true
else 
(F10 code).bind fun r1 =>
(F19 (r1.1.1, r1.1.2) (r1.2.1.1, r1.2.1.2) (r1.2.2.1, r1.2.2.2)).bind fun r2 =>
(Fy (r1.1.1, r1.1.2) (r1.2.1.1, r1.2.1.2) (r1.2.2.1, r1.2.2.2)).bind fun r3 =>
(F1a (r1.1.1, r1.1.2) (r1.2.1.1, r1.2.1.2)).bind fun r4 =>
(Fz (r1.1.1, r1.1.2) (r1.2.1.1, r1.2.1.2)).bind fun r5 =>
 bif !(r2.2 == r3.2) then
 some false
else 
(Fb (r2.1.1, r2.1.2) (r3.1.1, r3.1.2)).bind fun r6 =>
 bif !r6 then
 some false
else 
 bif !(r4.2 == r5.2) then
 some false
else 
(Fb (r4.1.1, r4.1.2) (r5.1.1, r5.1.2)).bind fun r7 =>
 bif !r7 then
 some false
else 
 bif r2.2 then
 bif decide ((r2.1.2.length : Int) > (r1.1.2.length : Int)) then
 some false
else 
 bif decide (0 < (r2.1.2.length : Int)) then
(F7 (r1.2.1.1, r1.2.1.2) (r2.1.2.getD 0 0)).bind fun r8 =>
 bif !r8 then
 some false
else 
 bif decide (0 ≤ (IntKind.i64.wrap ((r2.1.2.length : Int) - 1))) then
 bif decide ((IntKind.i64.wrap ((r2.1.2.length : Int) - 1)) < (r2.1.2.length : Int)) then
(F7 (r1.2.2.1, r1.2.2.2) (r2.1.2.getD (Int.toNat (IntKind.i64.wrap ((r2.1.2.length : Int) - 1))) 0)).bind fun r9 =>
 bif !r9 then
 some false
else 
(F1u (r1.1.1, r1.1.2) (r1.2.1.1, r1.2.1.2) (r1.2.2.1, r1.2.2.2) (r2.1.1, r2.1.2) 1).bind fun r10 =>
 match r10 with
| .inl y =>
 some y
| .inr z =>
 some true
else none
else none
else none
else 
(Fp (r1.1.1, r1.1.2) (r4.1.1, r4.1.2) r4.2 false (r1.2.2.1, r1.2.2.2) (r1.2.2.2.length : Int) 0).bind fun r11 =>
 bif !r11.1 then
 some true
else 
 some (!r11.2) := tC
theorem fit : Fit Try.prog H := Jgx (exts := extsL) (tys := tysL) (cells := cellsL) (keys := keysL) (mtys := mtysL) rfl rfl rfl rfl rfl (by kernel_rfl) (by kernel_rfl) (by kernel_rfl) ⟨⟨Try.func7, by kernel_rfl, by kernel_rfl⟩, ⟨Try.func100, by kernel_rfl, by kernel_rfl⟩, ⟨Try.func70, by kernel_rfl, by kernel_rfl⟩, ⟨Try.func79, by kernel_rfl, by kernel_rfl⟩, ⟨Try.func43, by kernel_rfl, by kernel_rfl⟩, ⟨Try.func80, by kernel_rfl, by kernel_rfl⟩, ⟨Try.func44, by kernel_rfl, by kernel_rfl⟩, ⟨Try.func8, by kernel_rfl, by kernel_rfl⟩, ⟨Try.func46, by kernel_rfl, by kernel_rfl⟩, ⟨Try.func21, by kernel_rfl, by kernel_rfl⟩, ⟨Try.func45, by kernel_rfl, by kernel_rfl⟩, ⟨Try.func55, by kernel_rfl, by kernel_rfl⟩, ⟨Try.func120, by kernel_rfl, by kernel_rfl⟩, ⟨Try.func114, by kernel_rfl, by kernel_rfl⟩, ⟨Try.func86, by kernel_rfl, by kernel_rfl⟩, ⟨Try.func108, by kernel_rfl, by kernel_rfl⟩, ⟨Try.func81, by kernel_rfl, by kernel_rfl⟩, ⟨Try.func83, by kernel_rfl, by kernel_rfl⟩, ⟨Try.func82, by kernel_rfl, by kernel_rfl⟩, ⟨Try.func47, by kernel_rfl, by kernel_rfl⟩, ⟨Try.func9, by kernel_rfl, by kernel_rfl⟩, ⟨Try.func58, by kernel_rfl, by kernel_rfl⟩, ⟨Try.func84, by kernel_rfl, by kernel_rfl⟩, ⟨Try.func48, by kernel_rfl, by kernel_rfl⟩, ⟨Try.func22, by kernel_rfl, by kernel_rfl⟩, ⟨Try.func56, by kernel_rfl, by kernel_rfl⟩, ⟨Try.func113, by kernel_rfl, by kernel_rfl⟩, ⟨Try.func85, by kernel_rfl, by kernel_rfl⟩, ⟨Try.func49, by kernel_rfl, by kernel_rfl⟩, ⟨Try.func10, by kernel_rfl, by kernel_rfl⟩, ⟨Try.func50, by kernel_rfl, by kernel_rfl⟩, ⟨Try.func11, by kernel_rfl, by kernel_rfl⟩, ⟨Try.func51, by kernel_rfl, by kernel_rfl⟩, ⟨Try.func12, by kernel_rfl, by kernel_rfl⟩, ⟨Try.func13, by kernel_rfl, by kernel_rfl⟩, ⟨Try.func14, by kernel_rfl, by kernel_rfl⟩, ⟨Try.func3, by kernel_rfl, by kernel_rfl⟩, trivial⟩ trivial (by kernel_rfl)
theorem nats : Jdl Try.prog H := Jh1 (keys := keysL) rfl ⟨.plain rfl, .plain rfl, .plain rfl, .plain rfl, .plain rfl, .plain rfl, .plain rfl, .plain rfl, .plain rfl, .plain rfl, .plain rfl, .plain rfl, .plain rfl, .plain rfl, .plain rfl, .plain rfl, .plain rfl, .plain rfl, .plain rfl, .plain rfl, .plain rfl, .plain rfl, .plain rfl, .plain rfl, .plain rfl, .plain rfl, .plain rfl, .plain rfl, .plain rfl, .plain rfl, .plain rfl, .plain rfl, .plain rfl, .plain rfl, .plain rfl, .plain rfl, .plain rfl, trivial⟩
end Go.Proofs.Ytnnoohfloniinaa.R
