/- Kinds, signatures and loops of the functions that the laws J77, and what each computes. -/
import Derived.Test.YtkfnlnohgfpipaaGreatRfD
import Derived.Test.YtkfnlnohgfpipaaGreatProg
import Derived.KernelRfl
import Derived.Test.YtkfnlnohgfpipaaGreatShelf
set_option linter.unusedVariables false
set_option maxRecDepth 4000
namespace Go.Proofs.YtkfnlnohgfpipaaGreat.R
open Go.Rf Go.Proofs
def tyNode : Ty := (.pair (.int .i64) (.int .u64))
abbrev DNode := Int × Int
def tySaid : Ty := (.pair (.int .i64) (.int .i64))
abbrev DSaid := Int × Int
def tySight : Ty := (.one (.sl (.int .i64)))
abbrev DSight := Bool × List Int
def tyLasso : Ty := (.pair (.sl (.int .i64)) (.sl (.int .i64)))
abbrev DLasso := (Bool × List Int) × Bool × List Int
def tyEdge : Ty := (.pair (.int .i64) tySaid)
abbrev DEdge := Int × DSaid
def tyboundsError : Ty := (.pair (.int .i64) (.pair (.int .i64) (.pair .bool (.int .u8))))
abbrev DboundsError := Int × Int × Bool × Int
def tyChange : Ty := (.pair (.int .i64) (.sl tyNode))
abbrev DChange := Int × Bool × List DNode
def tyl11Walk : Ty := (.pair (.sl (.sl (.int .i64))) (.pair (.sl .bool) (.sl (.int .i64))))
abbrev Dl11Walk := (Bool × List (Bool × List Int)) × (Bool × List Bool) × Bool × List Int
def tyFinding : Ty := (.pair (.int .i64) (.pair (.sl (.int .i64)) (.pair (.int .i64) tySight)))
abbrev DFinding := Int × (Bool × List Int) × Int × DSight
def tyCommand : Ty := (.pair (.sl tyNode) (.sl tyChange))
abbrev DCommand := (Bool × List DNode) × Bool × List DChange
def tyOutcome : Ty := (.pair (.int .i64) (.pair (.sl (.int .i64)) (.pair (.sl (.int .i64)) (.pair (.int .i64) tySight))))
abbrev DOutcome := Int × (Bool × List Int) × (Bool × List Int) × Int × DSight
def tyAuto : Ty := (.pair (.int .i64) (.pair (.sl (.int .i64)) (.pair (.sl tyEdge) (.sl (.sl (.int .i64))))))
abbrev DAuto := Int × (Bool × List Int) × (Bool × List DEdge) × Bool × List (Bool × List Int)
def tytarjan : Ty := (.pair (.sl (.sl (.int .i64))) (.pair (.sl (.int .i64)) (.pair (.sl (.int .i64)) (.pair (.sl (.int .i64)) (.pair (.sl (.int .i64)) (.int .i64))))))
abbrev Dtarjan := (Bool × List (Bool × List Int)) × (Bool × List Int) × (Bool × List Int) × (Bool × List Int) × (Bool × List Int) × Int
def tyProgram : Ty := (.pair (.int .i64) (.pair (.int .i64) (.pair (.sl tyNode) (.sl tyCommand))))
abbrev DProgram := Int × Int × (Bool × List DNode) × Bool × List DCommand
def tyQuestion : Ty := (.pair tyProgram (.pair (.sl (.sl tyNode)) (.sl tySaid)))
abbrev DQuestion := DProgram × (Bool × List (Bool × List DNode)) × Bool × List DSaid
def s0 : SS := .v (.int .i64)
def s3 : SS := .v (.sl (.int .i64))
def s4 : SS := .tup (.v .bool) .unit
def s5 : SS := .v (.sl (.sl tyNode))
def s6 : SS := .tup s0 .unit
def s7 : SS := .v (.sl tyNode)
def s8 : SS := .v (.sl (.sl (.int .i64)))
def s9 : SS := .v tyProgram
def sa : SS := .tup (.v (.int .u64)) .unit
def sb : SS := .sp tyProgram
def sc : SS := .tup s3 .unit
def sd : SS := .v (.sl (.int .u64))
def se : SS := .v (.int .u64)
def sf : SS := .v (.fn 150 (.pair (.sl (.sl (.int .i64))) (.pair (.hsl (.sl (.int .i64))) (.pair (.int .i64) .nil))))
def sg : SS := .v (.fn 150 (.pair (.sl (.sl (.int .i64))) (.pair (.sl (.sl (.int .i64))) (.pair (.int .i64) .nil))))
def sh : SS := .tup (.sp (.int .i64)) .unit
def si : SS := .v tySight
def sj : SS := .sp tySight
def sk : SS := .v (.sl tyCommand)
def sm : SS := .tup s7 .unit
def sn : SS := .v (.fn 305 (.pair tyProgram (.pair tySight (.pair (.int .i64) .nil))))
def so : SS := .v (.sl tyChange)
def sq : SS := .sp (.sl (.sl (.int .i64)))
def sr : SS := .tup s9 (.tup s5 (.tup s7 s6))
def ss : SS := .v (.fn 221 (.pair tySight (.pair (.int .i64) .nil)))
def st : SS := .v (.fn 151 (.pair (.hsl (.sl (.int .i64))) (.pair (.int .i64) .nil)))
def su : SS := .v (.fn 151 (.pair (.sl (.sl (.int .i64))) (.pair (.int .i64) .nil)))
def sv : SS := .v (.fn 365 (.pair (.int .i64) (.pair (.int .i64) .nil)))
def sw : SS := .tup s5 .unit
def sx : SS := .v .bool
def sy : SS := .v (.fn 368 (.pair tyProgram (.pair (.sl tyNode) .nil)))
def sz : SS := .v (.fn 306 (.pair tySight (.pair (.int .i64) .nil)))
def s10 : SS := .sp (.sl (.int .i64))
def s11 : SS := .v (.fn 153 (.pair (.sl (.sl (.int .i64))) (.pair (.sl (.int .i64)) (.pair (.int .i64) .nil))))
def s12 : SS := .tup s0 (.tup se sa)
def s13 : SS := .tup sd .unit
def s14 : SS := .tup s9 .unit
def s15 : SS := .v (.fn 302 (.pair tyProgram (.pair (.sl (.int .i64)) (.pair (.sl (.int .i64)) .nil))))
def s16 : SS := .tup s9 (.tup si .unit)
def s17 : SS := .tup (.v tyNode) .unit
def s18 : SS := .sp (.int .i64)
noncomputable def FpH : FnH := ⟨38, Tryz.f38, (.tup s7 s6), s6, [], [], [], [], [], none⟩
noncomputable def F14H : FnH := ⟨287, Tryz.f287, (.tup (.v tyChange) s6), s6, [], [], [], [], [], none⟩
noncomputable def F2xH : FnH := ⟨211, Tryz.f211, (.tup so s6), s6, [], [], [(0, ⟨[(0, so), (1, s0), (5, s0)], [(.ret, [(4, s0)]), (.exit 0, [(1, s0)])], []⟩)], [], [], none⟩
noncomputable def F1aH : FnH := ⟨135, Tryz.f135, (.tup (.v tyCommand) s6), s6, [], [], [], [], [], none⟩
noncomputable def F3eH : FnH := ⟨69, Tryz.f69, (.tup sk s6), s6, [], [], [(0, ⟨[(0, sk), (1, s0), (5, s0)], [(.ret, [(4, s0)]), (.exit 0, [(1, s0)])], []⟩)], [], [], none⟩
noncomputable def F6pH : FnH := ⟨24, Tryz.f24, (.tup s9 s6), s6, [], [], [], [], [], none⟩
noncomputable def F30H : FnH := ⟨12, Tryz.f12, (.tup s5 s6), s6, [], [], [(0, ⟨[(0, s5), (1, s0), (5, s0)], [(.ret, [(4, s0)]), (.exit 0, [(1, s0)])], []⟩)], [], [], none⟩
noncomputable def F3H : FnH := ⟨89, Tryz.f89, s17, s17, [], [], [], [], [], none⟩
noncomputable def F6H : FnH := ⟨40, Tryz.f40, sm, (.tup (.own 206850 tyNode true) .unit), [], [], [(0, ⟨[(0, s7), (3, (.own 206849 tyNode true)), (4, s0)], [(.exit 0, [(1206849, (.own 206849 tyNode true))])], [3]⟩)], [], [], none⟩
noncomputable def F19H : FnH := ⟨288, Tryz.f288, (.tup (.v tyChange) .unit), (.tup (.pair s0 (.own 206851 tyNode true)) .unit), [], [], [], [], [], none⟩
noncomputable def F2yH : FnH := ⟨217, Tryz.f217, (.tup so .unit), (.tup (.own 206853 tyChange true) .unit), [], [], [(0, ⟨[(0, so), (3, (.own 206852 tyChange true)), (4, s0)], [(.exit 0, [(1206852, (.own 206852 tyChange true))])], [3]⟩)], [], [], none⟩
noncomputable def F1bH : FnH := ⟨141, Tryz.f141, (.tup (.v tyCommand) .unit), (.tup (.pair (.own 206854 tyNode true) (.own 206855 tyChange true)) .unit), [], [], [], [], [], none⟩
noncomputable def F3uH : FnH := ⟨75, Tryz.f75, (.tup sk .unit), (.tup (.own 206857 tyCommand true) .unit), [], [], [(0, ⟨[(0, sk), (3, (.own 206856 tyCommand true)), (4, s0)], [(.exit 0, [(1206856, (.own 206856 tyCommand true))])], [3]⟩)], [], [], none⟩
noncomputable def F4bH : FnH := ⟨27, Tryz.f27, s14, (.tup (.pair s0 (.pair s0 (.pair (.own 206858 tyNode true) (.own 206859 tyCommand true)))) .unit), [], [], [], [], [], none⟩
noncomputable def F1nH : FnH := ⟨15, Tryz.f15, sw, (.tup (.own 206861 (.sl tyNode) true) .unit), [], [], [(0, ⟨[(0, s5), (3, (.own 206860 (.sl tyNode) true)), (4, s0)], [(.exit 0, [(1206860, (.own 206860 (.sl tyNode) true))])], [3]⟩)], [], [], none⟩
noncomputable def F3zH : FnH := ⟨116, Tryz.f116, (.tup s0 (.tup s0 s6)), s4, [], [], [], [], [], none⟩
noncomputable def F4wH : FnH := ⟨272, Tryz.f272, s6, s4, [], [], [], [], [], none⟩
noncomputable def F4gH : FnH := ⟨273, Tryz.f273, s6, (.tup s0 (.tup s0 s6)), [], [], [], [], [], none⟩
noncomputable def FvH : FnH := ⟨307, Tryz.f307, (.tup s0 sa), sa, [], [], [(0, ⟨[(0, s0), (1, se), (5, se), (6, s0)], [(.exit 0, [(5, se)])], []⟩)], [], [], none⟩
noncomputable def F4eH : FnH := ⟨330, Tryz.f330, (.tup s0 sa), s4, [], [], [], [], [], none⟩
noncomputable def F3jH : FnH := ⟨274, Tryz.f274, (.tup s0 (.tup s0 s17)), s4, [], [], [], [], [], none⟩
noncomputable def FrH : FnH := ⟨203, Tryz.f203, (.tup s0 (.tup s0 sm)), s6, [], [], [(0, ⟨[(0, s0), (1, s0), (7, (.own 206862 (.int .i64) true)), (27, s7), (28, s0), (29, s0)], [(.ret, [(6, s0)]), (.exit 0, [(7, (.own 206865 (.int .i64) true))])], []⟩), (2, ⟨[(0, s0), (1, s0), (7, (.own 206863 (.int .i64) true)), (10, s0), (11, s0), (12, s0), (27, s7), (28, s0), (29, s0)], [(.ret, [(6, s0)]), (.exit 2, [(7, (.own 206864 (.int .i64) true))])], [0, 1, 12, 27, 28, 29]⟩)], [], [], none⟩
noncomputable def F4dH : FnH := ⟨123, Tryz.f123, (.tup s9 sm), s4, [], [], [], [], [], none⟩
noncomputable def F2bH : FnH := ⟨269, Tryz.f269, (.tup s9 (.tup (.v tyCommand) .unit)), s4, [], [], [(0, ⟨[(2, sb), (3, (.sp tyCommand)), (21, so), (22, s0), (23, s0)], [(.ret, [(4, sx)]), (.exit 0, [])], []⟩)], [], [], none⟩
noncomputable def F2oH : FnH := ⟨200, Tryz.f200, s14, s4, [], [], [(0, ⟨[(1, sb), (18, sk), (19, s0), (20, s0)], [(.ret, [(2, sx)]), (.exit 0, [])], []⟩)], [], [], none⟩
noncomputable def F74H : FnH := ⟨121, Tryz.f121, s14, s4, [], [], [], [], [], none⟩
noncomputable def F2tH : FnH := ⟨60, Tryz.f60, (.tup s9 sw), s4, [], [], [(0, ⟨[(2, sb), (10, s5), (11, s0), (12, s0)], [(.ret, [(4, sx)]), (.exit 0, [])], []⟩)], [], [], none⟩
noncomputable def F5bH : FnH := ⟨84, Tryz.f84, sr, s4, [], [], [], [], [], none⟩
noncomputable def F4oH : FnH := ⟨159, Tryz.f159, s14, s6, [], [], [], [], [], none⟩
noncomputable def F2aH : FnH := ⟨176, Tryz.f176, (.tup s9 s6), (.tup (.own 206869 (.int .u64) true) .unit), [], [], [(0, ⟨[(1, s0), (2, sb), (5, (.own 206867 (.int .u64) true)), (6, s0)], [(.exit 0, [(5, (.own 206868 (.int .u64) true))])], []⟩)], [], [], none⟩
noncomputable def F29H : FnH := ⟨309, Tryz.f309, (.tup s7 s6), s6, [], [], [(0, ⟨[(0, s7), (5, s0), (8, s0)], [(.exit 0, [(8, s0)])], []⟩)], [], [], none⟩
noncomputable def F5tH : FnH := ⟨369, Tryz.f369, s12, s4, [], [], [], [], [], none⟩
noncomputable def F6mH : FnH := ⟨343, Tryz.f343, s12, (.tup se (.tup se s4)), [], [], [], [], [], none⟩
noncomputable def FtH : FnH := ⟨344, Tryz.f344, (.tup s0 (.tup se (.tup se s4))), sa, [], [], [(0, ⟨[(0, s0), (1, se), (2, se), (3, sx)], [(.exit 0, [(1, se)])], []⟩)], [], [], none⟩
noncomputable def F1jH : FnH := ⟨345, Tryz.f345, s4, sa, [], [], [], [], [], none⟩
noncomputable def F40H : FnH := ⟨346, Tryz.f346, (.tup s0 sa), s6, [], [], [], [], [], none⟩
noncomputable def F62H : FnH := ⟨308, Tryz.f308, (.tup s0 s12), sa, [], [], [], [], [], none⟩
noncomputable def F48H : FnH := ⟨240, Tryz.f240, (.tup s0 (.tup s7 (.tup s0 s13))), sa, [], [], [], [], [], none⟩
noncomputable def F4qH : FnH := ⟨175, Tryz.f175, (.tup s9 (.tup s7 s13)), s4, [], [], [], [], [], none⟩
noncomputable def F1dH : FnH := ⟨99, Tryz.f99, (.tup s9 sm), (.tup (.own 206871 (.int .i64) true) .unit), [], [], [(0, ⟨[(1, s7), (2, sb), (5, (.own 206866 (.int .i64) true)), (6, s0)], [(.exit 0, [(5, (.own 206870 (.int .i64) true))])], []⟩)], [], [], none⟩
noncomputable def F1fH : FnH := ⟨98, Tryz.f98, (.tup s3 s6), s4, [], [], [(0, ⟨[(1, s0), (7, s3), (8, s0), (9, s0)], [(.ret, [(4, sx)]), (.exit 0, [])], []⟩)], [], [], none⟩
noncomputable def FwH : FnH := ⟨198, Tryz.f198, sc, (.tup (.one (.own 206877 (.int .i64) true)) .unit), [], [], [(0, ⟨[(0, s3), (2, sj), (3, (.box 206874 (.one (.own 206875 (.int .i64) true)))), (4, s0), (9, s3), (10, s0), (11, s0)], [(.exit 0, [(2206874, (.box 206874 (.one (.own 206876 (.int .i64) true))))])], [2, 3]⟩), (2, ⟨[(0, s3), (2, sj), (3, sj), (4, s0), (5, s0), (6, s0), (7, s0), (8, s0), (9, s3), (10, s0), (11, s0)], [(.exit 2, [(7, s0)])], [0, 2, 3, 4, 9, 10, 11]⟩)], [], [], none⟩
noncomputable def F1rH : FnH := ⟨118, Tryz.f118, (.tup si sc), (.tup (.one (.own 206878 (.int .i64) true)) .unit), [], [], [(0, ⟨[(1, s3), (4, sj), (5, (.own 206872 (.int .i64) true)), (9, s3), (10, s0), (11, s0)], [(.exit 0, [(5, (.own 206873 (.int .i64) true))])], [4]⟩)], [], [], none⟩
noncomputable def F4jH : FnH := ⟨85, Tryz.f85, (.tup s9 (.tup si sm)), (.tup (.one (.own 206879 (.int .i64) true)) .unit), [], [], [], [], [], none⟩
noncomputable def F32H : FnH := ⟨86, Tryz.f86, (.tup s9 sw), (.tup (.one (.own 206883 (.int .i64) true)) .unit), [], [], [(0, ⟨[(2, sb), (4, sj), (5, (.box 206880 (.one (.own 206881 (.int .i64) true)))), (12, s5), (13, s0), (14, s0)], [(.exit 0, [(2206880, (.box 206880 (.one (.own 206882 (.int .i64) true))))])], [4, 5]⟩)], [], [], none⟩
noncomputable def F1qH : FnH := ⟨213, Tryz.f213, (.tup s3 s6), sc, [], [], [(0, ⟨[(0, s3), (1, s0), (5, s0)], [(.exit 0, [(5, s0)])], [0, 1]⟩)], [], [], none⟩
noncomputable def F1hH : FnH := ⟨160, Tryz.f160, (.tup si sc), sc, [], [], [(0, ⟨[(2, sj), (5, s3), (8, s3), (9, s0), (10, s0)], [(.exit 0, [(5, s3)])], []⟩)], [], [], none⟩
noncomputable def F26H : FnH := ⟨188, Tryz.f188, (.tup si .unit), s6, [], [], [(0, ⟨[(3, s0), (7, s3), (8, s0), (9, s0)], [(.exit 0, [(3, s0)])], []⟩)], [], [], none⟩
noncomputable def F1wH : FnH := ⟨189, Tryz.f189, (.tup si s6), (.tup (.own 206889 (.int .i64) true) .unit), [], [], [(0, ⟨[(1, s0), (5, (.own 206887 (.int .i64) true)), (9, s3), (10, s0), (11, s0)], [(.exit 0, [(5, (.own 206888 (.int .i64) true))])], []⟩)], [], [], none⟩
noncomputable def F21H : FnH := ⟨214, Tryz.f214, (.tup s9 s13), (.tup (.own 206893 (.int .i64) true) .unit), [], [], [(0, ⟨[(1, sd), (2, sb), (5, (.own 206891 (.int .i64) true)), (9, sk), (10, s0), (11, s0)], [(.exit 0, [(5, (.own 206892 (.int .i64) true))])], []⟩)], [], [], none⟩
noncomputable def F3kH : FnH := ⟨216, Tryz.f216, (.tup s9 (.tup sd s6)), (.tup (.own 206896 (.int .u64) true) .unit), [], [], [(0, ⟨[(1, sd), (3, sb), (7, (.own 206895 (.int .u64) true)), (18, so), (19, s0), (20, s0)], [(.exit 0, [(1206895, (.own 206895 (.int .u64) true))])], [7]⟩)], [], [], none⟩
noncomputable def F39H : FnH := ⟨215, Tryz.f215, (.tup s9 s13), s6, [], [], [(0, ⟨[(1, sd), (2, sb), (5, s0), (6, s0)], [(.exit 0, [(5, s0)])], []⟩)], [], [], none⟩
noncomputable def F1oH : FnH := ⟨140, Tryz.f140, (.tup s9 s6), sc, [], [], [(0, ⟨[(1, s0), (2, sb), (5, sd), (6, s3), (14, s3), (15, s0), (16, s0)], [(.exit 0, [(6, s3)])], [1]⟩)], [], [], none⟩
noncomputable def FzH : FnH := ⟨138, Tryz.f138, (.tup s9 sc), sc, [], [], [(0, ⟨[(2, sb), (5, s3), (10, s3), (11, s0), (12, s0)], [(.exit 0, [(5, s3)])], []⟩), (2, ⟨[(2, sb), (5, s3), (10, s3), (11, s0), (12, s0), (18, s3), (19, s0), (20, s0)], [(.exit 2, [(5, s3)])], [2, 10, 11, 12]⟩)], [], [], none⟩
noncomputable def F67H : FnH := ⟨228, Tryz.f228, (.tup s9 (.tup si s6)), sc, [], [], [], [], [], none⟩
noncomputable def F2hH : FnH := ⟨162, Tryz.f162, s16, (.tup (.own 206900 (.sl (.int .i64)) false) .unit), [], [], [(0, ⟨[(2, sb), (3, sj), (5, (.own 206886 (.sl (.int .i64)) false)), (6, s0)], [(.exit 0, [(5, (.own 206899 (.sl (.int .i64)) false))])], []⟩)], [], [], none⟩
noncomputable def F12H : FnH := ⟨227, Tryz.f227, (.tup s8 .unit), (.tup (.own 206903 (.sl (.int .i64)) true) .unit), [], [], [(0, ⟨[(3, (.own 206902 (.sl (.int .i64)) true)), (11, s8), (12, s0), (13, s0)], [(.exit 0, [(1206902, (.own 206902 (.sl (.int .i64)) true))])], [3]⟩), (2, ⟨[(3, (.own 206901 (.sl (.int .i64)) true)), (4, s0), (11, s8), (12, s0), (13, s0), (18, s3), (19, s0), (20, s0)], [(.exit 2, [(1206901, (.own 206901 (.sl (.int .i64)) true))])], [3, 11, 12, 13]⟩)], [], [], none⟩
noncomputable def F61H : FnH := ⟨156, Tryz.f156, sc, (.tup (.own 206906 (.int .i64) true) .unit), [], [], [], [], [], none⟩
noncomputable def F9H : FnH := ⟨226, Tryz.f226, (.tup s8 sc), (.tup (.own 206912 (.int .i64) true) .unit), [], [], [(0, ⟨[(0, s8), (1, s3), (5, (.own 206904 (.int .i64) true)), (17, s0), (18, s0)], [(.exit 0, [(1206904, (.own 206904 (.int .i64) true))])], [0, 1, 5]⟩), (2, ⟨[(0, s8), (1, s3), (5, (.own 206905 (.int .i64) true)), (25, s3), (26, s0), (27, s0)], [(.exit 2, [(1206905, (.own 206905 (.int .i64) true))])], [0, 1, 5]⟩), (4, ⟨[(0, s8), (5, (.own 206910 (.int .i64) true)), (9, (.own 206907 (.int .i64) true))], [(.exit 4, [(1206910, (.own 206910 (.int .i64) true))])], [5]⟩), (6, ⟨[(0, s8), (5, (.own 206909 (.int .i64) true)), (9, (.own 206908 (.int .i64) true)), (10, s0), (48, s3), (49, s0), (50, s0)], [(.exit 6, [(1206909, (.own 206909 (.int .i64) true)), (9, (.own 206911 (.int .i64) true))])], [0, 5]⟩)], [], [], none⟩
noncomputable def FgH : FnH := ⟨161, Tryz.f161, (.tup s8 (.tup s3 sc)), (.tup (.own 206915 (.int .i64) true) s4), [], [], [(0, ⟨[(0, s8), (8, s3), (9, s0), (19, s3), (20, s0), (21, s0)], [(.exit 0, [(9, s0)])], [0, 8]⟩), (2, ⟨[(0, s8), (8, s3), (9, s0), (12, (.own 206913 (.int .i64) true))], [(.exit 2, [(12, (.own 206914 (.int .i64) true))])], []⟩), (4, ⟨[(0, s8), (8, s3), (9, s0), (12, s3), (59, s3), (60, s0), (61, s0)], [(.exit 4, [(9, s0)])], [0, 8, 12]⟩)], [], [], none⟩
noncomputable def F6aH : FnH := ⟨87, Tryz.f87, (.tup s9 (.tup si sm)), (.tup (.own 206916 (.int .i64) true) s4), [], [], [], [], [], none⟩
noncomputable def FuH : FnH := ⟨72, Tryz.f72, (.tup s9 (.tup si sc)), (.tup (.own 206923 (.sl (.int .i64)) false) .unit), [], [], [(0, ⟨[(3, sb), (4, sj), (7, (.own 206918 (.sl (.int .i64)) false)), (8, s3), (18, s3), (19, s0), (20, s0)], [(.exit 0, [(7, (.own 206922 (.sl (.int .i64)) false))])], []⟩), (2, ⟨[(3, sb), (4, sj), (7, s8), (10, s0), (11, (.own 206920 (.int .i64) true)), (18, s3), (19, s0), (20, s0), (24, s3), (25, s0), (26, s0)], [(.exit 2, [(11, (.own 206921 (.int .i64) true))])], [3, 4, 7, 18, 19, 20]⟩)], [], [44], none⟩
noncomputable def F2fH : FnH := ⟨73, Tryz.f73, (.tup s8 .unit), s6, [], [], [(0, ⟨[(5, s8), (6, s0), (7, s0)], [(.ret, [(2, s0)]), (.exit 0, [])], []⟩)], [], [], none⟩
noncomputable def F1iH : FnH := ⟨139, Tryz.f139, (.tup s3 sc), s4, [], [], [(0, ⟨[(1, s3), (7, s3), (8, s0), (9, s0)], [(.ret, [(4, sx)]), (.exit 0, [])], []⟩)], [], [], none⟩
noncomputable def FaH : FnH := ⟨74, Tryz.f74, (.tup s9 (.tup s8 .unit)), (.tup (.own 206931 (.int .i64) true) .unit), [], [], [(0, ⟨[(1, s8), (2, sb), (5, (.own 206926 (.sl (.int .i64)) false)), (6, s0)], [(.exit 0, [(1206926, (.own 206926 (.sl (.int .i64)) false))])], [2, 5]⟩), (2, ⟨[(1, s8), (2, sb), (5, s8), (6, s0), (7, (.own 206924 (.int .i64) true)), (27, s3), (28, s0), (29, s0)], [(.exit 2, [(7, (.own 206925 (.int .i64) true))])], [1, 2, 5, 6]⟩), (4, ⟨[(2, sb), (5, s8), (10, (.own 206927 (.int .i64) true)), (11, s0)], [(.exit 4, [(10, (.own 206930 (.int .i64) true))])], []⟩), (6, ⟨[(2, sb), (5, s8), (10, (.own 206928 (.int .i64) true)), (11, s0), (69, s3), (70, s0), (71, s0)], [(.exit 6, [(1206928, .any), (10, (.own 206929 (.int .i64) true))])], [2, 5, 11]⟩)], [], [], none⟩
noncomputable def F2uH : FnH := ⟨292, Tryz.f292, (.tup s7 sm), s4, [], [], [(0, ⟨[(0, s7), (1, s7), (12, s0), (13, s0)], [(.ret, [(4, sx)]), (.exit 0, [])], []⟩)], [], [], none⟩
noncomputable def F2eH : FnH := ⟨229, Tryz.f229, (.tup (.own 206934 (.sl tyNode) true) sm), (.tup .any (.tup (.own 206937 (.sl tyNode) true) .unit)), [206934], [], [(0, ⟨[(0, (.own 206935 (.sl tyNode) true)), (1, s7), (7, (.ref 206935)), (8, s0), (9, s0)], [(.ret, [(1206935, (.own 206935 (.sl tyNode) true)), (4, (.ref 206935))]), (.exit 0, [(1206935, (.own 206935 (.sl tyNode) true))])], [0, 1]⟩)], [], [], none⟩
noncomputable def F4xH : FnH := ⟨338, Tryz.f338, (.tup s0 (.tup s0 sm)), s4, [], [], [], [], [], none⟩
noncomputable def F5nH : FnH := ⟨339, Tryz.f339, (.tup s0 (.tup s0 sm)), (.tup s7 s4), [], [], [], [], [], none⟩
noncomputable def FxH : FnH := ⟨293, Tryz.f293, (.tup s0 (.tup s0 (.tup s7 sw))), (.tup s7 s4), [], [], [(0, ⟨[(0, s0), (1, s0), (2, s7), (3, s5), (26, s5), (27, s0), (28, s0)], [(.ret, [(8, (.nl tyNode)), (9, sx)]), (.exit 0, [])], [0, 1, 2, 3]⟩), (2, ⟨[(0, s0), (1, s0), (3, s5), (12, (.own 206944 tyNode true)), (38, s7), (39, s0), (40, s0)], [(.exit 2, [(12, (.own 206945 tyNode true))])], [0, 1]⟩)], [], [], none⟩
noncomputable def F15H : FnH := ⟨230, Tryz.f230, (.tup s9 (.tup s0 sm)), (.tup s7 s4), [], [], [(0, ⟨[(1, s0), (2, s7), (3, sb), (8, (.own 206941 (.sl tyNode) true)), (9, s0)], [(.exit 0, [(8, (.own 206942 (.sl tyNode) true))])], [1, 2, 3]⟩), (2, ⟨[(2, s7), (3, sb), (8, (.own 206943 (.sl tyNode) false)), (30, so), (31, s0), (32, s0)], [(.exit 2, [(1206943, (.own 206943 (.sl tyNode) false))])], [2, 3, 8]⟩)], [], [], none⟩
noncomputable def FkH : FnH := ⟨163, Tryz.f163, (.tup s9 sw), (.tup (.own 206948 (.sl tyNode) true) .unit), [], [], [(0, ⟨[(1, s5), (2, sb), (5, (.own 206933 (.sl tyNode) true)), (14, sk), (15, s0), (16, s0)], [(.exit 0, [(5, (.own 206938 (.sl tyNode) true))])], [1, 2]⟩), (2, ⟨[(2, sb), (5, (.own 206939 (.sl tyNode) true)), (25, s5), (26, s0), (27, s0)], [(.exit 2, [(5, (.own 206947 (.sl tyNode) true))])], []⟩), (4, ⟨[(2, sb), (5, (.own 206940 (.sl tyNode) true)), (9, s7), (25, s5), (26, s0), (27, s0), (33, s0), (34, s0)], [(.exit 4, [(5, (.own 206946 (.sl tyNode) true))])], [2, 25, 26, 27]⟩)], [], [], none⟩
noncomputable def F27H : FnH := ⟨165, Tryz.f165, (.tup s9 (.tup si (.tup s0 s6))), (.tup (.own 206951 (.int .i64) true) .unit), [], [], [(0, ⟨[(3, s0), (4, sb), (5, sj), (9, (.own 206949 (.int .i64) true)), (14, s3), (15, s0), (16, s0)], [(.exit 0, [(9, (.own 206950 (.int .i64) true))])], []⟩)], [], [], none⟩
noncomputable def F1zH : FnH := ⟨294, Tryz.f294, (.tup s3 sc), s4, [], [], [(0, ⟨[(1, s3), (7, s3), (8, s0), (9, s0)], [(.ret, [(4, sx)]), (.exit 0, [])], []⟩)], [], [], none⟩
noncomputable def F6fH : FnH := ⟨231, Tryz.f231, (.tup s9 (.tup s7 (.tup s3 sc))), s4, [], [], [], [], [], none⟩
noncomputable def F3dH : FnH := ⟨164, Tryz.f164, (.tup s9 (.tup s5 (.tup s3 sc))), s6, [], [], [(0, ⟨[(2, s3), (3, s3), (4, sb), (11, s5), (12, s0), (13, s0)], [(.ret, [(8, s0)]), (.exit 0, [])], []⟩)], [], [], none⟩
noncomputable def F5iH : FnH := ⟨88, Tryz.f88, (.tup s9 (.tup si (.tup s5 sc))), (.tup (.one (.own 206952 (.int .i64) true)) s6), [], [], [], [], [], none⟩
noncomputable def F20H : FnH := ⟨39, Tryz.f39, sr, (.tup (.pair s0 (.pair (.own 206960 (.int .i64) true) (.v (.pair (.int .i64) tySight)))) s4), [], [], [(0, ⟨[(1, s5), (2, s7), (3, s0), (4, sb), (8, (.box 206917 (.v tyFinding))), (10, (.box 206953 (.one s3))), (11, s0)], [(.ret, [(2206917, (.box 206917 (.pair s0 (.pair (.own 206959 (.int .i64) true) (.pair s0 (.one s3)))))), (2206953, .any), (9, sx)]), (.exit 0, [(2206917, (.box 206917 (.v tyFinding))), (2206953, (.box 206953 si))])], [3, 8, 10]⟩)], [], [], none⟩
noncomputable def F24H : FnH := ⟨168, Tryz.f168, (.tup s8 sc), (.tup (.own 206963 (.int .i64) true) .unit), [], [], [(0, ⟨[(5, (.own 206961 (.int .i64) true)), (10, s3), (11, s0), (12, s0)], [(.exit 0, [(5, (.own 206962 (.int .i64) true))])], []⟩)], [], [], none⟩
noncomputable def F58H : FnH := ⟨94, Tryz.f94, s16, (.tup (.own 206964 (.int .i64) true) .unit), [], [], [], [], [], none⟩
noncomputable def F23H : FnH := ⟨93, Tryz.f93, (.tup si sc), (.tup (.own 206967 (.int .i64) true) .unit), [], [], [(0, ⟨[(1, s3), (5, (.own 206965 (.int .i64) true)), (9, s3), (10, s0), (11, s0)], [(.exit 0, [(5, (.own 206966 (.int .i64) true))])], []⟩)], [], [], none⟩
noncomputable def F7bH : FnH := ⟨47, Tryz.f47, sr, (.tup (.own 206968 (.int .i64) true) s4), [], [], [], [], [], none⟩
noncomputable def F4iH : FnH := ⟨275, Tryz.f275, s6, s4, [], [], [], [], [], none⟩
noncomputable def F4uH : FnH := ⟨276, Tryz.f276, s6, s4, [], [], [], [], [], none⟩
noncomputable def F4vH : FnH := ⟨334, Tryz.f334, s6, (.tup s0 (.tup s0 s6)), [], [], [], [], [], none⟩
noncomputable def F0H : FnH := ⟨183, Tryz.f183, s6, sa, [], [], [], [], [], none⟩
noncomputable def F4hH : FnH := ⟨364, Tryz.f364, (.tup s0 sa), s4, [], [], [], [], [], none⟩
noncomputable def F5xH : FnH := ⟨335, Tryz.f335, (.tup s0 (.tup s0 s17)), s4, [], [], [], [], [], none⟩
noncomputable def F5aH : FnH := ⟨336, Tryz.f336, (.tup s0 sh), s4, [], [], [], [], [], none⟩
noncomputable def F2rH : FnH := ⟨152, Tryz.f152, (.tup s3 (.tup (.v (.fn 336 (.pair (.int .i64) .nil))) .unit)), s6, [], [], [(0, ⟨[(0, s3), (1, (.v (.fn 336 (.pair (.int .i64) .nil)))), (7, s0), (8, s0)], [(.ret, [(4, s0)]), (.exit 0, [])], []⟩)], [], [], none⟩
noncomputable def F6kH : FnH := ⟨144, Tryz.f144, (.tup s3 (.tup (.v (.fn 336 (.pair (.int .i64) .nil))) .unit)), s4, [], [], [], [], [], none⟩
noncomputable def FsH : FnH := ⟨284, Tryz.f284, (.tup s0 (.tup s0 sm)), s4, [], [], [(0, ⟨[(0, s0), (1, s0), (7, (.own 206969 (.int .i64) true)), (33, s7), (34, s0), (35, s0)], [(.ret, [(6, sx)]), (.exit 0, [(7, (.own 206970 (.int .i64) true))])], []⟩)], [], [], none⟩
noncomputable def F60H : FnH := ⟨285, Tryz.f285, sm, s6, [], [], [], [], [], none⟩
noncomputable def F4cH : FnH := ⟨208, Tryz.f208, (.tup s0 (.tup s0 (.tup s7 s6))), s4, [], [], [], [], [], none⟩
noncomputable def F49H : FnH := ⟨129, Tryz.f129, (.tup s9 sm), s4, [], [], [], [], [], none⟩
noncomputable def F28H : FnH := ⟨279, Tryz.f279, (.tup s9 (.tup (.v tyCommand) .unit)), s4, [], [], [(0, ⟨[(2, sb), (3, (.sp tyCommand)), (13, so), (14, s0), (15, s0)], [(.ret, [(4, sx)]), (.exit 0, [])], []⟩)], [], [], none⟩
noncomputable def F5sH : FnH := ⟨278, Tryz.f278, (.tup (.v tyCommand) (.tup sb .unit)), s4, [], [], [], [], [], none⟩
noncomputable def F2mH : FnH := ⟨331, Tryz.f331, (.tup sk (.tup (.v (.fn 278 (.pair tyProgram .nil))) .unit)), s6, [], [], [(0, ⟨[(0, sk), (1, (.v (.fn 278 (.pair tyProgram .nil)))), (7, s0), (8, s0)], [(.ret, [(4, s0)]), (.exit 0, [])], []⟩)], [], [], none⟩
noncomputable def F6xH : FnH := ⟨277, Tryz.f277, (.tup sk (.tup (.v (.fn 278 (.pair tyProgram .nil))) .unit)), s4, [], [], [], [], [], none⟩
noncomputable def F41H : FnH := ⟨204, Tryz.f204, s14, s4, [], [], [], [], [], none⟩
noncomputable def F4mH : FnH := ⟨125, Tryz.f125, s14, s4, [], [], [], [], [], none⟩
noncomputable def F6bH : FnH := ⟨130, Tryz.f130, (.tup s7 (.tup sb .unit)), s4, [], [], [], [], [], none⟩
noncomputable def F2wH : FnH := ⟨207, Tryz.f207, (.tup s5 (.tup (.v (.fn 130 (.pair tyProgram .nil))) .unit)), s6, [], [], [(0, ⟨[(0, s5), (1, (.v (.fn 130 (.pair tyProgram .nil)))), (7, s0), (8, s0)], [(.ret, [(4, s0)]), (.exit 0, [])], []⟩)], [], [], none⟩
noncomputable def F66H : FnH := ⟨127, Tryz.f127, (.tup s5 (.tup (.v (.fn 130 (.pair tyProgram .nil))) .unit)), s4, [], [], [], [], [], none⟩
noncomputable def F3vH : FnH := ⟨64, Tryz.f64, (.tup s9 (.tup s5 s6)), s4, [], [], [], [], [], none⟩
noncomputable def F5fH : FnH := ⟨119, Tryz.f119, s6, s4, [], [], [], [], [], none⟩
noncomputable def F57H : FnH := ⟨90, Tryz.f90, sr, s4, [], [], [], [], [], none⟩
noncomputable def F6iH : FnH := ⟨133, Tryz.f133, (.tup (.nl (.sl tyNode)) s6), (.tup (.own 206971 (.sl tyNode) false) .unit), [], [], [], [], [], none⟩
noncomputable def F17H : FnH := ⟨66, Tryz.f66, (.tup (.v (.sl (.sl (.sl tyNode)))) .unit), (.tup (.own 206974 (.sl tyNode) false) .unit), [], [], [(0, ⟨[(0, (.v (.sl (.sl (.sl tyNode))))), (3, s0), (9, (.v (.sl (.sl (.sl tyNode))))), (10, s0), (11, s0)], [(.exit 0, [(3, s0)])], [0]⟩), (2, ⟨[(6, (.own 206972 (.sl tyNode) false)), (25, (.v (.sl (.sl (.sl tyNode))))), (26, s0), (27, s0)], [(.exit 2, [(6, (.own 206973 (.sl tyNode) false))])], []⟩)], [], [], none⟩
noncomputable def F47H : FnH := ⟨131, Tryz.f131, s14, s6, [], [], [], [], [], none⟩
noncomputable def F1pH : FnH := ⟨106, Tryz.f106, (.tup s9 s6), (.tup (.own 206977 (.int .u64) true) .unit), [], [], [(0, ⟨[(1, s0), (2, sb), (5, (.own 206975 (.int .u64) true)), (9, s0), (10, s0)], [(.exit 0, [(5, (.own 206976 (.int .u64) true))])], []⟩)], [], [], none⟩
noncomputable def F55H : FnH := ⟨347, Tryz.f347, s12, s4, [], [], [], [], [], none⟩
noncomputable def F5gH : FnH := ⟨348, Tryz.f348, (.tup se (.tup se sa)), (.tup se sa), [], [], [], [], [], none⟩
noncomputable def F4rH : FnH := ⟨311, Tryz.f311, s12, (.tup se (.tup se s4)), [], [], [], [], [], none⟩
noncomputable def F3yH : FnH := ⟨312, Tryz.f312, (.tup s0 (.tup se (.tup se s4))), sa, [], [], [], [], [], none⟩
noncomputable def FdH : FnH := ⟨313, Tryz.f313, s4, sa, [], [], [], [], [], none⟩
noncomputable def F10H : FnH := ⟨314, Tryz.f314, (.tup s0 sa), s6, [], [], [], [], [], none⟩
noncomputable def F4pH : FnH := ⟨243, Tryz.f243, (.tup s0 s12), sa, [], [], [], [], [], none⟩
noncomputable def FmH : FnH := ⟨182, Tryz.f182, (.tup s0 (.tup s7 s13)), sa, [], [], [(0, ⟨[(0, s0), (2, sd), (7, (.own 206980 (.int .u64) true)), (12, s7), (13, s0), (14, s0)], [(.exit 0, [(7, (.own 206981 (.int .u64) true))])], []⟩)], [], [], none⟩
noncomputable def F1vH : FnH := ⟨286, Tryz.f286, (.tup (.v (.sl tySaid)) .unit), (.tup (.one (.own 206986 (.int .i64) true)) .unit), [], [], [(0, ⟨[(2, sj), (3, (.map 206982 tySaid (.int .i64))), (4, (.box 206983 (.one (.own 206984 (.int .i64) true)))), (11, (.v (.sl tySaid))), (12, s0), (13, s0)], [(.exit 0, [(1206982, (.map 206982 tySaid (.int .i64))), (2206983, (.box 206983 (.one (.own 206985 (.int .i64) true))))])], [2, 4]⟩)], [], [], none⟩
noncomputable def F1cH : FnH := ⟨209, Tryz.f209, (.tup s9 sw), (.tup (.one (.own 206987 (.int .i64) true)) s4), [], [], [(0, ⟨[(1, s5), (2, sb), (4, sj), (6, (.own 206979 tySaid true)), (25, s0), (26, s0)], [(.exit 0, [(1206979, (.own 206979 tySaid true))])], [4, 6]⟩), (2, ⟨[(1, s5), (2, sb), (4, sj), (6, (.own 206978 tySaid true)), (7, s0), (8, sd), (25, s0), (26, s0), (32, s5), (33, s0), (34, s0)], [(.exit 2, [(1206978, (.own 206978 tySaid true))])], [1, 2, 4, 6, 25, 26]⟩)], [], [], none⟩
noncomputable def F2jH : FnH := ⟨218, Tryz.f218, (.tup si s6), s4, [], [], [(0, ⟨[(1, s0), (2, sj), (5, s0), (9, s3), (10, s0), (11, s0)], [(.ret, [(4, sx)]), (.exit 0, [])], [1, 2]⟩)], [], [], none⟩
noncomputable def F7dH : FnH := ⟨142, Tryz.f142, s16, s4, [], [], [], [], [], none⟩
noncomputable def F22H : FnH := ⟨210, Tryz.f210, (.tup si (.tup si .unit)), (.tup (.one (.own 206990 (.int .i64) true)) .unit), [], [], [(0, ⟨[(3, sj), (4, sj), (5, (.own 206988 tySaid true)), (10, s3), (11, s0), (12, s0)], [(.exit 0, [(5, (.own 206989 tySaid true))])], [4]⟩)], [], [], none⟩
noncomputable def F4sH : FnH := ⟨132, Tryz.f132, (.tup s9 (.tup si sm)), (.tup (.one (.own 206991 (.int .i64) true)) s4), [], [], [], [], [], none⟩
noncomputable def F3qH : FnH := ⟨65, Tryz.f65, (.tup s9 sw), (.tup (.one (.own 206995 (.int .i64) true)) .unit), [], [], [(0, ⟨[(2, sb), (4, sj), (5, (.box 206992 (.one (.own 206993 (.int .i64) true)))), (12, s5), (13, s0), (14, s0)], [(.exit 0, [(2206992, (.box 206992 (.one (.own 206994 (.int .i64) true))))])], [4, 5]⟩)], [], [], none⟩
noncomputable def F3cH : FnH := ⟨219, Tryz.f219, sc, s6, [], [], [(0, ⟨[(0, s3), (3, s0), (4, s0)], [(.exit 0, [(3, s0)])], []⟩)], [], [], none⟩
noncomputable def FqH : FnH := ⟨143, Tryz.f143, (.tup si .unit), s6, [], [], [], [], [], none⟩
noncomputable def F1tH : FnH := ⟨304, Tryz.f304, (.tup si s6), (.tup (.own 206999 (.int .i64) true) .unit), [], [], [(0, ⟨[(1, s0), (5, (.own 206997 (.int .i64) true)), (10, s3), (11, s0), (12, s0)], [(.exit 0, [(5, (.own 206998 (.int .i64) true))])], []⟩)], [], [], none⟩
noncomputable def FoH : FnH := ⟨105, Tryz.f105, (.tup s9 (.tup s7 s13)), s4, [], [], [], [], [], none⟩
noncomputable def F52H : FnH := ⟨337, Tryz.f337, s13, (.tup (.own 207002 (.int .u64) true) .unit), [], [], [], [], [], none⟩
noncomputable def F2qH : FnH := ⟨290, Tryz.f290, (.tup s9 (.tup (.v tyCommand) s13)), (.tup (.own 207004 (.int .u64) true) .unit), [], [], [(0, ⟨[(2, sd), (3, sb), (7, (.own 207003 (.int .u64) true)), (13, so), (14, s0), (15, s0)], [(.exit 0, [(1207003, (.own 207003 (.int .u64) true))])], [7]⟩)], [], [], none⟩
noncomputable def F3pH : FnH := ⟨289, Tryz.f289, (.tup s9 s13), s6, [], [], [(0, ⟨[(2, sb), (5, s0), (8, sd), (9, s0), (10, s0)], [(.exit 0, [(5, s0)])], []⟩)], [], [], none⟩
noncomputable def F5pH : FnH := Jex 282 Tryz.f282 207007
noncomputable def F78H : FnH := J48 283 Tryz.f283 207008 207009
noncomputable def F1kH : FnH := ⟨222, Tryz.f222, (.tup s9 s6), (.tup (.own 207006 (.int .i64) true) .unit), [], [], [(0, ⟨[(1, s0), (2, sb), (5, sd), (6, (.own 207001 (.int .i64) true)), (14, sk), (15, s0), (16, s0)], [(.exit 0, [(6, (.own 207005 (.int .i64) true))])], [1]⟩)], [], [], none⟩
noncomputable def F1yH : FnH := ⟨220, Tryz.f220, (.tup (.v (.sl .bool)) .unit), (.tup (.own 207014 (.int .i64) true) .unit), [], [], [(0, ⟨[(3, (.own 207012 (.int .i64) true)), (7, (.v (.sl .bool))), (8, s0), (9, s0)], [(.exit 0, [(3, (.own 207013 (.int .i64) true))])], []⟩)], [], [], none⟩
noncomputable def F1mH : FnH := ⟨171, Tryz.f171, (.tup si sc), (.tup (.own 207015 (.int .i64) true) .unit), [], [], [(0, ⟨[(2, sj), (5, (.own 207011 .bool true)), (11, s3), (12, s0), (13, s0)], [(.exit 0, [(1207011, (.own 207011 .bool true))])], [5]⟩)], [], [], none⟩
noncomputable def F3oH : FnH := ⟨239, Tryz.f239, (.tup s9 (.tup si s6)), (.tup (.own 207016 (.int .i64) true) .unit), [], [], [(0, ⟨[(3, sb), (4, sj), (7, (.own 207000 (.int .i64) true)), (13, s3), (14, s0), (15, s0)], [(.exit 0, [(7, (.own 207010 (.int .i64) true))])], [4]⟩)], [], [], none⟩
noncomputable def F2iH : FnH := ⟨170, Tryz.f170, s16, (.tup (.own 207018 (.sl (.int .i64)) true) .unit), [], [], [(0, ⟨[(2, sb), (3, sj), (5, (.own 206996 (.sl (.int .i64)) true)), (9, s0), (10, s0)], [(.exit 0, [(5, (.own 207017 (.sl (.int .i64)) true))])], []⟩)], [], [], none⟩
noncomputable def F1gH : FnH := ⟨172, Tryz.f172, (.tup s9 sm), (.tup (.own 207021 (.int .i64) true) .unit), [], [], [(0, ⟨[(1, s7), (2, sb), (5, (.own 207019 (.int .i64) true)), (9, s0), (10, s0)], [(.exit 0, [(5, (.own 207020 (.int .i64) true))])], []⟩)], [], [], none⟩
noncomputable def F13H : FnH := ⟨295, Tryz.f295, (.tup s8 .unit), (.tup (.own 207024 (.sl (.int .i64)) true) .unit), [], [], [(0, ⟨[(3, (.own 207023 (.sl (.int .i64)) true)), (11, s8), (12, s0), (13, s0)], [(.exit 0, [(1207023, (.own 207023 (.sl (.int .i64)) true))])], [3]⟩), (2, ⟨[(3, (.own 207022 (.sl (.int .i64)) true)), (4, s0), (11, s8), (12, s0), (13, s0), (18, s3), (19, s0), (20, s0)], [(.exit 2, [(1207022, (.own 207022 (.sl (.int .i64)) true))])], [3, 11, 12, 13]⟩)], [], [], none⟩
noncomputable def F59H : FnH := ⟨322, Tryz.f322, (.tup se sa), (.tup se sa), [], [], [], [], [], none⟩
noncomputable def F43H : FnH := ⟨259, Tryz.f259, (.tup se sa), (.tup se sa), [], [], [], [], [], none⟩
noncomputable def F3nH : FnH := ⟨193, Tryz.f193, (.tup s3 s6), (.tup (.own 207026 (.int .i64) true) .unit), [], [], [(0, ⟨[(7, (.own 207025 (.int .i64) true)), (8, s0)], [(.exit 0, [(1207025, (.own 207025 (.int .i64) true))])], [7]⟩)], [], [], none⟩
noncomputable def F4kH : FnH := ⟨158, Tryz.f158, sc, (.tup (.own 207027 (.int .i64) true) .unit), [], [], [], [], [], none⟩
noncomputable def FjH : FnH := ⟨238, Tryz.f238, (.tup s8 sc), (.tup (.own 207034 (.int .i64) true) .unit), [], [], [(0, ⟨[(0, s8), (5, (.own 207028 (.int .i64) true)), (6, s3), (17, s3), (18, s0), (19, s0)], [(.exit 0, [(1207028, (.own 207028 (.int .i64) true))])], [0, 5, 6]⟩), (2, ⟨[(0, s8), (5, (.own 207032 (.int .i64) true)), (6, (.own 207029 (.int .i64) true))], [(.exit 2, [(1207032, (.own 207032 (.int .i64) true))])], [5]⟩), (4, ⟨[(0, s8), (5, (.own 207031 (.int .i64) true)), (6, (.own 207030 (.int .i64) true)), (37, s3), (38, s0), (39, s0)], [(.exit 4, [(1207031, (.own 207031 (.int .i64) true)), (6, (.own 207033 (.int .i64) true))])], [0, 5]⟩)], [], [], none⟩
noncomputable def F5eH : FnH := ⟨296, Tryz.f296, (.tup s0 (.tup s10 sh)), s4, [], [], [], [], [], none⟩
noncomputable def F36H : FnH := ⟨152, Tryz.f152, (.tup s3 (.tup (.v (.fn 296 (.pair (.sl (.int .i64)) (.pair (.int .i64) .nil)))) .unit)), s6, [], [], [(0, ⟨[(0, s3), (1, (.v (.fn 296 (.pair (.sl (.int .i64)) (.pair (.int .i64) .nil))))), (7, s0), (8, s0)], [(.ret, [(4, s0)]), (.exit 0, [])], []⟩)], [], [], none⟩
noncomputable def FfH : FnH := ⟨232, Tryz.f232, (.tup s8 (.tup s3 sc)), (.tup (.own 207038 (.int .i64) true) .unit), [], [(61, 10152)], [(0, ⟨[(0, s8), (7, s10), (8, s0), (18, s3), (19, s0), (20, s0)], [(.exit 0, [(8, s0)])], [0, 7]⟩), (2, ⟨[(0, s8), (7, s10), (11, (.own 207035 (.int .i64) true)), (12, (.box 207036 s0))], [(.exit 2, [(11, (.own 207037 (.int .i64) true))])], []⟩)], [], [], none⟩
noncomputable def F56H : FnH := ⟨166, Tryz.f166, (.tup s9 (.tup si sm)), (.tup (.own 207039 (.int .i64) true) .unit), [], [], [], [], [], none⟩
noncomputable def F2kH : FnH := ⟨147, Tryz.f147, s14, (.tup (.own 207044 (.sl (.int .i64)) true) .unit), [], [], [(0, ⟨[(1, sb), (3, (.own 207042 (.sl (.int .i64)) true)), (7, s0), (8, s0)], [(.exit 0, [(3, (.own 207043 (.sl (.int .i64)) true))])], []⟩)], [], [], none⟩
noncomputable def F4nH : FnH := ⟨221, Tryz.f221, (.tup s0 (.tup sj sh)), s4, [], [], [], [], [], none⟩
noncomputable def F2pH : FnH := ⟨152, Tryz.f152, (.tup s3 (.tup ss .unit)), s6, [], [], [(0, ⟨[(0, s3), (1, ss), (7, s0), (8, s0)], [(.ret, [(4, s0)]), (.exit 0, [])], []⟩)], [], [], none⟩
noncomputable def F1uH : FnH := ⟨149, Tryz.f149, (.tup (.own 207050 (.int .i64) true) (.tup ss .unit)), (.tup .any (.tup (.own 207051 (.int .i64) true) .unit)), [207050], [(10, 10158)], [(0, ⟨[(0, (.own 207049 (.int .i64) true)), (1, ss), (5, s0), (6, s0)], [(.exit 0, [(1207049, (.own 207049 (.int .i64) true)), (5, s0)])], [0]⟩)], [], [], none⟩
noncomputable def F8H : FnH := ⟨146, Tryz.f146, (.tup s9 (.tup si sc)), (.tup (.own 207053 (.sl (.int .i64)) true) .unit), [], [], [(0, ⟨[(3, sb), (4, sj), (7, (.own 207045 (.sl (.int .i64)) true)), (8, s8), (9, (.own 207046 (.int .i64) true)), (24, s3), (25, s0), (26, s0)], [(.exit 0, [(7, (.own 207052 (.sl (.int .i64)) true))])], []⟩), (2, ⟨[(3, sb), (4, sj), (7, s8), (8, s8), (11, s18), (12, (.own 207048 .bool true)), (24, s3), (25, s0), (26, s0), (36, s3), (37, s0), (38, s0)], [(.exit 2, [(1207048, (.own 207048 .bool true))])], [3, 4, 7, 8, 11, 12, 24, 25, 26]⟩), (4, ⟨[(3, sb), (4, sj), (7, s8), (8, s8), (11, s18), (12, (.own 207047 .bool true)), (24, s3), (25, s0), (26, s0), (36, s3), (37, s0), (38, s0), (45, s3), (46, s0), (47, s0)], [(.exit 4, [(1207047, (.own 207047 .bool true))])], [3, 4, 7, 8, 11, 12, 24, 25, 26, 36, 37, 38]⟩)], [], [], none⟩
noncomputable def F5qH : FnH := ⟨224, Tryz.f224, sc, s4, [], [], [], [], [], none⟩
noncomputable def F3rH : FnH := ⟨223, Tryz.f223, (.tup s8 (.tup (.v (.fn 224 .nil)) .unit)), s6, [], [], [(0, ⟨[(0, s8), (1, (.v (.fn 224 .nil))), (7, s0), (8, s0)], [(.ret, [(4, s0)]), (.exit 0, [])], []⟩)], [], [], none⟩
noncomputable def F2zH : FnH := ⟨148, Tryz.f148, (.tup s8 .unit), s6, [], [], [], [], [], none⟩
noncomputable def F35H : FnH := ⟨173, Tryz.f173, (.tup s3 s6), s6, [], [], [(0, ⟨[(0, s3), (1, s0), (7, s0), (8, s0)], [(.ret, [(4, s0)]), (.exit 0, [])], []⟩)], [], [], none⟩
noncomputable def F4aH : FnH := ⟨96, Tryz.f96, (.tup s3 s6), s4, [], [], [], [], [], none⟩
noncomputable def F42H : FnH := ⟨151, Tryz.f151, (.tup s0 (.tup sq sh)), s4, [], [], [], [], [], none⟩
noncomputable def FhH : FnH := ⟨152, Tryz.f152, (.tup s3 (.tup su .unit)), s6, [], [], [(0, ⟨[(0, s3), (1, su), (7, s0), (8, s0)], [(.ret, [(4, s0)]), (.exit 0, [])], []⟩)], [], [], none⟩
noncomputable def F45H : FnH := ⟨144, Tryz.f144, (.tup s3 (.tup su .unit)), s4, [], [(7, 10167)], [], [], [], none⟩
noncomputable def FlH : FnH := ⟨150, Tryz.f150, (.tup s0 (.tup sq (.tup sq sh))), s4, [], [(11, 10166)], [], [], [], none⟩
noncomputable def F1H : FnH := ⟨152, Tryz.f152, (.tup s3 (.tup sg .unit)), s6, [], [], [(0, ⟨[(0, s3), (1, sg), (7, s0), (8, s0)], [(.ret, [(4, s0)]), (.exit 0, [])], []⟩)], [], [], none⟩
noncomputable def FeH : FnH := ⟨149, Tryz.f149, (.tup (.own 207055 (.int .i64) true) (.tup sg .unit)), (.tup .any (.tup (.own 207056 (.int .i64) true) .unit)), [207055], [(10, 10164)], [(0, ⟨[(0, (.own 207054 (.int .i64) true)), (1, sg), (5, s0), (6, s0)], [(.exit 0, [(1207054, (.own 207054 (.int .i64) true)), (5, s0)])], [0]⟩)], [], [], none⟩
noncomputable def F64H : FnH := ⟨151, Tryz.f151, (.tup s0 (.tup (.sp (.hsl (.sl (.int .i64)))) sh)), s4, [], [], [], [], [], none⟩
noncomputable def F3fH : FnH := ⟨152, Tryz.f152, (.tup s3 (.tup st .unit)), s6, [], [(16, 10176)], [(0, ⟨[(0, s3), (1, st), (7, s0), (8, s0)], [(.ret, [(4, s0)]), (.exit 0, [])], []⟩)], [], [], none⟩
noncomputable def F6wH : FnH := ⟨144, Tryz.f144, (.tup s3 (.tup st .unit)), s4, [], [(7, 10175)], [], [], [], none⟩
noncomputable def F4tH : FnH := ⟨150, Tryz.f150, (.tup s0 (.tup sq (.tup (.sp (.hsl (.sl (.int .i64)))) sh))), s4, [], [(11, 10174)], [], [], [], none⟩
noncomputable def F3gH : FnH := ⟨152, Tryz.f152, (.tup s3 (.tup sf .unit)), s6, [], [(16, 10173)], [(0, ⟨[(0, s3), (1, sf), (7, s0), (8, s0)], [(.ret, [(4, s0)]), (.exit 0, [])], []⟩)], [], [], none⟩
noncomputable def F2cH : FnH := ⟨149, Tryz.f149, (.tup (.own 207060 (.int .i64) true) (.tup sf .unit)), (.tup .any (.tup (.own 207061 (.int .i64) true) .unit)), [207060], [(10, 10172), (28, 10173)], [(0, ⟨[(0, (.own 207059 (.int .i64) true)), (1, sf), (5, s0), (6, s0)], [(.exit 0, [(1207059, (.own 207059 (.int .i64) true)), (5, s0)])], [0]⟩)], [], [], none⟩
noncomputable def F6oH : FnH := ⟨153, Tryz.f153, (.tup s0 (.tup sq (.tup s10 sh))), s4, [], [], [], [], [], none⟩
noncomputable def F2sH : FnH := ⟨152, Tryz.f152, (.tup s3 (.tup s11 .unit)), s6, [], [], [(0, ⟨[(0, s3), (1, s11), (7, s0), (8, s0)], [(.ret, [(4, s0)]), (.exit 0, [])], []⟩)], [], [], none⟩
noncomputable def F2H : FnH := ⟨77, Tryz.f77, (.tup s9 (.tup si sc)), (.tup (.own 207065 (.int .i64) true) .unit), [], [(39, 10171), (58, 10177)], [(0, ⟨[(7, (.box 207057 (.own 207058 (.sl (.int .i64)) true))), (8, sq), (9, s0), (10, s18)], [(.exit 0, [(2207057, (.box 207057 (.own 207058 (.sl (.int .i64)) true)))])], [7, 8, 9]⟩), (2, ⟨[(7, sq), (8, sq), (9, s0), (11, (.box 207062 (.own 207063 (.int .i64) true))), (12, s18)], [(.exit 2, [(2207062, (.box 207062 (.own 207064 (.int .i64) true)))])], [11]⟩)], [], [], none⟩
noncomputable def F5mH : FnH := ⟨233, Tryz.f233, (.tup s9 (.tup si sc)), (.tup (.own 207069 (.int .i64) true) s4), [], [], [], [], [], none⟩
noncomputable def F37H : FnH := ⟨299, Tryz.f299, (.tup s7 sm), s4, [], [], [(0, ⟨[(0, s7), (1, s7), (12, s0), (13, s0)], [(.ret, [(4, sx)]), (.exit 0, [])], []⟩)], [], [], none⟩
noncomputable def F76H : FnH := ⟨298, Tryz.f298, (.tup s7 (.tup (.sp (.sl tyNode)) .unit)), s4, [], [], [], [], [], none⟩
noncomputable def F2lH : FnH := ⟨207, Tryz.f207, (.tup s5 (.tup (.v (.fn 298 (.pair (.sl tyNode) .nil))) .unit)), s6, [], [], [(0, ⟨[(0, s5), (1, (.v (.fn 298 (.pair (.sl tyNode) .nil)))), (7, s0), (8, s0)], [(.ret, [(4, s0)]), (.exit 0, [])], []⟩)], [], [], none⟩
noncomputable def F5dH : FnH := ⟨127, Tryz.f127, (.tup s5 (.tup (.v (.fn 298 (.pair (.sl tyNode) .nil))) .unit)), s4, [], [(7, 10184)], [], [], [], none⟩
noncomputable def F5rH : FnH := ⟨300, Tryz.f300, sm, (.tup (.own 207070 tyNode true) .unit), [], [], [], [], [], none⟩
noncomputable def F3xH : FnH := ⟨297, Tryz.f297, (.tup s7 (.tup (.box 207071 (.own 207072 (.sl tyNode) true)) .unit)), (.tup (.box 207071 (.own 207073 (.sl tyNode) true)) .unit), [207071], [(9, 10183)], [], [], [], none⟩
noncomputable def F7aH : FnH := ⟨365, Tryz.f365, (.tup s7 (.tup s18 sh)), s4, [], [], [], [], [], none⟩
noncomputable def F3lH : FnH := ⟨207, Tryz.f207, (.tup s5 (.tup sv .unit)), s6, [], [], [(0, ⟨[(0, s5), (1, sv), (7, s0), (8, s0)], [(.ret, [(4, s0)]), (.exit 0, [])], []⟩)], [], [], none⟩
noncomputable def F6lH : FnH := ⟨127, Tryz.f127, (.tup s5 (.tup sv .unit)), s4, [], [(7, 10191)], [], [], [], none⟩
noncomputable def F6nH : FnH := ⟨366, Tryz.f366, (.tup s0 (.tup s0 sm)), (.tup s7 s4), [], [], [], [], [], none⟩
noncomputable def FyH : FnH := ⟨340, Tryz.f340, (.tup s0 (.tup s0 (.tup s7 sw))), (.tup s7 s4), [], [(27, 10190)], [(0, ⟨[(3, s5), (4, s18), (5, s18), (10, (.own 207080 tyNode true)), (30, s7), (31, s0), (32, s0)], [(.exit 0, [(10, (.own 207081 tyNode true))])], [4, 5]⟩)], [], [], none⟩
noncomputable def F18H : FnH := ⟨301, Tryz.f301, (.tup s9 (.tup s0 sm)), (.tup s7 s4), [], [], [(0, ⟨[(1, s0), (2, s7), (3, sb), (8, (.own 207077 (.sl tyNode) true)), (14, s0), (15, s0)], [(.exit 0, [(8, (.own 207078 (.sl tyNode) true))])], [1, 2, 3]⟩), (2, ⟨[(2, s7), (3, sb), (8, (.own 207079 (.sl tyNode) false)), (31, so), (32, s0), (33, s0)], [(.exit 2, [(1207079, (.own 207079 (.sl tyNode) false))])], [2, 3, 8]⟩)], [], [], none⟩
noncomputable def F5H : FnH := ⟨234, Tryz.f234, (.tup s9 sw), (.tup (.own 207088 (.sl tyNode) true) .unit), [], [], [(0, ⟨[(1, s5), (2, sb), (5, (.box 207074 (.own 207075 (.sl tyNode) true))), (6, (.clo 297 (.tup (.ptr 207074) .unit))), (17, sk), (18, s0), (19, s0)], [(.exit 0, [(2207074, (.box 207074 (.own 207076 (.sl tyNode) true)))])], [1, 2, 5, 6]⟩), (2, ⟨[(2, sb), (5, (.box 207083 (.own 207085 (.sl tyNode) true))), (6, (.clo 297 (.tup (.ptr 207083) .unit))), (28, s5), (29, s0), (30, s0)], [(.exit 2, [(2207083, (.box 207083 (.own 207087 (.sl tyNode) true)))])], [5]⟩), (4, ⟨[(2, sb), (5, (.box 207082 (.own 207084 (.sl tyNode) true))), (6, (.clo 297 (.tup (.ptr 207082) .unit))), (10, s7), (28, s5), (29, s0), (30, s0), (36, s0), (37, s0)], [(.exit 4, [(2207082, (.box 207082 (.own 207086 (.sl tyNode) true)))])], [2, 5, 6, 28, 29, 30]⟩)], [], [], none⟩
noncomputable def F69H : FnH := ⟨306, Tryz.f306, (.tup s0 (.tup sj sh)), s4, [], [], [], [], [], none⟩
noncomputable def F2vH : FnH := ⟨152, Tryz.f152, (.tup s3 (.tup sz .unit)), s6, [], [], [(0, ⟨[(0, s3), (1, sz), (7, s0), (8, s0)], [(.ret, [(4, s0)]), (.exit 0, [])], []⟩)], [], [], none⟩
noncomputable def F6yH : FnH := ⟨144, Tryz.f144, (.tup s3 (.tup sz .unit)), s4, [], [(7, 10199)], [], [], [], none⟩
noncomputable def F3wH : FnH := ⟨305, Tryz.f305, (.tup s0 (.tup sb (.tup sj sh))), s4, [], [(10, 10198)], [], [], [], none⟩
noncomputable def FiH : FnH := ⟨152, Tryz.f152, (.tup s3 (.tup sn .unit)), s6, [], [], [(0, ⟨[(0, s3), (1, sn), (7, s0), (8, s0)], [(.ret, [(4, s0)]), (.exit 0, [])], []⟩)], [], [], none⟩
noncomputable def F25H : FnH := ⟨149, Tryz.f149, (.tup (.own 207090 (.int .i64) true) (.tup sn .unit)), (.tup .any (.tup (.own 207091 (.int .i64) true) .unit)), [207090], [(10, 10196)], [(0, ⟨[(0, (.own 207089 (.int .i64) true)), (1, sn), (5, s0), (6, s0)], [(.exit 0, [(1207089, (.own 207089 (.int .i64) true)), (5, s0)])], [0]⟩)], [], [], none⟩
noncomputable def F1eH : FnH := ⟨236, Tryz.f236, (.tup s9 (.tup si (.tup s0 s6))), (.tup (.own 207092 (.int .i64) true) .unit), [], [(13, 10195)], [], [], [], none⟩
noncomputable def F46H : FnH := ⟨367, Tryz.f367, (.tup (.nl tyNode) s6), (.tup (.own 207093 tyNode true) .unit), [], [], [], [], [], none⟩
noncomputable def F4H : FnH := ⟨341, Tryz.f341, sw, (.tup (.own 207096 tyNode true) .unit), [], [], [(0, ⟨[(0, s5), (3, s0), (9, s5), (10, s0), (11, s0)], [(.exit 0, [(3, s0)])], [0]⟩), (2, ⟨[(6, (.own 207094 tyNode true)), (25, s5), (26, s0), (27, s0)], [(.exit 2, [(6, (.own 207095 tyNode true))])], []⟩)], [], [], none⟩
noncomputable def F54H : FnH := ⟨368, Tryz.f368, (.tup s0 (.tup sb (.tup (.sp (.sl tyNode)) .unit))), s4, [], [], [], [], [], none⟩
noncomputable def F3aH : FnH := ⟨152, Tryz.f152, (.tup s3 (.tup sy .unit)), s6, [], [], [(0, ⟨[(0, s3), (1, sy), (7, s0), (8, s0)], [(.ret, [(4, s0)]), (.exit 0, [])], []⟩)], [], [], none⟩
noncomputable def F51H : FnH := ⟨144, Tryz.f144, (.tup s3 (.tup sy .unit)), s4, [], [(7, 10209)], [], [], [], none⟩
noncomputable def F1lH : FnH := ⟨342, Tryz.f342, (.tup s9 (.tup s7 sc)), s4, [], [(9, 10208)], [], [], [], none⟩
noncomputable def F6gH : FnH := ⟨303, Tryz.f303, (.tup s9 (.tup s7 (.tup s3 sc))), s4, [], [], [], [], [], none⟩
noncomputable def F72H : FnH := ⟨302, Tryz.f302, (.tup s7 (.tup sb (.tup s10 (.tup s10 .unit)))), s4, [], [], [], [], [], none⟩
noncomputable def F38H : FnH := ⟨207, Tryz.f207, (.tup s5 (.tup s15 .unit)), s6, [], [], [(0, ⟨[(0, s5), (1, s15), (7, s0), (8, s0)], [(.ret, [(4, s0)]), (.exit 0, [])], []⟩)], [], [], none⟩
noncomputable def F44H : FnH := ⟨235, Tryz.f235, (.tup s9 (.tup s5 (.tup s3 sc))), s6, [], [(11, 10202)], [], [], [], none⟩
noncomputable def F3bH : FnH := ⟨237, Tryz.f237, (.tup si sc), (.tup (.one (.own 207099 (.int .i64) true)) .unit), [], [], [(0, ⟨[(2, sj), (4, sj), (5, (.box 207097 (.one (.own 207098 (.int .i64) true)))), (13, s3), (14, s0), (15, s0)], [(.exit 0, [(2207097, (.box 207097 (.one (.own 207098 (.int .i64) true))))])], [2, 4, 5]⟩)], [], [], none⟩
noncomputable def F6sH : FnH := ⟨167, Tryz.f167, (.tup s9 (.tup si (.tup s5 sc))), (.tup (.one (.own 207100 (.int .i64) true)) (.tup s0 s4)), [], [], [], [], [], none⟩
noncomputable def F3iH : FnH := ⟨91, Tryz.f91, sr, (.tup (.pair s0 (.pair (.own 207106 (.int .i64) true) (.pair s0 (.one (.own 207107 (.int .i64) true))))) .unit), [], [], [(0, ⟨[(1, s5), (2, s7), (3, s0), (4, sb), (8, (.box 207041 (.v tyFinding))), (9, (.box 207040 (.pair s0 (.pair (.own 207066 (.int .i64) true) (.pair s0 (.one (.own 207101 (.int .i64) true)))))))], [(.ret, [(2207040, .any), (2207041, (.box 207041 (.pair s0 (.pair (.own 207104 (.int .i64) true) (.pair s0 (.one (.own 207105 (.int .i64) true)))))))])], [8]⟩)], [], [], none⟩
noncomputable def F2gH : FnH := ⟨169, Tryz.f169, (.tup s8 sc), (.tup (.own 207110 (.int .i64) true) .unit), [], [], [(0, ⟨[(5, (.own 207108 (.int .i64) true)), (11, s3), (12, s0), (13, s0)], [(.exit 0, [(5, (.own 207109 (.int .i64) true))])], []⟩)], [], [], none⟩
noncomputable def F6cH : FnH := ⟨95, Tryz.f95, s16, (.tup (.own 207111 (.int .i64) true) .unit), [], [], [], [], [], none⟩
noncomputable def F1xH : FnH := ⟨48, Tryz.f48, sr, (.tup (.own 207114 (.int .i64) true) s4), [], [], [(0, ⟨[(11, (.own 207112 (.int .i64) true)), (12, s3), (36, s3), (37, s0), (38, s0)], [(.exit 0, [(11, (.own 207113 (.int .i64) true))])], []⟩)], [], [], none⟩
noncomputable def F1sH : FnH := ⟨31, Tryz.f31, (.tup s3 sc), s4, [], [], [(0, ⟨[(0, s3), (1, s3), (5, s0)], [(.ret, [(4, sx)]), (.exit 0, [])], []⟩)], [], [], none⟩
noncomputable def F7H : FnH := ⟨92, Tryz.f92, (.tup (.v tyNode) s17), s4, [], [], [], [], [], none⟩
noncomputable def FbH : FnH := ⟨43, Tryz.f43, (.tup s7 sm), s4, [], [], [(0, ⟨[(0, s7), (1, s7), (5, s0)], [(.ret, [(4, sx)]), (.exit 0, [])], []⟩)], [], [], none⟩
noncomputable def F11H : FnH := ⟨291, Tryz.f291, (.tup (.v tyChange) (.tup (.v tyChange) .unit)), s4, [], [], [], [], [], none⟩
noncomputable def F34H : FnH := ⟨225, Tryz.f225, (.tup so (.tup so .unit)), s4, [], [], [(0, ⟨[(0, so), (1, so), (5, s0)], [(.ret, [(4, sx)]), (.exit 0, [])], []⟩)], [], [], none⟩
noncomputable def F16H : FnH := ⟨154, Tryz.f154, (.tup (.v tyCommand) (.tup (.v tyCommand) .unit)), s4, [], [], [], [], [], none⟩
noncomputable def F3sH : FnH := ⟨78, Tryz.f78, (.tup sk (.tup sk .unit)), s4, [], [], [(0, ⟨[(0, sk), (1, sk), (5, s0)], [(.ret, [(4, sx)]), (.exit 0, [])], []⟩)], [], [], none⟩
noncomputable def F5hH : FnH := ⟨32, Tryz.f32, (.tup s9 s14), s4, [], [], [], [], [], none⟩
noncomputable def F3hH : FnH := ⟨19, Tryz.f19, (.tup s5 sw), s4, [], [], [(0, ⟨[(0, s5), (1, s5), (5, s0)], [(.ret, [(4, sx)]), (.exit 0, [])], []⟩)], [], [], none⟩
noncomputable def FcH : FnH := ⟨44, Tryz.f44, (.tup (.own 207116 tyNode true) s6), (.tup (.own 207116 tyNode true) s6), [207116], [], [(0, ⟨[(0, (.own 207115 tyNode true)), (1, s0), (5, s0)], [(.exit 0, [(1207115, (.own 207115 tyNode true)), (1, s0)])], []⟩)], [], [], none⟩
noncomputable def F31H : FnH := ⟨155, Tryz.f155, (.tup (.own 207121 tyChange true) s6), (.tup (.own 207121 tyChange true) s6), [207121], [], [(0, ⟨[(0, (.own 207120 tyChange true)), (1, s0), (5, s0)], [(.exit 0, [(1207120, (.own 207120 tyChange true)), (1, s0)])], []⟩)], [], [], none⟩
noncomputable def F2nH : FnH := ⟨79, Tryz.f79, (.tup (.own 207119 tyCommand true) s6), (.tup (.own 207119 tyCommand true) s6), [207119], [], [(0, ⟨[(0, (.own 207118 tyCommand true)), (1, s0), (5, s0)], [(.exit 0, [(1207118, (.own 207118 tyCommand true)), (1, s0)])], []⟩)], [], [], none⟩
noncomputable def F73H : FnH := ⟨33, Tryz.f33, (.tup (.pair s0 (.pair s0 (.pair (.own 207117 tyNode true) (.own 207122 tyCommand true)))) s6), (.tup (.own 207117 tyNode true) (.tup (.own 207122 tyCommand true) s6)), [207117, 207122], [], [], [], [], none⟩
noncomputable def F33H : FnH := ⟨21, Tryz.f21, (.tup (.own 207124 (.sl tyNode) true) s6), (.tup (.own 207124 (.sl tyNode) true) s6), [207124], [], [(0, ⟨[(0, (.own 207123 (.sl tyNode) true)), (1, s0), (5, s0)], [(.exit 0, [(1207123, (.own 207123 (.sl tyNode) true)), (1, s0)])], []⟩)], [], [], none⟩
noncomputable def F3tH : FnH := ⟨34, Tryz.f34, (.tup (.own 207126 (.int .i64) true) s6), (.tup (.own 207126 (.int .i64) true) s6), [207126], [], [(0, ⟨[(0, (.own 207125 (.int .i64) true)), (1, s0), (5, s0)], [(.exit 0, [(1207125, (.own 207125 (.int .i64) true)), (1, s0)])], []⟩)], [], [], none⟩
noncomputable def F2dH : FnH := ⟨35, Tryz.f35, (.tup s3 s6), s6, [], [], [(0, ⟨[(0, s3), (1, s0), (5, s0)], [(.ret, [(4, s0)]), (.exit 0, [(1, s0)])], []⟩)], [], [], none⟩
noncomputable def F9aH : FnH := ⟨7, Tryz.f7, sr, s4, [], [], [], [], [], none⟩
def extsL : List (Nat × ExtF) := []
def tysL : List (Nat × Ty) := [(2, (.int .i64)), (3, (.int .i64)), (4, .bool), (22, (.sl tyNode)), (23, (.sl tyCommand)), (25, tyProgram), (26, (.sl (.sl tyNode))), (32, (.sl (.int .i64))), (34, tySight), (37, (.sl tyNode)), (38, (.sl tyCommand)), (40, tyProgram), (41, (.sl (.sl tyNode))), (72, tyFinding), (106, (.sl (.sl (.int .i64)))), (121, (.int .u64)), (123, tyNode), (125, tyNode), (139, (.sl (.int .u64))), (141, (.sl .bool)), (160, (.sl (.sl (.sl tyNode)))), (164, (.sl tyChange)), (166, tyCommand), (171, (.sl tyChange)), (173, tyCommand), (233, tyChange), (234, (.int .u64)), (276, (.sl tySaid)), (277, tySaid), (281, tyChange)]
def nfsL : List (Nat × Nat) := [(25, 4), (34, 1), (40, 4), (72, 4), (123, 2), (125, 2), (166, 2), (173, 2), (233, 2), (281, 2)]
def cellsL : List Nat := []
def mtysL : List (Nat × (Nat × Nat)) := [(323, (277, 3))]
noncomputable def keysL : List (Nat × FnH) := [(38, FpH), (287, F14H), (211, F2xH), (135, F1aH), (69, F3eH), (24, F6pH), (12, F30H), (89, F3H), (40, F6H), (288, F19H), (217, F2yH), (141, F1bH), (75, F3uH), (27, F4bH), (15, F1nH), (116, F3zH), (272, F4wH), (273, F4gH), (307, FvH), (330, F4eH), (274, F3jH), (203, FrH), (123, F4dH), (269, F2bH), (200, F2oH), (121, F74H), (60, F2tH), (84, F5bH), (159, F4oH), (176, F2aH), (309, F29H), (369, F5tH), (343, F6mH), (344, FtH), (345, F1jH), (346, F40H), (308, F62H), (240, F48H), (175, F4qH), (99, F1dH), (98, F1fH), (198, FwH), (118, F1rH), (85, F4jH), (86, F32H), (213, F1qH), (160, F1hH), (188, F26H), (189, F1wH), (214, F21H), (216, F3kH), (215, F39H), (140, F1oH), (138, FzH), (228, F67H), (162, F2hH), (227, F12H), (156, F61H), (226, F9H), (161, FgH), (87, F6aH), (72, FuH), (73, F2fH), (139, F1iH), (74, FaH), (292, F2uH), (229, F2eH), (338, F4xH), (339, F5nH), (293, FxH), (230, F15H), (163, FkH), (165, F27H), (294, F1zH), (231, F6fH), (164, F3dH), (88, F5iH), (39, F20H), (168, F24H), (94, F58H), (93, F23H), (47, F7bH), (275, F4iH), (276, F4uH), (334, F4vH), (183, F0H), (364, F4hH), (335, F5xH), (336, F5aH), (152, F2rH), (144, F6kH), (284, FsH), (285, F60H), (208, F4cH), (129, F49H), (279, F28H), (278, F5sH), (331, F2mH), (277, F6xH), (204, F41H), (125, F4mH), (130, F6bH), (207, F2wH), (127, F66H), (64, F3vH), (119, F5fH), (90, F57H), (133, F6iH), (66, F17H), (131, F47H), (106, F1pH), (347, F55H), (348, F5gH), (311, F4rH), (312, F3yH), (313, FdH), (314, F10H), (243, F4pH), (182, FmH), (286, F1vH), (209, F1cH), (218, F2jH), (142, F7dH), (210, F22H), (132, F4sH), (65, F3qH), (219, F3cH), (143, FqH), (304, F1tH), (105, FoH), (337, F52H), (290, F2qH), (289, F3pH), (282, F5pH), (283, F78H), (222, F1kH), (220, F1yH), (171, F1mH), (239, F3oH), (170, F2iH), (172, F1gH), (295, F13H), (322, F59H), (259, F43H), (193, F3nH), (158, F4kH), (238, FjH), (296, F5eH), (10152, F36H), (232, FfH), (166, F56H), (147, F2kH), (221, F4nH), (10158, F2pH), (149, F1uH), (146, F8H), (224, F5qH), (223, F3rH), (148, F2zH), (173, F35H), (96, F4aH), (151, F42H), (10167, FhH), (10166, F45H), (150, FlH), (10164, F1H), (10163, FeH), (10176, F64H), (10175, F3fH), (10174, F6wH), (10173, F4tH), (10172, F3gH), (10171, F2cH), (153, F6oH), (10177, F2sH), (77, F2H), (233, F5mH), (299, F37H), (298, F76H), (10184, F2lH), (10183, F5dH), (300, F5rH), (297, F3xH), (365, F7aH), (10191, F3lH), (10190, F6lH), (366, F6nH), (340, FyH), (301, F18H), (234, F5H), (306, F69H), (10199, F2vH), (10198, F6yH), (305, F3wH), (10196, FiH), (10195, F25H), (236, F1eH), (367, F46H), (341, F4H), (368, F54H), (10209, F3aH), (10208, F51H), (342, F1lH), (303, F6gH), (302, F72H), (10202, F38H), (235, F44H), (237, F3bH), (167, F6sH), (91, F3iH), (169, F2gH), (95, F6cH), (48, F1xH), (31, F1sH), (92, F7H), (43, FbH), (291, F11H), (225, F34H), (154, F16H), (78, F3sH), (32, F5hH), (19, F3hH), (44, FcH), (155, F31H), (79, F2nH), (33, F73H), (21, F33H), (34, F3tH), (35, F2dH), (7, F9aH)]
noncomputable def H : Hints := { extF := fun f => J1b extsL f, ty := fun T => J1b tysL T, nf := fun T => match J1b nfsL T with | some n => n | none => 0, cell := fun T => hasN cellsL T, key := fun k => J1b keysL k, mty := fun T => J1b mtysL T }
abbrev DRN := Bool × List (Bool × List DNode)
abbrev DRI := Bool × List (Bool × List Int)
abbrev DLN := Bool × List DNode
abbrev DLI := Bool × List Int
abbrev DLB := Bool × List Bool
noncomputable def Fp (a : DLN) (left_ : Int) : Option Int := (inf H).call 38 (a, left_)
noncomputable def F14 (a : DChange) (left_ : Int) : Option Int := (inf H).call 287 (a, left_)
noncomputable def F2x (a : Bool × List DChange) (left_ : Int) : Option Int := (inf H).call 211 (a, left_)
theorem F2xK : H.key 211 = some F2xH := by kernel_rfl
noncomputable def Faa (a : Bool × List DChange) (left_ : Int) (i : Int) : Option (Int ⊕ Int) := (inf H).loop 211 0 (Jc5 Tryz.f211 0) (a, (left_, i))
noncomputable def F1a (a : DCommand) (left_ : Int) : Option Int := (inf H).call 135 (a, left_)
noncomputable def F3e (a : Bool × List DCommand) (left_ : Int) : Option Int := (inf H).call 69 (a, left_)
theorem F3eK : H.key 69 = some F3eH := by kernel_rfl
noncomputable def F8v (a : Bool × List DCommand) (left_ : Int) (i : Int) : Option (Int ⊕ Int) := (inf H).loop 69 0 (Jc5 Tryz.f69 0) (a, (left_, i))
noncomputable def F6p (a : DProgram) (left_ : Int) : Option Int := (inf H).call 24 (a, left_)
noncomputable def F30 (a : DRN) (left_ : Int) : Option Int := (inf H).call 12 (a, left_)
theorem F30K : H.key 12 = some F30H := by kernel_rfl
noncomputable def F8g (a : DRN) (left_ : Int) (i : Int) : Option (Int ⊕ Int) := (inf H).loop 12 0 (Jc5 Tryz.f12 0) (a, (left_, i))
noncomputable def F3 (a : DNode) : Option DNode := (inf H).call 89 a
noncomputable def F6 (a : DLN) : Option DLN := (inf H).call 40 a
theorem F6K : H.key 40 = some F6H := by kernel_rfl
noncomputable def F81 (a : DLN) (out : DLN) (i : Int) : Option DLN := (inf H).loop 40 0 (Jc5 Tryz.f40 0) (a, (out, i))
noncomputable def F19 (a : DChange) : Option DChange := (inf H).call 288 a
noncomputable def F2y (a : Bool × List DChange) : Option (Bool × List DChange) := (inf H).call 217 a
theorem F2yK : H.key 217 = some F2yH := by kernel_rfl
noncomputable def F8b (a : Bool × List DChange) (out : Bool × List DChange) (i : Int) : Option (Bool × List DChange) := (inf H).loop 217 0 (Jc5 Tryz.f217 0) (a, (out, i))
noncomputable def F1b (a : DCommand) : Option DCommand := (inf H).call 141 a
noncomputable def F3u (a : Bool × List DCommand) : Option (Bool × List DCommand) := (inf H).call 75 a
theorem F3uK : H.key 75 = some F3uH := by kernel_rfl
noncomputable def F8z (a : Bool × List DCommand) (out : Bool × List DCommand) (i : Int) : Option (Bool × List DCommand) := (inf H).loop 75 0 (Jc5 Tryz.f75 0) (a, (out, i))
noncomputable def F4b (a : DProgram) : Option DProgram := (inf H).call 27 a
noncomputable def F1n (a : DRN) : Option DRN := (inf H).call 15 a
theorem F1nK : H.key 15 = some F1nH := by kernel_rfl
noncomputable def F9n (a : DRN) (out : DRN) (i : Int) : Option DRN := (inf H).loop 15 0 (Jc5 Tryz.f15 0) (a, (out, i))
noncomputable def F3z (n : Int) (lo : Int) (hi : Int) : Option Bool := (inf H).call 116 (n, (lo, hi))
noncomputable def F4w (wide : Int) : Option Bool := (inf H).call 272 wide
noncomputable def F4g (op : Int) : Option DEdge := (inf H).call 273 op
noncomputable def Fv (wide : Int) (a : Int) : Option Int := (inf H).call 307 (wide, a)
theorem FvK : H.key 307 = some FvH := by kernel_rfl
noncomputable def F8x (wide : Int) (a : Int) (out : Int) (k_ : Int) : Option Int := (inf H).loop 307 0 (Jc5 Tryz.f307 0) (wide, (a, (out, k_)))
noncomputable def F4e (wide : Int) (a : Int) : Option Bool := (inf H).call 330 (wide, a)
noncomputable def F3j (wide : Int) (vars : Int) (n : DNode) : Option Bool := (inf H).call 274 (wide, (vars, n))
noncomputable def Fr (wide : Int) (vars : Int) (t : DLN) : Option Int := (inf H).call 203 (wide, (vars, t))
theorem FrK : H.key 203 = some FrH := by kernel_rfl
noncomputable def F7h (wide : Int) (vars : Int) (pile : DLI) (t27 : DLN) (t28 : Int) (t29 : Int) : Option (Int ⊕ DLI) := (inf H).loop 203 0 (Jc5 Tryz.f203 0) (wide, (vars, (pile, (t27, (t28, t29)))))
noncomputable def F9v (wide : Int) (vars : Int) (pile : DLI) (many : Int) (part : Int) (own : Int) (t27 : DLN) (t28 : Int) (t29 : Int) : Option (Int ⊕ DLI) := (inf H).loop 203 2 (Jc5 Tryz.f203 2) (wide, (vars, (pile, (many, (part, (own, (t27, (t28, t29))))))))
noncomputable def F4d (p : DProgram) (t : DLN) : Option Bool := (inf H).call 123 (p, t)
noncomputable def F2b (p : DProgram) (c : DCommand) : Option Bool := (inf H).call 269 (p, c)
theorem F2bK : H.key 269 = some F2bH := by kernel_rfl
noncomputable def F77 (p : DProgram) (c : DCommand) (t21 : Bool × List DChange) (t22 : Int) (t23 : Int) : Option (Bool ⊕ Unit) := (inf H).loop 269 0 (Jc5 Tryz.f269 0) (p, (c, (t21, (t22, t23))))
noncomputable def F2o (p : DProgram) : Option Bool := (inf H).call 200 p
theorem F2oK : H.key 200 = some F2oH := by kernel_rfl
noncomputable def F7m (p : DProgram) (t18 : Bool × List DCommand) (t19 : Int) (t20 : Int) : Option (Bool ⊕ Unit) := (inf H).loop 200 0 (Jc5 Tryz.f200 0) (p, (t18, (t19, t20)))
noncomputable def F74 (p : DProgram) : Option Bool := (inf H).call 121 p
noncomputable def F2t (p : DProgram) (preds : DRN) : Option Bool := (inf H).call 60 (p, preds)
theorem F2tK : H.key 60 = some F2tH := by kernel_rfl
noncomputable def F8f (p : DProgram) (t10 : DRN) (t11 : Int) (t12 : Int) : Option (Bool ⊕ Unit) := (inf H).loop 60 0 (Jc5 Tryz.f60 0) (p, (t10, (t11, t12)))
noncomputable def F5b (p : DProgram) (preds : DRN) (bad : DLN) (budget : Int) : Option Bool := (inf H).call 84 (p, (preds, (bad, budget)))
noncomputable def F4o (p : DProgram) : Option Int := (inf H).call 159 p
noncomputable def F2a (p : DProgram) (no : Int) : Option DLI := (inf H).call 176 (p, no)
theorem F2aK : H.key 176 = some F2aH := by kernel_rfl
noncomputable def F8j (no : Int) (p : DProgram) (out : DLI) (v : Int) : Option DLI := (inf H).loop 176 0 (Jc5 Tryz.f176 0) (no, (p, (out, v)))
noncomputable def F29 (t : DLN) (k_ : Int) : Option Int := (inf H).call 309 (t, k_)
theorem F29K : H.key 309 = some F29H := by kernel_rfl
noncomputable def F8l (t : DLN) (many : Int) (from_ : Int) : Option Int := (inf H).loop 309 0 (Jc5 Tryz.f309 0) (t, (many, from_))
noncomputable def F5t (wide : Int) (a : Int) (b : Int) : Option Bool := (inf H).call 369 (wide, (a, b))
noncomputable def F6m (wide : Int) (a : Int) (b : Int) : Option (Int × Int × Bool) := (inf H).call 343 (wide, (a, b))
noncomputable def Ft (wide : Int) (a : Int) (by_ : Int) (left_ : Bool) : Option Int := (inf H).call 344 (wide, (a, (by_, left_)))
theorem FtK : H.key 344 = some FtH := by kernel_rfl
noncomputable def F6r (wide : Int) (a : Int) (by_ : Int) (left_ : Bool) : Option Int := (inf H).loop 344 0 (Jc5 Tryz.f344 0) (wide, (a, (by_, left_)))
noncomputable def F1j (is : Bool) : Option Int := (inf H).call 345 is
noncomputable def F40 (wide : Int) (a : Int) : Option Int := (inf H).call 346 (wide, a)
noncomputable def F62 (wide : Int) (op : Int) (a : Int) (b : Int) : Option Int := (inf H).call 308 (wide, (op, (a, b)))
noncomputable def F48 (wide : Int) (t : DLN) (k_ : Int) (state : DLI) : Option Int := (inf H).call 240 (wide, (t, (k_, state)))
noncomputable def F4q (p : DProgram) (t : DLN) (s : DLI) : Option Bool := (inf H).call 175 (p, (t, s))
noncomputable def F1d (p : DProgram) (t : DLN) : Option DLI := (inf H).call 99 (p, t)
theorem F1dK : H.key 99 = some F1dH := by kernel_rfl
noncomputable def F5k (t : DLN) (p : DProgram) (out : DLI) (no : Int) : Option DLI := (inf H).loop 99 0 (Jc5 Tryz.f99 0) (t, (p, (out, no)))
noncomputable def F1f (l : DLI) (n : Int) : Option Bool := (inf H).call 98 (l, n)
theorem F1fK : H.key 98 = some F1fH := by kernel_rfl
noncomputable def F9p (n : Int) (t7 : DLI) (t8 : Int) (t9 : Int) : Option (Bool ⊕ Unit) := (inf H).loop 98 0 (Jc5 Tryz.f98 0) (n, (t7, (t8, t9)))
noncomputable def Fw (keys : DLI) : Option DLI := (inf H).call 198 keys
theorem FwK : H.key 198 = some FwH := by kernel_rfl
noncomputable def F71 (keys : DLI) (t2 : DSight) (out : DLI) (many : Int) (t9 : DLI) (t10 : Int) (t11 : Int) : Option DLI := (inf H).loop 198 0 (Jc5 Tryz.f198 0) (keys, (t2, (out, (many, (t9, (t10, t11))))))
noncomputable def F7w (keys : DLI) (t2 : DSight) (out : DSight) (many : Int) (i : Int) (key : Int) (class_ : Int) (j : Int) (t9 : DLI) (t10 : Int) (t11 : Int) : Option Int := (inf H).loop 198 2 (Jc5 Tryz.f198 2) (keys, (t2, (out, (many, (i, (key, (class_, (j, (t9, (t10, t11))))))))))
noncomputable def F1r (v : DSight) (some_ : DLI) : Option DLI := (inf H).call 118 (v, some_)
theorem F1rK : H.key 118 = some F1rH := by kernel_rfl
noncomputable def F75 (some_ : DLI) (t4 : DSight) (keys : DLI) (t9 : DLI) (t10 : Int) (t11 : Int) : Option DLI := (inf H).loop 118 0 (Jc5 Tryz.f118 0) (some_, (t4, (keys, (t9, (t10, t11)))))
noncomputable def F4j (p : DProgram) (v : DSight) (t : DLN) : Option DLI := (inf H).call 85 (p, (v, t))
noncomputable def F32 (p : DProgram) (preds : DRN) : Option DLI := (inf H).call 86 (p, preds)
theorem F32K : H.key 86 = some F32H := by kernel_rfl
noncomputable def Fad (p : DProgram) (t4 : DSight) (v : DLI) (t12 : DRN) (t13 : Int) (t14 : Int) : Option DLI := (inf H).loop 86 0 (Jc5 Tryz.f86 0) (p, (t4, (v, (t12, (t13, t14)))))
noncomputable def F1q (l : DLI) (n : Int) : Option DLI := (inf H).call 213 (l, n)
theorem F1qK : H.key 213 = some F1qH := by kernel_rfl
noncomputable def Fac (l : DLI) (n : Int) (k_ : Int) : Option Int := (inf H).loop 213 0 (Jc5 Tryz.f213 0) (l, (n, k_))
noncomputable def F1h (v : DSight) (states : DLI) : Option DLI := (inf H).call 160 (v, states)
theorem F1hK : H.key 160 = some F1hH := by kernel_rfl
noncomputable def F9d (v : DSight) (out : DLI) (t8 : DLI) (t9 : Int) (t10 : Int) : Option DLI := (inf H).loop 160 0 (Jc5 Tryz.f160 0) (v, (out, (t8, (t9, t10))))
noncomputable def F26 (v : DSight) : Option Int := (inf H).call 188 v
theorem F26K : H.key 188 = some F26H := by kernel_rfl
noncomputable def F6h (many : Int) (t7 : DLI) (t8 : Int) (t9 : Int) : Option Int := (inf H).loop 188 0 (Jc5 Tryz.f188 0) (many, (t7, (t8, t9)))
noncomputable def F1w (v : DSight) (class_ : Int) : Option DLI := (inf H).call 189 (v, class_)
theorem F1wK : H.key 189 = some F1wH := by kernel_rfl
noncomputable def F53 (class_ : Int) (out : DLI) (t9 : DLI) (t10 : Int) (t11 : Int) : Option DLI := (inf H).loop 189 0 (Jc5 Tryz.f189 0) (class_, (out, (t9, (t10, t11))))
noncomputable def F21 (p : DProgram) (s : DLI) : Option DLI := (inf H).call 214 (p, s)
theorem F21K : H.key 214 = some F21H := by kernel_rfl
noncomputable def F5z (s : DLI) (p : DProgram) (out : DLI) (t9 : Bool × List DCommand) (t10 : Int) (t11 : Int) : Option DLI := (inf H).loop 214 0 (Jc5 Tryz.f214 0) (s, (p, (out, (t9, (t10, t11)))))
noncomputable def F3k (p : DProgram) (s : DLI) (k_ : Int) : Option DLI := (inf H).call 216 (p, (s, k_))
theorem F3kK : H.key 216 = some F3kH := by kernel_rfl
noncomputable def F8s (s : DLI) (p : DProgram) (out : DLI) (t18 : Bool × List DChange) (t19 : Int) (t20 : Int) : Option DLI := (inf H).loop 216 0 (Jc5 Tryz.f216 0) (s, (p, (out, (t18, (t19, t20)))))
noncomputable def F39 (p : DProgram) (s : DLI) : Option Int := (inf H).call 215 (p, s)
theorem F39K : H.key 215 = some F39H := by kernel_rfl
noncomputable def F9c (s : DLI) (p : DProgram) (n : Int) (v : Int) : Option Int := (inf H).loop 215 0 (Jc5 Tryz.f215 0) (s, (p, (n, v)))
noncomputable def F1o (p : DProgram) (no : Int) : Option DLI := (inf H).call 140 (p, no)
theorem F1oK : H.key 140 = some F1oH := by kernel_rfl
noncomputable def F8d (no : Int) (p : DProgram) (s : DLI) (out : DLI) (t14 : DLI) (t15 : Int) (t16 : Int) : Option DLI := (inf H).loop 140 0 (Jc5 Tryz.f140 0) (no, (p, (s, (out, (t14, (t15, t16))))))
noncomputable def Fz (p : DProgram) (some_ : DLI) : Option DLI := (inf H).call 138 (p, some_)
theorem FzK : H.key 138 = some FzH := by kernel_rfl
noncomputable def F98 (p : DProgram) (out : DLI) (t10 : DLI) (t11 : Int) (t12 : Int) : Option DLI := (inf H).loop 138 0 (Jc5 Tryz.f138 0) (p, (out, (t10, (t11, t12))))
noncomputable def F9e (p : DProgram) (out : DLI) (t10 : DLI) (t11 : Int) (t12 : Int) (t18 : DLI) (t19 : Int) (t20 : Int) : Option DLI := (inf H).loop 138 2 (Jc5 Tryz.f138 2) (p, (out, (t10, (t11, (t12, (t18, (t19, t20)))))))
noncomputable def F67 (p : DProgram) (v : DSight) (class_ : Int) : Option DLI := (inf H).call 228 (p, (v, class_))
noncomputable def F2h (p : DProgram) (v : DSight) : Option DRI := (inf H).call 162 (p, v)
theorem F2hK : H.key 162 = some F2hH := by kernel_rfl
noncomputable def F9w (p : DProgram) (v : DSight) (out : DRI) (class_ : Int) : Option DRI := (inf H).loop 162 0 (Jc5 Tryz.f162 0) (p, (v, (out, class_)))
noncomputable def F12 (next : DRI) : Option DRI := (inf H).call 227 next
theorem F12K : H.key 227 = some F12H := by kernel_rfl
noncomputable def F7z (out : DRI) (t11 : DRI) (t12 : Int) (t13 : Int) : Option DRI := (inf H).loop 227 0 (Jc5 Tryz.f227 0) (out, (t11, (t12, t13)))
noncomputable def Fa6 (out : DRI) (k_ : Int) (t11 : DRI) (t12 : Int) (t13 : Int) (t18 : DLI) (t19 : Int) (t20 : Int) : Option DRI := (inf H).loop 227 2 (Jc5 Tryz.f227 2) (out, (k_, (t11, (t12, (t13, (t18, (t19, t20)))))))
noncomputable def F61 (l : DLI) : Option DLI := (inf H).call 156 l
noncomputable def F9 (next : DRI) (from_ : DLI) : Option DLI := (inf H).call 226 (next, from_)
theorem F9K : H.key 226 = some F9H := by kernel_rfl
noncomputable def F80 (next : DRI) (from_ : DLI) (out : DLI) (t17 : Int) (t18 : Int) : Option DLI := (inf H).loop 226 0 (Jc5 Tryz.f226 0) (next, (from_, (out, (t17, t18))))
noncomputable def Fa0 (next : DRI) (from_ : DLI) (out : DLI) (t25 : DLI) (t26 : Int) (t27 : Int) : Option DLI := (inf H).loop 226 2 (Jc5 Tryz.f226 2) (next, (from_, (out, (t25, (t26, t27)))))
noncomputable def F9r (next : DRI) (out : DLI) (row_ : DLI) : Option DLI := (inf H).loop 226 4 (Jc5 Tryz.f226 4) (next, (out, row_))
noncomputable def F50 (next : DRI) (out : DLI) (row_ : DLI) (k_ : Int) (t48 : DLI) (t49 : Int) (t50 : Int) : Option DLasso := (inf H).loop 226 6 (Jc5 Tryz.f226 6) (next, (out, (row_, (k_, (t48, (t49, t50))))))
noncomputable def Fg (next : DRI) (from_ : DLI) (to : DLI) : Option (DLI × Bool) := (inf H).call 161 (next, (from_, to))
theorem FgK : H.key 161 = some FgH := by kernel_rfl
noncomputable def F4f (next : DRI) (far : DLI) (best : Int) (t19 : DLI) (t20 : Int) (t21 : Int) : Option Int := (inf H).loop 161 0 (Jc5 Tryz.f161 0) (next, (far, (best, (t19, (t20, t21)))))
noncomputable def F7s (next : DRI) (far : DLI) (best : Int) (out : DLI) : Option DLI := (inf H).loop 161 2 (Jc5 Tryz.f161 2) (next, (far, (best, out)))
noncomputable def F9g (next : DRI) (far : DLI) (best : Int) (out : DLI) (t59 : DLI) (t60 : Int) (t61 : Int) : Option Int := (inf H).loop 161 4 (Jc5 Tryz.f161 4) (next, (far, (best, (out, (t59, (t60, t61))))))
noncomputable def F6a (p : DProgram) (v : DSight) (bad : DLN) : Option (DLI × Bool) := (inf H).call 87 (p, (v, bad))
noncomputable def Fu (p : DProgram) (v : DSight) (path : DLI) : Option DRI := (inf H).call 72 (p, (v, path))
theorem FuK : H.key 72 = some FuH := by kernel_rfl
noncomputable def F7j (p : DProgram) (v : DSight) (out : DRI) (some_ : DLI) (t18 : DLI) (t19 : Int) (t20 : Int) : Option DRI := (inf H).loop 72 0 (Jc5 Tryz.f72 0) (p, (v, (out, (some_, (t18, (t19, t20))))))
noncomputable def F63 (p : DProgram) (v : DSight) (out : DRI) (class_ : Int) (in_ : DLI) (t18 : DLI) (t19 : Int) (t20 : Int) (t24 : DLI) (t25 : Int) (t26 : Int) : Option DLI := (inf H).loop 72 2 (Jc5 Tryz.f72 2) (p, (v, (out, (class_, (in_, (t18, (t19, (t20, (t24, (t25, t26))))))))))
noncomputable def F2f (along : DRI) : Option Int := (inf H).call 73 along
theorem F2fK : H.key 73 = some F2fH := by kernel_rfl
noncomputable def F9y (t5 : DRI) (t6 : Int) (t7 : Int) : Option (Int ⊕ Unit) := (inf H).loop 73 0 (Jc5 Tryz.f73 0) (t5, (t6, t7))
noncomputable def F1i (a : DLI) (b : DLI) : Option Bool := (inf H).call 139 (a, b)
theorem F1iK : H.key 139 = some F1iH := by kernel_rfl
noncomputable def F9l (b : DLI) (t7 : DLI) (t8 : Int) (t9 : Int) : Option (Bool ⊕ Unit) := (inf H).loop 139 0 (Jc5 Tryz.f139 0) (b, (t7, (t8, t9)))
noncomputable def Fa (p : DProgram) (along : DRI) : Option DLI := (inf H).call 74 (p, along)
theorem FaK : H.key 74 = some FaH := by kernel_rfl
noncomputable def F86 (along : DRI) (p : DProgram) (can : DRI) (k_ : Int) : Option DRI := (inf H).loop 74 0 (Jc5 Tryz.f74 0) (along, (p, (can, k_)))
noncomputable def F7c (along : DRI) (p : DProgram) (can : DRI) (k_ : Int) (in_ : DLI) (t27 : DLI) (t28 : Int) (t29 : Int) : Option DLI := (inf H).loop 74 2 (Jc5 Tryz.f74 2) (along, (p, (can, (k_, (in_, (t27, (t28, t29)))))))
noncomputable def F8t (p : DProgram) (can : DRI) (out : DLI) (k_ : Int) : Option DLI := (inf H).loop 74 4 (Jc5 Tryz.f74 4) (p, (can, (out, k_)))
noncomputable def F7t (p : DProgram) (can : DRI) (out : DLI) (k_ : Int) (t69 : DLI) (t70 : Int) (t71 : Int) : Option DLI := (inf H).loop 74 6 (Jc5 Tryz.f74 6) (p, (can, (out, (k_, (t69, (t70, t71))))))
noncomputable def F2u (a : DLN) (b : DLN) : Option Bool := (inf H).call 292 (a, b)
theorem F2uK : H.key 292 = some F2uH := by kernel_rfl
noncomputable def F95 (a : DLN) (b : DLN) (t12 : Int) (t13 : Int) : Option (Bool ⊕ Unit) := (inf H).loop 292 0 (Jc5 Tryz.f292 0) (a, (b, (t12, t13)))
noncomputable def F2e (l : DRN) (t : DLN) : Option DRN := (inf H).call 229 (l, t)
theorem F2eK : H.key 229 = some F2eH := by kernel_rfl
noncomputable def Fah (l : DRN) (t : DLN) (t8 : Int) (t9 : Int) : Option (DRN ⊕ DRN) := (inf H).loop 229 0 (Jc5 Tryz.f229 0) (l, (t, (t8, t9)))
noncomputable def F4x (wide : Int) (vars : Int) (t : DLN) : Option Bool := (inf H).call 338 (wide, (vars, t))
noncomputable def F5n (wide : Int) (vars : Int) (t : DLN) : Option (DLN × Bool) := (inf H).call 339 (wide, (vars, t))
noncomputable def Fx (wide : Int) (vars : Int) (t : DLN) (by_ : DRN) : Option (DLN × Bool) := (inf H).call 293 (wide, (vars, (t, by_)))
theorem FxK : H.key 293 = some FxH := by kernel_rfl
noncomputable def F9k (wide : Int) (vars : Int) (t : DLN) (by_ : DRN) (t26 : DRN) (t27 : Int) (t28 : Int) : Option (Bool ⊕ Unit) := (inf H).loop 293 0 (Jc5 Tryz.f293 0) (wide, (vars, (t, (by_, (t26, (t27, t28))))))
noncomputable def F5c (wide : Int) (vars : Int) (by_ : DRN) (out : DLN) (t38 : DLN) (t39 : Int) (t40 : Int) : Option DLN := (inf H).loop 293 2 (Jc5 Tryz.f293 2) (wide, (vars, (by_, (out, (t38, (t39, t40))))))
noncomputable def F15 (p : DProgram) (k_ : Int) (t : DLN) : Option (DLN × Bool) := (inf H).call 230 (p, (k_, t))
theorem F15K : H.key 230 = some F15H := by kernel_rfl
noncomputable def F7g (k_ : Int) (t : DLN) (p : DProgram) (by_ : DRN) (v : Int) : Option DRN := (inf H).loop 230 0 (Jc5 Tryz.f230 0) (k_, (t, (p, (by_, v))))
noncomputable def Fae (t : DLN) (p : DProgram) (by_ : DRN) (t30 : Bool × List DChange) (t31 : Int) (t32 : Int) : Option DRN := (inf H).loop 230 2 (Jc5 Tryz.f230 2) (t, (p, (by_, (t30, (t31, t32)))))
noncomputable def Fk (p : DProgram) (preds : DRN) : Option DRN := (inf H).call 163 (p, preds)
theorem FkK : H.key 163 = some FkH := by kernel_rfl
noncomputable def F8c (preds : DRN) (p : DProgram) (out : DRN) (t14 : Bool × List DCommand) (t15 : Int) (t16 : Int) : Option DRN := (inf H).loop 163 0 (Jc5 Tryz.f163 0) (preds, (p, (out, (t14, (t15, t16)))))
noncomputable def F91 (p : DProgram) (out : DRN) (t25 : DRN) (t26 : Int) (t27 : Int) : Option DRN := (inf H).loop 163 2 (Jc5 Tryz.f163 2) (p, (out, (t25, (t26, t27))))
noncomputable def F6t (p : DProgram) (out : DRN) (t : DLN) (t25 : DRN) (t26 : Int) (t27 : Int) (t33 : Int) (t34 : Int) : Option DRN := (inf H).loop 163 4 (Jc5 Tryz.f163 4) (p, (out, (t, (t25, (t26, (t27, (t33, t34)))))))
noncomputable def F27 (p : DProgram) (v : DSight) (class_ : Int) (to : Int) : Option DLI := (inf H).call 165 (p, (v, (class_, to)))
theorem F27K : H.key 165 = some F27H := by kernel_rfl
noncomputable def F5u (to : Int) (p : DProgram) (v : DSight) (out : DLI) (t14 : DLI) (t15 : Int) (t16 : Int) : Option DLI := (inf H).loop 165 0 (Jc5 Tryz.f165 0) (to, (p, (v, (out, (t14, (t15, t16))))))
noncomputable def F1z (some_ : DLI) (in_ : DLI) : Option Bool := (inf H).call 294 (some_, in_)
theorem F1zK : H.key 294 = some F1zH := by kernel_rfl
noncomputable def Faf (in_ : DLI) (t7 : DLI) (t8 : Int) (t9 : Int) : Option (Bool ⊕ Unit) := (inf H).loop 294 0 (Jc5 Tryz.f294 0) (in_, (t7, (t8, t9)))
noncomputable def F6f (p : DProgram) (t : DLN) (a : DLI) (b : DLI) : Option Bool := (inf H).call 231 (p, (t, (a, b)))
noncomputable def F3d (p : DProgram) (terms : DRN) (a : DLI) (b : DLI) : Option Int := (inf H).call 164 (p, (terms, (a, b)))
theorem F3dK : H.key 164 = some F3dH := by kernel_rfl
noncomputable def F8r (a : DLI) (b : DLI) (p : DProgram) (t11 : DRN) (t12 : Int) (t13 : Int) : Option (Int ⊕ Unit) := (inf H).loop 164 0 (Jc5 Tryz.f164 0) (a, (b, (p, (t11, (t12, t13)))))
noncomputable def F5i (p : DProgram) (v : DSight) (preds : DRN) (path : DLI) : Option (DLI × Int) := (inf H).call 88 (p, (v, (preds, path)))
noncomputable def F20 (p : DProgram) (preds : DRN) (bad : DLN) (budget : Int) : Option (Int × DLI × (Int × DSight) × Bool) := (inf H).call 39 (p, (preds, (bad, budget)))
theorem F20K : H.key 39 = some F20H := by kernel_rfl
noncomputable def F4y (preds : DRN) (bad : DLN) (budget : Int) (p : DProgram) (t8 : DFinding) (v : DLI) (rounds : Int) : Option ((Int × DLI × Int × DLI × Bool) ⊕ (DFinding × DSight)) := (inf H).loop 39 0 (Jc5 Tryz.f39 0) (preds, (bad, (budget, (p, (t8, (v, rounds))))))
noncomputable def F24 (next : DRI) (from_ : DLI) : Option DLI := (inf H).call 168 (next, from_)
theorem F24K : H.key 168 = some F24H := by kernel_rfl
noncomputable def F65 (out : DLI) (t10 : DLI) (t11 : Int) (t12 : Int) : Option DLI := (inf H).loop 168 0 (Jc5 Tryz.f168 0) (out, (t10, (t11, t12)))
noncomputable def F58 (p : DProgram) (v : DSight) : Option DLI := (inf H).call 94 (p, v)
noncomputable def F23 (v : DSight) (classes : DLI) : Option DLI := (inf H).call 93 (v, classes)
theorem F23K : H.key 93 = some F23H := by kernel_rfl
noncomputable def F6q (classes : DLI) (out : DLI) (t9 : DLI) (t10 : Int) (t11 : Int) : Option DLI := (inf H).loop 93 0 (Jc5 Tryz.f93 0) (classes, (out, (t9, (t10, t11))))
noncomputable def F7b (p : DProgram) (preds : DRN) (bad : DLN) (budget : Int) : Option (DLI × Bool) := (inf H).call 47 (p, (preds, (bad, budget)))
noncomputable def F4i (n : Int) : Option Bool := (inf H).call 275 n
noncomputable def F4u (n : Int) : Option Bool := (inf H).call 276 n
noncomputable def F4v (op : Int) : Option DEdge := (inf H).call 334 op
noncomputable def F0 (wide : Int) : Option Int := (inf H).call 183 wide
noncomputable def F4h (wide : Int) (a : Int) : Option Bool := (inf H).call 364 (wide, a)
noncomputable def F5x (wide : Int) (vars : Int) (x : DNode) : Option Bool := (inf H).call 335 (wide, (vars, x))
noncomputable def F5a (own : Int) (a1 : Int) : Option Bool := (inf H).call 336 (own, a1)
noncomputable def F2r (s : DLI) (f : Int × Unit) : Option Int := (inf H).call 152 (s, f)
theorem F2rK : H.key 152 = some F2rH := by kernel_rfl
noncomputable def Fa2 (s : DLI) (f : Int × Unit) (t7 : Int) (t8 : Int) : Option (Int ⊕ Unit) := (inf H).loop 152 0 (Jc5 Tryz.f152 0) (s, (f, (t7, t8)))
noncomputable def F6k (s : DLI) (f : Int × Unit) : Option Bool := (inf H).call 144 (s, f)
noncomputable def Fs (wide : Int) (vars : Int) (t : DLN) : Option Bool := (inf H).call 284 (wide, (vars, t))
theorem FsK : H.key 284 = some FsH := by kernel_rfl
noncomputable def F9t (wide : Int) (vars : Int) (stack : DLI) (t33 : DLN) (t34 : Int) (t35 : Int) : Option (Bool ⊕ DLI) := (inf H).loop 284 0 (Jc5 Tryz.f284 0) (wide, (vars, (stack, (t33, (t34, t35)))))
noncomputable def F60 (t : DLN) : Option Int := (inf H).call 285 t
noncomputable def F4c (wide : Int) (vars : Int) (t : DLN) (kind : Int) : Option Bool := (inf H).call 208 (wide, (vars, (t, kind)))
noncomputable def F49 (p : DProgram) (t : DLN) : Option Bool := (inf H).call 129 (p, t)
noncomputable def F28 (p : DProgram) (c : DCommand) : Option Bool := (inf H).call 279 (p, c)
theorem F28K : H.key 279 = some F28H := by kernel_rfl
noncomputable def F6j (p : DProgram) (c : DCommand) (t13 : Bool × List DChange) (t14 : Int) (t15 : Int) : Option (Bool ⊕ Unit) := (inf H).loop 279 0 (Jc5 Tryz.f279 0) (p, (c, (t13, (t14, t15))))
noncomputable def F5s (c : DCommand) (a1 : DProgram) : Option Bool := (inf H).call 278 (c, a1)
noncomputable def F2m (s : Bool × List DCommand) (f : DProgram × Unit) : Option Int := (inf H).call 331 (s, f)
theorem F2mK : H.key 331 = some F2mH := by kernel_rfl
noncomputable def F8h (s : Bool × List DCommand) (f : DProgram × Unit) (t7 : Int) (t8 : Int) : Option (Int ⊕ Unit) := (inf H).loop 331 0 (Jc5 Tryz.f331 0) (s, (f, (t7, t8)))
noncomputable def F6x (s : Bool × List DCommand) (f : DProgram × Unit) : Option Bool := (inf H).call 277 (s, f)
noncomputable def F41 (p : DProgram) : Option Bool := (inf H).call 204 p
noncomputable def F4m (p : DProgram) : Option Bool := (inf H).call 125 p
noncomputable def F6b (t : DLN) (a1 : DProgram) : Option Bool := (inf H).call 130 (t, a1)
noncomputable def F2w (s : DRN) (f : DProgram × Unit) : Option Int := (inf H).call 207 (s, f)
theorem F2wK : H.key 207 = some F2wH := by kernel_rfl
noncomputable def Fa4 (s : DRN) (f : DProgram × Unit) (t7 : Int) (t8 : Int) : Option (Int ⊕ Unit) := (inf H).loop 207 0 (Jc5 Tryz.f207 0) (s, (f, (t7, t8)))
noncomputable def F66 (s : DRN) (f : DProgram × Unit) : Option Bool := (inf H).call 127 (s, f)
noncomputable def F3v (p : DProgram) (preds : DRN) (least : Int) : Option Bool := (inf H).call 64 (p, (preds, least))
noncomputable def F5f (n : Int) : Option Bool := (inf H).call 119 n
noncomputable def F57 (p : DProgram) (preds : DRN) (bad : DLN) (budget : Int) : Option Bool := (inf H).call 90 (p, (preds, (bad, budget)))
noncomputable def F6i (n : Int) : Option DRN := (inf H).call 133 n
noncomputable def F17 (slices : Bool × List DRN) : Option DRN := (inf H).call 66 slices
theorem F17K : H.key 66 = some F17H := by kernel_rfl
noncomputable def F9i (slices : Bool × List DRN) (size_ : Int) (t9 : Bool × List DRN) (t10 : Int) (t11 : Int) : Option Int := (inf H).loop 66 0 (Jc5 Tryz.f66 0) (slices, (size_, (t9, (t10, t11))))
noncomputable def F7o (newslice : DRN) (t25 : Bool × List DRN) (t26 : Int) (t27 : Int) : Option DRN := (inf H).loop 66 2 (Jc5 Tryz.f66 2) (newslice, (t25, (t26, t27)))
noncomputable def F47 (p : DProgram) : Option Int := (inf H).call 131 p
noncomputable def F1p (p : DProgram) (no : Int) : Option DLI := (inf H).call 106 (p, no)
theorem F1pK : H.key 106 = some F1pH := by kernel_rfl
noncomputable def F84 (no : Int) (p : DProgram) (out : DLI) (t9 : Int) (t10 : Int) : Option DLI := (inf H).loop 106 0 (Jc5 Tryz.f106 0) (no, (p, (out, (t9, t10))))
noncomputable def F55 (wide : Int) (a : Int) (b : Int) : Option Bool := (inf H).call 347 (wide, (a, b))
noncomputable def F5g (hi : Int) (lo : Int) (y : Int) : Option (Int × Int) := (inf H).call 348 (hi, (lo, y))
noncomputable def F4r (wide : Int) (a : Int) (b : Int) : Option (Int × Int × Bool) := (inf H).call 311 (wide, (a, b))
noncomputable def F3y (wide : Int) (a : Int) (by_ : Int) (left_ : Bool) : Option Int := (inf H).call 312 (wide, (a, (by_, left_)))
noncomputable def Fd (holds : Bool) : Option Int := (inf H).call 313 holds
noncomputable def F10 (wide : Int) (a : Int) : Option Int := (inf H).call 314 (wide, a)
noncomputable def F4p (wide : Int) (op : Int) (a : Int) (b : Int) : Option Int := (inf H).call 243 (wide, (op, (a, b)))
noncomputable def Fm (wide : Int) (t : DLN) (state : DLI) : Option Int := (inf H).call 182 (wide, (t, state))
theorem FmK : H.key 182 = some FmH := by kernel_rfl
noncomputable def F3m (wide : Int) (state : DLI) (stack : DLI) (t12 : DLN) (t13 : Int) (t14 : Int) : Option DLI := (inf H).loop 182 0 (Jc5 Tryz.f182 0) (wide, (state, (stack, (t12, (t13, t14)))))
noncomputable def F1v (keys : Bool × List DSaid) : Option DLI := (inf H).call 286 keys
theorem F1vK : H.key 286 = some F1vH := by kernel_rfl
noncomputable def F5l (t2 : DSight) (known : Bool × List (DSaid × Int)) (v : DLI) (t11 : Bool × List DSaid) (t12 : Int) (t13 : Int) : Option ((Bool × List (DSaid × Int)) × DLI) := (inf H).loop 286 0 (Jc5 Tryz.f286 0) (t2, (known, (v, (t11, (t12, t13)))))
noncomputable def F1c (p : DProgram) (preds : DRN) : Option (DLI × Bool) := (inf H).call 209 (p, preds)
theorem F1cK : H.key 209 = some F1cH := by kernel_rfl
noncomputable def F82 (preds : DRN) (p : DProgram) (t4 : DSight) (keys : Bool × List DSaid) (t25 : Int) (t26 : Int) : Option (Bool × List DSaid) := (inf H).loop 209 0 (Jc5 Tryz.f209 0) (preds, (p, (t4, (keys, (t25, t26)))))
noncomputable def F89 (preds : DRN) (p : DProgram) (t4 : DSight) (keys : Bool × List DSaid) (no : Int) (s : DLI) (t25 : Int) (t26 : Int) (t32 : DRN) (t33 : Int) (t34 : Int) : Option (Bool × List DSaid) := (inf H).loop 209 2 (Jc5 Tryz.f209 2) (preds, (p, (t4, (keys, (no, (s, (t25, (t26, (t32, (t33, t34))))))))))
noncomputable def F2j (v : DSight) (states : Int) : Option Bool := (inf H).call 218 (v, states)
theorem F2jK : H.key 218 = some F2jH := by kernel_rfl
noncomputable def F6d (states : Int) (v : DSight) (classes : Int) (t9 : DLI) (t10 : Int) (t11 : Int) : Option (Bool ⊕ Unit) := (inf H).loop 218 0 (Jc5 Tryz.f218 0) (states, (v, (classes, (t9, (t10, t11)))))
noncomputable def F7d (p : DProgram) (v : DSight) : Option Bool := (inf H).call 142 (p, v)
noncomputable def F22 (a : DSight) (b : DSight) : Option DLI := (inf H).call 210 (a, b)
theorem F22K : H.key 210 = some F22H := by kernel_rfl
noncomputable def F85 (b : DSight) (t4 : DSight) (keys : Bool × List DSaid) (t10 : DLI) (t11 : Int) (t12 : Int) : Option (Bool × List DSaid) := (inf H).loop 210 0 (Jc5 Tryz.f210 0) (b, (t4, (keys, (t10, (t11, t12)))))
noncomputable def F4s (p : DProgram) (v : DSight) (t : DLN) : Option (DLI × Bool) := (inf H).call 132 (p, (v, t))
noncomputable def F3q (p : DProgram) (preds : DRN) : Option DLI := (inf H).call 65 (p, preds)
theorem F3qK : H.key 65 = some F3qH := by kernel_rfl
noncomputable def F7k (p : DProgram) (t4 : DSight) (v : DLI) (t12 : DRN) (t13 : Int) (t14 : Int) : Option DLI := (inf H).loop 65 0 (Jc5 Tryz.f65 0) (p, (t4, (v, (t12, (t13, t14)))))
noncomputable def F3c (x : DLI) : Option Int := (inf H).call 219 x
theorem F3cK : H.key 219 = some F3cH := by kernel_rfl
noncomputable def F8w (x : DLI) (m : Int) (i : Int) : Option Int := (inf H).loop 219 0 (Jc5 Tryz.f219 0) (x, (m, i))
noncomputable def Fq (v : DSight) : Option Int := (inf H).call 143 v
noncomputable def F1t (v : DSight) (class_ : Int) : Option DLI := (inf H).call 304 (v, class_)
theorem F1tK : H.key 304 = some F1tH := by kernel_rfl
noncomputable def F6z (class_ : Int) (out : DLI) (t10 : DLI) (t11 : Int) (t12 : Int) : Option DLI := (inf H).loop 304 0 (Jc5 Tryz.f304 0) (class_, (out, (t10, (t11, t12))))
noncomputable def Fo (p : DProgram) (t : DLN) (s : DLI) : Option Bool := (inf H).call 105 (p, (t, s))
noncomputable def F52 (s : DLI) : Option DLI := (inf H).call 337 s
noncomputable def F2q (p : DProgram) (c : DCommand) (s : DLI) : Option DLI := (inf H).call 290 (p, (c, s))
theorem F2qK : H.key 290 = some F2qH := by kernel_rfl
noncomputable def Fa9 (s : DLI) (p : DProgram) (out : DLI) (t13 : Bool × List DChange) (t14 : Int) (t15 : Int) : Option DLI := (inf H).loop 290 0 (Jc5 Tryz.f290 0) (s, (p, (out, (t13, (t14, t15)))))
noncomputable def F3p (p : DProgram) (s : DLI) : Option Int := (inf H).call 289 (p, s)
theorem F3pK : H.key 289 = some F3pH := by kernel_rfl
noncomputable def Fa7 (p : DProgram) (no : Int) (t8 : DLI) (t9 : Int) (t10 : Int) : Option Int := (inf H).loop 289 0 (Jc5 Tryz.f289 0) (p, (no, (t8, (t9, t10))))
noncomputable def F5p (s : DLI) : Option DLI := (inf H).call 282 s
noncomputable def F78 (s : DLI) : Option DLI := (inf H).call 283 s
noncomputable def F1k (p : DProgram) (no : Int) : Option DLI := (inf H).call 222 (p, no)
theorem F1kK : H.key 222 = some F1kH := by kernel_rfl
noncomputable def F5y (no : Int) (p : DProgram) (s : DLI) (out : DLI) (t14 : Bool × List DCommand) (t15 : Int) (t16 : Int) : Option DLI := (inf H).loop 222 0 (Jc5 Tryz.f222 0) (no, (p, (s, (out, (t14, (t15, t16))))))
noncomputable def F1y (list : DLB) : Option DLI := (inf H).call 220 list
theorem F1yK : H.key 220 = some F1yH := by kernel_rfl
noncomputable def F5j (out : DLI) (t7 : DLB) (t8 : Int) (t9 : Int) : Option DLI := (inf H).loop 220 0 (Jc5 Tryz.f220 0) (out, (t7, (t8, t9)))
noncomputable def F1m (v : DSight) (some_ : DLI) : Option DLI := (inf H).call 171 (v, some_)
theorem F1mK : H.key 171 = some F1mH := by kernel_rfl
noncomputable def F9q (v : DSight) (in_ : DLB) (t11 : DLI) (t12 : Int) (t13 : Int) : Option DLB := (inf H).loop 171 0 (Jc5 Tryz.f171 0) (v, (in_, (t11, (t12, t13))))
noncomputable def F3o (p : DProgram) (v : DSight) (class_ : Int) : Option DLI := (inf H).call 239 (p, (v, class_))
theorem F3oK : H.key 239 = some F3oH := by kernel_rfl
noncomputable def F9j (p : DProgram) (v : DSight) (next : DLI) (t13 : DLI) (t14 : Int) (t15 : Int) : Option DLI := (inf H).loop 239 0 (Jc5 Tryz.f239 0) (p, (v, (next, (t13, (t14, t15)))))
noncomputable def F2i (p : DProgram) (v : DSight) : Option DRI := (inf H).call 170 (p, v)
theorem F2iK : H.key 170 = some F2iH := by kernel_rfl
noncomputable def F9m (p : DProgram) (v : DSight) (out : DRI) (t9 : Int) (t10 : Int) : Option DRI := (inf H).loop 170 0 (Jc5 Tryz.f170 0) (p, (v, (out, (t9, t10))))
noncomputable def F1g (p : DProgram) (t : DLN) : Option DLI := (inf H).call 172 (p, t)
theorem F1gK : H.key 172 = some F1gH := by kernel_rfl
noncomputable def F68 (t : DLN) (p : DProgram) (out : DLI) (t9 : Int) (t10 : Int) : Option DLI := (inf H).loop 172 0 (Jc5 Tryz.f172 0) (t, (p, (out, (t9, t10))))
noncomputable def F13 (g : DRI) : Option DRI := (inf H).call 295 g
theorem F13K : H.key 295 = some F13H := by kernel_rfl
noncomputable def F90 (out : DRI) (t11 : DRI) (t12 : Int) (t13 : Int) : Option DRI := (inf H).loop 295 0 (Jc5 Tryz.f295 0) (out, (t11, (t12, t13)))
noncomputable def F88 (out : DRI) (v : Int) (t11 : DRI) (t12 : Int) (t13 : Int) (t18 : DLI) (t19 : Int) (t20 : Int) : Option DRI := (inf H).loop 295 2 (Jc5 Tryz.f295 2) (out, (v, (t11, (t12, (t13, (t18, (t19, t20)))))))
noncomputable def F59 (x : Int) (y : Int) : Option (Int × Int) := (inf H).call 322 (x, y)
noncomputable def F43 (x : Int) (y : Int) : Option (Int × Int) := (inf H).call 259 (x, y)
noncomputable def F3n (x : DLI) (count : Int) : Option DLI := (inf H).call 193 (x, count)
theorem F3nK : H.key 193 = some F3nH := by kernel_rfl
noncomputable def F9o (newslice : DLI) (n : Int) : Option DLI := (inf H).loop 193 0 (Jc5 Tryz.f193 0) (newslice, n)
noncomputable def F4k (s : DLI) : Option DLI := (inf H).call 158 s
noncomputable def Fj (g : DRI) (some_ : DLI) : Option DLI := (inf H).call 238 (g, some_)
theorem FjK : H.key 238 = some FjH := by kernel_rfl
noncomputable def F93 (g : DRI) (steps : DLI) (open_ : DLI) (t17 : DLI) (t18 : Int) (t19 : Int) : Option DLI := (inf H).loop 238 0 (Jc5 Tryz.f238 0) (g, (steps, (open_, (t17, (t18, t19)))))
noncomputable def F8e (g : DRI) (steps : DLI) (open_ : DLI) : Option DLI := (inf H).loop 238 2 (Jc5 Tryz.f238 2) (g, (steps, open_))
noncomputable def F6u (g : DRI) (steps : DLI) (open_ : DLI) (t37 : DLI) (t38 : Int) (t39 : Int) : Option DLasso := (inf H).loop 238 4 (Jc5 Tryz.f238 4) (g, (steps, (open_, (t37, (t38, t39)))))
noncomputable def F5e (w : Int) (a1 : DLI) (a2 : Int) : Option Bool := (inf H).call 296 (w, (a1, a2))
noncomputable def F36 (s : DLI) (f : DLI × Int × Unit) : Option Int := (inf H).call 10152 (s, f)
theorem F36K : H.key 10152 = some F36H := by kernel_rfl
noncomputable def F7f (s : DLI) (f : DLI × Int × Unit) (t7 : Int) (t8 : Int) : Option (Int ⊕ Unit) := (inf H).loop 10152 0 (Jc5 Tryz.f152 0) (s, (f, (t7, t8)))
noncomputable def Ff (g : DRI) (from_ : DLI) (to : DLI) : Option DLI := (inf H).call 232 (g, (from_, to))
theorem FfK : H.key 232 = some FfH := by kernel_rfl
noncomputable def F4l (g : DRI) (steps : DLI) (best : Int) (t18 : DLI) (t19 : Int) (t20 : Int) : Option Int := (inf H).loop 232 0 (Jc5 Tryz.f232 0) (g, (steps, (best, (t18, (t19, t20)))))
noncomputable def F9z (g : DRI) (steps : DLI) (way : DLI) (v : Int) : Option DLI := (inf H).loop 232 2 (Jc5 Tryz.f232 2) (g, (steps, (way, v)))
noncomputable def F56 (p : DProgram) (v : DSight) (bad : DLN) : Option DLI := (inf H).call 166 (p, (v, bad))
noncomputable def F2k (p : DProgram) : Option DRI := (inf H).call 147 p
theorem F2kK : H.key 147 = some F2kH := by kernel_rfl
noncomputable def F8p (p : DProgram) (out : DRI) (t7 : Int) (t8 : Int) : Option DRI := (inf H).loop 147 0 (Jc5 Tryz.f147 0) (p, (out, (t7, t8)))
noncomputable def F4n (no : Int) (a1 : DSight) (a2 : Int) : Option Bool := (inf H).call 221 (no, (a1, a2))
noncomputable def F2p (s : DLI) (f : DSight × Int × Unit) : Option Int := (inf H).call 10158 (s, f)
theorem F2pK : H.key 10158 = some F2pH := by kernel_rfl
noncomputable def F99 (s : DLI) (f : DSight × Int × Unit) (t7 : Int) (t8 : Int) : Option (Int ⊕ Unit) := (inf H).loop 10158 0 (Jc5 Tryz.f152 0) (s, (f, (t7, t8)))
noncomputable def F1u (s : DLI) (del : DSight × Int × Unit) : Option DLI := (inf H).call 149 (s, del)
theorem F1uK : H.key 149 = some F1uH := by kernel_rfl
noncomputable def F6e (s : DLI) (del : DSight × Int × Unit) (i : Int) (j : Int) : Option (DLI × Int) := (inf H).loop 149 0 (Jc5 Tryz.f149 0) (s, (del, (i, j)))
noncomputable def F8 (p : DProgram) (v : DSight) (path : DLI) : Option DRI := (inf H).call 146 (p, (v, path))
theorem F8K : H.key 146 = some F8H := by kernel_rfl
noncomputable def F4z (p : DProgram) (v : DSight) (out : DRI) (next : DRI) (now : DLI) (t24 : DLI) (t25 : Int) (t26 : Int) : Option DRI := (inf H).loop 146 0 (Jc5 Tryz.f146 0) (p, (v, (out, (next, (now, (t24, (t25, t26)))))))
noncomputable def Fa8 (p : DProgram) (v : DSight) (out : DRI) (next : DRI) (class_ : Int) (in_ : DLB) (t24 : DLI) (t25 : Int) (t26 : Int) (t36 : DLI) (t37 : Int) (t38 : Int) : Option DLB := (inf H).loop 146 2 (Jc5 Tryz.f146 2) (p, (v, (out, (next, (class_, (in_, (t24, (t25, (t26, (t36, (t37, t38)))))))))))
noncomputable def F7x (p : DProgram) (v : DSight) (out : DRI) (next : DRI) (class_ : Int) (in_ : DLB) (t24 : DLI) (t25 : Int) (t26 : Int) (t36 : DLI) (t37 : Int) (t38 : Int) (t45 : DLI) (t46 : Int) (t47 : Int) : Option DLB := (inf H).loop 146 4 (Jc5 Tryz.f146 4) (p, (v, (out, (next, (class_, (in_, (t24, (t25, (t26, (t36, (t37, (t38, (t45, (t46, t47))))))))))))))
noncomputable def F5q (list : DLI) : Option Bool := (inf H).call 224 list
noncomputable def F3r (s : DRI) (f : Unit) : Option Int := (inf H).call 223 (s, f)
theorem F3rK : H.key 223 = some F3rH := by kernel_rfl
noncomputable def F96 (s : DRI) (f : Unit) (t7 : Int) (t8 : Int) : Option (Int ⊕ Unit) := (inf H).loop 223 0 (Jc5 Tryz.f223 0) (s, (f, (t7, t8)))
noncomputable def F2z (along : DRI) : Option Int := (inf H).call 148 along
noncomputable def F35 (s : DLI) (v : Int) : Option Int := (inf H).call 173 (s, v)
theorem F35K : H.key 173 = some F35H := by kernel_rfl
noncomputable def F8n (s : DLI) (v : Int) (t7 : Int) (t8 : Int) : Option (Int ⊕ Unit) := (inf H).loop 173 0 (Jc5 Tryz.f173 0) (s, (v, (t7, t8)))
noncomputable def F4a (s : DLI) (v : Int) : Option Bool := (inf H).call 96 (s, v)
noncomputable def F42 (to : Int) (a1 : DRI) (a2 : Int) : Option Bool := (inf H).call 151 (to, (a1, a2))
noncomputable def Fh (s : DLI) (f : DRI × Int × Unit) : Option Int := (inf H).call 10167 (s, f)
theorem FhK : H.key 10167 = some FhH := by kernel_rfl
noncomputable def F97 (s : DLI) (f : DRI × Int × Unit) (t7 : Int) (t8 : Int) : Option (Int ⊕ Unit) := (inf H).loop 10167 0 (Jc5 Tryz.f152 0) (s, (f, (t7, t8)))
noncomputable def F45 (s : DLI) (f : DRI × Int × Unit) : Option Bool := (inf H).call 10166 (s, f)
noncomputable def Fl (no : Int) (a1 : DRI) (a2 : DRI) (a3 : Int) : Option Bool := (inf H).call 150 (no, (a1, (a2, a3)))
noncomputable def F1 (s : DLI) (f : DRI × DRI × Int × Unit) : Option Int := (inf H).call 10164 (s, f)
theorem F1K : H.key 10164 = some F1H := by kernel_rfl
noncomputable def Fa3 (s : DLI) (f : DRI × DRI × Int × Unit) (t7 : Int) (t8 : Int) : Option (Int ⊕ Unit) := (inf H).loop 10164 0 (Jc5 Tryz.f152 0) (s, (f, (t7, t8)))
noncomputable def Fe (s : DLI) (del : DRI × DRI × Int × Unit) : Option DLI := (inf H).call 10163 (s, del)
theorem FeK : H.key 10163 = some FeH := by kernel_rfl
noncomputable def F5o (s : DLI) (del : DRI × DRI × Int × Unit) (i : Int) (j : Int) : Option (DLI × Int) := (inf H).loop 10163 0 (Jc5 Tryz.f149 0) (s, (del, (i, j)))
noncomputable def F64 (to : Int) (a1 : Bool × List (Option DLI)) (a2 : Int) : Option Bool := (inf H).call 10176 (to, (a1, a2))
noncomputable def F3f (s : DLI) (f : (Bool × List (Option DLI)) × Int × Unit) : Option Int := (inf H).call 10175 (s, f)
theorem F3fK : H.key 10175 = some F3fH := by kernel_rfl
noncomputable def F7v (s : DLI) (f : (Bool × List (Option DLI)) × Int × Unit) (t7 : Int) (t8 : Int) : Option (Int ⊕ Unit) := (inf H).loop 10175 0 (Jc5 Tryz.f152 0) (s, (f, (t7, t8)))
noncomputable def F6w (s : DLI) (f : (Bool × List (Option DLI)) × Int × Unit) : Option Bool := (inf H).call 10174 (s, f)
noncomputable def F4t (no : Int) (a1 : DRI) (a2 : Bool × List (Option DLI)) (a3 : Int) : Option Bool := (inf H).call 10173 (no, (a1, (a2, a3)))
noncomputable def F3g (s : DLI) (f : DRI × (Bool × List (Option DLI)) × Int × Unit) : Option Int := (inf H).call 10172 (s, f)
theorem F3gK : H.key 10172 = some F3gH := by kernel_rfl
noncomputable def Fa5 (s : DLI) (f : DRI × (Bool × List (Option DLI)) × Int × Unit) (t7 : Int) (t8 : Int) : Option (Int ⊕ Unit) := (inf H).loop 10172 0 (Jc5 Tryz.f152 0) (s, (f, (t7, t8)))
noncomputable def F2c (s : DLI) (del : DRI × (Bool × List (Option DLI)) × Int × Unit) : Option DLI := (inf H).call 10171 (s, del)
theorem F2cK : H.key 10171 = some F2cH := by kernel_rfl
noncomputable def F7e (s : DLI) (del : DRI × (Bool × List (Option DLI)) × Int × Unit) (i : Int) (j : Int) : Option (DLI × Int) := (inf H).loop 10171 0 (Jc5 Tryz.f149 0) (s, (del, (i, j)))
noncomputable def F6o (to : Int) (a1 : DRI) (a2 : DLI) (a3 : Int) : Option Bool := (inf H).call 153 (to, (a1, (a2, a3)))
noncomputable def F2s (s : DLI) (f : DRI × DLI × Int × Unit) : Option Int := (inf H).call 10177 (s, f)
theorem F2sK : H.key 10177 = some F2sH := by kernel_rfl
noncomputable def F7q (s : DLI) (f : DRI × DLI × Int × Unit) (t7 : Int) (t8 : Int) : Option (Int ⊕ Unit) := (inf H).loop 10177 0 (Jc5 Tryz.f152 0) (s, (f, (t7, t8)))
noncomputable def F2 (p : DProgram) (v : DSight) (path : DLI) : Option DLI := (inf H).call 77 (p, (v, path))
theorem F2K : H.key 77 = some F2H := by kernel_rfl
noncomputable def F8a (along : DRI) (next : DRI) (last : Int) (k_ : Int) : Option DRI := (inf H).loop 77 0 (Jc5 Tryz.f77 0) (along, (next, (last, k_)))
noncomputable def F7y (along : DRI) (next : DRI) (last : Int) (out : DLI) (k_ : Int) : Option DLI := (inf H).loop 77 2 (Jc5 Tryz.f77 2) (along, (next, (last, (out, k_))))
noncomputable def F5m (p : DProgram) (v : DSight) (path : DLI) : Option (DLI × Bool) := (inf H).call 233 (p, (v, path))
noncomputable def F37 (s1 : DLN) (s2 : DLN) : Option Bool := (inf H).call 299 (s1, s2)
theorem F37K : H.key 299 = some F37H := by kernel_rfl
noncomputable def F8m (s1 : DLN) (s2 : DLN) (t12 : Int) (t13 : Int) : Option (Bool ⊕ Unit) := (inf H).loop 299 0 (Jc5 Tryz.f299 0) (s1, (s2, (t12, t13)))
noncomputable def F76 (own : DLN) (a1 : DLN) : Option Bool := (inf H).call 298 (own, a1)
noncomputable def F2l (s : DRN) (f : DLN × Unit) : Option Int := (inf H).call 10184 (s, f)
theorem F2lK : H.key 10184 = some F2lH := by kernel_rfl
noncomputable def F9f (s : DRN) (f : DLN × Unit) (t7 : Int) (t8 : Int) : Option (Int ⊕ Unit) := (inf H).loop 10184 0 (Jc5 Tryz.f207 0) (s, (f, (t7, t8)))
noncomputable def F5d (s : DRN) (f : DLN × Unit) : Option Bool := (inf H).call 10183 (s, f)
noncomputable def F5r (s : DLN) : Option DLN := (inf H).call 300 s
noncomputable def F3x (t : DLN) (a1 : DRN) : Option DRN := (inf H).call 297 (t, a1)
noncomputable def F7a (own : DLN) (a1 : Int) (a2 : Int) : Option Bool := (inf H).call 365 (own, (a1, a2))
noncomputable def F3l (s : DRN) (f : Int × Int × Unit) : Option Int := (inf H).call 10191 (s, f)
theorem F3lK : H.key 10191 = some F3lH := by kernel_rfl
noncomputable def F94 (s : DRN) (f : Int × Int × Unit) (t7 : Int) (t8 : Int) : Option (Int ⊕ Unit) := (inf H).loop 10191 0 (Jc5 Tryz.f207 0) (s, (f, (t7, t8)))
noncomputable def F6l (s : DRN) (f : Int × Int × Unit) : Option Bool := (inf H).call 10190 (s, f)
noncomputable def F6n (wide : Int) (vars : Int) (t : DLN) : Option (DLN × Bool) := (inf H).call 366 (wide, (vars, t))
noncomputable def Fy (wide : Int) (vars : Int) (t : DLN) (by_ : DRN) : Option (DLN × Bool) := (inf H).call 340 (wide, (vars, (t, by_)))
theorem FyK : H.key 340 = some FyH := by kernel_rfl
noncomputable def F5v (by_ : DRN) (wide : Int) (vars : Int) (out : DLN) (t30 : DLN) (t31 : Int) (t32 : Int) : Option DLN := (inf H).loop 340 0 (Jc5 Tryz.f340 0) (by_, (wide, (vars, (out, (t30, (t31, t32))))))
noncomputable def F18 (p : DProgram) (k_ : Int) (t : DLN) : Option (DLN × Bool) := (inf H).call 301 (p, (k_, t))
theorem F18K : H.key 301 = some F18H := by kernel_rfl
noncomputable def F87 (k_ : Int) (t : DLN) (p : DProgram) (by_ : DRN) (t14 : Int) (t15 : Int) : Option DRN := (inf H).loop 301 0 (Jc5 Tryz.f301 0) (k_, (t, (p, (by_, (t14, t15)))))
noncomputable def F9u (t : DLN) (p : DProgram) (by_ : DRN) (t31 : Bool × List DChange) (t32 : Int) (t33 : Int) : Option DRN := (inf H).loop 301 2 (Jc5 Tryz.f301 2) (t, (p, (by_, (t31, (t32, t33)))))
noncomputable def F5 (p : DProgram) (preds : DRN) : Option DRN := (inf H).call 234 (p, preds)
theorem F5K : H.key 234 = some F5H := by kernel_rfl
noncomputable def F7l (preds : DRN) (p : DProgram) (out : DRN) (t17 : Bool × List DCommand) (t18 : Int) (t19 : Int) : Option DRN := (inf H).loop 234 0 (Jc5 Tryz.f234 0) (preds, (p, (out, (t17, (t18, t19)))))
noncomputable def F8q (p : DProgram) (out : DRN) (t28 : DRN) (t29 : Int) (t30 : Int) : Option DRN := (inf H).loop 234 2 (Jc5 Tryz.f234 2) (p, (out, (t28, (t29, t30))))
noncomputable def F79 (p : DProgram) (out : DRN) (t : DLN) (t28 : DRN) (t29 : Int) (t30 : Int) (t36 : Int) (t37 : Int) : Option DRN := (inf H).loop 234 4 (Jc5 Tryz.f234 4) (p, (out, (t, (t28, (t29, (t30, (t36, t37)))))))
noncomputable def F69 (next : Int) (a1 : DSight) (a2 : Int) : Option Bool := (inf H).call 306 (next, (a1, a2))
noncomputable def F2v (s : DLI) (f : DSight × Int × Unit) : Option Int := (inf H).call 10199 (s, f)
theorem F2vK : H.key 10199 = some F2vH := by kernel_rfl
noncomputable def Fag (s : DLI) (f : DSight × Int × Unit) (t7 : Int) (t8 : Int) : Option (Int ⊕ Unit) := (inf H).loop 10199 0 (Jc5 Tryz.f152 0) (s, (f, (t7, t8)))
noncomputable def F6y (s : DLI) (f : DSight × Int × Unit) : Option Bool := (inf H).call 10198 (s, f)
noncomputable def F3w (no : Int) (a1 : DProgram) (a2 : DSight) (a3 : Int) : Option Bool := (inf H).call 305 (no, (a1, (a2, a3)))
noncomputable def Fi (s : DLI) (f : DProgram × DSight × Int × Unit) : Option Int := (inf H).call 10196 (s, f)
theorem FiK : H.key 10196 = some FiH := by kernel_rfl
noncomputable def Fa1 (s : DLI) (f : DProgram × DSight × Int × Unit) (t7 : Int) (t8 : Int) : Option (Int ⊕ Unit) := (inf H).loop 10196 0 (Jc5 Tryz.f152 0) (s, (f, (t7, t8)))
noncomputable def F25 (s : DLI) (del : DProgram × DSight × Int × Unit) : Option DLI := (inf H).call 10195 (s, del)
theorem F25K : H.key 10195 = some F25H := by kernel_rfl
noncomputable def F6v (s : DLI) (del : DProgram × DSight × Int × Unit) (i : Int) (j : Int) : Option (DLI × Int) := (inf H).loop 10195 0 (Jc5 Tryz.f149 0) (s, (del, (i, j)))
noncomputable def F1e (p : DProgram) (v : DSight) (class_ : Int) (to : Int) : Option DLI := (inf H).call 236 (p, (v, (class_, to)))
noncomputable def F46 (n : Int) : Option DLN := (inf H).call 367 n
noncomputable def F4 (slices : DRN) : Option DLN := (inf H).call 341 slices
theorem F4K : H.key 341 = some F4H := by kernel_rfl
noncomputable def F8o (slices : DRN) (size_ : Int) (t9 : DRN) (t10 : Int) (t11 : Int) : Option Int := (inf H).loop 341 0 (Jc5 Tryz.f341 0) (slices, (size_, (t9, (t10, t11))))
noncomputable def F8u (newslice : DLN) (t25 : DRN) (t26 : Int) (t27 : Int) : Option DLN := (inf H).loop 341 2 (Jc5 Tryz.f341 2) (newslice, (t25, (t26, t27)))
noncomputable def F54 (no : Int) (a1 : DProgram) (a2 : DLN) : Option Bool := (inf H).call 368 (no, (a1, a2))
noncomputable def F3a (s : DLI) (f : DProgram × DLN × Unit) : Option Int := (inf H).call 10209 (s, f)
theorem F3aK : H.key 10209 = some F3aH := by kernel_rfl
noncomputable def F7r (s : DLI) (f : DProgram × DLN × Unit) (t7 : Int) (t8 : Int) : Option (Int ⊕ Unit) := (inf H).loop 10209 0 (Jc5 Tryz.f152 0) (s, (f, (t7, t8)))
noncomputable def F51 (s : DLI) (f : DProgram × DLN × Unit) : Option Bool := (inf H).call 10208 (s, f)
noncomputable def F1l (p : DProgram) (t : DLN) (some_ : DLI) : Option Bool := (inf H).call 342 (p, (t, some_))
noncomputable def F6g (p : DProgram) (t : DLN) (a : DLI) (b : DLI) : Option Bool := (inf H).call 303 (p, (t, (a, b)))
noncomputable def F72 (t : DLN) (a1 : DProgram) (a2 : DLI) (a3 : DLI) : Option Bool := (inf H).call 302 (t, (a1, (a2, a3)))
noncomputable def F38 (s : DRN) (f : DProgram × DLI × DLI × Unit) : Option Int := (inf H).call 10202 (s, f)
theorem F38K : H.key 10202 = some F38H := by kernel_rfl
noncomputable def F92 (s : DRN) (f : DProgram × DLI × DLI × Unit) (t7 : Int) (t8 : Int) : Option (Int ⊕ Unit) := (inf H).loop 10202 0 (Jc5 Tryz.f207 0) (s, (f, (t7, t8)))
noncomputable def F44 (p : DProgram) (terms : DRN) (a : DLI) (b : DLI) : Option Int := (inf H).call 235 (p, (terms, (a, b)))
noncomputable def F3b (v : DSight) (some_ : DLI) : Option DLI := (inf H).call 237 (v, some_)
theorem F3bK : H.key 237 = some F3bH := by kernel_rfl
noncomputable def F7n (v : DSight) (t4 : DSight) (in_ : DLI) (t13 : DLI) (t14 : Int) (t15 : Int) : Option DLI := (inf H).loop 237 0 (Jc5 Tryz.f237 0) (v, (t4, (in_, (t13, (t14, t15)))))
noncomputable def F6s (p : DProgram) (v : DSight) (preds : DRN) (path : DLI) : Option (DLI × Int × Bool) := (inf H).call 167 (p, (v, (preds, path)))
noncomputable def F3i (p : DProgram) (preds : DRN) (bad : DLN) (budget : Int) : Option (Int × DLI × Int × DLI) := (inf H).call 91 (p, (preds, (bad, budget)))
theorem F3iK : H.key 91 = some F3iH := by kernel_rfl
noncomputable def Fab (preds : DRN) (bad : DLN) (budget : Int) (p : DProgram) (t8 : DFinding) (out_0 : Int) (out_1 : DLI) (out_2 : Int) (out_3 : DLI) : Option (Int × DLI × Int × DLI) := (inf H).loop 91 0 (Jc5 Tryz.f91 0) (preds, (bad, (budget, (p, (t8, (out_0, (out_1, (out_2, out_3))))))))
noncomputable def F2g (g : DRI) (some_ : DLI) : Option DLI := (inf H).call 169 (g, some_)
theorem F2gK : H.key 169 = some F2gH := by kernel_rfl
noncomputable def F5w (out : DLI) (t11 : DLI) (t12 : Int) (t13 : Int) : Option DLI := (inf H).loop 169 0 (Jc5 Tryz.f169 0) (out, (t11, (t12, t13)))
noncomputable def F6c (p : DProgram) (v : DSight) : Option DLI := (inf H).call 95 (p, v)
noncomputable def F1x (p : DProgram) (preds : DRN) (bad : DLN) (budget : Int) : Option (DLI × Bool) := (inf H).call 48 (p, (preds, (bad, budget)))
theorem F1xK : H.key 48 = some F1xH := by kernel_rfl
noncomputable def F70 (out : DLI) (classes : DLI) (t36 : DLI) (t37 : Int) (t38 : Int) : Option DLI := (inf H).loop 48 0 (Jc5 Tryz.f48 0) (out, (classes, (t36, (t37, t38))))
noncomputable def F1s (a : DLI) (b : DLI) : Option Bool := (inf H).call 31 (a, b)
theorem F1sK : H.key 31 = some F1sH := by kernel_rfl
noncomputable def F8i (a : DLI) (b : DLI) (i : Int) : Option (Bool ⊕ Unit) := (inf H).loop 31 0 (Jc5 Tryz.f31 0) (a, (b, i))
noncomputable def F7 (a : DNode) (b : DNode) : Option Bool := (inf H).call 92 (a, b)
noncomputable def Fb (a : DLN) (b : DLN) : Option Bool := (inf H).call 43 (a, b)
theorem FbK : H.key 43 = some FbH := by kernel_rfl
noncomputable def F9h (a : DLN) (b : DLN) (i : Int) : Option (Bool ⊕ Unit) := (inf H).loop 43 0 (Jc5 Tryz.f43 0) (a, (b, i))
noncomputable def F11 (a : DChange) (b : DChange) : Option Bool := (inf H).call 291 (a, b)
noncomputable def F34 (a : Bool × List DChange) (b : Bool × List DChange) : Option Bool := (inf H).call 225 (a, b)
theorem F34K : H.key 225 = some F34H := by kernel_rfl
noncomputable def F7p (a : Bool × List DChange) (b : Bool × List DChange) (i : Int) : Option (Bool ⊕ Unit) := (inf H).loop 225 0 (Jc5 Tryz.f225 0) (a, (b, i))
noncomputable def F16 (a : DCommand) (b : DCommand) : Option Bool := (inf H).call 154 (a, b)
noncomputable def F3s (a : Bool × List DCommand) (b : Bool × List DCommand) : Option Bool := (inf H).call 78 (a, b)
theorem F3sK : H.key 78 = some F3sH := by kernel_rfl
noncomputable def F7u (a : Bool × List DCommand) (b : Bool × List DCommand) (i : Int) : Option (Bool ⊕ Unit) := (inf H).loop 78 0 (Jc5 Tryz.f78 0) (a, (b, i))
noncomputable def F5h (a : DProgram) (b : DProgram) : Option Bool := (inf H).call 32 (a, b)
noncomputable def F3h (a : DRN) (b : DRN) : Option Bool := (inf H).call 19 (a, b)
theorem F3hK : H.key 19 = some F3hH := by kernel_rfl
noncomputable def F9b (a : DRN) (b : DRN) (i : Int) : Option (Bool ⊕ Unit) := (inf H).loop 19 0 (Jc5 Tryz.f19 0) (a, (b, i))
noncomputable def Fc (a : DLN) (k_ : Int) : Option (DLN × Int) := (inf H).call 44 (a, k_)
theorem FcK : H.key 44 = some FcH := by kernel_rfl
noncomputable def F8k (a : DLN) (k_ : Int) (i : Int) : Option (DLN × Int) := (inf H).loop 44 0 (Jc5 Tryz.f44 0) (a, (k_, i))
noncomputable def F31 (a : Bool × List DChange) (k_ : Int) : Option ((Bool × List DChange) × Int) := (inf H).call 155 (a, k_)
theorem F31K : H.key 155 = some F31H := by kernel_rfl
noncomputable def F8y (a : Bool × List DChange) (k_ : Int) (i : Int) : Option ((Bool × List DChange) × Int) := (inf H).loop 155 0 (Jc5 Tryz.f155 0) (a, (k_, i))
noncomputable def F2n (a : Bool × List DCommand) (k_ : Int) : Option ((Bool × List DCommand) × Int) := (inf H).call 79 (a, k_)
theorem F2nK : H.key 79 = some F2nH := by kernel_rfl
noncomputable def F7i (a : Bool × List DCommand) (k_ : Int) (i : Int) : Option ((Bool × List DCommand) × Int) := (inf H).loop 79 0 (Jc5 Tryz.f79 0) (a, (k_, i))
noncomputable def F73 (a0_0 : Int) (a0_1 : Int) (a0_2 : DLN) (a0_3 : Bool × List DCommand) (k_ : Int) : Option (DLN × (Bool × List DCommand) × Int) := (inf H).call 33 (a0_0, (a0_1, (a0_2, (a0_3, k_))))
noncomputable def F33 (a : DRN) (k_ : Int) : Option (DRN × Int) := (inf H).call 21 (a, k_)
theorem F33K : H.key 21 = some F33H := by kernel_rfl
noncomputable def F9x (a : DRN) (k_ : Int) (i : Int) : Option (DRN × Int) := (inf H).loop 21 0 (Jc5 Tryz.f21 0) (a, (k_, i))
noncomputable def F3t (a : DLI) (k_ : Int) : Option (DLI × Int) := (inf H).call 34 (a, k_)
theorem F3tK : H.key 34 = some F3tH := by kernel_rfl
noncomputable def F9s (a : DLI) (k_ : Int) (i : Int) : Option (DLI × Int) := (inf H).loop 34 0 (Jc5 Tryz.f34 0) (a, (k_, i))
noncomputable def F2d (a : DLI) (k_ : Int) : Option Int := (inf H).call 35 (a, k_)
theorem F2dK : H.key 35 = some F2dH := by kernel_rfl
noncomputable def F83 (a : DLI) (k_ : Int) (i : Int) : Option (Int ⊕ Int) := (inf H).loop 35 0 (Jc5 Tryz.f35 0) (a, (k_, i))
noncomputable def F9a (aP : DProgram) (aPreds : DRN) (aBad : DLN) (aBudget : Int) : Option Bool := (inf H).call 7 (aP, (aPreds, (aBad, aBudget)))
theorem tC {k : Nat} {x : Den (tyOf (aTys H k))} {y} (h : J64 H (inf H) k x = y := by kernel_rfl) : (inf H).call k x = y := (J6c k x).trans h
theorem tL {k n : Nat} {c : Code} {x : Den (tyOf (hTys (Jc H k n)))} {f : FnH} {y} (hf : H.key k = some f) (h : J2p H k f (inf H) n c x = y := by kernel_rfl) : (inf H).loop k n c x = y := (J6d k n c x hf).trans h
theorem FpE (a left_) : Fp a left_ =
 bif decide ((IntKind.i64.wrap (left_ - (a.2.length : Int))) < 0) then
 some (-1)
else 
 some (IntKind.i64.wrap (left_ - (a.2.length : Int))) := tC
theorem F14E (a left_) : F14 a left_ =
(Fp a.2 left_).bind fun r =>
 bif decide (r < 0) then
 some (-1)
else 
 some r := tC
theorem FaaE (a left_ i) : Faa a left_ i =
 bif decide (i < (a.2.length : Int)) then
 bif decide (0 ≤ i) then
 bif decide (i < (a.2.length : Int)) then
(F14 (a.2.getD (Int.toNat i) (0, (true, []))) left_).bind fun r =>
 bif decide (r < 0) then
 some (.inl (-1))
else 
(Faa a r (IntKind.i64.wrap (i + 1))).bind fun r => some r
else none
else none
else 
 some (.inr left_) := tL F2xK
theorem F2xE (a left_) : F2x a left_ =
 bif decide ((IntKind.i64.wrap (left_ - (a.2.length : Int))) < 0) then
 some (-1)
else 
(Faa a (IntKind.i64.wrap (left_ - (a.2.length : Int))) 0).bind fun r =>
 match r with
| .inl y =>
 some y
| .inr z =>
 some z := tC
theorem F1aE (a left_) : F1a a left_ =
(Fp a.1 left_).bind fun r =>
 bif decide (r < 0) then
 some (-1)
else 
(F2x a.2 r).bind fun r1 =>
 bif decide (r1 < 0) then
 some (-1)
else 
 some r1 := tC
theorem F8vE (a left_ i) : F8v a left_ i =
 bif decide (i < (a.2.length : Int)) then
 bif decide (0 ≤ i) then
 bif decide (i < (a.2.length : Int)) then
(F1a (a.2.getD (Int.toNat i) ((true, []), (true, []))) left_).bind fun r =>
 bif decide (r < 0) then
 some (.inl (-1))
else 
(F8v a r (IntKind.i64.wrap (i + 1))).bind fun r => some r
else none
else none
else 
 some (.inr left_) := tL F3eK
theorem F3eE (a left_) : F3e a left_ =
 bif decide ((IntKind.i64.wrap (left_ - (a.2.length : Int))) < 0) then
 some (-1)
else 
(F8v a (IntKind.i64.wrap (left_ - (a.2.length : Int))) 0).bind fun r =>
 match r with
| .inl y =>
 some y
| .inr z =>
 some z := tC
theorem F6pE (a left_) : F6p a left_ =
(Fp a.2.2.1 left_).bind fun r =>
 bif decide (r < 0) then
 some (-1)
else 
(F3e a.2.2.2 r).bind fun r1 =>
 bif decide (r1 < 0) then
 some (-1)
else 
 some r1 := tC
theorem F8gE (a left_ i) : F8g a left_ i =
 bif decide (i < (a.2.length : Int)) then
 bif decide (0 ≤ i) then
 bif decide (i < (a.2.length : Int)) then
(Fp (a.2.getD (Int.toNat i) (true, [])) left_).bind fun r =>
 bif decide (r < 0) then
 some (.inl (-1))
else 
(F8g a r (IntKind.i64.wrap (i + 1))).bind fun r => some r
else none
else none
else 
 some (.inr left_) := tL F30K
theorem F30E (a left_) : F30 a left_ =
 bif decide ((IntKind.i64.wrap (left_ - (a.2.length : Int))) < 0) then
 some (-1)
else 
(F8g a (IntKind.i64.wrap (left_ - (a.2.length : Int))) 0).bind fun r =>
 match r with
| .inl y =>
 some y
| .inr z =>
 some z := tC
theorem F3E (a) : F3 a =
 some (a.1, a.2) := tC
theorem F81E (a out i) : F81 a out i =
 bif decide (i < (a.2.length : Int)) then
 bif decide (0 ≤ i) then
 bif decide (i < (a.2.length : Int)) then
(F3 (a.2.getD (Int.toNat i) (0, 0))).bind fun r =>
 bif decide (0 ≤ i) then
 bif decide (i < (out.2.length : Int)) then
(F81 a (out.1, (out.2.set (Int.toNat i) r)) (IntKind.i64.wrap (i + 1))).bind fun r => some r
else none
else none
else none
else none
else 
 some (out.1, out.2) := tL F6K
theorem F6E (a) : F6 a =
 bif decide (0 ≤ (a.2.length : Int)) then
 bif decide ((a.2.length : Int) ≤ lim) then
 bif decide ((a.2.length : Int) ≤ (a.2.length : Int)) then
 bif decide ((a.2.length : Int) ≤ lim) then
(F81 a (false, (List.replicate (Int.toNat (a.2.length : Int)) ((0, 0) : DNode))) 0).bind fun r =>
 some (r.1, r.2)
else none
else none
else none
else none := tC
theorem F19E (a) : F19 a =
(F6 a.2).bind fun r =>
 some (a.1, (r.1, r.2)) := tC
theorem F8bE (a out i) : F8b a out i =
 bif decide (i < (a.2.length : Int)) then
 bif decide (0 ≤ i) then
 bif decide (i < (a.2.length : Int)) then
(F19 (a.2.getD (Int.toNat i) (0, (true, [])))).bind fun r =>
 bif decide (0 ≤ i) then
 bif decide (i < (out.2.length : Int)) then
(F8b a (out.1, (out.2.set (Int.toNat i) (r.1, (r.2.1, r.2.2)))) (IntKind.i64.wrap (i + 1))).bind fun r => some r
else none
else none
else none
else none
else 
 some (out.1, out.2) := tL F2yK
theorem F2yE (a) : F2y a =
 bif decide (0 ≤ (a.2.length : Int)) then
 bif decide ((a.2.length : Int) ≤ lim) then
 bif decide ((a.2.length : Int) ≤ (a.2.length : Int)) then
 bif decide ((a.2.length : Int) ≤ lim) then
(F8b a (false, (List.replicate (Int.toNat (a.2.length : Int)) ((0, (true, [])) : DChange))) 0).bind fun r =>
 some (r.1, r.2)
else none
else none
else none
else none := tC
theorem F1bE (a) : F1b a =
(F6 a.1).bind fun r =>
(F2y a.2).bind fun r1 =>
 some ((r.1, r.2), (r1.1, r1.2)) := tC
theorem F8zE (a out i) : F8z a out i =
 bif decide (i < (a.2.length : Int)) then
 bif decide (0 ≤ i) then
 bif decide (i < (a.2.length : Int)) then
(F1b (a.2.getD (Int.toNat i) ((true, []), (true, [])))).bind fun r =>
 bif decide (0 ≤ i) then
 bif decide (i < (out.2.length : Int)) then
(F8z a (out.1, (out.2.set (Int.toNat i) ((r.1.1, r.1.2), (r.2.1, r.2.2)))) (IntKind.i64.wrap (i + 1))).bind fun r => some r
else none
else none
else none
else none
else 
 some (out.1, out.2) := tL F3uK
theorem F3uE (a) : F3u a =
 bif decide (0 ≤ (a.2.length : Int)) then
 bif decide ((a.2.length : Int) ≤ lim) then
 bif decide ((a.2.length : Int) ≤ (a.2.length : Int)) then
 bif decide ((a.2.length : Int) ≤ lim) then
(F8z a (false, (List.replicate (Int.toNat (a.2.length : Int)) (((true, []), (true, [])) : DCommand))) 0).bind fun r =>
 some (r.1, r.2)
else none
else none
else none
else none := tC
theorem F4bE (a) : F4b a =
(F6 a.2.2.1).bind fun r =>
(F3u a.2.2.2).bind fun r1 =>
 some (a.1, (a.2.1, ((r.1, r.2), (r1.1, r1.2)))) := tC
theorem F9nE (a out i) : F9n a out i =
 bif decide (i < (a.2.length : Int)) then
 bif decide (0 ≤ i) then
 bif decide (i < (a.2.length : Int)) then
(F6 (a.2.getD (Int.toNat i) (true, []))).bind fun r =>
 bif decide (0 ≤ i) then
 bif decide (i < (out.2.length : Int)) then
(F9n a (out.1, (out.2.set (Int.toNat i) (r.1, r.2))) (IntKind.i64.wrap (i + 1))).bind fun r => some r
else none
else none
else none
else none
else 
 some (out.1, out.2) := tL F1nK
theorem F1nE (a) : F1n a =
 bif decide (0 ≤ (a.2.length : Int)) then
 bif decide ((a.2.length : Int) ≤ lim) then
 bif decide ((a.2.length : Int) ≤ (a.2.length : Int)) then
 bif decide ((a.2.length : Int) ≤ lim) then
(F9n a (false, (List.replicate (Int.toNat (a.2.length : Int)) ((true, []) : Bool × List DNode))) 0).bind fun r =>
 some (r.1, r.2)
else none
else none
else none
else none := tC
theorem F3zE (n lo hi) : F3z n lo hi =
 bif decide (n ≥ lo) then
 some (decide (n ≤ hi))
else 
 some false := tC
theorem F4wE (wide) : F4w wide =
(F3z wide 1 64).bind fun r =>
 some r := tC
theorem F4gE (op) : F4g op =
 bif (op == 1) then
 some (0, (1, 1))
else 
 bif (op == 2) then
 some (0, (1, 1))
else 
 bif (op == 20) then
 some (0, (2, 2))
else 
 bif (op == 13) then
 some (1, (1, 1))
else 
 bif (op == 19) then
 some (1, (2, 2))
else 
(F3z op 3 12).bind fun r =>
 bif r then
 some (2, (1, 1))
else 
(F3z op 14 16).bind fun r1 =>
 bif r1 then
 some (2, (1, 2))
else 
 bif (op == 17) then
 some (2, (2, 2))
else 
 bif (op == 18) then
 some (2, (2, 2))
else 
 some (0, (0, 0)) := tC
theorem F8xE (wide a out k_) : F8x wide a out k_ =
 bif decide (k_ < wide) then
 bif decide ((IntKind.u64.wrap k_) < 0) then
 none
else 
(F8x wide a (bOr .u64 out (bAnd .u64 a (bShl .u64 1 (IntKind.u64.wrap k_)))) (IntKind.i64.wrap (k_ + 1))).bind fun r => some r
else 
 some out := tL FvK
theorem FvE (wide a) : Fv wide a =
(F8x wide a 0 0).bind fun r =>
 some r := tC
theorem F4eE (wide a) : F4e wide a =
(F4w wide).bind fun r =>
 bif r then
(Fv wide a).bind fun r1 =>
 some (r1 == a)
else 
 some false := tC
theorem F3jE (wide vars n) : F3j wide vars n =
 bif (n.1 == 1) then
(F4e wide n.2).bind fun r =>
 some r
else 
 bif (n.1 == 2) then
 some (decide (n.2 < (IntKind.u64.wrap vars)))
else 
 bif (n.1 == 20) then
 some (decide (n.2 < 2))
else 
 some (n.2 == 0) := tC
theorem F7hE (wide vars pile t27 t28 t29) : F7h wide vars pile t27 t28 t29 =
 bif decide (t29 < t28) then
 bif decide (0 ≤ t29) then
 bif decide (t29 < (t27.2.length : Int)) then
(F4g ((t27.2.getD (Int.toNat t29) (0, 0)).1)).bind fun r =>
 bif (r.2.2 == 0) then
 some (.inl 0)
else 
(F3j wide vars (t27.2.getD (Int.toNat t29) (0, 0))).bind fun r1 =>
 bif !r1 then
 some (.inl 0)
else 
 bif decide ((pile.2.length : Int) < r.1) then
 some (.inl 0)
else 
(F9v wide vars (pile.1, pile.2) r.1 r.2.1 r.2.2 t27 t28 t29).bind fun r2 =>
 match r2 with
| .inl y =>
 some (.inl y)
| .inr z =>
 bif decide (z.2.length + [r.2.2].length ≤ lim) then
(F7h wide vars ((z.1 && false), (z.2 ++ [r.2.2])) t27 t28 (IntKind.i64.wrap (t29 + 1))).bind fun r => some r
else none
else none
else none
else 
 some (.inr (pile.1, pile.2)) := tL FrK
theorem F9vE (wide vars pile many part own t27 t28 t29) : F9v wide vars pile many part own t27 t28 t29 =
 bif decide (many > 0) then
 bif decide (0 ≤ (IntKind.i64.wrap ((pile.2.length : Int) - 1))) then
 bif decide ((IntKind.i64.wrap ((pile.2.length : Int) - 1)) < (pile.2.length : Int)) then
 bif ((pile.2.getD (Int.toNat (IntKind.i64.wrap ((pile.2.length : Int) - 1))) 0) != part) then
 some (.inl 0)
else 
 bif decide (0 ≤ (IntKind.i64.wrap ((pile.2.length : Int) - 1))) then
 bif decide ((IntKind.i64.wrap ((pile.2.length : Int) - 1)) ≤ (pile.2.length : Int)) then
(F9v wide vars (pile.1, ((pile.2.take (Int.toNat (IntKind.i64.wrap ((pile.2.length : Int) - 1)))).drop 0)) (IntKind.i64.wrap (many - 1)) part own t27 t28 t29).bind fun r => some r
else none
else none
else none
else none
else 
 some (.inr (pile.1, pile.2)) := tL FrK
theorem FrE (wide vars t) : Fr wide vars t =
(F4w wide).bind fun r =>
 bif !r then
 some 0
else 
(F3z vars 1 4).bind fun r1 =>
 bif !r1 then
 some 0
else 
(F3z (t.2.length : Int) 1 48).bind fun r2 =>
 bif !r2 then
 some 0
else 
(F7h wide vars (true, []) t (t.2.length : Int) 0).bind fun r3 =>
 match r3 with
| .inl y =>
 some y
| .inr z =>
 bif ((z.2.length : Int) != 1) then
 some 0
else 
 bif decide (0 < (z.2.length : Int)) then
 some (z.2.getD 0 0)
else none := tC
theorem F4dE (p t) : F4d p t =
(Fr p.1 p.2.1 t).bind fun r =>
 some (r == 2) := tC
theorem F77E (p c t21 t22 t23) : F77 p c t21 t22 t23 =
 bif decide (t23 < t22) then
 bif decide (0 ≤ t23) then
 bif decide (t23 < (t21.2.length : Int)) then
(F3z ((t21.2.getD (Int.toNat t23) (0, (true, []))).1) 0 (IntKind.i64.wrap (p.2.1 - 1))).bind fun r =>
 bif !r then
 some (.inl false)
else 
 bif decide (t23 > 0) then
 bif decide (0 ≤ (IntKind.i64.wrap (t23 - 1))) then
 bif decide ((IntKind.i64.wrap (t23 - 1)) < (c.2.2.length : Int)) then
 bif decide (((c.2.2.getD (Int.toNat (IntKind.i64.wrap (t23 - 1))) (0, (true, []))).1) ≥ ((t21.2.getD (Int.toNat t23) (0, (true, []))).1)) then
 some (.inl false)
else 
(Fr p.1 p.2.1 ((t21.2.getD (Int.toNat t23) (0, (true, []))).2)).bind fun r1 =>
 bif (r1 != 1) then
 some (.inl false)
else 
(F77 p c t21 t22 (IntKind.i64.wrap (t23 + 1))).bind fun r => some r
else none
else none
else 
(Fr p.1 p.2.1 ((t21.2.getD (Int.toNat t23) (0, (true, []))).2)).bind fun r2 =>
 bif (r2 != 1) then
 some (.inl false)
else 
(F77 p c t21 t22 (IntKind.i64.wrap (t23 + 1))).bind fun r => some r
else none
else none
else 
 some (.inr ()) := tL F2bK
theorem F2bE (p c) : F2b p c =
(F4d p c.1).bind fun r =>
 bif !r then
 some false
else 
 bif decide ((c.2.2.length : Int) > p.2.1) then
 some false
else 
(F77 p c c.2 (c.2.2.length : Int) 0).bind fun r1 =>
 match r1 with
| .inl y =>
 some y
| .inr z =>
 some true := tC
theorem F7mE (p t18 t19 t20) : F7m p t18 t19 t20 =
 bif decide (t20 < t19) then
 bif decide (0 ≤ t20) then
 bif decide (t20 < (t18.2.length : Int)) then
(F2b p (t18.2.getD (Int.toNat t20) ((true, []), (true, [])))).bind fun r =>
 bif !r then
 some (.inl false)
else 
(F7m p t18 t19 (IntKind.i64.wrap (t20 + 1))).bind fun r => some r
else none
else none
else 
 some (.inr ()) := tL F2oK
theorem F2oE (p) : F2o p =
(F4d p p.2.2.1).bind fun r =>
 bif !r then
 some false
else 
(F3z (p.2.2.2.2.length : Int) 1 6).bind fun r1 =>
 bif !r1 then
 some false
else 
(F7m p p.2.2.2 (p.2.2.2.2.length : Int) 0).bind fun r2 =>
 match r2 with
| .inl y =>
 some y
| .inr z =>
 some true := tC
theorem F74E (p) : F74 p =
(F2o p).bind fun r =>
 bif r then
 some (decide ((IntKind.i64.wrap (p.1 * p.2.1)) ≤ 5))
else 
 some false := tC
theorem F8fE (p t10 t11 t12) : F8f p t10 t11 t12 =
 bif decide (t12 < t11) then
 bif decide (0 ≤ t12) then
 bif decide (t12 < (t10.2.length : Int)) then
(F4d p (t10.2.getD (Int.toNat t12) (true, []))).bind fun r =>
 bif !r then
 some (.inl false)
else 
(F8f p t10 t11 (IntKind.i64.wrap (t12 + 1))).bind fun r => some r
else none
else none
else 
 some (.inr ()) := tL F2tK
theorem F2tE (p preds) : F2t p preds =
 bif decide ((preds.2.length : Int) > 8) then
 some false
else 
(F8f p preds (preds.2.length : Int) 0).bind fun r =>
 match r with
| .inl y =>
 some y
| .inr z =>
 some true := tC
theorem F5bE (p preds bad budget) : F5b p preds bad budget =
(F74 p).bind fun r =>
 bif r then
(F2t p preds).bind fun r1 =>
 bif r1 then
(F4d p bad).bind fun r2 =>
 bif r2 then
(F3z budget 0 40).bind fun r3 =>
 some r3
else 
 some false
else 
 some false
else 
 some false := tC
theorem F4oE (p) : F4o p =
 bif decide ((IntKind.u64.wrap (IntKind.i64.wrap (p.1 * p.2.1))) < 0) then
 none
else 
 some (bShl .i64 1 (IntKind.u64.wrap (IntKind.i64.wrap (p.1 * p.2.1)))) := tC
theorem F8jE (no p out v) : F8j no p out v =
 bif decide (v < p.2.1) then
 bif decide ((IntKind.u64.wrap (IntKind.i64.wrap (v * p.1))) < 0) then
 none
else 
 bif decide ((IntKind.u64.wrap p.1) < 0) then
 none
else 
 bif decide (out.2.length + [IntKind.u64.wrap (bAnd .i64 (bShr .i64 no (IntKind.u64.wrap (IntKind.i64.wrap (v * p.1)))) (IntKind.i64.wrap ((bShl .i64 1 (IntKind.u64.wrap p.1)) - 1)))].length ≤ lim) then
(F8j no p ((out.1 && false), (out.2 ++ [IntKind.u64.wrap (bAnd .i64 (bShr .i64 no (IntKind.u64.wrap (IntKind.i64.wrap (v * p.1)))) (IntKind.i64.wrap ((bShl .i64 1 (IntKind.u64.wrap p.1)) - 1)))])) (IntKind.i64.wrap (v + 1))).bind fun r => some r
else none
else 
 some (out.1, out.2) := tL F2aK
theorem F2aE (p no) : F2a p no =
(F8j no p (true, []) 0).bind fun r =>
 some (r.1, r.2) := tC
theorem F8lE (t many from_) : F8l t many from_ =
 bif decide (many > 0) then
(F29 t (IntKind.i64.wrap (from_ - 1))).bind fun r =>
(F8l t (IntKind.i64.wrap (many - 1)) r).bind fun r => some r
else 
 some from_ := tL F29K
theorem F29E (t k_) : F29 t k_ =
 bif decide (0 ≤ k_) then
 bif decide (k_ < (t.2.length : Int)) then
(F4g ((t.2.getD (Int.toNat k_) (0, 0)).1)).bind fun r =>
(F8l t r.1 k_).bind fun r1 =>
 some r1
else none
else none := tC
theorem F5tE (wide a b) : F5t wide a b =
(F4e wide a).bind fun r =>
 bif r then
(F4e wide b).bind fun r1 =>
 some r1
else 
 some false := tC
theorem F6mE (wide a b) : F6m wide a b =
(F5t wide a b).bind fun r =>
 bif !r then
 some (0, (0, false))
else 
 bif (b == 0) then
(Fv wide 18446744073709551615).bind fun r1 =>
 some (r1, (a, true))
else 
 bif (b == 0) then
 none
else 
 bif (b == 0) then
 none
else 
 some (IntKind.u64.wrap (Int.tdiv a b), (Int.tmod a b, true)) := tC
theorem F6rE (wide a by_ left_) : F6r wide a by_ left_ =
 bif decide (by_ > 0) then
 bif left_ then
(Fv wide (bShl .u64 a 1)).bind fun r =>
(F6r wide r (IntKind.u64.wrap (by_ - 1)) left_).bind fun r => some r
else 
(F6r wide (bShr .u64 a 1) (IntKind.u64.wrap (by_ - 1)) left_).bind fun r => some r
else 
 some a := tL FtK
theorem FtE (wide a by_ left_) : Ft wide a by_ left_ =
 bif decide (by_ ≥ (IntKind.u64.wrap wide)) then
 some 0
else 
(F6r wide a by_ left_).bind fun r =>
 some r := tC
theorem F1jE (is) : F1j is =
 bif is then
 some 1
else 
 some 0 := tC
theorem F40E (wide a) : F40 wide a =
 bif decide ((IntKind.u64.wrap (IntKind.i64.wrap (wide - 1))) < 0) then
 none
else 
 bif ((bAnd .u64 (bShr .u64 a (IntKind.u64.wrap (IntKind.i64.wrap (wide - 1)))) 1) == 1) then
(Fv wide 18446744073709551615).bind fun r =>
 some (IntKind.i64.wrap (bOr .u64 a (bXor .u64 18446744073709551615 r)))
else 
 some (IntKind.i64.wrap a) := tC
theorem F62E (wide op a b) : F62 wide op a b =
(F6m wide a b).bind fun r =>
 bif (op == 3) then
(Fv wide (IntKind.u64.wrap (a + b))).bind fun r1 =>
 some r1
else 
 bif (op == 4) then
(Fv wide (IntKind.u64.wrap (a - b))).bind fun r2 =>
 some r2
else 
 bif (op == 5) then
(Fv wide (IntKind.u64.wrap (a * b))).bind fun r3 =>
 some r3
else 
 bif (op == 6) then
 some r.1
else 
 bif (op == 7) then
 some r.2.1
else 
 bif (op == 8) then
 bif (op == 8) then
 some (bAnd .u64 a b)
else 
 bif (op == 9) then
 bif (op == 9) then
 some (bOr .u64 a b)
else 
 bif (op == 10) then
 some (bXor .u64 a b)
else 
 bif (op == 11) then
(Ft wide a b true).bind fun r4 =>
 some r4
else 
 bif (op == 12) then
(Ft wide a b false).bind fun r5 =>
 some r5
else 
 bif (op == 14) then
(F1j (a == b)).bind fun r6 =>
 some r6
else 
 bif (op == 15) then
(F1j (decide (a < b))).bind fun r7 =>
 some r7
else 
 bif (op == 16) then
(F40 wide a).bind fun r8 =>
(F40 wide b).bind fun r9 =>
(F1j (decide (r8 < r9))).bind fun r10 =>
 some r10
else 
 some 0
else 
 bif (op == 18) then
 some (bOr .u64 a b)
else 
 bif (op == 10) then
 some (bXor .u64 a b)
else 
 bif (op == 11) then
(Ft wide a b true).bind fun r11 =>
 some r11
else 
 bif (op == 12) then
(Ft wide a b false).bind fun r12 =>
 some r12
else 
 bif (op == 14) then
(F1j (a == b)).bind fun r13 =>
 some r13
else 
 bif (op == 15) then
(F1j (decide (a < b))).bind fun r14 =>
 some r14
else 
 bif (op == 16) then
(F40 wide a).bind fun r15 =>
(F40 wide b).bind fun r16 =>
(F1j (decide (r15 < r16))).bind fun r17 =>
 some r17
else 
 some 0
else 
 bif (op == 17) then
 some (bAnd .u64 a b)
else 
 bif (op == 9) then
 bif (op == 9) then
 some (bOr .u64 a b)
else 
 bif (op == 10) then
 some (bXor .u64 a b)
else 
 bif (op == 11) then
(Ft wide a b true).bind fun r18 =>
 some r18
else 
 bif (op == 12) then
(Ft wide a b false).bind fun r19 =>
 some r19
else 
 bif (op == 14) then
(F1j (a == b)).bind fun r20 =>
 some r20
else 
 bif (op == 15) then
(F1j (decide (a < b))).bind fun r21 =>
 some r21
else 
 bif (op == 16) then
(F40 wide a).bind fun r22 =>
(F40 wide b).bind fun r23 =>
(F1j (decide (r22 < r23))).bind fun r24 =>
 some r24
else 
 some 0
else 
 bif (op == 18) then
 some (bOr .u64 a b)
else 
 bif (op == 10) then
 some (bXor .u64 a b)
else 
 bif (op == 11) then
(Ft wide a b true).bind fun r25 =>
 some r25
else 
 bif (op == 12) then
(Ft wide a b false).bind fun r26 =>
 some r26
else 
 bif (op == 14) then
(F1j (a == b)).bind fun r27 =>
 some r27
else 
 bif (op == 15) then
(F1j (decide (a < b))).bind fun r28 =>
 some r28
else 
 bif (op == 16) then
(F40 wide a).bind fun r29 =>
(F40 wide b).bind fun r30 =>
(F1j (decide (r29 < r30))).bind fun r31 =>
 some r31
else 
 some 0 := tC
theorem F48E (wide t k_ state) : F48 wide t k_ state =
 bif decide (0 ≤ k_) then
 bif decide (k_ < (t.2.length : Int)) then
(F4g ((t.2.getD (Int.toNat k_) (0, 0)).1)).bind fun r =>
 bif (((t.2.getD (Int.toNat k_) (0, 0)).1) == 2) then
 bif decide (0 ≤ ((t.2.getD (Int.toNat k_) (0, 0)).2)) then
 bif decide (((t.2.getD (Int.toNat k_) (0, 0)).2) < (state.2.length : Int)) then
 some (state.2.getD (Int.toNat ((t.2.getD (Int.toNat k_) (0, 0)).2)) 0)
else none
else none
else 
 bif (r.1 == 0) then
 some ((t.2.getD (Int.toNat k_) (0, 0)).2)
else 
 bif (((t.2.getD (Int.toNat k_) (0, 0)).1) == 13) then
(F48 wide t (IntKind.i64.wrap (k_ - 1)) state).bind fun r1 =>
(Fv wide (bXor .u64 18446744073709551615 r1)).bind fun r2 =>
 some r2
else 
 bif (((t.2.getD (Int.toNat k_) (0, 0)).1) == 19) then
(F48 wide t (IntKind.i64.wrap (k_ - 1)) state).bind fun r3 =>
 some (IntKind.u64.wrap (1 - r3))
else 
(F29 t (IntKind.i64.wrap (k_ - 1))).bind fun r4 =>
(F48 wide t (IntKind.i64.wrap (r4 - 1)) state).bind fun r5 =>
(F48 wide t (IntKind.i64.wrap (k_ - 1)) state).bind fun r6 =>
(F62 wide ((t.2.getD (Int.toNat k_) (0, 0)).1) r5 r6).bind fun r7 =>
 some r7
else none
else none := tC
theorem F4qE (p t s) : F4q p t s =
(F48 p.1 t (IntKind.i64.wrap ((t.2.length : Int) - 1)) s).bind fun r =>
 some (r == 1) := tC
theorem F5kE (t p out no) : F5k t p out no =
(F4o p).bind fun r =>
 bif decide (no < r) then
(F2a p no).bind fun r1 =>
(F4q p t (r1.1, r1.2)).bind fun r2 =>
 bif r2 then
 bif decide (out.2.length + [no].length ≤ lim) then
(F5k t p ((out.1 && false), (out.2 ++ [no])) (IntKind.i64.wrap (no + 1))).bind fun r => some r
else none
else 
(F5k t p (out.1, out.2) (IntKind.i64.wrap (no + 1))).bind fun r => some r
else 
 some (out.1, out.2) := tL F1dK
theorem F1dE (p t) : F1d p t =
(F5k t p (true, []) 0).bind fun r =>
 some (r.1, r.2) := tC
theorem F9pE (n t7 t8 t9) : F9p n t7 t8 t9 =
 bif decide (t9 < t8) then
 bif decide (0 ≤ t9) then
 bif decide (t9 < (t7.2.length : Int)) then
 bif ((t7.2.getD (Int.toNat t9) 0) == n) then
 some (.inl true)
else 
(F9p n t7 t8 (IntKind.i64.wrap (t9 + 1))).bind fun r => some r
else none
else none
else 
 some (.inr ()) := tL F1fK
theorem F1fE (l n) : F1f l n =
(F9p n l (l.2.length : Int) 0).bind fun r =>
 match r with
| .inl y =>
 some y
| .inr z =>
 some false := tC
theorem F71E (keys t2 out many t9 t10 t11) : F71 keys t2 out many t9 t10 t11 =
 bif decide (t11 < t10) then
 bif decide (0 ≤ t11) then
 bif decide (t11 < (t9.2.length : Int)) then
(F7w keys t2 (out.1, out.2) many t11 (t9.2.getD (Int.toNat t11) 0) many 0 t9 t10 t11).bind fun r =>
 bif (r == many) then
 bif decide (out.2.length + [r].length ≤ lim) then
(F71 keys t2 ((out.1 && false), (out.2 ++ [r])) (IntKind.i64.wrap (many + 1)) t9 t10 (IntKind.i64.wrap (t11 + 1))).bind fun r => some r
else none
else 
 bif decide (out.2.length + [r].length ≤ lim) then
(F71 keys t2 ((out.1 && false), (out.2 ++ [r])) many t9 t10 (IntKind.i64.wrap (t11 + 1))).bind fun r => some r
else none
else none
else none
else 
 some (out.1, out.2) := tL FwK
theorem F7wE (keys t2 out many i key class_ j t9 t10 t11) : F7w keys t2 out many i key class_ j t9 t10 t11 =
 bif decide (j < i) then
 bif decide (0 ≤ j) then
 bif decide (j < (keys.2.length : Int)) then
 bif ((keys.2.getD (Int.toNat j) 0) == key) then
 bif decide (0 ≤ j) then
 bif decide (j < (out.2.length : Int)) then
 some (out.2.getD (Int.toNat j) 0)
else none
else none
else 
(F7w keys t2 out many i key class_ (IntKind.i64.wrap (j + 1)) t9 t10 t11).bind fun r => some r
else none
else none
else 
 some class_ := tL FwK
theorem FwE (keys) : Fw keys =
(F71 keys (true, []) (true, []) 0 keys (keys.2.length : Int) 0).bind fun r =>
 some (r.1, r.2) := tC
theorem F75E (some_ t4 keys t9 t10 t11) : F75 some_ t4 keys t9 t10 t11 =
 bif decide (t11 < t10) then
 bif decide (0 ≤ t11) then
 bif decide (t11 < (t9.2.length : Int)) then
(F1f some_ t11).bind fun r =>
 bif r then
 bif decide (keys.2.length + [IntKind.i64.wrap ((IntKind.i64.wrap (2 * (t9.2.getD (Int.toNat t11) 0))) + 1)].length ≤ lim) then
(F75 some_ t4 ((keys.1 && false), (keys.2 ++ [IntKind.i64.wrap ((IntKind.i64.wrap (2 * (t9.2.getD (Int.toNat t11) 0))) + 1)])) t9 t10 (IntKind.i64.wrap (t11 + 1))).bind fun r => some r
else none
else 
 bif decide (keys.2.length + [IntKind.i64.wrap (2 * (t9.2.getD (Int.toNat t11) 0))].length ≤ lim) then
(F75 some_ t4 ((keys.1 && false), (keys.2 ++ [IntKind.i64.wrap (2 * (t9.2.getD (Int.toNat t11) 0))])) t9 t10 (IntKind.i64.wrap (t11 + 1))).bind fun r => some r
else none
else none
else none
else 
 some (keys.1, keys.2) := tL F1rK
theorem F1rE (v some_) : F1r v some_ =
(F75 some_ (true, []) (true, []) v (v.2.length : Int) 0).bind fun r =>
(Fw (r.1, r.2)).bind fun r1 =>
 some (r1.1, r1.2) := tC
theorem F4jE (p v t) : F4j p v t =
(F1d p t).bind fun r =>
(F1r v (r.1, r.2)).bind fun r1 =>
 some (r1.1, r1.2) := tC
theorem FadE (p t4 v t12 t13 t14) : Fad p t4 v t12 t13 t14 =
 bif decide (t14 < t13) then
 bif decide (0 ≤ t14) then
 bif decide (t14 < (t12.2.length : Int)) then
(F4j p (v.1, v.2) (t12.2.getD (Int.toNat t14) (true, []))).bind fun r =>
(Fad p t4 (r.1, r.2) t12 t13 (IntKind.i64.wrap (t14 + 1))).bind fun r => some r
else none
else none
else 
 some (v.1, v.2) := tL F32K
theorem F32E (p preds) : F32 p preds =
(F4o p).bind fun r =>
 bif decide (0 ≤ r) then
 bif decide (r ≤ lim) then
 bif decide (r ≤ r) then
 bif decide (r ≤ lim) then
(Fad p (true, []) (false, (List.replicate (Int.toNat r) (0 : Int))) preds (preds.2.length : Int) 0).bind fun r1 =>
 some (r1.1, r1.2)
else none
else none
else none
else none := tC
theorem FacE (l n k_) : Fac l n k_ =
 bif decide (k_ < (l.2.length : Int)) then
 bif decide (0 ≤ k_) then
 bif decide (k_ < (l.2.length : Int)) then
 bif decide ((l.2.getD (Int.toNat k_) 0) < n) then
(Fac l n (IntKind.i64.wrap (k_ + 1))).bind fun r => some r
else 
 some k_
else none
else none
else 
 some k_ := tL F1qK
theorem F1qE (l n) : F1q l n =
(Fac l n 0).bind fun r =>
 bif decide (r < (l.2.length : Int)) then
 bif decide (0 ≤ r) then
 bif decide (r < (l.2.length : Int)) then
 bif ((l.2.getD (Int.toNat r) 0) == n) then
 some l
else 
 bif decide (0 ≤ r) then
 bif decide (r ≤ (l.2.length : Int)) then
 bif decide (([] : List Int).length + ((l.2.take (Int.toNat r)).drop 0).length ≤ lim) then
 bif decide (([] ++ ((l.2.take (Int.toNat r)).drop 0)).length + [n].length ≤ lim) then
 bif decide (0 ≤ r) then
 bif decide (r ≤ (l.2.length : Int)) then
 bif decide ((([] ++ ((l.2.take (Int.toNat r)).drop 0)) ++ [n]).length + ((l.2.take l.2.length).drop (Int.toNat r)).length ≤ lim) then
 some (false, ((([] ++ ((l.2.take (Int.toNat r)).drop 0)) ++ [n]) ++ ((l.2.take l.2.length).drop (Int.toNat r))))
else none
else none
else none
else none
else none
else none
else none
else none
else none
else 
 bif decide (0 ≤ r) then
 bif decide (r ≤ (l.2.length : Int)) then
 bif decide (([] : List Int).length + ((l.2.take (Int.toNat r)).drop 0).length ≤ lim) then
 bif decide (([] ++ ((l.2.take (Int.toNat r)).drop 0)).length + [n].length ≤ lim) then
 bif decide (0 ≤ r) then
 bif decide (r ≤ (l.2.length : Int)) then
 bif decide ((([] ++ ((l.2.take (Int.toNat r)).drop 0)) ++ [n]).length + ((l.2.take l.2.length).drop (Int.toNat r)).length ≤ lim) then
 some (false, ((([] ++ ((l.2.take (Int.toNat r)).drop 0)) ++ [n]) ++ ((l.2.take l.2.length).drop (Int.toNat r))))
else none
else none
else none
else none
else none
else none
else none := tC
theorem F9dE (v out t8 t9 t10) : F9d v out t8 t9 t10 =
 bif decide (t10 < t9) then
 bif decide (0 ≤ t10) then
 bif decide (t10 < (t8.2.length : Int)) then
 bif decide (0 ≤ (t8.2.getD (Int.toNat t10) 0)) then
 bif decide ((t8.2.getD (Int.toNat t10) 0) < (v.2.length : Int)) then
(F1q out (v.2.getD (Int.toNat (t8.2.getD (Int.toNat t10) 0)) 0)).bind fun r =>
(F9d v r t8 t9 (IntKind.i64.wrap (t10 + 1))).bind fun r => some r
else none
else none
else none
else none
else 
 some out := tL F1hK
theorem F1hE (v states) : F1h v states =
(F9d v (true, []) states (states.2.length : Int) 0).bind fun r =>
 some r := tC
theorem F6hE (many t7 t8 t9) : F6h many t7 t8 t9 =
 bif decide (t9 < t8) then
 bif decide (0 ≤ t9) then
 bif decide (t9 < (t7.2.length : Int)) then
 bif decide ((t7.2.getD (Int.toNat t9) 0) ≥ many) then
(F6h (IntKind.i64.wrap ((t7.2.getD (Int.toNat t9) 0) + 1)) t7 t8 (IntKind.i64.wrap (t9 + 1))).bind fun r => some r
else 
(F6h many t7 t8 (IntKind.i64.wrap (t9 + 1))).bind fun r => some r
else none
else none
else 
 some many := tL F26K
theorem F26E (v) : F26 v =
(F6h 0 v (v.2.length : Int) 0).bind fun r =>
 some r := tC
theorem F53E (class_ out t9 t10 t11) : F53 class_ out t9 t10 t11 =
 bif decide (t11 < t10) then
 bif decide (0 ≤ t11) then
 bif decide (t11 < (t9.2.length : Int)) then
 bif ((t9.2.getD (Int.toNat t11) 0) == class_) then
 bif decide (out.2.length + [t11].length ≤ lim) then
(F53 class_ ((out.1 && false), (out.2 ++ [t11])) t9 t10 (IntKind.i64.wrap (t11 + 1))).bind fun r => some r
else none
else 
(F53 class_ (out.1, out.2) t9 t10 (IntKind.i64.wrap (t11 + 1))).bind fun r => some r
else none
else none
else 
 some (out.1, out.2) := tL F1wK
theorem F1wE (v class_) : F1w v class_ =
(F53 class_ (true, []) v (v.2.length : Int) 0).bind fun r =>
 some (r.1, r.2) := tC
theorem F5zE (s p out t9 t10 t11) : F5z s p out t9 t10 t11 =
 bif decide (t11 < t10) then
 bif decide (0 ≤ t11) then
 bif decide (t11 < (t9.2.length : Int)) then
(F4q p ((t9.2.getD (Int.toNat t11) ((true, []), (true, []))).1) s).bind fun r =>
 bif r then
 bif decide (out.2.length + [t11].length ≤ lim) then
(F5z s p ((out.1 && false), (out.2 ++ [t11])) t9 t10 (IntKind.i64.wrap (t11 + 1))).bind fun r => some r
else none
else 
(F5z s p (out.1, out.2) t9 t10 (IntKind.i64.wrap (t11 + 1))).bind fun r => some r
else none
else none
else 
 some (out.1, out.2) := tL F21K
theorem F21E (p s) : F21 p s =
(F5z s p (true, []) p.2.2.2 (p.2.2.2.2.length : Int) 0).bind fun r =>
 some (r.1, r.2) := tC
theorem F8sE (s p out t18 t19 t20) : F8s s p out t18 t19 t20 =
 bif decide (t20 < t19) then
 bif decide (0 ≤ t20) then
 bif decide (t20 < (t18.2.length : Int)) then
(F48 p.1 ((t18.2.getD (Int.toNat t20) (0, (true, []))).2) (IntKind.i64.wrap (((((t18.2.getD (Int.toNat t20) (0, (true, []))).2).2).length : Int) - 1)) s).bind fun r =>
 bif decide (0 ≤ ((t18.2.getD (Int.toNat t20) (0, (true, []))).1)) then
 bif decide (((t18.2.getD (Int.toNat t20) (0, (true, []))).1) < (out.2.length : Int)) then
(F8s s p (out.1, (out.2.set (Int.toNat ((t18.2.getD (Int.toNat t20) (0, (true, []))).1)) r)) t18 t19 (IntKind.i64.wrap (t20 + 1))).bind fun r => some r
else none
else none
else none
else none
else 
 some (out.1, out.2) := tL F3kK
theorem F3kE (p s k_) : F3k p s k_ =
 bif decide (([] : List Int).length + s.2.length ≤ lim) then
 bif decide (0 ≤ k_) then
 bif decide (k_ < (p.2.2.2.2.length : Int)) then
(F8s s p (false, ([] ++ s.2)) ((p.2.2.2.2.getD (Int.toNat k_) ((true, []), (true, []))).2) ((((p.2.2.2.2.getD (Int.toNat k_) ((true, []), (true, []))).2).2).length : Int) 0).bind fun r =>
 some (r.1, r.2)
else none
else none
else none := tC
theorem F9cE (s p n v) : F9c s p n v =
 bif decide (v ≥ 0) then
 bif decide ((IntKind.u64.wrap p.1) < 0) then
 none
else 
 bif decide (0 ≤ v) then
 bif decide (v < (s.2.length : Int)) then
(F9c s p (IntKind.i64.wrap ((bShl .i64 n (IntKind.u64.wrap p.1)) + (IntKind.i64.wrap (s.2.getD (Int.toNat v) 0)))) (IntKind.i64.wrap (v - 1))).bind fun r => some r
else none
else none
else 
 some n := tL F39K
theorem F39E (p s) : F39 p s =
(F9c s p 0 (IntKind.i64.wrap (p.2.1 - 1))).bind fun r =>
 some r := tC
theorem F8dE (no p s out t14 t15 t16) : F8d no p s out t14 t15 t16 =
 bif decide (t16 < t15) then
 bif decide (0 ≤ t16) then
 bif decide (t16 < (t14.2.length : Int)) then
(F3k p s (t14.2.getD (Int.toNat t16) 0)).bind fun r =>
(F39 p (r.1, r.2)).bind fun r1 =>
(F1q out r1).bind fun r2 =>
(F8d no p s r2 t14 t15 (IntKind.i64.wrap (t16 + 1))).bind fun r => some r
else none
else none
else 
 some out := tL F1oK
theorem F1oE (p no) : F1o p no =
(F2a p no).bind fun r =>
(F21 p (r.1, r.2)).bind fun r1 =>
(F8d no p (r.1, r.2) (true, []) (r1.1, r1.2) (r1.2.length : Int) 0).bind fun r2 =>
 bif ((r2.2.length : Int) == 0) then
 some (false, [no])
else 
 some r2 := tC
theorem F98E (p out t10 t11 t12) : F98 p out t10 t11 t12 =
 bif decide (t12 < t11) then
 bif decide (0 ≤ t12) then
 bif decide (t12 < (t10.2.length : Int)) then
(F1o p (t10.2.getD (Int.toNat t12) 0)).bind fun r =>
(F9e p out t10 t11 t12 r (r.2.length : Int) 0).bind fun r1 =>
(F98 p r1 t10 t11 (IntKind.i64.wrap (t12 + 1))).bind fun r => some r
else none
else none
else 
 some out := tL FzK
theorem F9eE (p out t10 t11 t12 t18 t19 t20) : F9e p out t10 t11 t12 t18 t19 t20 =
 bif decide (t20 < t19) then
 bif decide (0 ≤ t20) then
 bif decide (t20 < (t18.2.length : Int)) then
(F1q out (t18.2.getD (Int.toNat t20) 0)).bind fun r =>
(F9e p r t10 t11 t12 t18 t19 (IntKind.i64.wrap (t20 + 1))).bind fun r => some r
else none
else none
else 
 some out := tL FzK
theorem FzE (p some_) : Fz p some_ =
(F98 p (true, []) some_ (some_.2.length : Int) 0).bind fun r =>
 some r := tC
theorem F67E (p v class_) : F67 p v class_ =
(F1w v class_).bind fun r =>
(Fz p (r.1, r.2)).bind fun r1 =>
(F1h v r1).bind fun r2 =>
 some r2 := tC
theorem F9wE (p v out class_) : F9w p v out class_ =
(F26 v).bind fun r =>
 bif decide (class_ < r) then
(F67 p v class_).bind fun r1 =>
 bif decide (out.2.length + [r1].length ≤ lim) then
(F9w p v ((out.1 && false), (out.2 ++ [r1])) (IntKind.i64.wrap (class_ + 1))).bind fun r => some r
else none
else 
 some (out.1, out.2) := tL F2hK
theorem F2hE (p v) : F2h p v =
(F9w p v (true, []) 0).bind fun r =>
 some (r.1, r.2) := tC
theorem F7zE (out t11 t12 t13) : F7z out t11 t12 t13 =
 bif decide (t13 < t12) then
 bif decide (0 ≤ t13) then
 bif decide (t13 < (t11.2.length : Int)) then
(Fa6 (out.1, out.2) t13 t11 t12 t13 (t11.2.getD (Int.toNat t13) (true, [])) (((t11.2.getD (Int.toNat t13) (true, [])).2).length : Int) 0).bind fun r =>
(F7z (r.1, r.2) t11 t12 (IntKind.i64.wrap (t13 + 1))).bind fun r => some r
else none
else none
else 
 some (out.1, out.2) := tL F12K
theorem Fa6E (out k_ t11 t12 t13 t18 t19 t20) : Fa6 out k_ t11 t12 t13 t18 t19 t20 =
 bif decide (t20 < t19) then
 bif decide (0 ≤ t20) then
 bif decide (t20 < (t18.2.length : Int)) then
 bif decide (0 ≤ (t18.2.getD (Int.toNat t20) 0)) then
 bif decide ((t18.2.getD (Int.toNat t20) 0) < (out.2.length : Int)) then
 bif decide (((out.2.getD (Int.toNat (t18.2.getD (Int.toNat t20) 0)) (true, [])).2).length + [k_].length ≤ lim) then
 bif decide (0 ≤ (t18.2.getD (Int.toNat t20) 0)) then
 bif decide ((t18.2.getD (Int.toNat t20) 0) < (out.2.length : Int)) then
 bif ((Int.toNat (t18.2.getD (Int.toNat t20) 0)) == (Int.toNat (t18.2.getD (Int.toNat t20) 0))) then
(Fa6 (out.1, (out.2.set (Int.toNat (t18.2.getD (Int.toNat t20) 0)) ((((out.2.getD (Int.toNat (t18.2.getD (Int.toNat t20) 0)) (true, [])).1) && false), (((out.2.getD (Int.toNat (t18.2.getD (Int.toNat t20) 0)) (true, [])).2) ++ [k_])))) k_ t11 t12 t13 t18 t19 (IntKind.i64.wrap (t20 + 1))).bind fun r => some r
else none
else none
else none
else none
else none
else none
else none
else none
else 
 some (out.1, out.2) := tL F12K
theorem F12E (next) : F12 next =
 bif decide (0 ≤ (next.2.length : Int)) then
 bif decide ((next.2.length : Int) ≤ lim) then
 bif decide ((next.2.length : Int) ≤ (next.2.length : Int)) then
 bif decide ((next.2.length : Int) ≤ lim) then
(F7z (false, (List.replicate (Int.toNat (next.2.length : Int)) ((true, []) : Bool × List Int))) next (next.2.length : Int) 0).bind fun r =>
 some (r.1, r.2)
else none
else none
else none
else none := tC
theorem F61E (l) : F61 l =
 bif decide (([] : List Int).length + l.2.length ≤ lim) then
 some (false, ([] ++ l.2))
else none := tC
theorem F80E (next from_ out t17 t18) : F80 next from_ out t17 t18 =
 bif decide (t18 < t17) then
 bif decide (0 ≤ t18) then
 bif decide (t18 < (out.2.length : Int)) then
(F80 next from_ (out.1, (out.2.set (Int.toNat t18) (-1))) t17 (IntKind.i64.wrap (t18 + 1))).bind fun r => some r
else none
else none
else 
 some (out.1, out.2) := tL F9K
theorem Fa0E (next from_ out t25 t26 t27) : Fa0 next from_ out t25 t26 t27 =
 bif decide (t27 < t26) then
 bif decide (0 ≤ t27) then
 bif decide (t27 < (t25.2.length : Int)) then
 bif decide (0 ≤ (t25.2.getD (Int.toNat t27) 0)) then
 bif decide ((t25.2.getD (Int.toNat t27) 0) < (out.2.length : Int)) then
(Fa0 next from_ (out.1, (out.2.set (Int.toNat (t25.2.getD (Int.toNat t27) 0)) 0)) t25 t26 (IntKind.i64.wrap (t27 + 1))).bind fun r => some r
else none
else none
else none
else none
else 
 some (out.1, out.2) := tL F9K
theorem F9rE (next out row_) : F9r next out row_ =
 bif decide ((row_.2.length : Int) > 0) then
 bif decide (0 < (row_.2.length : Int)) then
 bif decide (1 ≤ (row_.2.length : Int)) then
 bif decide (0 ≤ (row_.2.getD 0 0)) then
 bif decide ((row_.2.getD 0 0) < (next.2.length : Int)) then
(F50 next (out.1, out.2) (row_.1, ((row_.2.take row_.2.length).drop 1)) (row_.2.getD 0 0) (next.2.getD (Int.toNat (row_.2.getD 0 0)) (true, [])) (((next.2.getD (Int.toNat (row_.2.getD 0 0)) (true, [])).2).length : Int) 0).bind fun r =>
(F9r next (r.1.1, r.1.2) (r.2.1, r.2.2)).bind fun r => some r
else none
else none
else none
else none
else 
 some (out.1, out.2) := tL F9K
theorem F50E (next out row_ k_ t48 t49 t50) : F50 next out row_ k_ t48 t49 t50 =
 bif decide (t50 < t49) then
 bif decide (0 ≤ t50) then
 bif decide (t50 < (t48.2.length : Int)) then
 bif decide (0 ≤ (t48.2.getD (Int.toNat t50) 0)) then
 bif decide ((t48.2.getD (Int.toNat t50) 0) < (out.2.length : Int)) then
 bif decide ((out.2.getD (Int.toNat (t48.2.getD (Int.toNat t50) 0)) 0) < 0) then
 bif decide (0 ≤ k_) then
 bif decide (k_ < (out.2.length : Int)) then
 bif decide (0 ≤ (t48.2.getD (Int.toNat t50) 0)) then
 bif decide ((t48.2.getD (Int.toNat t50) 0) < (out.2.length : Int)) then
 bif decide (row_.2.length + [(t48.2.getD (Int.toNat t50) 0)].length ≤ lim) then
(F50 next (out.1, (out.2.set (Int.toNat (t48.2.getD (Int.toNat t50) 0)) (IntKind.i64.wrap ((out.2.getD (Int.toNat k_) 0) + 1)))) ((row_.1 && false), (row_.2 ++ [(t48.2.getD (Int.toNat t50) 0)])) k_ t48 t49 (IntKind.i64.wrap (t50 + 1))).bind fun r => some r
else none
else none
else none
else none
else none
else 
(F50 next (out.1, out.2) (row_.1, row_.2) k_ t48 t49 (IntKind.i64.wrap (t50 + 1))).bind fun r => some r
else none
else none
else none
else none
else 
 some ((out.1, out.2), (row_.1, row_.2)) := tL F9K
theorem F9E (next from_) : F9 next from_ =
 bif decide (0 ≤ (next.2.length : Int)) then
 bif decide ((next.2.length : Int) ≤ lim) then
 bif decide ((next.2.length : Int) ≤ (next.2.length : Int)) then
 bif decide ((next.2.length : Int) ≤ lim) then
(F80 next from_ (false, (List.replicate (Int.toNat (next.2.length : Int)) (0 : Int))) ((List.replicate (Int.toNat (next.2.length : Int)) (0 : Int)).length : Int) 0).bind fun r =>
(Fa0 next from_ (r.1, r.2) from_ (from_.2.length : Int) 0).bind fun r1 =>
(F61 from_).bind fun r2 =>
(F9r next (r1.1, r1.2) (r2.1, r2.2)).bind fun r3 =>
 some (r3.1, r3.2)
else none
else none
else none
else none := tC
theorem F4fE (next far best t19 t20 t21) : F4f next far best t19 t20 t21 =
 bif decide (t21 < t20) then
 bif decide (0 ≤ t21) then
 bif decide (t21 < (t19.2.length : Int)) then
 bif decide (0 ≤ (t19.2.getD (Int.toNat t21) 0)) then
 bif decide ((t19.2.getD (Int.toNat t21) 0) < (far.2.length : Int)) then
 bif decide ((far.2.getD (Int.toNat (t19.2.getD (Int.toNat t21) 0)) 0) ≥ 0) then
 bif decide (best < 0) then
(F4f next far (t19.2.getD (Int.toNat t21) 0) t19 t20 (IntKind.i64.wrap (t21 + 1))).bind fun r => some r
else 
 bif decide (0 ≤ (t19.2.getD (Int.toNat t21) 0)) then
 bif decide ((t19.2.getD (Int.toNat t21) 0) < (far.2.length : Int)) then
 bif decide (0 ≤ best) then
 bif decide (best < (far.2.length : Int)) then
 bif decide ((far.2.getD (Int.toNat (t19.2.getD (Int.toNat t21) 0)) 0) < (far.2.getD (Int.toNat best) 0)) then
(F4f next far (t19.2.getD (Int.toNat t21) 0) t19 t20 (IntKind.i64.wrap (t21 + 1))).bind fun r => some r
else 
(F4f next far best t19 t20 (IntKind.i64.wrap (t21 + 1))).bind fun r => some r
else none
else none
else none
else none
else 
(F4f next far best t19 t20 (IntKind.i64.wrap (t21 + 1))).bind fun r => some r
else none
else none
else none
else none
else 
 some best := tL FgK
theorem F7sE (next far best out) : F7s next far best out =
 bif decide (0 ≤ best) then
 bif decide (best < (far.2.length : Int)) then
 bif decide ((far.2.getD (Int.toNat best) 0) > 0) then
 bif decide (0 ≤ best) then
 bif decide (best < (next.2.length : Int)) then
(F9g next far best (out.1, out.2) (next.2.getD (Int.toNat best) (true, [])) (((next.2.getD (Int.toNat best) (true, [])).2).length : Int) 0).bind fun r =>
 bif decide (out.2.length + [r].length ≤ lim) then
(F7s next far r ((out.1 && false), (out.2 ++ [r]))).bind fun r => some r
else none
else none
else none
else 
 some (out.1, out.2)
else none
else none := tL FgK
theorem F9gE (next far best out t59 t60 t61) : F9g next far best out t59 t60 t61 =
 bif decide (t61 < t60) then
 bif decide (0 ≤ t61) then
 bif decide (t61 < (t59.2.length : Int)) then
 bif decide (0 ≤ (t59.2.getD (Int.toNat t61) 0)) then
 bif decide ((t59.2.getD (Int.toNat t61) 0) < (far.2.length : Int)) then
 bif decide (0 ≤ best) then
 bif decide (best < (far.2.length : Int)) then
 bif ((far.2.getD (Int.toNat (t59.2.getD (Int.toNat t61) 0)) 0) == (IntKind.i64.wrap ((far.2.getD (Int.toNat best) 0) - 1))) then
 some (t59.2.getD (Int.toNat t61) 0)
else 
(F9g next far best out t59 t60 (IntKind.i64.wrap (t61 + 1))).bind fun r => some r
else none
else none
else none
else none
else none
else none
else 
 some best := tL FgK
theorem FgE (next from_ to) : Fg next from_ to =
(F12 next).bind fun r =>
(F9 (r.1, r.2) to).bind fun r1 =>
(F4f next (r1.1, r1.2) (-1) from_ (from_.2.length : Int) 0).bind fun r2 =>
 bif decide (r2 < 0) then
 some ((true, []), false)
else 
(F7s next (r1.1, r1.2) r2 (false, [r2])).bind fun r3 =>
 some ((r3.1, r3.2), true) := tC
theorem F6aE (p v bad) : F6a p v bad =
(F1d p p.2.2.1).bind fun r =>
(F1h v (r.1, r.2)).bind fun r1 =>
(F2h p v).bind fun r2 =>
(F1d p bad).bind fun r3 =>
(F1h v (r3.1, r3.2)).bind fun r4 =>
(Fg (r2.1, r2.2) r1 r4).bind fun r5 =>
 some ((r5.1.1, r5.1.2), r5.2) := tC
theorem F7jE (p v out some_ t18 t19 t20) : F7j p v out some_ t18 t19 t20 =
 bif decide (t20 < t19) then
 bif decide (0 ≤ t20) then
 bif decide (t20 < (t18.2.length : Int)) then
(F63 p v (out.1, out.2) (t18.2.getD (Int.toNat t20) 0) (true, []) t18 t19 t20 some_ (some_.2.length : Int) 0).bind fun r =>
 bif decide (out.2.length + [(r.1, r.2)].length ≤ lim) then
(Fz p (r.1, r.2)).bind fun r1 =>
(F7j p v ((out.1 && false), (out.2 ++ [(r.1, r.2)])) r1 t18 t19 (IntKind.i64.wrap (t20 + 1))).bind fun r => some r
else none
else none
else none
else 
 some (out.1, out.2) := tL FuK
theorem F63E (p v out class_ in_ t18 t19 t20 t24 t25 t26) : F63 p v out class_ in_ t18 t19 t20 t24 t25 t26 =
 bif decide (t26 < t25) then
 bif decide (0 ≤ t26) then
 bif decide (t26 < (t24.2.length : Int)) then
 bif decide (0 ≤ (t24.2.getD (Int.toNat t26) 0)) then
 bif decide ((t24.2.getD (Int.toNat t26) 0) < (v.2.length : Int)) then
 bif ((v.2.getD (Int.toNat (t24.2.getD (Int.toNat t26) 0)) 0) == class_) then
 bif decide (in_.2.length + [(t24.2.getD (Int.toNat t26) 0)].length ≤ lim) then
(F63 p v out class_ ((in_.1 && false), (in_.2 ++ [(t24.2.getD (Int.toNat t26) 0)])) t18 t19 t20 t24 t25 (IntKind.i64.wrap (t26 + 1))).bind fun r => some r
else none
else 
(F63 p v out class_ (in_.1, in_.2) t18 t19 t20 t24 t25 (IntKind.i64.wrap (t26 + 1))).bind fun r => some r
else none
else none
else none
else none
else 
 some (in_.1, in_.2) := tL FuK
theorem FuE (p v path) : Fu p v path =
(F1d p p.2.2.1).bind fun r =>
(F7j p v (true, []) (r.1, r.2) path (path.2.length : Int) 0).bind fun r1 =>
 some (r1.1, r1.2) := tC
theorem F9yE (t5 t6 t7) : F9y t5 t6 t7 =
 bif decide (t7 < t6) then
 bif decide (0 ≤ t7) then
 bif decide (t7 < (t5.2.length : Int)) then
 bif ((((t5.2.getD (Int.toNat t7) (true, [])).2).length : Int) == 0) then
 some (.inl t7)
else 
(F9y t5 t6 (IntKind.i64.wrap (t7 + 1))).bind fun r => some r
else none
else none
else 
 some (.inr ()) := tL F2fK
theorem F2fE (along) : F2f along =
(F9y along (along.2.length : Int) 0).bind fun r =>
 match r with
| .inl y =>
 some y
| .inr z =>
 some (-1) := tC
theorem F9lE (b t7 t8 t9) : F9l b t7 t8 t9 =
 bif decide (t9 < t8) then
 bif decide (0 ≤ t9) then
 bif decide (t9 < (t7.2.length : Int)) then
(F1f b (t7.2.getD (Int.toNat t9) 0)).bind fun r =>
 bif r then
 some (.inl true)
else 
(F9l b t7 t8 (IntKind.i64.wrap (t9 + 1))).bind fun r => some r
else none
else none
else 
 some (.inr ()) := tL F1iK
theorem F1iE (a b) : F1i a b =
(F9l b a (a.2.length : Int) 0).bind fun r =>
 match r with
| .inl y =>
 some y
| .inr z =>
 some false := tC
theorem F86E (along p can k_) : F86 along p can k_ =
 bif decide (k_ ≥ 0) then
 bif decide (0 ≤ k_) then
 bif decide (k_ < (along.2.length : Int)) then
(F7c along p (can.1, can.2) k_ (true, []) (along.2.getD (Int.toNat k_) (true, [])) (((along.2.getD (Int.toNat k_) (true, [])).2).length : Int) 0).bind fun r =>
 bif decide (0 ≤ k_) then
 bif decide (k_ < (can.2.length : Int)) then
(F86 along p (can.1, (can.2.set (Int.toNat k_) (r.1, r.2))) (IntKind.i64.wrap (k_ - 1))).bind fun r => some r
else none
else none
else none
else none
else 
 some (can.1, can.2) := tL FaK
theorem F7cE (along p can k_ in_ t27 t28 t29) : F7c along p can k_ in_ t27 t28 t29 =
 bif decide (t29 < t28) then
 bif decide (0 ≤ t29) then
 bif decide (t29 < (t27.2.length : Int)) then
(F1o p (t27.2.getD (Int.toNat t29) 0)).bind fun r =>
 bif decide (0 ≤ (IntKind.i64.wrap (k_ + 1))) then
 bif decide ((IntKind.i64.wrap (k_ + 1)) < (can.2.length : Int)) then
(F1i r (can.2.getD (Int.toNat (IntKind.i64.wrap (k_ + 1))) (true, []))).bind fun r1 =>
 bif r1 then
 bif decide (in_.2.length + [(t27.2.getD (Int.toNat t29) 0)].length ≤ lim) then
(F7c along p can k_ ((in_.1 && false), (in_.2 ++ [(t27.2.getD (Int.toNat t29) 0)])) t27 t28 (IntKind.i64.wrap (t29 + 1))).bind fun r => some r
else none
else 
(F7c along p can k_ (in_.1, in_.2) t27 t28 (IntKind.i64.wrap (t29 + 1))).bind fun r => some r
else none
else none
else none
else none
else 
 some (in_.1, in_.2) := tL FaK
theorem F8tE (p can out k_) : F8t p can out k_ =
 bif decide (k_ < (can.2.length : Int)) then
 bif decide (0 ≤ (IntKind.i64.wrap (k_ - 1))) then
 bif decide ((IntKind.i64.wrap (k_ - 1)) < (out.2.length : Int)) then
(F1o p (out.2.getD (Int.toNat (IntKind.i64.wrap (k_ - 1))) 0)).bind fun r =>
(F7t p can (out.1, out.2) k_ r (r.2.length : Int) 0).bind fun r1 =>
(F8t p can (r1.1, r1.2) (IntKind.i64.wrap (k_ + 1))).bind fun r => some r
else none
else none
else 
 some (out.1, out.2) := tL FaK
theorem F7tE (p can out k_ t69 t70 t71) : F7t p can out k_ t69 t70 t71 =
 bif decide (t71 < t70) then
 bif decide (0 ≤ t71) then
 bif decide (t71 < (t69.2.length : Int)) then
 bif decide (0 ≤ k_) then
 bif decide (k_ < (can.2.length : Int)) then
(F1f (can.2.getD (Int.toNat k_) (true, [])) (t69.2.getD (Int.toNat t71) 0)).bind fun r =>
 bif r then
 bif decide (out.2.length + [(t69.2.getD (Int.toNat t71) 0)].length ≤ lim) then
 some ((out.1 && false), (out.2 ++ [(t69.2.getD (Int.toNat t71) 0)]))
else none
else 
(F7t p can (out.1, out.2) k_ t69 t70 (IntKind.i64.wrap (t71 + 1))).bind fun r => some r
else none
else none
else none
else none
else 
 some (out.1, out.2) := tL FaK
theorem FaE (p along) : Fa p along =
 bif decide (([] : List (Bool × List Int)).length + along.2.length ≤ lim) then
(F86 along p (false, ([] ++ along.2)) (IntKind.i64.wrap ((([] ++ along.2).length : Int) - 2))).bind fun r =>
 bif decide (0 < (r.2.length : Int)) then
 bif decide (0 < (((r.2.getD 0 (true, [])).2).length : Int)) then
(F8t p (r.1, r.2) (false, [(((r.2.getD 0 (true, [])).2).getD 0 0)]) 1).bind fun r1 =>
 some (r1.1, r1.2)
else none
else none
else none := tC
theorem F95E (a b t12 t13) : F95 a b t12 t13 =
 bif decide (t13 < t12) then
 bif decide (0 ≤ t13) then
 bif decide (t13 < (a.2.length : Int)) then
 bif decide (0 ≤ t13) then
 bif decide (t13 < (b.2.length : Int)) then
 bif !((((a.2.getD (Int.toNat t13) (0, 0)).1) == ((b.2.getD (Int.toNat t13) (0, 0)).1)) && (((a.2.getD (Int.toNat t13) (0, 0)).2) == ((b.2.getD (Int.toNat t13) (0, 0)).2))) then
 some (.inl false)
else 
(F95 a b t12 (IntKind.i64.wrap (t13 + 1))).bind fun r => some r
else none
else none
else none
else none
else 
 some (.inr ()) := tL F2uK
theorem F2uE (a b) : F2u a b =
 bif ((a.2.length : Int) != (b.2.length : Int)) then
 some false
else 
(F95 a b (a.2.length : Int) 0).bind fun r =>
 match r with
| .inl y =>
 some y
| .inr z =>
 some true := tC
theorem FahE (l t t8 t9) : Fah l t t8 t9 =
 bif decide (t9 < t8) then
 bif decide (0 ≤ t9) then
 bif decide (t9 < (l.2.length : Int)) then
(F2u ((l.2.getD (Int.toNat t9) (true, [])).1, (l.2.getD (Int.toNat t9) (true, [])).2) t).bind fun r =>
 bif r then
 some (.inl (l.1, (l.2.set (Int.toNat t9) ((l.2.getD (Int.toNat t9) (true, [])).1, (l.2.getD (Int.toNat t9) (true, [])).2))))
else 
(Fah (l.1, (l.2.set (Int.toNat t9) ((l.2.getD (Int.toNat t9) (true, [])).1, (l.2.getD (Int.toNat t9) (true, [])).2))) t t8 (IntKind.i64.wrap (t9 + 1))).bind fun r => some r
else none
else none
else 
 some (.inr (l.1, l.2)) := tL F2eK
theorem F2eE (l t) : F2e l t =
(Fah (l.1, l.2) t (l.2.length : Int) 0).bind fun r =>
 match r with
| .inl y =>
 some (y.1, y.2)
| .inr z =>
 bif ((z.2.length : Int) == 40) then
 some (z.1, z.2)
else 
 bif decide (([] : List DNode).length + t.2.length ≤ lim) then
 bif decide (z.2.length + [(false, ([] ++ t.2))].length ≤ lim) then
 some ((z.1 && false), (z.2 ++ [(false, ([] ++ t.2))]))
else none
else none := tC
theorem F4xE (wide vars t) : F4x wide vars t =
(Fr wide vars t).bind fun r =>
 some (decide (r > 0)) := tC
theorem F5nE (wide vars t) : F5n wide vars t =
(F4x wide vars t).bind fun r =>
 bif !r then
 some ((true, []), false)
else 
 some (t, true) := tC
theorem F9kE (wide vars t by_ t26 t27 t28) : F9k wide vars t by_ t26 t27 t28 =
 bif decide (t28 < t27) then
 bif decide (0 ≤ t28) then
 bif decide (t28 < (t26.2.length : Int)) then
(Fr wide vars (t26.2.getD (Int.toNat t28) (true, []))).bind fun r =>
 bif (r != 1) then
 some (.inl false)
else 
(F9k wide vars t by_ t26 t27 (IntKind.i64.wrap (t28 + 1))).bind fun r => some r
else none
else none
else 
 some (.inr ()) := tL FxK
theorem F5cE (wide vars by_ out t38 t39 t40) : F5c wide vars by_ out t38 t39 t40 =
 bif decide (t40 < t39) then
 bif decide (0 ≤ t40) then
 bif decide (t40 < (t38.2.length : Int)) then
 bif (((t38.2.getD (Int.toNat t40) (0, 0)).1) == 2) then
 bif decide (0 ≤ ((t38.2.getD (Int.toNat t40) (0, 0)).2)) then
 bif decide (((t38.2.getD (Int.toNat t40) (0, 0)).2) < (by_.2.length : Int)) then
 bif decide (out.2.length + ((by_.2.getD (Int.toNat ((t38.2.getD (Int.toNat t40) (0, 0)).2)) (true, [])).2 : List DNode).length ≤ lim) then
(F5c wide vars by_ ((out.1 && ((by_.2.getD (Int.toNat ((t38.2.getD (Int.toNat t40) (0, 0)).2)) (true, [])).2).isEmpty), (out.2 ++ ((by_.2.getD (Int.toNat ((t38.2.getD (Int.toNat t40) (0, 0)).2)) (true, [])).2))) t38 t39 (IntKind.i64.wrap (t40 + 1))).bind fun r => some r
else none
else none
else none
else 
 bif decide (out.2.length + [(t38.2.getD (Int.toNat t40) (0, 0))].length ≤ lim) then
(F5c wide vars by_ ((out.1 && false), (out.2 ++ [(t38.2.getD (Int.toNat t40) (0, 0))])) t38 t39 (IntKind.i64.wrap (t40 + 1))).bind fun r => some r
else none
else none
else none
else 
 some (out.1, out.2) := tL FxK
theorem FxE (wide vars t by_) : Fx wide vars t by_ =
(F4x wide vars t).bind fun r =>
 bif !r then
 some ((true, []), false)
else 
 bif ((by_.2.length : Int) != vars) then
 some ((true, []), false)
else 
(F9k wide vars t by_ by_ (by_.2.length : Int) 0).bind fun r1 =>
 match r1 with
| .inl y =>
 some ((true, []), y)
| .inr z =>
(F5c wide vars by_ (true, []) t (t.2.length : Int) 0).bind fun r2 =>
(F5n wide vars (r2.1, r2.2)).bind fun r3 =>
 some (r3.1, r3.2) := tC
theorem F7gE (k_ t p by_ v) : F7g k_ t p by_ v =
 bif decide (v < p.2.1) then
 bif decide (by_.2.length + [(false, [(2, IntKind.u64.wrap v)])].length ≤ lim) then
(F7g k_ t p ((by_.1 && false), (by_.2 ++ [(false, [(2, IntKind.u64.wrap v)])])) (IntKind.i64.wrap (v + 1))).bind fun r => some r
else none
else 
 some (by_.1, by_.2) := tL F15K
theorem FaeE (t p by_ t30 t31 t32) : Fae t p by_ t30 t31 t32 =
 bif decide (t32 < t31) then
 bif decide (0 ≤ t32) then
 bif decide (t32 < (t30.2.length : Int)) then
 bif decide (0 ≤ ((t30.2.getD (Int.toNat t32) (0, (true, []))).1)) then
 bif decide (((t30.2.getD (Int.toNat t32) (0, (true, []))).1) < (by_.2.length : Int)) then
(Fae t p (by_.1, (by_.2.set (Int.toNat ((t30.2.getD (Int.toNat t32) (0, (true, []))).1)) ((t30.2.getD (Int.toNat t32) (0, (true, []))).2))) t30 t31 (IntKind.i64.wrap (t32 + 1))).bind fun r => some r
else none
else none
else none
else none
else 
 some (by_.1, by_.2) := tL F15K
theorem F15E (p k_ t) : F15 p k_ t =
(F7g k_ t p (true, []) 0).bind fun r =>
 bif decide (0 ≤ k_) then
 bif decide (k_ < (p.2.2.2.2.length : Int)) then
(Fae t p (r.1, r.2) ((p.2.2.2.2.getD (Int.toNat k_) ((true, []), (true, []))).2) ((((p.2.2.2.2.getD (Int.toNat k_) ((true, []), (true, []))).2).2).length : Int) 0).bind fun r1 =>
(Fx p.1 p.2.1 t (r1.1, r1.2)).bind fun r2 =>
 some (r2.1, r2.2)
else none
else none := tC
theorem F8cE (preds p out t14 t15 t16) : F8c preds p out t14 t15 t16 =
 bif decide (t16 < t15) then
 bif decide (0 ≤ t16) then
 bif decide (t16 < (t14.2.length : Int)) then
(F2e (out.1, out.2) ((t14.2.getD (Int.toNat t16) ((true, []), (true, []))).1)).bind fun r =>
(F8c preds p (r.1, r.2) t14 t15 (IntKind.i64.wrap (t16 + 1))).bind fun r => some r
else none
else none
else 
 some (out.1, out.2) := tL FkK
theorem F91E (p out t25 t26 t27) : F91 p out t25 t26 t27 =
 bif decide (t27 < t26) then
 bif decide (0 ≤ t27) then
 bif decide (t27 < (t25.2.length : Int)) then
(F6t p (out.1, out.2) (t25.2.getD (Int.toNat t27) (true, [])) t25 t26 t27 (p.2.2.2.2.length : Int) 0).bind fun r =>
(F91 p (r.1, r.2) t25 t26 (IntKind.i64.wrap (t27 + 1))).bind fun r => some r
else none
else none
else 
 some (out.1, out.2) := tL FkK
theorem F6tE (p out t t25 t26 t27 t33 t34) : F6t p out t t25 t26 t27 t33 t34 =
 bif decide (t34 < t33) then
(F15 p t34 t).bind fun r =>
 bif r.2 then
(F2e (out.1, out.2) r.1).bind fun r1 =>
(F6t p (r1.1, r1.2) t t25 t26 t27 t33 (IntKind.i64.wrap (t34 + 1))).bind fun r => some r
else 
(F6t p (out.1, out.2) t t25 t26 t27 t33 (IntKind.i64.wrap (t34 + 1))).bind fun r => some r
else 
 some (out.1, out.2) := tL FkK
theorem FkE (p preds) : Fk p preds =
(F8c preds p (true, []) p.2.2.2 (p.2.2.2.2.length : Int) 0).bind fun r =>
(F91 p (r.1, r.2) preds (preds.2.length : Int) 0).bind fun r1 =>
 some (r1.1, r1.2) := tC
theorem F5uE (to p v out t14 t15 t16) : F5u to p v out t14 t15 t16 =
 bif decide (t16 < t15) then
 bif decide (0 ≤ t16) then
 bif decide (t16 < (t14.2.length : Int)) then
(F1o p (t14.2.getD (Int.toNat t16) 0)).bind fun r =>
(F1h v r).bind fun r1 =>
(F1f r1 to).bind fun r2 =>
 bif r2 then
 bif decide (out.2.length + [(t14.2.getD (Int.toNat t16) 0)].length ≤ lim) then
(F5u to p v ((out.1 && false), (out.2 ++ [(t14.2.getD (Int.toNat t16) 0)])) t14 t15 (IntKind.i64.wrap (t16 + 1))).bind fun r => some r
else none
else 
(F5u to p v (out.1, out.2) t14 t15 (IntKind.i64.wrap (t16 + 1))).bind fun r => some r
else none
else none
else 
 some (out.1, out.2) := tL F27K
theorem F27E (p v class_ to) : F27 p v class_ to =
(F1w v class_).bind fun r =>
(F5u to p v (true, []) (r.1, r.2) (r.2.length : Int) 0).bind fun r1 =>
 some (r1.1, r1.2) := tC
theorem FafE (in_ t7 t8 t9) : Faf in_ t7 t8 t9 =
 bif decide (t9 < t8) then
 bif decide (0 ≤ t9) then
 bif decide (t9 < (t7.2.length : Int)) then
(F1f in_ (t7.2.getD (Int.toNat t9) 0)).bind fun r =>
 bif !r then
 some (.inl false)
else 
(Faf in_ t7 t8 (IntKind.i64.wrap (t9 + 1))).bind fun r => some r
else none
else none
else 
 some (.inr ()) := tL F1zK
theorem F1zE (some_ in_) : F1z some_ in_ =
(Faf in_ some_ (some_.2.length : Int) 0).bind fun r =>
 match r with
| .inl y =>
 some y
| .inr z =>
 some true := tC
theorem F6fE (p t a b) : F6f p t a b =
(F1d p t).bind fun r =>
(F1z a (r.1, r.2)).bind fun r1 =>
 bif r1 then
(F1i b (r.1, r.2)).bind fun r2 =>
 bif !r2 then
 some true
else 
(F1i a (r.1, r.2)).bind fun r3 =>
 bif !r3 then
(F1z b (r.1, r.2)).bind fun r4 =>
 some r4
else 
 some false
else 
(F1i a (r.1, r.2)).bind fun r5 =>
 bif !r5 then
(F1z b (r.1, r.2)).bind fun r6 =>
 some r6
else 
 some false := tC
theorem F8rE (a b p t11 t12 t13) : F8r a b p t11 t12 t13 =
 bif decide (t13 < t12) then
 bif decide (0 ≤ t13) then
 bif decide (t13 < (t11.2.length : Int)) then
(F6f p (t11.2.getD (Int.toNat t13) (true, [])) a b).bind fun r =>
 bif r then
 some (.inl t13)
else 
(F8r a b p t11 t12 (IntKind.i64.wrap (t13 + 1))).bind fun r => some r
else none
else none
else 
 some (.inr ()) := tL F3dK
theorem F3dE (p terms a b) : F3d p terms a b =
(F8r a b p terms (terms.2.length : Int) 0).bind fun r =>
 match r with
| .inl y =>
 some y
| .inr z =>
 some (-1) := tC
theorem F5iE (p v preds path) : F5i p v preds path =
(Fu p v path).bind fun r =>
(F2f (r.1, r.2)).bind fun r1 =>
(Fk p preds).bind fun r2 =>
 bif decide (0 ≤ (IntKind.i64.wrap (r1 - 1))) then
 bif decide ((IntKind.i64.wrap (r1 - 1)) < (r.2.length : Int)) then
 bif decide (0 ≤ (IntKind.i64.wrap (r1 - 1))) then
 bif decide ((IntKind.i64.wrap (r1 - 1)) < (path.2.length : Int)) then
 bif decide (0 ≤ r1) then
 bif decide (r1 < (path.2.length : Int)) then
(F27 p v (path.2.getD (Int.toNat (IntKind.i64.wrap (r1 - 1))) 0) (path.2.getD (Int.toNat r1) 0)).bind fun r3 =>
(F3d p (r2.1, r2.2) (r.2.getD (Int.toNat (IntKind.i64.wrap (r1 - 1))) (true, [])) (r3.1, r3.2)).bind fun r4 =>
 bif decide (r4 < 0) then
 bif decide (0 ≤ (IntKind.i64.wrap (r1 - 1))) then
 bif decide ((IntKind.i64.wrap (r1 - 1)) < (r.2.length : Int)) then
(F1r v (r.2.getD (Int.toNat (IntKind.i64.wrap (r1 - 1))) (true, []))).bind fun r5 =>
 some ((r5.1, r5.2), (-1))
else none
else none
else 
 bif decide (0 ≤ r4) then
 bif decide (r4 < (r2.2.length : Int)) then
(F4j p v ((r2.2.getD (Int.toNat r4) (true, [])).1, (r2.2.getD (Int.toNat r4) (true, [])).2)).bind fun r6 =>
 some ((r6.1, r6.2), r4)
else none
else none
else none
else none
else none
else none
else none
else none := tC
theorem F4yE (preds bad budget p t8 v rounds) : F4y preds bad budget p t8 v rounds =
 bif decide (rounds ≤ budget) then
(F6a p v bad).bind fun r =>
 bif !r.2 then
 some (.inl (1, ((true, []), (rounds, (v, true)))))
else 
(Fu p v (r.1.1, r.1.2)).bind fun r1 =>
(F2f (r1.1, r1.2)).bind fun r2 =>
 bif decide (r2 < 0) then
(Fa p (r1.1, r1.2)).bind fun r3 =>
 some (.inl (2, ((r3.1, r3.2), (rounds, (v, true)))))
else 
 bif decide (rounds < budget) then
(F5i p v preds (r.1.1, r.1.2)).bind fun r4 =>
(F4y preds bad budget p t8 (r4.1.1, r4.1.2) (IntKind.i64.wrap (rounds + 1))).bind fun r => some r
else 
(F4y preds bad budget p t8 v (IntKind.i64.wrap (rounds + 1))).bind fun r => some r
else 
 some (.inr (t8, v)) := tL F20K
theorem F20E (p preds bad budget) : F20 p preds bad budget =
(F5b p preds bad budget).bind fun r =>
 bif !r then
 some (0, ((true, []), ((0, (true, [])), false)))
else 
(F32 p preds).bind fun r1 =>
(F4j p (r1.1, r1.2) bad).bind fun r2 =>
(F4y preds bad budget p (0, ((true, []), (0, (true, [])))) (r2.1, r2.2) 0).bind fun r3 =>
 match r3 with
| .inl y =>
 some (y.1, ((y.2.1.1, y.2.1.2), ((y.2.2.1, y.2.2.2.1), y.2.2.2.2)))
| .inr z =>
 some (3, ((true, []), ((budget, z.2), true))) := tC
theorem F65E (out t10 t11 t12) : F65 out t10 t11 t12 =
 bif decide (t12 < t11) then
 bif decide (0 ≤ t12) then
 bif decide (t12 < (t10.2.length : Int)) then
 bif decide ((t10.2.getD (Int.toNat t12) 0) ≥ 0) then
 bif decide (out.2.length + [t12].length ≤ lim) then
(F65 ((out.1 && false), (out.2 ++ [t12])) t10 t11 (IntKind.i64.wrap (t12 + 1))).bind fun r => some r
else none
else 
(F65 (out.1, out.2) t10 t11 (IntKind.i64.wrap (t12 + 1))).bind fun r => some r
else none
else none
else 
 some (out.1, out.2) := tL F24K
theorem F24E (next from_) : F24 next from_ =
(F9 next from_).bind fun r =>
(F65 (true, []) (r.1, r.2) (r.2.length : Int) 0).bind fun r1 =>
 some (r1.1, r1.2) := tC
theorem F58E (p v) : F58 p v =
(F2h p v).bind fun r =>
(F1d p p.2.2.1).bind fun r1 =>
(F1h v (r1.1, r1.2)).bind fun r2 =>
(F24 (r.1, r.2) r2).bind fun r3 =>
 some (r3.1, r3.2) := tC
theorem F6qE (classes out t9 t10 t11) : F6q classes out t9 t10 t11 =
 bif decide (t11 < t10) then
 bif decide (0 ≤ t11) then
 bif decide (t11 < (t9.2.length : Int)) then
(F1f classes (t9.2.getD (Int.toNat t11) 0)).bind fun r =>
 bif r then
 bif decide (out.2.length + [t11].length ≤ lim) then
(F6q classes ((out.1 && false), (out.2 ++ [t11])) t9 t10 (IntKind.i64.wrap (t11 + 1))).bind fun r => some r
else none
else 
(F6q classes (out.1, out.2) t9 t10 (IntKind.i64.wrap (t11 + 1))).bind fun r => some r
else none
else none
else 
 some (out.1, out.2) := tL F23K
theorem F23E (v classes) : F23 v classes =
(F6q classes (true, []) v (v.2.length : Int) 0).bind fun r =>
 some (r.1, r.2) := tC
theorem F7bE (p preds bad budget) : F7b p preds bad budget =
(F20 p preds bad budget).bind fun r =>
 bif !r.2.2.2 then
 some ((true, []), false)
else 
 bif (r.1 != 1) then
 some ((true, []), false)
else 
(F58 p r.2.2.1.2).bind fun r1 =>
(F23 r.2.2.1.2 (r1.1, r1.2)).bind fun r2 =>
 some ((r2.1, r2.2), true) := tC
theorem F4iE (n) : F4i n =
 bif decide (n ≥ 1) then
 some (decide (n ≤ 64))
else 
 some false := tC
theorem F4uE (n) : F4u n =
 bif decide (n ≥ 1) then
 some (decide (n ≤ 4))
else 
 some false := tC
theorem F4vE (op) : F4v op =
 bif (op == 1) then
 some (0, (0, 1))
else 
 bif (op == 2) then
 some (0, (0, 1))
else 
 bif (op == 20) then
 some (0, (0, 2))
else 
 bif (op == 13) then
 some (1, (1, 1))
else 
 bif (op == 19) then
 some (1, (2, 2))
else 
 bif decide (op ≥ 3) then
 bif decide (op ≤ 12) then
 some (2, (1, 1))
else 
 bif decide (op ≥ 14) then
 bif decide (op ≤ 16) then
 some (2, (1, 2))
else 
 bif (op == 17) then
 some (2, (2, 2))
else 
 bif (op == 18) then
 some (2, (2, 2))
else 
 some (0, (0, 0))
else 
 bif (op == 17) then
 some (2, (2, 2))
else 
 bif (op == 18) then
 some (2, (2, 2))
else 
 some (0, (0, 0))
else 
 bif decide (op ≥ 14) then
 bif decide (op ≤ 16) then
 some (2, (1, 2))
else 
 bif (op == 17) then
 some (2, (2, 2))
else 
 bif (op == 18) then
 some (2, (2, 2))
else 
 some (0, (0, 0))
else 
 bif (op == 17) then
 some (2, (2, 2))
else 
 bif (op == 18) then
 some (2, (2, 2))
else 
 some (0, (0, 0)) := tC
theorem F0E (wide) : F0 wide =
 bif decide ((IntKind.i64.wrap (64 - wide)) < 0) then
 none
else 
 some (bShr .u64 18446744073709551615 (IntKind.i64.wrap (64 - wide))) := tC
theorem F4hE (wide a) : F4h wide a =
(F4i wide).bind fun r =>
 bif r then
(F0 wide).bind fun r1 =>
 some (decide (a ≤ r1))
else 
 some false := tC
theorem F5xE (wide vars x) : F5x wide vars x =
 bif (x.1 == 1) then
(F4h wide x.2).bind fun r =>
 some r
else 
 bif (x.1 == 2) then
 some (decide (x.2 < (IntKind.u64.wrap vars)))
else 
 bif (x.1 == 20) then
 some (decide (x.2 ≤ 1))
else 
 some (x.2 == 0) := tC
theorem F5aE (own a1) : F5a own a1 =
 some (own != a1) := tC
theorem Fa2E (s f t7 t8) : Fa2 s f t7 t8 =
 bif decide (t8 < t7) then
 bif decide (0 ≤ t8) then
 bif decide (t8 < (s.2.length : Int)) then
(F5a (s.2.getD (Int.toNat t8) 0) f.1).bind fun r =>
 bif r then
 some (.inl t8)
else 
(Fa2 s f t7 (IntKind.i64.wrap (t8 + 1))).bind fun r => some r
else none
else none
else 
 some (.inr ()) := tL F2rK
theorem F2rE (s f) : F2r s f =
(Fa2 s f (s.2.length : Int) 0).bind fun r =>
 match r with
| .inl y =>
 some y
| .inr z =>
 some (-1) := tC
theorem F6kE (s f) : F6k s f =
(F2r s f).bind fun r =>
 some (decide (r ≥ 0)) := tC
theorem F9tE (wide vars stack t33 t34 t35) : F9t wide vars stack t33 t34 t35 =
 bif decide (t35 < t34) then
 bif decide (0 ≤ t35) then
 bif decide (t35 < (t33.2.length : Int)) then
(F4v ((t33.2.getD (Int.toNat t35) (0, 0)).1)).bind fun r =>
 bif (r.2.2 == 0) then
 some (.inl false)
else 
(F5x wide vars (t33.2.getD (Int.toNat t35) (0, 0))).bind fun r1 =>
 bif !r1 then
 some (.inl false)
else 
 bif decide ((IntKind.i64.wrap ((stack.2.length : Int) - r.1)) < 0) then
 some (.inl false)
else 
 bif decide (0 ≤ (IntKind.i64.wrap ((stack.2.length : Int) - r.1))) then
 bif decide ((IntKind.i64.wrap ((stack.2.length : Int) - r.1)) ≤ (stack.2.length : Int)) then
(F6k (stack.1, ((stack.2.take stack.2.length).drop (Int.toNat (IntKind.i64.wrap ((stack.2.length : Int) - r.1))))) (r.2.1, ())).bind fun r2 =>
 bif r2 then
 some (.inl false)
else 
 bif decide (0 ≤ (IntKind.i64.wrap ((stack.2.length : Int) - r.1))) then
 bif decide ((IntKind.i64.wrap ((stack.2.length : Int) - r.1)) ≤ (stack.2.length : Int)) then
 bif decide (((stack.2.take (Int.toNat (IntKind.i64.wrap ((stack.2.length : Int) - r.1)))).drop 0).length + [r.2.2].length ≤ lim) then
(F9t wide vars ((stack.1 && false), (((stack.2.take (Int.toNat (IntKind.i64.wrap ((stack.2.length : Int) - r.1)))).drop 0) ++ [r.2.2])) t33 t34 (IntKind.i64.wrap (t35 + 1))).bind fun r => some r
else none
else none
else none
else none
else none
else none
else none
else 
 some (.inr (stack.1, stack.2)) := tL FsK
theorem FsE (wide vars t) : Fs wide vars t =
(F4i wide).bind fun r =>
 bif !r then
 some false
else 
(F4u vars).bind fun r1 =>
 bif !r1 then
 some false
else 
 bif decide ((t.2.length : Int) < 1) then
 some false
else 
 bif decide ((t.2.length : Int) > 48) then
 some false
else 
(F9t wide vars (false, []) t (t.2.length : Int) 0).bind fun r2 =>
 match r2 with
| .inl y =>
 some y
| .inr z =>
 some ((z.2.length : Int) == 1) := tC
theorem F60E (t) : F60 t =
 bif decide (0 ≤ (IntKind.i64.wrap ((t.2.length : Int) - 1))) then
 bif decide ((IntKind.i64.wrap ((t.2.length : Int) - 1)) < (t.2.length : Int)) then
(F4v ((t.2.getD (Int.toNat (IntKind.i64.wrap ((t.2.length : Int) - 1))) (0, 0)).1)).bind fun r =>
 some r.2.2
else none
else none := tC
theorem F4cE (wide vars t kind) : F4c wide vars t kind =
(Fs wide vars t).bind fun r =>
 bif r then
(F60 t).bind fun r1 =>
 some (r1 == kind)
else 
 some false := tC
theorem F49E (p t) : F49 p t =
(F4c p.1 p.2.1 t 2).bind fun r =>
 some r := tC
theorem F6jE (p c t13 t14 t15) : F6j p c t13 t14 t15 =
 bif decide (t15 < t14) then
 bif decide (0 ≤ t15) then
 bif decide (t15 < (t13.2.length : Int)) then
 bif decide (((t13.2.getD (Int.toNat t15) (0, (true, []))).1) < 0) then
 some (.inl false)
else 
 bif decide (((t13.2.getD (Int.toNat t15) (0, (true, []))).1) ≥ p.2.1) then
 some (.inl false)
else 
 bif decide (t15 > 0) then
 bif decide (0 ≤ (IntKind.i64.wrap (t15 - 1))) then
 bif decide ((IntKind.i64.wrap (t15 - 1)) < (c.2.2.length : Int)) then
 bif decide (((c.2.2.getD (Int.toNat (IntKind.i64.wrap (t15 - 1))) (0, (true, []))).1) ≥ ((t13.2.getD (Int.toNat t15) (0, (true, []))).1)) then
 some (.inl false)
else 
(F4c p.1 p.2.1 ((t13.2.getD (Int.toNat t15) (0, (true, []))).2) 1).bind fun r =>
 bif !r then
 some (.inl false)
else 
(F6j p c t13 t14 (IntKind.i64.wrap (t15 + 1))).bind fun r => some r
else none
else none
else 
(F4c p.1 p.2.1 ((t13.2.getD (Int.toNat t15) (0, (true, []))).2) 1).bind fun r1 =>
 bif !r1 then
 some (.inl false)
else 
(F6j p c t13 t14 (IntKind.i64.wrap (t15 + 1))).bind fun r => some r
else none
else none
else 
 some (.inr ()) := tL F28K
theorem F28E (p c) : F28 p c =
(F49 p c.1).bind fun r =>
 bif !r then
 some false
else 
(F6j p c c.2 (c.2.2.length : Int) 0).bind fun r1 =>
 match r1 with
| .inl y =>
 some y
| .inr z =>
 some true := tC
theorem F5sE (c a1) : F5s c a1 =
(F28 a1 c).bind fun r =>
 some (!r) := tC
theorem F8hE (s f t7 t8) : F8h s f t7 t8 =
 bif decide (t8 < t7) then
 bif decide (0 ≤ t8) then
 bif decide (t8 < (s.2.length : Int)) then
(F5s (s.2.getD (Int.toNat t8) ((true, []), (true, []))) f.1).bind fun r =>
 bif r then
 some (.inl t8)
else 
(F8h s f t7 (IntKind.i64.wrap (t8 + 1))).bind fun r => some r
else none
else none
else 
 some (.inr ()) := tL F2mK
theorem F2mE (s f) : F2m s f =
(F8h s f (s.2.length : Int) 0).bind fun r =>
 match r with
| .inl y =>
 some y
| .inr z =>
 some (-1) := tC
theorem F6xE (s f) : F6x s f =
(F2m s f).bind fun r =>
 some (decide (r ≥ 0)) := tC
theorem F41E (p) : F41 p =
(F4i p.1).bind fun r =>
 bif !r then
 some false
else 
(F4u p.2.1).bind fun r1 =>
 bif !r1 then
 some false
else 
(F49 p p.2.2.1).bind fun r2 =>
 bif !r2 then
 some false
else 
 bif decide ((p.2.2.2.2.length : Int) < 1) then
 some false
else 
 bif decide ((p.2.2.2.2.length : Int) > 6) then
 some false
else 
(F6x p.2.2.2 (p, ())).bind fun r3 =>
 some (!r3) := tC
theorem F4mE (p) : F4m p =
(F41 p).bind fun r =>
 bif r then
 some (decide ((IntKind.i64.wrap (p.1 * p.2.1)) ≤ 5))
else 
 some false := tC
theorem F6bE (t a1) : F6b t a1 =
(F49 a1 t).bind fun r =>
 some (!r) := tC
theorem Fa4E (s f t7 t8) : Fa4 s f t7 t8 =
 bif decide (t8 < t7) then
 bif decide (0 ≤ t8) then
 bif decide (t8 < (s.2.length : Int)) then
(F6b (s.2.getD (Int.toNat t8) (true, [])) f.1).bind fun r =>
 bif r then
 some (.inl t8)
else 
(Fa4 s f t7 (IntKind.i64.wrap (t8 + 1))).bind fun r => some r
else none
else none
else 
 some (.inr ()) := tL F2wK
theorem F2wE (s f) : F2w s f =
(Fa4 s f (s.2.length : Int) 0).bind fun r =>
 match r with
| .inl y =>
 some y
| .inr z =>
 some (-1) := tC
theorem F66E (s f) : F66 s f =
(F2w s f).bind fun r =>
 some (decide (r ≥ 0)) := tC
theorem F3vE (p preds least) : F3v p preds least =
 bif decide ((preds.2.length : Int) ≥ least) then
 bif decide ((preds.2.length : Int) ≤ 8) then
(F66 preds (p, ())).bind fun r =>
 some (!r)
else 
 some false
else 
 some false := tC
theorem F5fE (n) : F5f n =
 bif decide (n ≥ 0) then
 some (decide (n ≤ 40))
else 
 some false := tC
theorem F57E (p preds bad budget) : F57 p preds bad budget =
(F4m p).bind fun r =>
 bif r then
(F3v p preds 0).bind fun r1 =>
 bif r1 then
(F49 p bad).bind fun r2 =>
 bif r2 then
(F5f budget).bind fun r3 =>
 some r3
else 
 some false
else 
 some false
else 
 some false := tC
theorem F6iE (n) : F6i n =
 bif decide (n < 0) then
 none
else 
 bif decide ((IntKind.i64.wrap (n - (IntKind.i64.wrap (0 - 0)))) > 0) then
 bif decide (0 ≤ (IntKind.i64.wrap (n - (IntKind.i64.wrap (0 - 0))))) then
 bif decide ((IntKind.i64.wrap (n - (IntKind.i64.wrap (0 - 0)))) ≤ lim) then
 bif decide (([] : List (Bool × List DNode)).length + ((List.replicate (Int.toNat (IntKind.i64.wrap (n - (IntKind.i64.wrap (0 - 0))))) ((true, []) : Bool × List DNode)) : List (Bool × List DNode)).length ≤ lim) then
 bif decide (0 ≤ (([] ++ (List.replicate (Int.toNat (IntKind.i64.wrap (n - (IntKind.i64.wrap (0 - 0))))) ((true, []) : Bool × List DNode))).length : Int)) then
 some ((List.replicate (Int.toNat (IntKind.i64.wrap (n - (IntKind.i64.wrap (0 - 0))))) ((true, []) : Bool × List DNode)).isEmpty, ((([] ++ (List.replicate (Int.toNat (IntKind.i64.wrap (n - (IntKind.i64.wrap (0 - 0))))) ((true, []) : Bool × List DNode))).take 0).drop 0))
else none
else none
else none
else none
else 
 some (true, []) := tC
theorem F9iE (slices size_ t9 t10 t11) : F9i slices size_ t9 t10 t11 =
 bif decide (t11 < t10) then
 bif decide (0 ≤ t11) then
 bif decide (t11 < (t9.2.length : Int)) then
 bif decide ((IntKind.i64.wrap (size_ + (((t9.2.getD (Int.toNat t11) (true, [])).2).length : Int))) < 0) then
 none
else 
(F9i slices (IntKind.i64.wrap (size_ + (((t9.2.getD (Int.toNat t11) (true, [])).2).length : Int))) t9 t10 (IntKind.i64.wrap (t11 + 1))).bind fun r => some r
else none
else none
else 
 some size_ := tL F17K
theorem F7oE (newslice t25 t26 t27) : F7o newslice t25 t26 t27 =
 bif decide (t27 < t26) then
 bif decide (0 ≤ t27) then
 bif decide (t27 < (t25.2.length : Int)) then
 bif decide (newslice.2.length + ((t25.2.getD (Int.toNat t27) (true, [])).2 : List (Bool × List DNode)).length ≤ lim) then
(F7o ((newslice.1 && ((t25.2.getD (Int.toNat t27) (true, [])).2).isEmpty), (newslice.2 ++ ((t25.2.getD (Int.toNat t27) (true, [])).2))) t25 t26 (IntKind.i64.wrap (t27 + 1))).bind fun r => some r
else none
else none
else none
else 
 some (newslice.1, newslice.2) := tL F17K
theorem F17E (slices) : F17 slices =
(F9i slices 0 slices (slices.2.length : Int) 0).bind fun r =>
(F6i r).bind fun r1 =>
(F7o (r1.1, r1.2) slices (slices.2.length : Int) 0).bind fun r2 =>
 some (r2.1, r2.2) := tC
theorem F47E (p) : F47 p =
 bif decide ((IntKind.i64.wrap (p.1 * p.2.1)) < 0) then
 none
else 
 some (bShl .i64 1 (IntKind.i64.wrap (p.1 * p.2.1))) := tC
theorem F84E (no p out t9 t10) : F84 no p out t9 t10 =
 bif decide (t10 < t9) then
 bif decide ((IntKind.i64.wrap (p.1 * t10)) < 0) then
 none
else 
(F0 p.1).bind fun r =>
 bif decide (out.2.length + [bAnd .u64 (bShr .u64 (IntKind.u64.wrap no) (IntKind.i64.wrap (p.1 * t10))) r].length ≤ lim) then
(F84 no p ((out.1 && false), (out.2 ++ [bAnd .u64 (bShr .u64 (IntKind.u64.wrap no) (IntKind.i64.wrap (p.1 * t10))) r])) t9 (IntKind.i64.wrap (t10 + 1))).bind fun r => some r
else none
else 
 some (out.1, out.2) := tL F1pK
theorem F1pE (p no) : F1p p no =
(F84 no p (false, []) p.2.1 0).bind fun r =>
 some (r.1, r.2) := tC
theorem F55E (wide a b) : F55 wide a b =
(F4h wide a).bind fun r =>
 bif r then
(F4h wide b).bind fun r1 =>
 some r1
else 
 some false := tC
theorem F5gE (hi lo y) : F5g hi lo y =
 bif (y == 0) then
 none
else 
 bif decide (y ≤ hi) then
 none
else 
 bif (hi == 0) then
 bif (y == 0) then
 none
else 
 bif (y == 0) then
 none
else 
 some (IntKind.u64.wrap (Int.tdiv lo y), Int.tmod lo y)
else none := tC
theorem F4rE (wide a b) : F4r wide a b =
(F55 wide a b).bind fun r =>
 bif !r then
 some (0, (0, false))
else 
 bif (b == 0) then
(F0 wide).bind fun r1 =>
 some (r1, (a, true))
else 
(F5g 0 a b).bind fun r2 =>
 some (r2.1, (r2.2, true)) := tC
theorem F3yE (wide a by_ left_) : F3y wide a by_ left_ =
 bif decide (by_ ≥ (IntKind.u64.wrap wide)) then
 some 0
else 
 bif left_ then
 bif decide (by_ < 0) then
 none
else 
(F0 wide).bind fun r =>
 some (bAnd .u64 (bShl .u64 a by_) r)
else 
 bif decide (by_ < 0) then
 none
else 
 some (bShr .u64 a by_) := tC
theorem FdE (holds) : Fd holds =
 bif holds then
 some 1
else 
 some 0 := tC
theorem F10E (wide a) : F10 wide a =
 bif decide ((IntKind.i64.wrap (64 - wide)) < 0) then
 none
else 
 bif decide ((IntKind.i64.wrap (64 - wide)) < 0) then
 none
else 
 some (bShr .i64 (IntKind.i64.wrap (bShl .u64 a (IntKind.i64.wrap (64 - wide)))) (IntKind.i64.wrap (64 - wide))) := tC
theorem F4pE (wide op a b) : F4p wide op a b =
 bif (op == 3) then
(F0 wide).bind fun r =>
 some (bAnd .u64 (IntKind.u64.wrap (a + b)) r)
else 
 bif (op == 4) then
(F0 wide).bind fun r1 =>
 some (bAnd .u64 (IntKind.u64.wrap (a - b)) r1)
else 
 bif (op == 5) then
(F0 wide).bind fun r2 =>
 some (bAnd .u64 (IntKind.u64.wrap (a * b)) r2)
else 
 bif (op == 6) then
(F4r wide a b).bind fun r3 =>
(F0 wide).bind fun r4 =>
 some (bAnd .u64 r3.1 r4)
else 
 bif (op == 7) then
(F4r wide a b).bind fun r5 =>
(F0 wide).bind fun r6 =>
 some (bAnd .u64 r5.2.1 r6)
else 
 bif (op == 8) then
 bif (op == 8) then
(F0 wide).bind fun r7 =>
 some (bAnd .u64 (bAnd .u64 a b) r7)
else 
 bif (op == 9) then
 bif (op == 9) then
(F0 wide).bind fun r8 =>
 some (bAnd .u64 (bOr .u64 a b) r8)
else 
 bif (op == 10) then
(F0 wide).bind fun r9 =>
 some (bAnd .u64 (bXor .u64 a b) r9)
else 
 bif (op == 11) then
 bif (op == 11) then
(F3y wide a b (op == 11)).bind fun r10 =>
(F0 wide).bind fun r11 =>
 some (bAnd .u64 r10 r11)
else 
 bif (op == 14) then
(Fd (a == b)).bind fun r12 =>
(F0 wide).bind fun r13 =>
 some (bAnd .u64 r12 r13)
else 
 bif (op == 15) then
(Fd (decide (a < b))).bind fun r14 =>
(F0 wide).bind fun r15 =>
 some (bAnd .u64 r14 r15)
else 
 bif (op == 16) then
(F10 wide a).bind fun r16 =>
(F10 wide b).bind fun r17 =>
(Fd (decide (r16 < r17))).bind fun r18 =>
(F0 wide).bind fun r19 =>
 some (bAnd .u64 r18 r19)
else 
(F0 wide).bind fun r20 =>
 some (bAnd .u64 0 r20)
else 
 bif (op == 12) then
(F3y wide a b (op == 11)).bind fun r21 =>
(F0 wide).bind fun r22 =>
 some (bAnd .u64 r21 r22)
else 
 bif (op == 14) then
(Fd (a == b)).bind fun r23 =>
(F0 wide).bind fun r24 =>
 some (bAnd .u64 r23 r24)
else 
 bif (op == 15) then
(Fd (decide (a < b))).bind fun r25 =>
(F0 wide).bind fun r26 =>
 some (bAnd .u64 r25 r26)
else 
 bif (op == 16) then
(F10 wide a).bind fun r27 =>
(F10 wide b).bind fun r28 =>
(Fd (decide (r27 < r28))).bind fun r29 =>
(F0 wide).bind fun r30 =>
 some (bAnd .u64 r29 r30)
else 
(F0 wide).bind fun r31 =>
 some (bAnd .u64 0 r31)
else 
 bif (op == 18) then
(F0 wide).bind fun r32 =>
 some (bAnd .u64 (bOr .u64 a b) r32)
else 
 bif (op == 10) then
(F0 wide).bind fun r33 =>
 some (bAnd .u64 (bXor .u64 a b) r33)
else 
 bif (op == 11) then
 bif (op == 11) then
(F3y wide a b (op == 11)).bind fun r34 =>
(F0 wide).bind fun r35 =>
 some (bAnd .u64 r34 r35)
else 
 bif (op == 14) then
(Fd (a == b)).bind fun r36 =>
(F0 wide).bind fun r37 =>
 some (bAnd .u64 r36 r37)
else 
 bif (op == 15) then
(Fd (decide (a < b))).bind fun r38 =>
(F0 wide).bind fun r39 =>
 some (bAnd .u64 r38 r39)
else 
 bif (op == 16) then
(F10 wide a).bind fun r40 =>
(F10 wide b).bind fun r41 =>
(Fd (decide (r40 < r41))).bind fun r42 =>
(F0 wide).bind fun r43 =>
 some (bAnd .u64 r42 r43)
else 
(F0 wide).bind fun r44 =>
 some (bAnd .u64 0 r44)
else 
 bif (op == 12) then
(F3y wide a b (op == 11)).bind fun r45 =>
(F0 wide).bind fun r46 =>
 some (bAnd .u64 r45 r46)
else 
 bif (op == 14) then
(Fd (a == b)).bind fun r47 =>
(F0 wide).bind fun r48 =>
 some (bAnd .u64 r47 r48)
else 
 bif (op == 15) then
(Fd (decide (a < b))).bind fun r49 =>
(F0 wide).bind fun r50 =>
 some (bAnd .u64 r49 r50)
else 
 bif (op == 16) then
(F10 wide a).bind fun r51 =>
(F10 wide b).bind fun r52 =>
(Fd (decide (r51 < r52))).bind fun r53 =>
(F0 wide).bind fun r54 =>
 some (bAnd .u64 r53 r54)
else 
(F0 wide).bind fun r55 =>
 some (bAnd .u64 0 r55)
else 
 bif (op == 17) then
(F0 wide).bind fun r56 =>
 some (bAnd .u64 (bAnd .u64 a b) r56)
else 
 bif (op == 9) then
 bif (op == 9) then
(F0 wide).bind fun r57 =>
 some (bAnd .u64 (bOr .u64 a b) r57)
else 
 bif (op == 10) then
(F0 wide).bind fun r58 =>
 some (bAnd .u64 (bXor .u64 a b) r58)
else 
 bif (op == 11) then
 bif (op == 11) then
(F3y wide a b (op == 11)).bind fun r59 =>
(F0 wide).bind fun r60 =>
 some (bAnd .u64 r59 r60)
else 
 bif (op == 14) then
(Fd (a == b)).bind fun r61 =>
(F0 wide).bind fun r62 =>
 some (bAnd .u64 r61 r62)
else 
 bif (op == 15) then
(Fd (decide (a < b))).bind fun r63 =>
(F0 wide).bind fun r64 =>
 some (bAnd .u64 r63 r64)
else 
 bif (op == 16) then
(F10 wide a).bind fun r65 =>
(F10 wide b).bind fun r66 =>
(Fd (decide (r65 < r66))).bind fun r67 =>
(F0 wide).bind fun r68 =>
 some (bAnd .u64 r67 r68)
else 
(F0 wide).bind fun r69 =>
 some (bAnd .u64 0 r69)
else 
 bif (op == 12) then
(F3y wide a b (op == 11)).bind fun r70 =>
(F0 wide).bind fun r71 =>
 some (bAnd .u64 r70 r71)
else 
 bif (op == 14) then
(Fd (a == b)).bind fun r72 =>
(F0 wide).bind fun r73 =>
 some (bAnd .u64 r72 r73)
else 
 bif (op == 15) then
(Fd (decide (a < b))).bind fun r74 =>
(F0 wide).bind fun r75 =>
 some (bAnd .u64 r74 r75)
else 
 bif (op == 16) then
(F10 wide a).bind fun r76 =>
(F10 wide b).bind fun r77 =>
(Fd (decide (r76 < r77))).bind fun r78 =>
(F0 wide).bind fun r79 =>
 some (bAnd .u64 r78 r79)
else 
(F0 wide).bind fun r80 =>
 some (bAnd .u64 0 r80)
else 
 bif (op == 18) then
(F0 wide).bind fun r81 =>
 some (bAnd .u64 (bOr .u64 a b) r81)
else 
 bif (op == 10) then
(F0 wide).bind fun r82 =>
 some (bAnd .u64 (bXor .u64 a b) r82)
else 
 bif (op == 11) then
 bif (op == 11) then
(F3y wide a b (op == 11)).bind fun r83 =>
(F0 wide).bind fun r84 =>
 some (bAnd .u64 r83 r84)
else 
 bif (op == 14) then
(Fd (a == b)).bind fun r85 =>
(F0 wide).bind fun r86 =>
 some (bAnd .u64 r85 r86)
else 
 bif (op == 15) then
(Fd (decide (a < b))).bind fun r87 =>
(F0 wide).bind fun r88 =>
 some (bAnd .u64 r87 r88)
else 
 bif (op == 16) then
(F10 wide a).bind fun r89 =>
(F10 wide b).bind fun r90 =>
(Fd (decide (r89 < r90))).bind fun r91 =>
(F0 wide).bind fun r92 =>
 some (bAnd .u64 r91 r92)
else 
(F0 wide).bind fun r93 =>
 some (bAnd .u64 0 r93)
else 
 bif (op == 12) then
(F3y wide a b (op == 11)).bind fun r94 =>
(F0 wide).bind fun r95 =>
 some (bAnd .u64 r94 r95)
else 
 bif (op == 14) then
(Fd (a == b)).bind fun r96 =>
(F0 wide).bind fun r97 =>
 some (bAnd .u64 r96 r97)
else 
 bif (op == 15) then
(Fd (decide (a < b))).bind fun r98 =>
(F0 wide).bind fun r99 =>
 some (bAnd .u64 r98 r99)
else 
 bif (op == 16) then
(F10 wide a).bind fun r100 =>
(F10 wide b).bind fun r101 =>
(Fd (decide (r100 < r101))).bind fun r102 =>
(F0 wide).bind fun r103 =>
 some (bAnd .u64 r102 r103)
else 
(F0 wide).bind fun r104 =>
 some (bAnd .u64 0 r104) := tC
theorem F3mE (wide state stack t12 t13 t14) : F3m wide state stack t12 t13 t14 =
 bif decide (t14 < t13) then
 bif decide (0 ≤ t14) then
 bif decide (t14 < (t12.2.length : Int)) then
 bif (((t12.2.getD (Int.toNat t14) (0, 0)).1) == 1) then
 bif (((t12.2.getD (Int.toNat t14) (0, 0)).1) == 1) then
 bif decide (stack.2.length + [(t12.2.getD (Int.toNat t14) (0, 0)).2].length ≤ lim) then
(F3m wide state ((stack.1 && false), (stack.2 ++ [(t12.2.getD (Int.toNat t14) (0, 0)).2])) t12 t13 (IntKind.i64.wrap (t14 + 1))).bind fun r => some r
else none
else 
 bif (((t12.2.getD (Int.toNat t14) (0, 0)).1) == 2) then
 bif decide (0 ≤ ((t12.2.getD (Int.toNat t14) (0, 0)).2)) then
 bif decide (((t12.2.getD (Int.toNat t14) (0, 0)).2) < (state.2.length : Int)) then
 bif decide (stack.2.length + [(state.2.getD (Int.toNat ((t12.2.getD (Int.toNat t14) (0, 0)).2)) 0)].length ≤ lim) then
(F3m wide state ((stack.1 && false), (stack.2 ++ [(state.2.getD (Int.toNat ((t12.2.getD (Int.toNat t14) (0, 0)).2)) 0)])) t12 t13 (IntKind.i64.wrap (t14 + 1))).bind fun r => some r
else none
else none
else none
else 
 bif (((t12.2.getD (Int.toNat t14) (0, 0)).1) == 13) then
 bif decide (0 ≤ (IntKind.i64.wrap ((stack.2.length : Int) - 1))) then
 bif decide ((IntKind.i64.wrap ((stack.2.length : Int) - 1)) < (stack.2.length : Int)) then
(F0 wide).bind fun r =>
 bif decide (0 ≤ (IntKind.i64.wrap ((stack.2.length : Int) - 1))) then
 bif decide ((IntKind.i64.wrap ((stack.2.length : Int) - 1)) < (stack.2.length : Int)) then
(F3m wide state (stack.1, (stack.2.set (Int.toNat (IntKind.i64.wrap ((stack.2.length : Int) - 1))) (bAnd .u64 (bXor .u64 18446744073709551615 (stack.2.getD (Int.toNat (IntKind.i64.wrap ((stack.2.length : Int) - 1))) 0)) r))) t12 t13 (IntKind.i64.wrap (t14 + 1))).bind fun r => some r
else none
else none
else none
else none
else 
 bif (((t12.2.getD (Int.toNat t14) (0, 0)).1) == 19) then
 bif decide (0 ≤ (IntKind.i64.wrap ((stack.2.length : Int) - 1))) then
 bif decide ((IntKind.i64.wrap ((stack.2.length : Int) - 1)) < (stack.2.length : Int)) then
 bif decide (0 ≤ (IntKind.i64.wrap ((stack.2.length : Int) - 1))) then
 bif decide ((IntKind.i64.wrap ((stack.2.length : Int) - 1)) < (stack.2.length : Int)) then
(F3m wide state (stack.1, (stack.2.set (Int.toNat (IntKind.i64.wrap ((stack.2.length : Int) - 1))) (IntKind.u64.wrap (1 - (stack.2.getD (Int.toNat (IntKind.i64.wrap ((stack.2.length : Int) - 1))) 0))))) t12 t13 (IntKind.i64.wrap (t14 + 1))).bind fun r => some r
else none
else none
else none
else none
else 
 bif decide (0 ≤ (IntKind.i64.wrap ((IntKind.i64.wrap ((stack.2.length : Int) - 1)) - 1))) then
 bif decide ((IntKind.i64.wrap ((IntKind.i64.wrap ((stack.2.length : Int) - 1)) - 1)) ≤ (stack.2.length : Int)) then
 bif decide (0 ≤ (IntKind.i64.wrap ((IntKind.i64.wrap ((stack.2.length : Int) - 1)) - 1))) then
 bif decide ((IntKind.i64.wrap ((IntKind.i64.wrap ((stack.2.length : Int) - 1)) - 1)) < (stack.2.length : Int)) then
 bif decide (0 ≤ (IntKind.i64.wrap ((stack.2.length : Int) - 1))) then
 bif decide ((IntKind.i64.wrap ((stack.2.length : Int) - 1)) < (stack.2.length : Int)) then
(F4p wide ((t12.2.getD (Int.toNat t14) (0, 0)).1) (stack.2.getD (Int.toNat (IntKind.i64.wrap ((IntKind.i64.wrap ((stack.2.length : Int) - 1)) - 1))) 0) (stack.2.getD (Int.toNat (IntKind.i64.wrap ((stack.2.length : Int) - 1))) 0)).bind fun r1 =>
 bif decide (((stack.2.take (Int.toNat (IntKind.i64.wrap ((IntKind.i64.wrap ((stack.2.length : Int) - 1)) - 1)))).drop 0).length + [r1].length ≤ lim) then
(F3m wide state ((stack.1 && false), (((stack.2.take (Int.toNat (IntKind.i64.wrap ((IntKind.i64.wrap ((stack.2.length : Int) - 1)) - 1)))).drop 0) ++ [r1])) t12 t13 (IntKind.i64.wrap (t14 + 1))).bind fun r => some r
else none
else none
else none
else none
else none
else none
else none
else 
 bif (((t12.2.getD (Int.toNat t14) (0, 0)).1) == 20) then
 bif decide (stack.2.length + [(t12.2.getD (Int.toNat t14) (0, 0)).2].length ≤ lim) then
(F3m wide state ((stack.1 && false), (stack.2 ++ [(t12.2.getD (Int.toNat t14) (0, 0)).2])) t12 t13 (IntKind.i64.wrap (t14 + 1))).bind fun r => some r
else none
else 
 bif (((t12.2.getD (Int.toNat t14) (0, 0)).1) == 2) then
 bif decide (0 ≤ ((t12.2.getD (Int.toNat t14) (0, 0)).2)) then
 bif decide (((t12.2.getD (Int.toNat t14) (0, 0)).2) < (state.2.length : Int)) then
 bif decide (stack.2.length + [(state.2.getD (Int.toNat ((t12.2.getD (Int.toNat t14) (0, 0)).2)) 0)].length ≤ lim) then
(F3m wide state ((stack.1 && false), (stack.2 ++ [(state.2.getD (Int.toNat ((t12.2.getD (Int.toNat t14) (0, 0)).2)) 0)])) t12 t13 (IntKind.i64.wrap (t14 + 1))).bind fun r => some r
else none
else none
else none
else 
 bif (((t12.2.getD (Int.toNat t14) (0, 0)).1) == 13) then
 bif decide (0 ≤ (IntKind.i64.wrap ((stack.2.length : Int) - 1))) then
 bif decide ((IntKind.i64.wrap ((stack.2.length : Int) - 1)) < (stack.2.length : Int)) then
(F0 wide).bind fun r2 =>
 bif decide (0 ≤ (IntKind.i64.wrap ((stack.2.length : Int) - 1))) then
 bif decide ((IntKind.i64.wrap ((stack.2.length : Int) - 1)) < (stack.2.length : Int)) then
(F3m wide state (stack.1, (stack.2.set (Int.toNat (IntKind.i64.wrap ((stack.2.length : Int) - 1))) (bAnd .u64 (bXor .u64 18446744073709551615 (stack.2.getD (Int.toNat (IntKind.i64.wrap ((stack.2.length : Int) - 1))) 0)) r2))) t12 t13 (IntKind.i64.wrap (t14 + 1))).bind fun r => some r
else none
else none
else none
else none
else 
 bif (((t12.2.getD (Int.toNat t14) (0, 0)).1) == 19) then
 bif decide (0 ≤ (IntKind.i64.wrap ((stack.2.length : Int) - 1))) then
 bif decide ((IntKind.i64.wrap ((stack.2.length : Int) - 1)) < (stack.2.length : Int)) then
 bif decide (0 ≤ (IntKind.i64.wrap ((stack.2.length : Int) - 1))) then
 bif decide ((IntKind.i64.wrap ((stack.2.length : Int) - 1)) < (stack.2.length : Int)) then
(F3m wide state (stack.1, (stack.2.set (Int.toNat (IntKind.i64.wrap ((stack.2.length : Int) - 1))) (IntKind.u64.wrap (1 - (stack.2.getD (Int.toNat (IntKind.i64.wrap ((stack.2.length : Int) - 1))) 0))))) t12 t13 (IntKind.i64.wrap (t14 + 1))).bind fun r => some r
else none
else none
else none
else none
else 
 bif decide (0 ≤ (IntKind.i64.wrap ((IntKind.i64.wrap ((stack.2.length : Int) - 1)) - 1))) then
 bif decide ((IntKind.i64.wrap ((IntKind.i64.wrap ((stack.2.length : Int) - 1)) - 1)) ≤ (stack.2.length : Int)) then
 bif decide (0 ≤ (IntKind.i64.wrap ((IntKind.i64.wrap ((stack.2.length : Int) - 1)) - 1))) then
 bif decide ((IntKind.i64.wrap ((IntKind.i64.wrap ((stack.2.length : Int) - 1)) - 1)) < (stack.2.length : Int)) then
 bif decide (0 ≤ (IntKind.i64.wrap ((stack.2.length : Int) - 1))) then
 bif decide ((IntKind.i64.wrap ((stack.2.length : Int) - 1)) < (stack.2.length : Int)) then
(F4p wide ((t12.2.getD (Int.toNat t14) (0, 0)).1) (stack.2.getD (Int.toNat (IntKind.i64.wrap ((IntKind.i64.wrap ((stack.2.length : Int) - 1)) - 1))) 0) (stack.2.getD (Int.toNat (IntKind.i64.wrap ((stack.2.length : Int) - 1))) 0)).bind fun r3 =>
 bif decide (((stack.2.take (Int.toNat (IntKind.i64.wrap ((IntKind.i64.wrap ((stack.2.length : Int) - 1)) - 1)))).drop 0).length + [r3].length ≤ lim) then
(F3m wide state ((stack.1 && false), (((stack.2.take (Int.toNat (IntKind.i64.wrap ((IntKind.i64.wrap ((stack.2.length : Int) - 1)) - 1)))).drop 0) ++ [r3])) t12 t13 (IntKind.i64.wrap (t14 + 1))).bind fun r => some r
else none
else none
else none
else none
else none
else none
else none
else none
else none
else 
 some (stack.1, stack.2) := tL FmK
theorem FmE (wide t state) : Fm wide t state =
(F3m wide state (false, []) t (t.2.length : Int) 0).bind fun r =>
 bif decide (0 < (r.2.length : Int)) then
 some (r.2.getD 0 0)
else none := tC
theorem F5lE (t2 known v t11 t12 t13) : F5l t2 known v t11 t12 t13 =
 bif decide (t13 < t12) then
 bif decide (0 ≤ t13) then
 bif decide (t13 < (t11.2.length : Int)) then
 bif !((Jj tySaid (.int .i64) known.2 (t11.2.getD (Int.toNat t13) (0, 0))).isSome) then
 bif decide (known.2.length ≤ lim) then
 bif decide (v.2.length + [(known.2.length : Int)].length ≤ lim) then
(F5l t2 (false, (J2a tySaid (.int .i64) known.2 (t11.2.getD (Int.toNat t13) (0, 0)) (known.2.length : Int))) ((v.1 && false), (v.2 ++ [(known.2.length : Int)])) t11 t12 (IntKind.i64.wrap (t13 + 1))).bind fun r => some r
else none
else none
else 
 bif decide (v.2.length + [((Jj tySaid (.int .i64) known.2 (t11.2.getD (Int.toNat t13) (0, 0))).getD 0)].length ≤ lim) then
(F5l t2 (false, known.2) ((v.1 && false), (v.2 ++ [((Jj tySaid (.int .i64) known.2 (t11.2.getD (Int.toNat t13) (0, 0))).getD 0)])) t11 t12 (IntKind.i64.wrap (t13 + 1))).bind fun r => some r
else none
else none
else none
else 
 some ((false, known.2), (v.1, v.2)) := tL F1vK
theorem F1vE (keys) : F1v keys =
(F5l (true, []) (false, []) (true, []) keys (keys.2.length : Int) 0).bind fun r =>
 some (r.2.1, r.2.2) := tC
theorem F82E (preds p t4 keys t25 t26) : F82 preds p t4 keys t25 t26 =
 bif decide (t26 < t25) then
(F1p p t26).bind fun r =>
(F89 preds p t4 (keys.1, keys.2) t26 (r.1, r.2) t25 t26 preds (preds.2.length : Int) 0).bind fun r1 =>
(F82 preds p t4 (r1.1, r1.2) t25 (IntKind.i64.wrap (t26 + 1))).bind fun r => some r
else 
 some (keys.1, keys.2) := tL F1cK
theorem F89E (preds p t4 keys no s t25 t26 t32 t33 t34) : F89 preds p t4 keys no s t25 t26 t32 t33 t34 =
 bif decide (t34 < t33) then
 bif decide (0 ≤ t34) then
 bif decide (t34 < (t32.2.length : Int)) then
 bif decide (0 ≤ no) then
 bif decide (no < (keys.2.length : Int)) then
(Fm p.1 (t32.2.getD (Int.toNat t34) (true, [])) s).bind fun r =>
 bif decide (t34 < 0) then
 none
else 
 bif decide (0 ≤ no) then
 bif decide (no < (keys.2.length : Int)) then
(F89 preds p t4 (keys.1, (keys.2.set (Int.toNat no) (bOr .i64 ((keys.2.getD (Int.toNat no) (0, 0)).1) (bShl .i64 (IntKind.i64.wrap r) t34), (keys.2.getD (Int.toNat no) (0, 0)).2))) no s t25 t26 t32 t33 (IntKind.i64.wrap (t34 + 1))).bind fun r => some r
else none
else none
else none
else none
else none
else none
else 
 some (keys.1, keys.2) := tL F1cK
theorem F1cE (p preds) : F1c p preds =
(F4m p).bind fun r =>
 bif !r then
 some ((true, []), false)
else 
(F3v p preds 0).bind fun r1 =>
 bif !r1 then
 some ((true, []), false)
else 
(F47 p).bind fun r2 =>
 bif decide (0 ≤ r2) then
 bif decide (r2 ≤ lim) then
 bif decide (r2 ≤ r2) then
 bif decide (r2 ≤ lim) then
(F82 preds p (true, []) (false, (List.replicate (Int.toNat r2) ((0, 0) : DSaid))) ((List.replicate (Int.toNat r2) ((0, 0) : DSaid)).length : Int) 0).bind fun r3 =>
(F1v (r3.1, r3.2)).bind fun r4 =>
 some ((r4.1, r4.2), true)
else none
else none
else none
else none := tC
theorem F6dE (states v classes t9 t10 t11) : F6d states v classes t9 t10 t11 =
 bif decide (t11 < t10) then
 bif decide (0 ≤ t11) then
 bif decide (t11 < (t9.2.length : Int)) then
 bif decide ((t9.2.getD (Int.toNat t11) 0) < 0) then
 some (.inl false)
else 
 bif decide ((t9.2.getD (Int.toNat t11) 0) > classes) then
 some (.inl false)
else 
 bif ((t9.2.getD (Int.toNat t11) 0) == classes) then
(F6d states v (IntKind.i64.wrap (classes + 1)) t9 t10 (IntKind.i64.wrap (t11 + 1))).bind fun r => some r
else 
(F6d states v classes t9 t10 (IntKind.i64.wrap (t11 + 1))).bind fun r => some r
else none
else none
else 
 some (.inr ()) := tL F2jK
theorem F2jE (v states) : F2j v states =
(F6d states v 0 v (v.2.length : Int) 0).bind fun r =>
 match r with
| .inl y =>
 some y
| .inr z =>
 some ((v.2.length : Int) == states) := tC
theorem F7dE (p v) : F7d p v =
(F4m p).bind fun r =>
 bif r then
(F47 p).bind fun r1 =>
(F2j v r1).bind fun r2 =>
 some r2
else 
 some false := tC
theorem F85E (b t4 keys t10 t11 t12) : F85 b t4 keys t10 t11 t12 =
 bif decide (t12 < t11) then
 bif decide (0 ≤ t12) then
 bif decide (t12 < (t10.2.length : Int)) then
 bif decide (0 ≤ t12) then
 bif decide (t12 < (b.2.length : Int)) then
 bif decide (keys.2.length + [((t10.2.getD (Int.toNat t12) 0), (b.2.getD (Int.toNat t12) 0))].length ≤ lim) then
(F85 b t4 ((keys.1 && false), (keys.2 ++ [((t10.2.getD (Int.toNat t12) 0), (b.2.getD (Int.toNat t12) 0))])) t10 t11 (IntKind.i64.wrap (t12 + 1))).bind fun r => some r
else none
else none
else none
else none
else none
else 
 some (keys.1, keys.2) := tL F22K
theorem F22E (a b) : F22 a b =
(F85 b (true, []) (false, []) a (a.2.length : Int) 0).bind fun r =>
(F1v (r.1, r.2)).bind fun r1 =>
 some (r1.1, r1.2) := tC
theorem F4sE (p v t) : F4s p v t =
(F1c p (false, [t])).bind fun r =>
 bif !r.2 then
 some ((true, []), false)
else 
(F7d p v).bind fun r1 =>
 bif !r1 then
 some ((true, []), false)
else 
(F22 v (r.1.1, r.1.2)).bind fun r2 =>
 some ((r2.1, r2.2), true) := tC
theorem F7kE (p t4 v t12 t13 t14) : F7k p t4 v t12 t13 t14 =
 bif decide (t14 < t13) then
 bif decide (0 ≤ t14) then
 bif decide (t14 < (t12.2.length : Int)) then
(F4s p (v.1, v.2) (t12.2.getD (Int.toNat t14) (true, []))).bind fun r =>
(F7k p t4 (r.1.1, r.1.2) t12 t13 (IntKind.i64.wrap (t14 + 1))).bind fun r => some r
else none
else none
else 
 some (v.1, v.2) := tL F3qK
theorem F3qE (p preds) : F3q p preds =
(F47 p).bind fun r =>
 bif decide (0 ≤ r) then
 bif decide (r ≤ lim) then
 bif decide (r ≤ r) then
 bif decide (r ≤ lim) then
(F7k p (true, []) (false, (List.replicate (Int.toNat r) (0 : Int))) preds (preds.2.length : Int) 0).bind fun r1 =>
 some (r1.1, r1.2)
else none
else none
else none
else none := tC
theorem F8wE (x m i) : F8w x m i =
 bif decide (i < (x.2.length : Int)) then
 bif decide (0 ≤ i) then
 bif decide (i < (x.2.length : Int)) then
(F8w x (bif decide (m < (x.2.getD (Int.toNat i) 0)) then (x.2.getD (Int.toNat i) 0) else m) (IntKind.i64.wrap (i + 1))).bind fun r => some r
else none
else none
else 
 some m := tL F3cK
theorem F3cE (x) : F3c x =
 bif decide ((x.2.length : Int) < 1) then
 none
else 
 bif decide (0 < (x.2.length : Int)) then
(F8w x (x.2.getD 0 0) 1).bind fun r =>
 some r
else none := tC
theorem FqE (v) : Fq v =
(F3c v).bind fun r =>
 some (IntKind.i64.wrap (r + 1)) := tC
theorem F6zE (class_ out t10 t11 t12) : F6z class_ out t10 t11 t12 =
 bif decide (t12 < t11) then
 bif decide (0 ≤ t12) then
 bif decide (t12 < (t10.2.length : Int)) then
 bif ((t10.2.getD (Int.toNat t12) 0) == class_) then
 bif decide (out.2.length + [t12].length ≤ lim) then
(F6z class_ ((out.1 && false), (out.2 ++ [t12])) t10 t11 (IntKind.i64.wrap (t12 + 1))).bind fun r => some r
else none
else 
(F6z class_ (out.1, out.2) t10 t11 (IntKind.i64.wrap (t12 + 1))).bind fun r => some r
else none
else none
else 
 some (out.1, out.2) := tL F1tK
theorem F1tE (v class_) : F1t v class_ =
(F6z class_ (false, []) v (v.2.length : Int) 0).bind fun r =>
 some (r.1, r.2) := tC
theorem FoE (p t s) : Fo p t s =
(Fm p.1 t s).bind fun r =>
 some (r == 1) := tC
theorem F52E (s) : F52 s =
 bif s.1 then
 some (true, [])
else 
 bif decide (([] : List Int).length + s.2.length ≤ lim) then
 some (false, ([] ++ s.2))
else none := tC
theorem Fa9E (s p out t13 t14 t15) : Fa9 s p out t13 t14 t15 =
 bif decide (t15 < t14) then
 bif decide (0 ≤ t15) then
 bif decide (t15 < (t13.2.length : Int)) then
(Fm p.1 ((t13.2.getD (Int.toNat t15) (0, (true, []))).2) s).bind fun r =>
 bif decide (0 ≤ ((t13.2.getD (Int.toNat t15) (0, (true, []))).1)) then
 bif decide (((t13.2.getD (Int.toNat t15) (0, (true, []))).1) < (out.2.length : Int)) then
(Fa9 s p (out.1, (out.2.set (Int.toNat ((t13.2.getD (Int.toNat t15) (0, (true, []))).1)) r)) t13 t14 (IntKind.i64.wrap (t15 + 1))).bind fun r => some r
else none
else none
else none
else none
else 
 some (out.1, out.2) := tL F2qK
theorem F2qE (p c s) : F2q p c s =
(F52 s).bind fun r =>
(Fa9 s p (r.1, r.2) c.2 (c.2.2.length : Int) 0).bind fun r1 =>
 some (r1.1, r1.2) := tC
theorem Fa7E (p no t8 t9 t10) : Fa7 p no t8 t9 t10 =
 bif decide (t10 < t9) then
 bif decide (0 ≤ t10) then
 bif decide (t10 < (t8.2.length : Int)) then
 bif decide ((IntKind.i64.wrap (p.1 * t10)) < 0) then
 none
else 
(Fa7 p (bOr .i64 no (bShl .i64 (IntKind.i64.wrap (t8.2.getD (Int.toNat t10) 0)) (IntKind.i64.wrap (p.1 * t10)))) t8 t9 (IntKind.i64.wrap (t10 + 1))).bind fun r => some r
else none
else none
else 
 some no := tL F3pK
theorem F3pE (p s) : F3p p s =
(Fa7 p 0 s (s.2.length : Int) 0).bind fun r =>
 some r := tC
theorem F5pE (s) : F5p s =
(J9w s).bind fun r => some r := tC
theorem F78E (s) : F78 s =
(J1z s).bind fun r => some r := tC
theorem F5yE (no p s out t14 t15 t16) : F5y no p s out t14 t15 t16 =
 bif decide (t16 < t15) then
 bif decide (0 ≤ t16) then
 bif decide (t16 < (t14.2.length : Int)) then
(Fo p ((t14.2.getD (Int.toNat t16) ((true, []), (true, []))).1) s).bind fun r =>
 bif r then
(F2q p (t14.2.getD (Int.toNat t16) ((true, []), (true, []))) s).bind fun r1 =>
(F3p p (r1.1, r1.2)).bind fun r2 =>
 bif decide (out.2.length + [r2].length ≤ lim) then
(F5y no p s ((out.1 && false), (out.2 ++ [r2])) t14 t15 (IntKind.i64.wrap (t16 + 1))).bind fun r => some r
else none
else 
(F5y no p s (out.1, out.2) t14 t15 (IntKind.i64.wrap (t16 + 1))).bind fun r => some r
else none
else none
else 
 some (out.1, out.2) := tL F1kK
theorem F1kE (p no) : F1k p no =
(F1p p no).bind fun r =>
(F5y no p (r.1, r.2) (false, []) p.2.2.2 (p.2.2.2.2.length : Int) 0).bind fun r1 =>
 bif ((r1.2.length : Int) == 0) then
 some (false, [no])
else 
(F5p (r1.1, r1.2)).bind fun r2 =>
(F78 (r2.1, r2.2)).bind fun r3 =>
 some (r3.1, r3.2) := tC
theorem F5jE (out t7 t8 t9) : F5j out t7 t8 t9 =
 bif decide (t9 < t8) then
 bif decide (0 ≤ t9) then
 bif decide (t9 < (t7.2.length : Int)) then
 bif (t7.2.getD (Int.toNat t9) false) then
 bif decide (out.2.length + [t9].length ≤ lim) then
(F5j ((out.1 && false), (out.2 ++ [t9])) t7 t8 (IntKind.i64.wrap (t9 + 1))).bind fun r => some r
else none
else 
(F5j (out.1, out.2) t7 t8 (IntKind.i64.wrap (t9 + 1))).bind fun r => some r
else none
else none
else 
 some (out.1, out.2) := tL F1yK
theorem F1yE (list) : F1y list =
(F5j (false, []) list (list.2.length : Int) 0).bind fun r =>
 some (r.1, r.2) := tC
theorem F9qE (v in_ t11 t12 t13) : F9q v in_ t11 t12 t13 =
 bif decide (t13 < t12) then
 bif decide (0 ≤ t13) then
 bif decide (t13 < (t11.2.length : Int)) then
 bif decide (0 ≤ (t11.2.getD (Int.toNat t13) 0)) then
 bif decide ((t11.2.getD (Int.toNat t13) 0) < (v.2.length : Int)) then
 bif decide (0 ≤ (v.2.getD (Int.toNat (t11.2.getD (Int.toNat t13) 0)) 0)) then
 bif decide ((v.2.getD (Int.toNat (t11.2.getD (Int.toNat t13) 0)) 0) < (in_.2.length : Int)) then
(F9q v (in_.1, (in_.2.set (Int.toNat (v.2.getD (Int.toNat (t11.2.getD (Int.toNat t13) 0)) 0)) true)) t11 t12 (IntKind.i64.wrap (t13 + 1))).bind fun r => some r
else none
else none
else none
else none
else none
else none
else 
 some (in_.1, in_.2) := tL F1mK
theorem F1mE (v some_) : F1m v some_ =
(Fq v).bind fun r =>
 bif decide (0 ≤ r) then
 bif decide (r ≤ lim) then
 bif decide (r ≤ r) then
 bif decide (r ≤ lim) then
(F9q v (false, (List.replicate (Int.toNat r) (false : Bool))) some_ (some_.2.length : Int) 0).bind fun r1 =>
(F1y (r1.1, r1.2)).bind fun r2 =>
 some (r2.1, r2.2)
else none
else none
else none
else none := tC
theorem F9jE (p v next t13 t14 t15) : F9j p v next t13 t14 t15 =
 bif decide (t15 < t14) then
 bif decide (0 ≤ t15) then
 bif decide (t15 < (t13.2.length : Int)) then
(F1k p (t13.2.getD (Int.toNat t15) 0)).bind fun r =>
 bif decide (next.2.length + r.2.length ≤ lim) then
(F9j p v ((next.1 && r.2.isEmpty), (next.2 ++ r.2)) t13 t14 (IntKind.i64.wrap (t15 + 1))).bind fun r => some r
else none
else none
else none
else 
 some (next.1, next.2) := tL F3oK
theorem F3oE (p v class_) : F3o p v class_ =
(F1t v class_).bind fun r =>
(F9j p v (false, []) (r.1, r.2) (r.2.length : Int) 0).bind fun r1 =>
(F1m v (r1.1, r1.2)).bind fun r2 =>
 some (r2.1, r2.2) := tC
theorem F9mE (p v out t9 t10) : F9m p v out t9 t10 =
 bif decide (t10 < t9) then
(F3o p v t10).bind fun r =>
 bif decide (out.2.length + [(r.1, r.2)].length ≤ lim) then
(F9m p v ((out.1 && false), (out.2 ++ [(r.1, r.2)])) t9 (IntKind.i64.wrap (t10 + 1))).bind fun r => some r
else none
else 
 some (out.1, out.2) := tL F2iK
theorem F2iE (p v) : F2i p v =
(Fq v).bind fun r =>
(F9m p v (false, []) r 0).bind fun r1 =>
 some (r1.1, r1.2) := tC
theorem F68E (t p out t9 t10) : F68 t p out t9 t10 =
 bif decide (t10 < t9) then
(F1p p t10).bind fun r =>
(Fo p t (r.1, r.2)).bind fun r1 =>
 bif r1 then
 bif decide (out.2.length + [t10].length ≤ lim) then
(F68 t p ((out.1 && false), (out.2 ++ [t10])) t9 (IntKind.i64.wrap (t10 + 1))).bind fun r => some r
else none
else 
(F68 t p (out.1, out.2) t9 (IntKind.i64.wrap (t10 + 1))).bind fun r => some r
else 
 some (out.1, out.2) := tL F1gK
theorem F1gE (p t) : F1g p t =
(F47 p).bind fun r =>
(F68 t p (false, []) r 0).bind fun r1 =>
 some (r1.1, r1.2) := tC
theorem F90E (out t11 t12 t13) : F90 out t11 t12 t13 =
 bif decide (t13 < t12) then
 bif decide (0 ≤ t13) then
 bif decide (t13 < (t11.2.length : Int)) then
(F88 (out.1, out.2) t13 t11 t12 t13 (t11.2.getD (Int.toNat t13) (true, [])) (((t11.2.getD (Int.toNat t13) (true, [])).2).length : Int) 0).bind fun r =>
(F90 (r.1, r.2) t11 t12 (IntKind.i64.wrap (t13 + 1))).bind fun r => some r
else none
else none
else 
 some (out.1, out.2) := tL F13K
theorem F88E (out v t11 t12 t13 t18 t19 t20) : F88 out v t11 t12 t13 t18 t19 t20 =
 bif decide (t20 < t19) then
 bif decide (0 ≤ t20) then
 bif decide (t20 < (t18.2.length : Int)) then
 bif decide (0 ≤ (t18.2.getD (Int.toNat t20) 0)) then
 bif decide ((t18.2.getD (Int.toNat t20) 0) < (out.2.length : Int)) then
 bif decide (((out.2.getD (Int.toNat (t18.2.getD (Int.toNat t20) 0)) (true, [])).2).length + [v].length ≤ lim) then
 bif decide (0 ≤ (t18.2.getD (Int.toNat t20) 0)) then
 bif decide ((t18.2.getD (Int.toNat t20) 0) < (out.2.length : Int)) then
 bif ((Int.toNat (t18.2.getD (Int.toNat t20) 0)) == (Int.toNat (t18.2.getD (Int.toNat t20) 0))) then
(F88 (out.1, (out.2.set (Int.toNat (t18.2.getD (Int.toNat t20) 0)) ((((out.2.getD (Int.toNat (t18.2.getD (Int.toNat t20) 0)) (true, [])).1) && false), (((out.2.getD (Int.toNat (t18.2.getD (Int.toNat t20) 0)) (true, [])).2) ++ [v])))) v t11 t12 t13 t18 t19 (IntKind.i64.wrap (t20 + 1))).bind fun r => some r
else none
else none
else none
else none
else none
else none
else none
else none
else 
 some (out.1, out.2) := tL F13K
theorem F13E (g) : F13 g =
 bif decide (0 ≤ (g.2.length : Int)) then
 bif decide ((g.2.length : Int) ≤ lim) then
 bif decide ((g.2.length : Int) ≤ (g.2.length : Int)) then
 bif decide ((g.2.length : Int) ≤ lim) then
(F90 (false, (List.replicate (Int.toNat (g.2.length : Int)) ((true, []) : Bool × List Int))) g (g.2.length : Int) 0).bind fun r =>
 some (r.1, r.2)
else none
else none
else none
else none := tC
theorem F59E (x y) : F59 x y =
 some (IntKind.u64.wrap ((IntKind.u64.wrap ((IntKind.u64.wrap ((bShr .u64 x 32) * (bShr .u64 y 32))) + (bShr .u64 (IntKind.u64.wrap ((IntKind.u64.wrap ((bShr .u64 x 32) * (bAnd .u64 y 4294967295))) + (bShr .u64 (IntKind.u64.wrap ((bAnd .u64 x 4294967295) * (bAnd .u64 y 4294967295))) 32))) 32))) + (bShr .u64 (IntKind.u64.wrap ((bAnd .u64 (IntKind.u64.wrap ((IntKind.u64.wrap ((bShr .u64 x 32) * (bAnd .u64 y 4294967295))) + (bShr .u64 (IntKind.u64.wrap ((bAnd .u64 x 4294967295) * (bAnd .u64 y 4294967295))) 32))) 4294967295) + (IntKind.u64.wrap ((bAnd .u64 x 4294967295) * (bShr .u64 y 32))))) 32)), IntKind.u64.wrap (x * y)) := tC
theorem F43E (x y) : F43 x y =
(F59 x y).bind fun r =>
 some (r.1, r.2) := tC
theorem F9oE (newslice n) : F9o newslice n =
 bif decide (n < (newslice.2.length : Int)) then
 bif decide (0 ≤ n) then
 bif decide (n ≤ (newslice.2.length : Int)) then
 bif decide (0 ≤ n) then
 bif decide (n ≤ (newslice.2.length : Int)) then
(F9o (newslice.1, (newslice.2.take (Int.toNat n) ++ (((newslice.2.take (Int.toNat n)).drop 0).take (newslice.2.length - (Int.toNat n)) ++ newslice.2.drop ((Int.toNat n) + (min ((newslice.2.take (Int.toNat n)).drop 0).length (newslice.2.length - (Int.toNat n))))))) (IntKind.i64.wrap (n + ((min ((newslice.2.take (Int.toNat n)).drop 0).length (newslice.2.length - (Int.toNat n)) : Nat) : Int)))).bind fun r => some r
else none
else none
else none
else none
else 
 some (newslice.1, newslice.2) := tL F3nK
theorem F3nE (x count) : F3n x count =
 bif decide (count < 0) then
 none
else 
(F43 (IntKind.u64.wrap (x.2.length : Int)) (IntKind.u64.wrap count)).bind fun r =>
 bif decide (r.1 > 0) then
 none
else 
 bif decide (r.2 > 9223372036854775807) then
 none
else 
 bif decide (0 ≤ (IntKind.i64.wrap r.2)) then
 bif decide ((IntKind.i64.wrap r.2) ≤ lim) then
 bif decide ((IntKind.i64.wrap r.2) ≤ (IntKind.i64.wrap r.2)) then
 bif decide ((IntKind.i64.wrap r.2) ≤ lim) then
(F9o (false, (x.2.take (List.replicate (Int.toNat (IntKind.i64.wrap r.2)) (0 : Int)).length ++ (List.replicate (Int.toNat (IntKind.i64.wrap r.2)) (0 : Int)).drop (min x.2.length (List.replicate (Int.toNat (IntKind.i64.wrap r.2)) (0 : Int)).length))) ((min x.2.length (List.replicate (Int.toNat (IntKind.i64.wrap r.2)) (0 : Int)).length : Nat) : Int)).bind fun r1 =>
 some (r1.1, r1.2)
else none
else none
else none
else none := tC
theorem F4kE (s) : F4k s =
 bif s.1 then
 some (true, [])
else 
 bif decide (([] : List Int).length + s.2.length ≤ lim) then
 some (false, ([] ++ s.2))
else none := tC
theorem F93E (g steps open_ t17 t18 t19) : F93 g steps open_ t17 t18 t19 =
 bif decide (t19 < t18) then
 bif decide (0 ≤ t19) then
 bif decide (t19 < (t17.2.length : Int)) then
 bif decide (0 ≤ (t17.2.getD (Int.toNat t19) 0)) then
 bif decide ((t17.2.getD (Int.toNat t19) 0) < (steps.2.length : Int)) then
(F93 g (steps.1, (steps.2.set (Int.toNat (t17.2.getD (Int.toNat t19) 0)) 0)) open_ t17 t18 (IntKind.i64.wrap (t19 + 1))).bind fun r => some r
else none
else none
else none
else none
else 
 some (steps.1, steps.2) := tL FjK
theorem F8eE (g steps open_) : F8e g steps open_ =
 bif decide ((open_.2.length : Int) > 0) then
 bif decide (0 < (open_.2.length : Int)) then
 bif decide (0 ≤ (open_.2.getD 0 0)) then
 bif decide ((open_.2.getD 0 0) < (g.2.length : Int)) then
(F6u g (steps.1, steps.2) (open_.1, open_.2) (g.2.getD (Int.toNat (open_.2.getD 0 0)) (true, [])) (((g.2.getD (Int.toNat (open_.2.getD 0 0)) (true, [])).2).length : Int) 0).bind fun r =>
 bif decide (1 ≤ (r.2.2.length : Int)) then
(F8e g (r.1.1, r.1.2) (r.2.1, ((r.2.2.take r.2.2.length).drop 1))).bind fun r => some r
else none
else none
else none
else none
else 
 some (steps.1, steps.2) := tL FjK
theorem F6uE (g steps open_ t37 t38 t39) : F6u g steps open_ t37 t38 t39 =
 bif decide (t39 < t38) then
 bif decide (0 ≤ t39) then
 bif decide (t39 < (t37.2.length : Int)) then
 bif decide (0 ≤ (t37.2.getD (Int.toNat t39) 0)) then
 bif decide ((t37.2.getD (Int.toNat t39) 0) < (steps.2.length : Int)) then
 bif decide ((steps.2.getD (Int.toNat (t37.2.getD (Int.toNat t39) 0)) 0) < 0) then
 bif decide (0 < (open_.2.length : Int)) then
 bif decide (0 ≤ (open_.2.getD 0 0)) then
 bif decide ((open_.2.getD 0 0) < (steps.2.length : Int)) then
 bif decide (0 ≤ (t37.2.getD (Int.toNat t39) 0)) then
 bif decide ((t37.2.getD (Int.toNat t39) 0) < (steps.2.length : Int)) then
 bif decide (open_.2.length + [(t37.2.getD (Int.toNat t39) 0)].length ≤ lim) then
(F6u g (steps.1, (steps.2.set (Int.toNat (t37.2.getD (Int.toNat t39) 0)) (IntKind.i64.wrap ((steps.2.getD (Int.toNat (open_.2.getD 0 0)) 0) + 1)))) ((open_.1 && false), (open_.2 ++ [(t37.2.getD (Int.toNat t39) 0)])) t37 t38 (IntKind.i64.wrap (t39 + 1))).bind fun r => some r
else none
else none
else none
else none
else none
else none
else 
(F6u g (steps.1, steps.2) (open_.1, open_.2) t37 t38 (IntKind.i64.wrap (t39 + 1))).bind fun r => some r
else none
else none
else none
else none
else 
 some ((steps.1, steps.2), (open_.1, open_.2)) := tL FjK
theorem FjE (g some_) : Fj g some_ =
(F3n (false, [(-1)]) (g.2.length : Int)).bind fun r =>
(F4k some_).bind fun r1 =>
(F93 g (r.1, r.2) (r1.1, r1.2) some_ (some_.2.length : Int) 0).bind fun r2 =>
(F8e g (r2.1, r2.2) (r1.1, r1.2)).bind fun r3 =>
 some (r3.1, r3.2) := tC
theorem F5eE (w a1 a2) : F5e w a1 a2 =
 bif decide (0 ≤ w) then
 bif decide (w < (a1.2.length : Int)) then
 bif decide (0 ≤ a2) then
 bif decide (a2 < (a1.2.length : Int)) then
 some ((a1.2.getD (Int.toNat w) 0) == (IntKind.i64.wrap ((a1.2.getD (Int.toNat a2) 0) - 1)))
else none
else none
else none
else none := tC
theorem F7fE (s f t7 t8) : F7f s f t7 t8 =
 bif decide (t8 < t7) then
 bif decide (0 ≤ t8) then
 bif decide (t8 < (s.2.length : Int)) then
(F5e (s.2.getD (Int.toNat t8) 0) f.1 f.2.1).bind fun r =>
 bif r then
 some (.inl t8)
else 
(F7f s f t7 (IntKind.i64.wrap (t8 + 1))).bind fun r => some r
else none
else none
else 
 some (.inr ()) := tL F36K
theorem F36E (s f) : F36 s f =
(F7f s f (s.2.length : Int) 0).bind fun r =>
 match r with
| .inl y =>
 some y
| .inr z =>
 some (-1) := tC
theorem F4lE (g steps best t18 t19 t20) : F4l g steps best t18 t19 t20 =
 bif decide (t20 < t19) then
 bif decide (0 ≤ t20) then
 bif decide (t20 < (t18.2.length : Int)) then
 bif decide (0 ≤ (t18.2.getD (Int.toNat t20) 0)) then
 bif decide ((t18.2.getD (Int.toNat t20) 0) < (steps.2.length : Int)) then
 bif decide ((steps.2.getD (Int.toNat (t18.2.getD (Int.toNat t20) 0)) 0) ≥ 0) then
 bif decide (best < 0) then
(F4l g steps (t18.2.getD (Int.toNat t20) 0) t18 t19 (IntKind.i64.wrap (t20 + 1))).bind fun r => some r
else 
 bif decide (0 ≤ (t18.2.getD (Int.toNat t20) 0)) then
 bif decide ((t18.2.getD (Int.toNat t20) 0) < (steps.2.length : Int)) then
 bif decide (0 ≤ best) then
 bif decide (best < (steps.2.length : Int)) then
 bif decide ((steps.2.getD (Int.toNat (t18.2.getD (Int.toNat t20) 0)) 0) < (steps.2.getD (Int.toNat best) 0)) then
(F4l g steps (t18.2.getD (Int.toNat t20) 0) t18 t19 (IntKind.i64.wrap (t20 + 1))).bind fun r => some r
else 
(F4l g steps best t18 t19 (IntKind.i64.wrap (t20 + 1))).bind fun r => some r
else none
else none
else none
else none
else 
(F4l g steps best t18 t19 (IntKind.i64.wrap (t20 + 1))).bind fun r => some r
else none
else none
else none
else none
else 
 some best := tL FfK
theorem F9zE (g steps way v) : F9z g steps way v =
 bif decide (0 ≤ v) then
 bif decide (v < (steps.2.length : Int)) then
 bif decide ((steps.2.getD (Int.toNat v) 0) > 0) then
 bif decide (0 ≤ v) then
 bif decide (v < (g.2.length : Int)) then
(F36 (g.2.getD (Int.toNat v) (true, [])) (steps, (v, ()))).bind fun r =>
 bif decide (0 ≤ v) then
 bif decide (v < (g.2.length : Int)) then
 bif decide (0 ≤ r) then
 bif decide (r < (((g.2.getD (Int.toNat v) (true, [])).2).length : Int)) then
 bif decide (way.2.length + ([(((g.2.getD (Int.toNat v) (true, [])).2).getD (Int.toNat r) 0)] : List Int).length ≤ lim) then
(F9z g steps ((way.1 && false), (way.2 ++ [(((g.2.getD (Int.toNat v) (true, [])).2).getD (Int.toNat r) 0)])) (((g.2.getD (Int.toNat v) (true, [])).2).getD (Int.toNat r) 0)).bind fun r => some r
else none
else none
else none
else none
else none
else none
else none
else 
 some (way.1, way.2)
else none
else none := tL FfK
theorem FfE (g from_ to) : Ff g from_ to =
(F13 g).bind fun r =>
(Fj (r.1, r.2) to).bind fun r1 =>
(F4l g (r1.1, r1.2) (-1) from_ (from_.2.length : Int) 0).bind fun r2 =>
 bif decide (r2 < 0) then
 some (true, [])
else 
(F9z g (r1.1, r1.2) (false, [r2]) r2).bind fun r3 =>
 some (r3.1, r3.2) := tC
theorem F56E (p v bad) : F56 p v bad =
(F2i p v).bind fun r =>
(F1g p p.2.2.1).bind fun r1 =>
(F1m v (r1.1, r1.2)).bind fun r2 =>
(F1g p bad).bind fun r3 =>
(F1m v (r3.1, r3.2)).bind fun r4 =>
(Ff (r.1, r.2) (r2.1, r2.2) (r4.1, r4.2)).bind fun r5 =>
 some (r5.1, r5.2) := tC
theorem F8pE (p out t7 t8) : F8p p out t7 t8 =
 bif decide (t8 < t7) then
(F1k p t8).bind fun r =>
 bif decide (out.2.length + [(r.1, r.2)].length ≤ lim) then
(F8p p ((out.1 && false), (out.2 ++ [(r.1, r.2)])) t7 (IntKind.i64.wrap (t8 + 1))).bind fun r => some r
else none
else 
 some (out.1, out.2) := tL F2kK
theorem F2kE (p) : F2k p =
(F47 p).bind fun r =>
(F8p p (false, []) r 0).bind fun r1 =>
 some (r1.1, r1.2) := tC
theorem F4nE (no a1 a2) : F4n no a1 a2 =
 bif decide (0 ≤ no) then
 bif decide (no < (a1.2.length : Int)) then
 some ((a1.2.getD (Int.toNat no) 0) != a2)
else none
else none := tC
theorem F99E (s f t7 t8) : F99 s f t7 t8 =
 bif decide (t8 < t7) then
 bif decide (0 ≤ t8) then
 bif decide (t8 < (s.2.length : Int)) then
(F4n (s.2.getD (Int.toNat t8) 0) f.1 f.2.1).bind fun r =>
 bif r then
 some (.inl t8)
else 
(F99 s f t7 (IntKind.i64.wrap (t8 + 1))).bind fun r => some r
else none
else none
else 
 some (.inr ()) := tL F2pK
theorem F2pE (s f) : F2p s f =
(F99 s f (s.2.length : Int) 0).bind fun r =>
 match r with
| .inl y =>
 some y
| .inr z =>
 some (-1) := tC
theorem F6eE (s del i j) : F6e s del i j =
 bif decide (j < (s.2.length : Int)) then
 bif decide (0 ≤ j) then
 bif decide (j < (s.2.length : Int)) then
(F4n (s.2.getD (Int.toNat j) 0) del.1 del.2.1).bind fun r =>
 bif !r then
 bif decide (0 ≤ i) then
 bif decide (i < (s.2.length : Int)) then
(F6e (s.1, (s.2.set (Int.toNat i) (s.2.getD (Int.toNat j) 0))) del (IntKind.i64.wrap (i + 1)) (IntKind.i64.wrap (j + 1))).bind fun r => some r
else none
else none
else 
(F6e (s.1, s.2) del i (IntKind.i64.wrap (j + 1))).bind fun r => some r
else none
else none
else 
 some ((s.1, s.2), i) := tL F1uK
theorem F1uE (s del) : F1u s del =
(F2p (s.1, s.2) del).bind fun r =>
 bif (r == (-1)) then
 some (s.1, s.2)
else 
(F6e (s.1, s.2) del r (IntKind.i64.wrap (r + 1))).bind fun r1 =>
 bif decide (0 ≤ r1.2) then
 bif decide (r1.2 ≤ (r1.1.2.length : Int)) then
 bif decide (0 ≤ r1.2) then
 bif decide (r1.2 ≤ ((r1.1.2.take (Int.toNat r1.2) ++ (List.replicate (r1.1.2.length - (Int.toNat r1.2)) (0 : Int) ++ r1.1.2.drop r1.1.2.length)).length : Int)) then
 some (r1.1.1, (((r1.1.2.take (Int.toNat r1.2) ++ (List.replicate (r1.1.2.length - (Int.toNat r1.2)) (0 : Int) ++ r1.1.2.drop r1.1.2.length)).take (Int.toNat r1.2)).drop 0))
else none
else none
else none
else none := tC
theorem F4zE (p v out next now t24 t25 t26) : F4z p v out next now t24 t25 t26 =
 bif decide (t26 < t25) then
 bif decide (0 ≤ t26) then
 bif decide (t26 < (t24.2.length : Int)) then
 bif decide (t26 > 0) then
(F47 p).bind fun r =>
 bif decide (0 ≤ r) then
 bif decide (r ≤ lim) then
 bif decide (r ≤ r) then
 bif decide (r ≤ lim) then
(Fa8 p v (out.1, out.2) next (t24.2.getD (Int.toNat t26) 0) (false, (List.replicate (Int.toNat r) (false : Bool))) t24 t25 t26 (now.1, now.2) (now.2.length : Int) 0).bind fun r1 =>
(F1y (r1.1, r1.2)).bind fun r2 =>
(F1u (r2.1, r2.2) (v, ((t24.2.getD (Int.toNat t26) 0), ()))).bind fun r3 =>
(F4k (r3.1, r3.2)).bind fun r4 =>
 bif decide (out.2.length + [(r4.1, r4.2)].length ≤ lim) then
(F4z p v ((out.1 && false), (out.2 ++ [(r4.1, r4.2)])) next (r3.1, r3.2) t24 t25 (IntKind.i64.wrap (t26 + 1))).bind fun r => some r
else none
else none
else none
else none
else none
else 
(F1u (now.1, now.2) (v, ((t24.2.getD (Int.toNat t26) 0), ()))).bind fun r5 =>
(F4k (r5.1, r5.2)).bind fun r6 =>
 bif decide (out.2.length + [(r6.1, r6.2)].length ≤ lim) then
(F4z p v ((out.1 && false), (out.2 ++ [(r6.1, r6.2)])) next (r5.1, r5.2) t24 t25 (IntKind.i64.wrap (t26 + 1))).bind fun r => some r
else none
else none
else none
else 
 some (out.1, out.2) := tL F8K
theorem Fa8E (p v out next class_ in_ t24 t25 t26 t36 t37 t38) : Fa8 p v out next class_ in_ t24 t25 t26 t36 t37 t38 =
 bif decide (t38 < t37) then
 bif decide (0 ≤ t38) then
 bif decide (t38 < (t36.2.length : Int)) then
 bif decide (0 ≤ (t36.2.getD (Int.toNat t38) 0)) then
 bif decide ((t36.2.getD (Int.toNat t38) 0) < (next.2.length : Int)) then
(F7x p v out next class_ (in_.1, in_.2) t24 t25 t26 t36 t37 t38 (next.2.getD (Int.toNat (t36.2.getD (Int.toNat t38) 0)) (true, [])) (((next.2.getD (Int.toNat (t36.2.getD (Int.toNat t38) 0)) (true, [])).2).length : Int) 0).bind fun r =>
(Fa8 p v out next class_ (r.1, r.2) t24 t25 t26 t36 t37 (IntKind.i64.wrap (t38 + 1))).bind fun r => some r
else none
else none
else none
else none
else 
 some (in_.1, in_.2) := tL F8K
theorem F7xE (p v out next class_ in_ t24 t25 t26 t36 t37 t38 t45 t46 t47) : F7x p v out next class_ in_ t24 t25 t26 t36 t37 t38 t45 t46 t47 =
 bif decide (t47 < t46) then
 bif decide (0 ≤ t47) then
 bif decide (t47 < (t45.2.length : Int)) then
 bif decide (0 ≤ (t45.2.getD (Int.toNat t47) 0)) then
 bif decide ((t45.2.getD (Int.toNat t47) 0) < (in_.2.length : Int)) then
(F7x p v out next class_ (in_.1, (in_.2.set (Int.toNat (t45.2.getD (Int.toNat t47) 0)) true)) t24 t25 t26 t36 t37 t38 t45 t46 (IntKind.i64.wrap (t47 + 1))).bind fun r => some r
else none
else none
else none
else none
else 
 some (in_.1, in_.2) := tL F8K
theorem F8E (p v path) : F8 p v path =
(F2k p).bind fun r =>
(F1g p p.2.2.1).bind fun r1 =>
(F4z p v (false, []) (r.1, r.2) (r1.1, r1.2) path (path.2.length : Int) 0).bind fun r2 =>
 some (r2.1, r2.2) := tC
theorem F5qE (list) : F5q list =
 some ((list.2.length : Int) == 0) := tC
theorem F96E (s f t7 t8) : F96 s f t7 t8 =
 bif decide (t8 < t7) then
 bif decide (0 ≤ t8) then
 bif decide (t8 < (s.2.length : Int)) then
(F5q (s.2.getD (Int.toNat t8) (true, []))).bind fun r =>
 bif r then
 some (.inl t8)
else 
(F96 s f t7 (IntKind.i64.wrap (t8 + 1))).bind fun r => some r
else none
else none
else 
 some (.inr ()) := tL F3rK
theorem F3rE (s f) : F3r s f =
(F96 s f (s.2.length : Int) 0).bind fun r =>
 match r with
| .inl y =>
 some y
| .inr z =>
 some (-1) := tC
theorem F2zE (along) : F2z along =
(F3r along ()).bind fun r =>
 some r := tC
theorem F8nE (s v t7 t8) : F8n s v t7 t8 =
 bif decide (t8 < t7) then
 bif decide (0 ≤ t8) then
 bif decide (t8 < (s.2.length : Int)) then
 bif (v == (s.2.getD (Int.toNat t8) 0)) then
 some (.inl t8)
else 
(F8n s v t7 (IntKind.i64.wrap (t8 + 1))).bind fun r => some r
else none
else none
else 
 some (.inr ()) := tL F35K
theorem F35E (s v) : F35 s v =
(F8n s v (s.2.length : Int) 0).bind fun r =>
 match r with
| .inl y =>
 some y
| .inr z =>
 some (-1) := tC
theorem F4aE (s v) : F4a s v =
(F35 s v).bind fun r =>
 some (decide (r ≥ 0)) := tC
theorem F42E (to a1 a2) : F42 to a1 a2 =
 bif decide (0 ≤ (IntKind.i64.wrap (a2 + 1))) then
 bif decide ((IntKind.i64.wrap (a2 + 1)) < (a1.2.length : Int)) then
(F4a (a1.2.getD (Int.toNat (IntKind.i64.wrap (a2 + 1))) (true, [])) to).bind fun r =>
 some r
else none
else none := tC
theorem F97E (s f t7 t8) : F97 s f t7 t8 =
 bif decide (t8 < t7) then
 bif decide (0 ≤ t8) then
 bif decide (t8 < (s.2.length : Int)) then
(F42 (s.2.getD (Int.toNat t8) 0) f.1 f.2.1).bind fun r =>
 bif r then
 some (.inl t8)
else 
(F97 s f t7 (IntKind.i64.wrap (t8 + 1))).bind fun r => some r
else none
else none
else 
 some (.inr ()) := tL FhK
theorem FhE (s f) : Fh s f =
(F97 s f (s.2.length : Int) 0).bind fun r =>
 match r with
| .inl y =>
 some y
| .inr z =>
 some (-1) := tC
theorem F45E (s f) : F45 s f =
(Fh s f).bind fun r =>
 some (decide (r ≥ 0)) := tC
theorem FlE (no a1 a2 a3) : Fl no a1 a2 a3 =
 bif decide (0 ≤ no) then
 bif decide (no < (a1.2.length : Int)) then
(F45 (a1.2.getD (Int.toNat no) (true, [])) (a2, (a3, ()))).bind fun r =>
 some (!r)
else none
else none := tC
theorem Fa3E (s f t7 t8) : Fa3 s f t7 t8 =
 bif decide (t8 < t7) then
 bif decide (0 ≤ t8) then
 bif decide (t8 < (s.2.length : Int)) then
(Fl (s.2.getD (Int.toNat t8) 0) f.1 f.2.1 f.2.2.1).bind fun r =>
 bif r then
 some (.inl t8)
else 
(Fa3 s f t7 (IntKind.i64.wrap (t8 + 1))).bind fun r => some r
else none
else none
else 
 some (.inr ()) := tL F1K
theorem F1E (s f) : F1 s f =
(Fa3 s f (s.2.length : Int) 0).bind fun r =>
 match r with
| .inl y =>
 some y
| .inr z =>
 some (-1) := tC
theorem F5oE (s del i j) : F5o s del i j =
 bif decide (j < (s.2.length : Int)) then
 bif decide (0 ≤ j) then
 bif decide (j < (s.2.length : Int)) then
(Fl (s.2.getD (Int.toNat j) 0) del.1 del.2.1 del.2.2.1).bind fun r =>
 bif !r then
 bif decide (0 ≤ i) then
 bif decide (i < (s.2.length : Int)) then
(F5o (s.1, (s.2.set (Int.toNat i) (s.2.getD (Int.toNat j) 0))) del (IntKind.i64.wrap (i + 1)) (IntKind.i64.wrap (j + 1))).bind fun r => some r
else none
else none
else 
(F5o (s.1, s.2) del i (IntKind.i64.wrap (j + 1))).bind fun r => some r
else none
else none
else 
 some ((s.1, s.2), i) := tL FeK
theorem FeE (s del) : Fe s del =
(F1 (s.1, s.2) del).bind fun r =>
 bif (r == (-1)) then
 some (s.1, s.2)
else 
(F5o (s.1, s.2) del r (IntKind.i64.wrap (r + 1))).bind fun r1 =>
 bif decide (0 ≤ r1.2) then
 bif decide (r1.2 ≤ (r1.1.2.length : Int)) then
 bif decide (0 ≤ r1.2) then
 bif decide (r1.2 ≤ ((r1.1.2.take (Int.toNat r1.2) ++ (List.replicate (r1.1.2.length - (Int.toNat r1.2)) (0 : Int) ++ r1.1.2.drop r1.1.2.length)).length : Int)) then
 some (r1.1.1, (((r1.1.2.take (Int.toNat r1.2) ++ (List.replicate (r1.1.2.length - (Int.toNat r1.2)) (0 : Int) ++ r1.1.2.drop r1.1.2.length)).take (Int.toNat r1.2)).drop 0))
else none
else none
else none
else none := tC

end Go.Proofs.YtkfnlnohgfpipaaGreat.R
