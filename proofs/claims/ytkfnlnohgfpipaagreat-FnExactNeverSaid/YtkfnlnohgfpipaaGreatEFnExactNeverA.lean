/- Kinds, signatures and loops of the functions that the laws J77, and what each computes. -/
import Derived.Test.YtkfnlnohgfpipaaGreatRfD
import Derived.Test.YtkfnlnohgfpipaaGreatProg
import Derived.KernelRfl
import Derived.Test.YtkfnlnohgfpipaaGreatShelf
set_option linter.unusedVariables false
set_option maxRecDepth 4000
namespace Go.Proofs.YtkfnlnohgfpipaaGreat.R
open Go.Rf Go.Proofs
def tyNode : Ty := (.pair (.int .i64) (.int .u64))
abbrev DNode := Int × Int
def tySaid : Ty := (.pair (.int .i64) (.int .i64))
abbrev DSaid := Int × Int
def tySight : Ty := (.one (.sl (.int .i64)))
abbrev DSight := Bool × List Int
def tyLasso : Ty := (.pair (.sl (.int .i64)) (.sl (.int .i64)))
abbrev DLasso := (Bool × List Int) × Bool × List Int
def tyEdge : Ty := (.pair (.int .i64) tySaid)
abbrev DEdge := Int × DSaid
def tyboundsError : Ty := (.pair (.int .i64) (.pair (.int .i64) (.pair .bool (.int .u8))))
abbrev DboundsError := Int × Int × Bool × Int
def tyChange : Ty := (.pair (.int .i64) (.sl tyNode))
abbrev DChange := Int × Bool × List DNode
def tyl11Walk : Ty := (.pair (.sl (.sl (.int .i64))) (.pair (.sl .bool) (.sl (.int .i64))))
abbrev Dl11Walk := (Bool × List (Bool × List Int)) × (Bool × List Bool) × Bool × List Int
def tyFinding : Ty := (.pair (.int .i64) (.pair (.sl (.int .i64)) (.pair (.int .i64) tySight)))
abbrev DFinding := Int × (Bool × List Int) × Int × DSight
def tyCommand : Ty := (.pair (.sl tyNode) (.sl tyChange))
abbrev DCommand := (Bool × List DNode) × Bool × List DChange
def tyOutcome : Ty := (.pair (.int .i64) (.pair (.sl (.int .i64)) (.pair (.sl (.int .i64)) (.pair (.int .i64) tySight))))
abbrev DOutcome := Int × (Bool × List Int) × (Bool × List Int) × Int × DSight
def tyAuto : Ty := (.pair (.int .i64) (.pair (.sl (.int .i64)) (.pair (.sl tyEdge) (.sl (.sl (.int .i64))))))
abbrev DAuto := Int × (Bool × List Int) × (Bool × List DEdge) × Bool × List (Bool × List Int)
def tytarjan : Ty := (.pair (.sl (.sl (.int .i64))) (.pair (.sl (.int .i64)) (.pair (.sl (.int .i64)) (.pair (.sl (.int .i64)) (.pair (.sl (.int .i64)) (.int .i64))))))
abbrev Dtarjan := (Bool × List (Bool × List Int)) × (Bool × List Int) × (Bool × List Int) × (Bool × List Int) × (Bool × List Int) × Int
def tyProgram : Ty := (.pair (.int .i64) (.pair (.int .i64) (.pair (.sl tyNode) (.sl tyCommand))))
abbrev DProgram := Int × Int × (Bool × List DNode) × Bool × List DCommand
def tyQuestion : Ty := (.pair tyProgram (.pair (.sl (.sl tyNode)) (.sl tySaid)))
abbrev DQuestion := DProgram × (Bool × List (Bool × List DNode)) × Bool × List DSaid
def s0 : SS := .v (.int .i64)
def s3 : SS := .v (.sl (.int .i64))
def s4 : SS := .tup (.v .bool) .unit
def s5 : SS := .tup s0 .unit
def s6 : SS := .v (.sl (.sl tyNode))
def s7 : SS := .v (.sl tyNode)
def s8 : SS := .v (.sl (.sl (.int .i64)))
def s9 : SS := .v tyProgram
def sa : SS := .tup (.v (.int .u64)) .unit
def sb : SS := .sp tyProgram
def sc : SS := .tup s3 .unit
def sd : SS := .v (.sl (.int .u64))
def se : SS := .v (.int .u64)
def sf : SS := .v (.fn 150 (.pair (.sl (.sl (.int .i64))) (.pair (.hsl (.sl (.int .i64))) (.pair (.int .i64) .nil))))
def sg : SS := .v (.fn 150 (.pair (.sl (.sl (.int .i64))) (.pair (.sl (.sl (.int .i64))) (.pair (.int .i64) .nil))))
def sh : SS := .tup (.sp (.int .i64)) .unit
def si : SS := .v tySight
def sj : SS := .sp tySight
def sk : SS := .v (.sl tyCommand)
def sm : SS := .tup s7 .unit
def sn : SS := .v (.fn 305 (.pair tyProgram (.pair tySight (.pair (.int .i64) .nil))))
def so : SS := .v (.sl tyChange)
def sq : SS := .sp (.sl (.sl (.int .i64)))
def sr : SS := .v (.fn 221 (.pair tySight (.pair (.int .i64) .nil)))
def ss : SS := .tup s9 (.tup s6 (.tup s7 s5))
def st : SS := .v (.fn 151 (.pair (.hsl (.sl (.int .i64))) (.pair (.int .i64) .nil)))
def su : SS := .v (.fn 151 (.pair (.sl (.sl (.int .i64))) (.pair (.int .i64) .nil)))
def sv : SS := .v (.fn 365 (.pair (.int .i64) (.pair (.int .i64) .nil)))
def sw : SS := .tup s6 .unit
def sx : SS := .v .bool
def sy : SS := .v (.fn 368 (.pair tyProgram (.pair (.sl tyNode) .nil)))
def sz : SS := .v (.fn 306 (.pair tySight (.pair (.int .i64) .nil)))
def s10 : SS := .sp (.sl (.int .i64))
def s11 : SS := .v (.fn 153 (.pair (.sl (.sl (.int .i64))) (.pair (.sl (.int .i64)) (.pair (.int .i64) .nil))))
def s12 : SS := .tup s0 (.tup se sa)
def s13 : SS := .tup sd .unit
def s14 : SS := .tup s9 .unit
def s15 : SS := .v (.fn 302 (.pair tyProgram (.pair (.sl (.int .i64)) (.pair (.sl (.int .i64)) .nil))))
def s16 : SS := .tup (.v tyNode) .unit
def s17 : SS := .sp (.int .i64)
noncomputable def FpH : FnH := ⟨38, Tryz.f38, (.tup s7 s5), s5, [], [], [], [], [], none⟩
noncomputable def F19H : FnH := ⟨287, Tryz.f287, (.tup (.v tyChange) s5), s5, [], [], [], [], [], none⟩
noncomputable def F38H : FnH := ⟨211, Tryz.f211, (.tup so s5), s5, [], [], [(0, ⟨[(0, so), (1, s0), (5, s0)], [(.ret, [(4, s0)]), (.exit 0, [(1, s0)])], []⟩)], [], [], none⟩
noncomputable def F15H : FnH := ⟨135, Tryz.f135, (.tup (.v tyCommand) s5), s5, [], [], [], [], [], none⟩
noncomputable def F30H : FnH := ⟨69, Tryz.f69, (.tup sk s5), s5, [], [], [(0, ⟨[(0, sk), (1, s0), (5, s0)], [(.ret, [(4, s0)]), (.exit 0, [(1, s0)])], []⟩)], [], [], none⟩
noncomputable def F53H : FnH := ⟨24, Tryz.f24, (.tup s9 s5), s5, [], [], [], [], [], none⟩
noncomputable def F36H : FnH := ⟨12, Tryz.f12, (.tup s6 s5), s5, [], [], [(0, ⟨[(0, s6), (1, s0), (5, s0)], [(.ret, [(4, s0)]), (.exit 0, [(1, s0)])], []⟩)], [], [], none⟩
noncomputable def F3H : FnH := ⟨89, Tryz.f89, s16, s16, [], [], [], [], [], none⟩
noncomputable def F7H : FnH := ⟨40, Tryz.f40, sm, (.tup (.own 206850 tyNode true) .unit), [], [], [(0, ⟨[(0, s7), (3, (.own 206849 tyNode true)), (4, s0)], [(.exit 0, [(1206849, (.own 206849 tyNode true))])], [3]⟩)], [], [], none⟩
noncomputable def F1bH : FnH := ⟨288, Tryz.f288, (.tup (.v tyChange) .unit), (.tup (.pair s0 (.own 206851 tyNode true)) .unit), [], [], [], [], [], none⟩
noncomputable def F2sH : FnH := ⟨217, Tryz.f217, (.tup so .unit), (.tup (.own 206853 tyChange true) .unit), [], [], [(0, ⟨[(0, so), (3, (.own 206852 tyChange true)), (4, s0)], [(.exit 0, [(1206852, (.own 206852 tyChange true))])], [3]⟩)], [], [], none⟩
noncomputable def F14H : FnH := ⟨141, Tryz.f141, (.tup (.v tyCommand) .unit), (.tup (.pair (.own 206854 tyNode true) (.own 206855 tyChange true)) .unit), [], [], [], [], [], none⟩
noncomputable def F3aH : FnH := ⟨75, Tryz.f75, (.tup sk .unit), (.tup (.own 206857 tyCommand true) .unit), [], [], [(0, ⟨[(0, sk), (3, (.own 206856 tyCommand true)), (4, s0)], [(.exit 0, [(1206856, (.own 206856 tyCommand true))])], [3]⟩)], [], [], none⟩
noncomputable def F47H : FnH := ⟨27, Tryz.f27, s14, (.tup (.pair s0 (.pair s0 (.pair (.own 206858 tyNode true) (.own 206859 tyCommand true)))) .unit), [], [], [], [], [], none⟩
noncomputable def F1jH : FnH := ⟨15, Tryz.f15, sw, (.tup (.own 206861 (.sl tyNode) true) .unit), [], [], [(0, ⟨[(0, s6), (3, (.own 206860 (.sl tyNode) true)), (4, s0)], [(.exit 0, [(1206860, (.own 206860 (.sl tyNode) true))])], [3]⟩)], [], [], none⟩
noncomputable def F3wH : FnH := ⟨116, Tryz.f116, (.tup s0 (.tup s0 s5)), s4, [], [], [], [], [], none⟩
noncomputable def F4pH : FnH := ⟨272, Tryz.f272, s5, s4, [], [], [], [], [], none⟩
noncomputable def F4dH : FnH := ⟨273, Tryz.f273, s5, (.tup s0 (.tup s0 s5)), [], [], [], [], [], none⟩
noncomputable def FxH : FnH := ⟨307, Tryz.f307, (.tup s0 sa), sa, [], [], [(0, ⟨[(0, s0), (1, se), (5, se), (6, s0)], [(.exit 0, [(5, se)])], []⟩)], [], [], none⟩
noncomputable def F4eH : FnH := ⟨330, Tryz.f330, (.tup s0 sa), s4, [], [], [], [], [], none⟩
noncomputable def F3eH : FnH := ⟨274, Tryz.f274, (.tup s0 (.tup s0 s16)), s4, [], [], [], [], [], none⟩
noncomputable def FqH : FnH := ⟨203, Tryz.f203, (.tup s0 (.tup s0 sm)), s5, [], [], [(0, ⟨[(0, s0), (1, s0), (7, (.own 206862 (.int .i64) true)), (27, s7), (28, s0), (29, s0)], [(.ret, [(6, s0)]), (.exit 0, [(7, (.own 206865 (.int .i64) true))])], []⟩), (2, ⟨[(0, s0), (1, s0), (7, (.own 206863 (.int .i64) true)), (10, s0), (11, s0), (12, s0), (27, s7), (28, s0), (29, s0)], [(.ret, [(6, s0)]), (.exit 2, [(7, (.own 206864 (.int .i64) true))])], [0, 1, 12, 27, 28, 29]⟩)], [], [], none⟩
noncomputable def F45H : FnH := ⟨123, Tryz.f123, (.tup s9 sm), s4, [], [], [], [], [], none⟩
noncomputable def F2fH : FnH := ⟨269, Tryz.f269, (.tup s9 (.tup (.v tyCommand) .unit)), s4, [], [], [(0, ⟨[(2, sb), (3, (.sp tyCommand)), (21, so), (22, s0), (23, s0)], [(.ret, [(4, sx)]), (.exit 0, [])], []⟩)], [], [], none⟩
noncomputable def F3dH : FnH := ⟨200, Tryz.f200, s14, s4, [], [], [(0, ⟨[(1, sb), (18, sk), (19, s0), (20, s0)], [(.ret, [(2, sx)]), (.exit 0, [])], []⟩)], [], [], none⟩
noncomputable def F69H : FnH := ⟨121, Tryz.f121, s14, s4, [], [], [], [], [], none⟩
noncomputable def F2gH : FnH := ⟨60, Tryz.f60, (.tup s9 sw), s4, [], [], [(0, ⟨[(2, sb), (10, s6), (11, s0), (12, s0)], [(.ret, [(4, sx)]), (.exit 0, [])], []⟩)], [], [], none⟩
noncomputable def F62H : FnH := ⟨84, Tryz.f84, ss, s4, [], [], [], [], [], none⟩
noncomputable def F4rH : FnH := ⟨159, Tryz.f159, s14, s5, [], [], [], [], [], none⟩
noncomputable def F23H : FnH := ⟨176, Tryz.f176, (.tup s9 s5), (.tup (.own 206869 (.int .u64) true) .unit), [], [], [(0, ⟨[(1, s0), (2, sb), (5, (.own 206867 (.int .u64) true)), (6, s0)], [(.exit 0, [(5, (.own 206868 (.int .u64) true))])], []⟩)], [], [], none⟩
noncomputable def F26H : FnH := ⟨309, Tryz.f309, (.tup s7 s5), s5, [], [], [(0, ⟨[(0, s7), (5, s0), (8, s0)], [(.exit 0, [(8, s0)])], []⟩)], [], [], none⟩
noncomputable def F6aH : FnH := ⟨369, Tryz.f369, s12, s4, [], [], [], [], [], none⟩
noncomputable def F6rH : FnH := ⟨343, Tryz.f343, s12, (.tup se (.tup se s4)), [], [], [], [], [], none⟩
noncomputable def FsH : FnH := ⟨344, Tryz.f344, (.tup s0 (.tup se (.tup se s4))), sa, [], [], [(0, ⟨[(0, s0), (1, se), (2, se), (3, sx)], [(.exit 0, [(1, se)])], []⟩)], [], [], none⟩
noncomputable def F1oH : FnH := ⟨345, Tryz.f345, s4, sa, [], [], [], [], [], none⟩
noncomputable def F3rH : FnH := ⟨346, Tryz.f346, (.tup s0 sa), s5, [], [], [], [], [], none⟩
noncomputable def F74H : FnH := ⟨308, Tryz.f308, (.tup s0 s12), sa, [], [], [], [], [], none⟩
noncomputable def F43H : FnH := ⟨240, Tryz.f240, (.tup s0 (.tup s7 (.tup s0 s13))), sa, [], [], [], [], [], none⟩
noncomputable def F4oH : FnH := ⟨175, Tryz.f175, (.tup s9 (.tup s7 s13)), s4, [], [], [], [], [], none⟩
noncomputable def F1eH : FnH := ⟨99, Tryz.f99, (.tup s9 sm), (.tup (.own 206871 (.int .i64) true) .unit), [], [], [(0, ⟨[(1, s7), (2, sb), (5, (.own 206866 (.int .i64) true)), (6, s0)], [(.exit 0, [(5, (.own 206870 (.int .i64) true))])], []⟩)], [], [], none⟩
noncomputable def F1fH : FnH := ⟨98, Tryz.f98, (.tup s3 s5), s4, [], [], [(0, ⟨[(1, s0), (7, s3), (8, s0), (9, s0)], [(.ret, [(4, sx)]), (.exit 0, [])], []⟩)], [], [], none⟩
noncomputable def F10H : FnH := ⟨198, Tryz.f198, sc, (.tup (.one (.own 206877 (.int .i64) true)) .unit), [], [], [(0, ⟨[(0, s3), (2, sj), (3, (.box 206874 (.one (.own 206875 (.int .i64) true)))), (4, s0), (9, s3), (10, s0), (11, s0)], [(.exit 0, [(2206874, (.box 206874 (.one (.own 206876 (.int .i64) true))))])], [2, 3]⟩), (2, ⟨[(0, s3), (2, sj), (3, sj), (4, s0), (5, s0), (6, s0), (7, s0), (8, s0), (9, s3), (10, s0), (11, s0)], [(.exit 2, [(7, s0)])], [0, 2, 3, 4, 9, 10, 11]⟩)], [], [], none⟩
noncomputable def F1uH : FnH := ⟨118, Tryz.f118, (.tup si sc), (.tup (.one (.own 206878 (.int .i64) true)) .unit), [], [], [(0, ⟨[(1, s3), (4, sj), (5, (.own 206872 (.int .i64) true)), (9, s3), (10, s0), (11, s0)], [(.exit 0, [(5, (.own 206873 (.int .i64) true))])], [4]⟩)], [], [], none⟩
noncomputable def F4cH : FnH := ⟨85, Tryz.f85, (.tup s9 (.tup si sm)), (.tup (.one (.own 206879 (.int .i64) true)) .unit), [], [], [], [], [], none⟩
noncomputable def F32H : FnH := ⟨86, Tryz.f86, (.tup s9 sw), (.tup (.one (.own 206883 (.int .i64) true)) .unit), [], [], [(0, ⟨[(2, sb), (4, sj), (5, (.box 206880 (.one (.own 206881 (.int .i64) true)))), (12, s6), (13, s0), (14, s0)], [(.exit 0, [(2206880, (.box 206880 (.one (.own 206882 (.int .i64) true))))])], [4, 5]⟩)], [], [], none⟩
noncomputable def F1wH : FnH := ⟨213, Tryz.f213, (.tup s3 s5), sc, [], [], [(0, ⟨[(0, s3), (1, s0), (5, s0)], [(.exit 0, [(5, s0)])], [0, 1]⟩)], [], [], none⟩
noncomputable def F1gH : FnH := ⟨160, Tryz.f160, (.tup si sc), sc, [], [], [(0, ⟨[(2, sj), (5, s3), (8, s3), (9, s0), (10, s0)], [(.exit 0, [(5, s3)])], []⟩)], [], [], none⟩
noncomputable def F1zH : FnH := ⟨188, Tryz.f188, (.tup si .unit), s5, [], [], [(0, ⟨[(3, s0), (7, s3), (8, s0), (9, s0)], [(.exit 0, [(3, s0)])], []⟩)], [], [], none⟩
noncomputable def F1pH : FnH := ⟨189, Tryz.f189, (.tup si s5), (.tup (.own 206889 (.int .i64) true) .unit), [], [], [(0, ⟨[(1, s0), (5, (.own 206887 (.int .i64) true)), (9, s3), (10, s0), (11, s0)], [(.exit 0, [(5, (.own 206888 (.int .i64) true))])], []⟩)], [], [], none⟩
noncomputable def F1yH : FnH := ⟨214, Tryz.f214, (.tup s9 s13), (.tup (.own 206893 (.int .i64) true) .unit), [], [], [(0, ⟨[(1, sd), (2, sb), (5, (.own 206891 (.int .i64) true)), (9, sk), (10, s0), (11, s0)], [(.exit 0, [(5, (.own 206892 (.int .i64) true))])], []⟩)], [], [], none⟩
noncomputable def F3lH : FnH := ⟨216, Tryz.f216, (.tup s9 (.tup sd s5)), (.tup (.own 206896 (.int .u64) true) .unit), [], [], [(0, ⟨[(1, sd), (3, sb), (7, (.own 206895 (.int .u64) true)), (18, so), (19, s0), (20, s0)], [(.exit 0, [(1206895, (.own 206895 (.int .u64) true))])], [7]⟩)], [], [], none⟩
noncomputable def F3qH : FnH := ⟨215, Tryz.f215, (.tup s9 s13), s5, [], [], [(0, ⟨[(1, sd), (2, sb), (5, s0), (6, s0)], [(.exit 0, [(5, s0)])], []⟩)], [], [], none⟩
noncomputable def F1lH : FnH := ⟨140, Tryz.f140, (.tup s9 s5), sc, [], [], [(0, ⟨[(1, s0), (2, sb), (5, sd), (6, s3), (14, s3), (15, s0), (16, s0)], [(.exit 0, [(6, s3)])], [1]⟩)], [], [], none⟩
noncomputable def FyH : FnH := ⟨138, Tryz.f138, (.tup s9 sc), sc, [], [], [(0, ⟨[(2, sb), (5, s3), (10, s3), (11, s0), (12, s0)], [(.exit 0, [(5, s3)])], []⟩), (2, ⟨[(2, sb), (5, s3), (10, s3), (11, s0), (12, s0), (18, s3), (19, s0), (20, s0)], [(.exit 2, [(5, s3)])], [2, 10, 11, 12]⟩)], [], [], none⟩
noncomputable def F78H : FnH := ⟨228, Tryz.f228, (.tup s9 (.tup si s5)), sc, [], [], [], [], [], none⟩
noncomputable def F2pH : FnH := ⟨162, Tryz.f162, (.tup s9 (.tup si .unit)), (.tup (.own 206900 (.sl (.int .i64)) false) .unit), [], [], [(0, ⟨[(2, sb), (3, sj), (5, (.own 206886 (.sl (.int .i64)) false)), (6, s0)], [(.exit 0, [(5, (.own 206899 (.sl (.int .i64)) false))])], []⟩)], [], [], none⟩
noncomputable def F18H : FnH := ⟨227, Tryz.f227, (.tup s8 .unit), (.tup (.own 206903 (.sl (.int .i64)) true) .unit), [], [], [(0, ⟨[(3, (.own 206902 (.sl (.int .i64)) true)), (11, s8), (12, s0), (13, s0)], [(.exit 0, [(1206902, (.own 206902 (.sl (.int .i64)) true))])], [3]⟩), (2, ⟨[(3, (.own 206901 (.sl (.int .i64)) true)), (4, s0), (11, s8), (12, s0), (13, s0), (18, s3), (19, s0), (20, s0)], [(.exit 2, [(1206901, (.own 206901 (.sl (.int .i64)) true))])], [3, 11, 12, 13]⟩)], [], [], none⟩
noncomputable def F5iH : FnH := ⟨156, Tryz.f156, sc, (.tup (.own 206906 (.int .i64) true) .unit), [], [], [], [], [], none⟩
noncomputable def FaH : FnH := ⟨226, Tryz.f226, (.tup s8 sc), (.tup (.own 206912 (.int .i64) true) .unit), [], [], [(0, ⟨[(0, s8), (1, s3), (5, (.own 206904 (.int .i64) true)), (17, s0), (18, s0)], [(.exit 0, [(1206904, (.own 206904 (.int .i64) true))])], [0, 1, 5]⟩), (2, ⟨[(0, s8), (1, s3), (5, (.own 206905 (.int .i64) true)), (25, s3), (26, s0), (27, s0)], [(.exit 2, [(1206905, (.own 206905 (.int .i64) true))])], [0, 1, 5]⟩), (4, ⟨[(0, s8), (5, (.own 206910 (.int .i64) true)), (9, (.own 206907 (.int .i64) true))], [(.exit 4, [(1206910, (.own 206910 (.int .i64) true))])], [5]⟩), (6, ⟨[(0, s8), (5, (.own 206909 (.int .i64) true)), (9, (.own 206908 (.int .i64) true)), (10, s0), (48, s3), (49, s0), (50, s0)], [(.exit 6, [(1206909, (.own 206909 (.int .i64) true)), (9, (.own 206911 (.int .i64) true))])], [0, 5]⟩)], [], [], none⟩
noncomputable def FgH : FnH := ⟨161, Tryz.f161, (.tup s8 (.tup s3 sc)), (.tup (.own 206915 (.int .i64) true) s4), [], [], [(0, ⟨[(0, s8), (8, s3), (9, s0), (19, s3), (20, s0), (21, s0)], [(.exit 0, [(9, s0)])], [0, 8]⟩), (2, ⟨[(0, s8), (8, s3), (9, s0), (12, (.own 206913 (.int .i64) true))], [(.exit 2, [(12, (.own 206914 (.int .i64) true))])], []⟩), (4, ⟨[(0, s8), (8, s3), (9, s0), (12, s3), (59, s3), (60, s0), (61, s0)], [(.exit 4, [(9, s0)])], [0, 8, 12]⟩)], [], [], none⟩
noncomputable def F6jH : FnH := ⟨87, Tryz.f87, (.tup s9 (.tup si sm)), (.tup (.own 206916 (.int .i64) true) s4), [], [], [], [], [], none⟩
noncomputable def FtH : FnH := ⟨72, Tryz.f72, (.tup s9 (.tup si sc)), (.tup (.own 206923 (.sl (.int .i64)) false) .unit), [], [], [(0, ⟨[(3, sb), (4, sj), (7, (.own 206918 (.sl (.int .i64)) false)), (8, s3), (18, s3), (19, s0), (20, s0)], [(.exit 0, [(7, (.own 206922 (.sl (.int .i64)) false))])], []⟩), (2, ⟨[(3, sb), (4, sj), (7, s8), (10, s0), (11, (.own 206920 (.int .i64) true)), (18, s3), (19, s0), (20, s0), (24, s3), (25, s0), (26, s0)], [(.exit 2, [(11, (.own 206921 (.int .i64) true))])], [3, 4, 7, 18, 19, 20]⟩)], [], [44], none⟩
noncomputable def F20H : FnH := ⟨73, Tryz.f73, (.tup s8 .unit), s5, [], [], [(0, ⟨[(5, s8), (6, s0), (7, s0)], [(.ret, [(2, s0)]), (.exit 0, [])], []⟩)], [], [], none⟩
noncomputable def F1hH : FnH := ⟨139, Tryz.f139, (.tup s3 sc), s4, [], [], [(0, ⟨[(1, s3), (7, s3), (8, s0), (9, s0)], [(.ret, [(4, sx)]), (.exit 0, [])], []⟩)], [], [], none⟩
noncomputable def F9H : FnH := ⟨74, Tryz.f74, (.tup s9 (.tup s8 .unit)), (.tup (.own 206931 (.int .i64) true) .unit), [], [], [(0, ⟨[(1, s8), (2, sb), (5, (.own 206926 (.sl (.int .i64)) false)), (6, s0)], [(.exit 0, [(1206926, (.own 206926 (.sl (.int .i64)) false))])], [2, 5]⟩), (2, ⟨[(1, s8), (2, sb), (5, s8), (6, s0), (7, (.own 206924 (.int .i64) true)), (27, s3), (28, s0), (29, s0)], [(.exit 2, [(7, (.own 206925 (.int .i64) true))])], [1, 2, 5, 6]⟩), (4, ⟨[(2, sb), (5, s8), (10, (.own 206927 (.int .i64) true)), (11, s0)], [(.exit 4, [(10, (.own 206930 (.int .i64) true))])], []⟩), (6, ⟨[(2, sb), (5, s8), (10, (.own 206928 (.int .i64) true)), (11, s0), (69, s3), (70, s0), (71, s0)], [(.exit 6, [(1206928, .any), (10, (.own 206929 (.int .i64) true))])], [2, 5, 11]⟩)], [], [], none⟩
noncomputable def F2tH : FnH := ⟨292, Tryz.f292, (.tup s7 sm), s4, [], [], [(0, ⟨[(0, s7), (1, s7), (12, s0), (13, s0)], [(.ret, [(4, sx)]), (.exit 0, [])], []⟩)], [], [], none⟩
noncomputable def F21H : FnH := ⟨229, Tryz.f229, (.tup (.own 206934 (.sl tyNode) true) sm), (.tup .any (.tup (.own 206937 (.sl tyNode) true) .unit)), [206934], [], [(0, ⟨[(0, (.own 206935 (.sl tyNode) true)), (1, s7), (7, (.ref 206935)), (8, s0), (9, s0)], [(.ret, [(1206935, (.own 206935 (.sl tyNode) true)), (4, (.ref 206935))]), (.exit 0, [(1206935, (.own 206935 (.sl tyNode) true))])], [0, 1]⟩)], [], [], none⟩
noncomputable def F4wH : FnH := ⟨338, Tryz.f338, (.tup s0 (.tup s0 sm)), s4, [], [], [], [], [], none⟩
noncomputable def F56H : FnH := ⟨339, Tryz.f339, (.tup s0 (.tup s0 sm)), (.tup s7 s4), [], [], [], [], [], none⟩
noncomputable def FwH : FnH := ⟨293, Tryz.f293, (.tup s0 (.tup s0 (.tup s7 sw))), (.tup s7 s4), [], [], [(0, ⟨[(0, s0), (1, s0), (2, s7), (3, s6), (26, s6), (27, s0), (28, s0)], [(.ret, [(8, (.nl tyNode)), (9, sx)]), (.exit 0, [])], [0, 1, 2, 3]⟩), (2, ⟨[(0, s0), (1, s0), (3, s6), (12, (.own 206944 tyNode true)), (38, s7), (39, s0), (40, s0)], [(.exit 2, [(12, (.own 206945 tyNode true))])], [0, 1]⟩)], [], [], none⟩
noncomputable def F16H : FnH := ⟨230, Tryz.f230, (.tup s9 (.tup s0 sm)), (.tup s7 s4), [], [], [(0, ⟨[(1, s0), (2, s7), (3, sb), (8, (.own 206941 (.sl tyNode) true)), (9, s0)], [(.exit 0, [(8, (.own 206942 (.sl tyNode) true))])], [1, 2, 3]⟩), (2, ⟨[(2, s7), (3, sb), (8, (.own 206943 (.sl tyNode) false)), (30, so), (31, s0), (32, s0)], [(.exit 2, [(1206943, (.own 206943 (.sl tyNode) false))])], [2, 3, 8]⟩)], [], [], none⟩
noncomputable def FjH : FnH := ⟨163, Tryz.f163, (.tup s9 sw), (.tup (.own 206948 (.sl tyNode) true) .unit), [], [], [(0, ⟨[(1, s6), (2, sb), (5, (.own 206933 (.sl tyNode) true)), (14, sk), (15, s0), (16, s0)], [(.exit 0, [(5, (.own 206938 (.sl tyNode) true))])], [1, 2]⟩), (2, ⟨[(2, sb), (5, (.own 206939 (.sl tyNode) true)), (25, s6), (26, s0), (27, s0)], [(.exit 2, [(5, (.own 206947 (.sl tyNode) true))])], []⟩), (4, ⟨[(2, sb), (5, (.own 206940 (.sl tyNode) true)), (9, s7), (25, s6), (26, s0), (27, s0), (33, s0), (34, s0)], [(.exit 4, [(5, (.own 206946 (.sl tyNode) true))])], [2, 25, 26, 27]⟩)], [], [], none⟩
noncomputable def F2cH : FnH := ⟨165, Tryz.f165, (.tup s9 (.tup si (.tup s0 s5))), (.tup (.own 206951 (.int .i64) true) .unit), [], [], [(0, ⟨[(3, s0), (4, sb), (5, sj), (9, (.own 206949 (.int .i64) true)), (14, s3), (15, s0), (16, s0)], [(.exit 0, [(9, (.own 206950 (.int .i64) true))])], []⟩)], [], [], none⟩
noncomputable def F1qH : FnH := ⟨294, Tryz.f294, (.tup s3 sc), s4, [], [], [(0, ⟨[(1, s3), (7, s3), (8, s0), (9, s0)], [(.ret, [(4, sx)]), (.exit 0, [])], []⟩)], [], [], none⟩
noncomputable def F6bH : FnH := ⟨231, Tryz.f231, (.tup s9 (.tup s7 (.tup s3 sc))), s4, [], [], [], [], [], none⟩
noncomputable def F3hH : FnH := ⟨164, Tryz.f164, (.tup s9 (.tup s6 (.tup s3 sc))), s5, [], [], [(0, ⟨[(2, s3), (3, s3), (4, sb), (11, s6), (12, s0), (13, s0)], [(.ret, [(8, s0)]), (.exit 0, [])], []⟩)], [], [], none⟩
noncomputable def F5zH : FnH := ⟨88, Tryz.f88, (.tup s9 (.tup si (.tup s6 sc))), (.tup (.one (.own 206952 (.int .i64) true)) s5), [], [], [], [], [], none⟩
noncomputable def F2aH : FnH := ⟨39, Tryz.f39, ss, (.tup (.pair s0 (.pair (.own 206960 (.int .i64) true) (.v (.pair (.int .i64) tySight)))) s4), [], [], [(0, ⟨[(1, s6), (2, s7), (3, s0), (4, sb), (8, (.box 206917 (.v tyFinding))), (10, (.box 206953 (.one s3))), (11, s0)], [(.ret, [(2206917, (.box 206917 (.pair s0 (.pair (.own 206959 (.int .i64) true) (.pair s0 (.one s3)))))), (2206953, .any), (9, sx)]), (.exit 0, [(2206917, (.box 206917 (.v tyFinding))), (2206953, (.box 206953 si))])], [3, 8, 10]⟩)], [], [], none⟩
noncomputable def F4gH : FnH := ⟨275, Tryz.f275, s5, s4, [], [], [], [], [], none⟩
noncomputable def F4lH : FnH := ⟨276, Tryz.f276, s5, s4, [], [], [], [], [], none⟩
noncomputable def F4kH : FnH := ⟨334, Tryz.f334, s5, (.tup s0 (.tup s0 s5)), [], [], [], [], [], none⟩
noncomputable def F0H : FnH := ⟨183, Tryz.f183, s5, sa, [], [], [], [], [], none⟩
noncomputable def F49H : FnH := ⟨364, Tryz.f364, (.tup s0 sa), s4, [], [], [], [], [], none⟩
noncomputable def F6eH : FnH := ⟨335, Tryz.f335, (.tup s0 (.tup s0 s16)), s4, [], [], [], [], [], none⟩
noncomputable def F5gH : FnH := ⟨336, Tryz.f336, (.tup s0 sh), s4, [], [], [], [], [], none⟩
noncomputable def F2iH : FnH := ⟨152, Tryz.f152, (.tup s3 (.tup (.v (.fn 336 (.pair (.int .i64) .nil))) .unit)), s5, [], [], [(0, ⟨[(0, s3), (1, (.v (.fn 336 (.pair (.int .i64) .nil)))), (7, s0), (8, s0)], [(.ret, [(4, s0)]), (.exit 0, [])], []⟩)], [], [], none⟩
noncomputable def F5uH : FnH := ⟨144, Tryz.f144, (.tup s3 (.tup (.v (.fn 336 (.pair (.int .i64) .nil))) .unit)), s4, [], [], [], [], [], none⟩
noncomputable def FuH : FnH := ⟨284, Tryz.f284, (.tup s0 (.tup s0 sm)), s4, [], [], [(0, ⟨[(0, s0), (1, s0), (7, (.own 206961 (.int .i64) true)), (33, s7), (34, s0), (35, s0)], [(.ret, [(6, sx)]), (.exit 0, [(7, (.own 206962 (.int .i64) true))])], []⟩)], [], [], none⟩
noncomputable def F6xH : FnH := ⟨285, Tryz.f285, sm, s5, [], [], [], [], [], none⟩
noncomputable def F46H : FnH := ⟨208, Tryz.f208, (.tup s0 (.tup s0 (.tup s7 s5))), s4, [], [], [], [], [], none⟩
noncomputable def F48H : FnH := ⟨129, Tryz.f129, (.tup s9 sm), s4, [], [], [], [], [], none⟩
noncomputable def F2dH : FnH := ⟨279, Tryz.f279, (.tup s9 (.tup (.v tyCommand) .unit)), s4, [], [], [(0, ⟨[(2, sb), (3, (.sp tyCommand)), (13, so), (14, s0), (15, s0)], [(.ret, [(4, sx)]), (.exit 0, [])], []⟩)], [], [], none⟩
noncomputable def F6sH : FnH := ⟨278, Tryz.f278, (.tup (.v tyCommand) (.tup sb .unit)), s4, [], [], [], [], [], none⟩
noncomputable def F3pH : FnH := ⟨331, Tryz.f331, (.tup sk (.tup (.v (.fn 278 (.pair tyProgram .nil))) .unit)), s5, [], [], [(0, ⟨[(0, sk), (1, (.v (.fn 278 (.pair tyProgram .nil)))), (7, s0), (8, s0)], [(.ret, [(4, s0)]), (.exit 0, [])], []⟩)], [], [], none⟩
noncomputable def F57H : FnH := ⟨277, Tryz.f277, (.tup sk (.tup (.v (.fn 278 (.pair tyProgram .nil))) .unit)), s4, [], [], [], [], [], none⟩
noncomputable def F3zH : FnH := ⟨204, Tryz.f204, s14, s4, [], [], [], [], [], none⟩
noncomputable def F4iH : FnH := ⟨125, Tryz.f125, s14, s4, [], [], [], [], [], none⟩
noncomputable def F5kH : FnH := ⟨130, Tryz.f130, (.tup s7 (.tup sb .unit)), s4, [], [], [], [], [], none⟩
noncomputable def F31H : FnH := ⟨207, Tryz.f207, (.tup s6 (.tup (.v (.fn 130 (.pair tyProgram .nil))) .unit)), s5, [], [], [(0, ⟨[(0, s6), (1, (.v (.fn 130 (.pair tyProgram .nil)))), (7, s0), (8, s0)], [(.ret, [(4, s0)]), (.exit 0, [])], []⟩)], [], [], none⟩
noncomputable def F5jH : FnH := ⟨127, Tryz.f127, (.tup s6 (.tup (.v (.fn 130 (.pair tyProgram .nil))) .unit)), s4, [], [], [], [], [], none⟩
noncomputable def F3tH : FnH := ⟨64, Tryz.f64, (.tup s9 (.tup s6 s5)), s4, [], [], [], [], [], none⟩
noncomputable def F4xH : FnH := ⟨119, Tryz.f119, s5, s4, [], [], [], [], [], none⟩
noncomputable def F67H : FnH := ⟨90, Tryz.f90, ss, s4, [], [], [], [], [], none⟩
noncomputable def F5pH : FnH := ⟨133, Tryz.f133, (.tup (.nl (.sl tyNode)) s5), (.tup (.own 206963 (.sl tyNode) false) .unit), [], [], [], [], [], none⟩
noncomputable def F11H : FnH := ⟨66, Tryz.f66, (.tup (.v (.sl (.sl (.sl tyNode)))) .unit), (.tup (.own 206966 (.sl tyNode) false) .unit), [], [], [(0, ⟨[(0, (.v (.sl (.sl (.sl tyNode))))), (3, s0), (9, (.v (.sl (.sl (.sl tyNode))))), (10, s0), (11, s0)], [(.exit 0, [(3, s0)])], [0]⟩), (2, ⟨[(6, (.own 206964 (.sl tyNode) false)), (25, (.v (.sl (.sl (.sl tyNode))))), (26, s0), (27, s0)], [(.exit 2, [(6, (.own 206965 (.sl tyNode) false))])], []⟩)], [], [], none⟩
noncomputable def F44H : FnH := ⟨131, Tryz.f131, s14, s5, [], [], [], [], [], none⟩
noncomputable def F1nH : FnH := ⟨106, Tryz.f106, (.tup s9 s5), (.tup (.own 206969 (.int .u64) true) .unit), [], [], [(0, ⟨[(1, s0), (2, sb), (5, (.own 206967 (.int .u64) true)), (9, s0), (10, s0)], [(.exit 0, [(5, (.own 206968 (.int .u64) true))])], []⟩)], [], [], none⟩
noncomputable def F6lH : FnH := ⟨347, Tryz.f347, s12, s4, [], [], [], [], [], none⟩
noncomputable def F5lH : FnH := ⟨348, Tryz.f348, (.tup se (.tup se sa)), (.tup se sa), [], [], [], [], [], none⟩
noncomputable def F4vH : FnH := ⟨311, Tryz.f311, s12, (.tup se (.tup se s4)), [], [], [], [], [], none⟩
noncomputable def F3sH : FnH := ⟨312, Tryz.f312, (.tup s0 (.tup se (.tup se s4))), sa, [], [], [], [], [], none⟩
noncomputable def FeH : FnH := ⟨313, Tryz.f313, s4, sa, [], [], [], [], [], none⟩
noncomputable def FvH : FnH := ⟨314, Tryz.f314, (.tup s0 sa), s5, [], [], [], [], [], none⟩
noncomputable def F4nH : FnH := ⟨243, Tryz.f243, (.tup s0 s12), sa, [], [], [], [], [], none⟩
noncomputable def FoH : FnH := ⟨182, Tryz.f182, (.tup s0 (.tup s7 s13)), sa, [], [], [(0, ⟨[(0, s0), (2, sd), (7, (.own 206972 (.int .u64) true)), (12, s7), (13, s0), (14, s0)], [(.exit 0, [(7, (.own 206973 (.int .u64) true))])], []⟩)], [], [], none⟩
noncomputable def F1xH : FnH := ⟨286, Tryz.f286, (.tup (.v (.sl tySaid)) .unit), (.tup (.one (.own 206978 (.int .i64) true)) .unit), [], [], [(0, ⟨[(2, sj), (3, (.map 206974 tySaid (.int .i64))), (4, (.box 206975 (.one (.own 206976 (.int .i64) true)))), (11, (.v (.sl tySaid))), (12, s0), (13, s0)], [(.exit 0, [(1206974, (.map 206974 tySaid (.int .i64))), (2206975, (.box 206975 (.one (.own 206977 (.int .i64) true))))])], [2, 4]⟩)], [], [], none⟩
noncomputable def F1cH : FnH := ⟨209, Tryz.f209, (.tup s9 sw), (.tup (.one (.own 206979 (.int .i64) true)) s4), [], [], [(0, ⟨[(1, s6), (2, sb), (4, sj), (6, (.own 206971 tySaid true)), (25, s0), (26, s0)], [(.exit 0, [(1206971, (.own 206971 tySaid true))])], [4, 6]⟩), (2, ⟨[(1, s6), (2, sb), (4, sj), (6, (.own 206970 tySaid true)), (7, s0), (8, sd), (25, s0), (26, s0), (32, s6), (33, s0), (34, s0)], [(.exit 2, [(1206970, (.own 206970 tySaid true))])], [1, 2, 4, 6, 25, 26]⟩)], [], [], none⟩
noncomputable def F29H : FnH := ⟨218, Tryz.f218, (.tup si s5), s4, [], [], [(0, ⟨[(1, s0), (2, sj), (5, s0), (9, s3), (10, s0), (11, s0)], [(.ret, [(4, sx)]), (.exit 0, [])], [1, 2]⟩)], [], [], none⟩
noncomputable def F5aH : FnH := ⟨142, Tryz.f142, (.tup s9 (.tup si .unit)), s4, [], [], [], [], [], none⟩
noncomputable def F22H : FnH := ⟨210, Tryz.f210, (.tup si (.tup si .unit)), (.tup (.one (.own 206982 (.int .i64) true)) .unit), [], [], [(0, ⟨[(3, sj), (4, sj), (5, (.own 206980 tySaid true)), (10, s3), (11, s0), (12, s0)], [(.exit 0, [(5, (.own 206981 tySaid true))])], [4]⟩)], [], [], none⟩
noncomputable def F4uH : FnH := ⟨132, Tryz.f132, (.tup s9 (.tup si sm)), (.tup (.one (.own 206983 (.int .i64) true)) s4), [], [], [], [], [], none⟩
noncomputable def F37H : FnH := ⟨65, Tryz.f65, (.tup s9 sw), (.tup (.one (.own 206987 (.int .i64) true)) .unit), [], [], [(0, ⟨[(2, sb), (4, sj), (5, (.box 206984 (.one (.own 206985 (.int .i64) true)))), (12, s6), (13, s0), (14, s0)], [(.exit 0, [(2206984, (.box 206984 (.one (.own 206986 (.int .i64) true))))])], [4, 5]⟩)], [], [], none⟩
noncomputable def F2qH : FnH := ⟨219, Tryz.f219, sc, s5, [], [], [(0, ⟨[(0, s3), (3, s0), (4, s0)], [(.exit 0, [(3, s0)])], []⟩)], [], [], none⟩
noncomputable def FrH : FnH := ⟨143, Tryz.f143, (.tup si .unit), s5, [], [], [], [], [], none⟩
noncomputable def F1vH : FnH := ⟨304, Tryz.f304, (.tup si s5), (.tup (.own 206991 (.int .i64) true) .unit), [], [], [(0, ⟨[(1, s0), (5, (.own 206989 (.int .i64) true)), (10, s3), (11, s0), (12, s0)], [(.exit 0, [(5, (.own 206990 (.int .i64) true))])], []⟩)], [], [], none⟩
noncomputable def FmH : FnH := ⟨105, Tryz.f105, (.tup s9 (.tup s7 s13)), s4, [], [], [], [], [], none⟩
noncomputable def F77H : FnH := ⟨337, Tryz.f337, s13, (.tup (.own 206994 (.int .u64) true) .unit), [], [], [], [], [], none⟩
noncomputable def F3gH : FnH := ⟨290, Tryz.f290, (.tup s9 (.tup (.v tyCommand) s13)), (.tup (.own 206996 (.int .u64) true) .unit), [], [], [(0, ⟨[(2, sd), (3, sb), (7, (.own 206995 (.int .u64) true)), (13, so), (14, s0), (15, s0)], [(.exit 0, [(1206995, (.own 206995 (.int .u64) true))])], [7]⟩)], [], [], none⟩
noncomputable def F2uH : FnH := ⟨289, Tryz.f289, (.tup s9 s13), s5, [], [], [(0, ⟨[(2, sb), (5, s0), (8, sd), (9, s0), (10, s0)], [(.exit 0, [(5, s0)])], []⟩)], [], [], none⟩
noncomputable def F71H : FnH := Jex 282 Tryz.f282 206999
noncomputable def F6tH : FnH := J48 283 Tryz.f283 207000 207001
noncomputable def F1mH : FnH := ⟨222, Tryz.f222, (.tup s9 s5), (.tup (.own 206998 (.int .i64) true) .unit), [], [], [(0, ⟨[(1, s0), (2, sb), (5, sd), (6, (.own 206993 (.int .i64) true)), (14, sk), (15, s0), (16, s0)], [(.exit 0, [(6, (.own 206997 (.int .i64) true))])], [1]⟩)], [], [], none⟩
noncomputable def F1tH : FnH := ⟨220, Tryz.f220, (.tup (.v (.sl .bool)) .unit), (.tup (.own 207006 (.int .i64) true) .unit), [], [], [(0, ⟨[(3, (.own 207004 (.int .i64) true)), (7, (.v (.sl .bool))), (8, s0), (9, s0)], [(.exit 0, [(3, (.own 207005 (.int .i64) true))])], []⟩)], [], [], none⟩
noncomputable def F1sH : FnH := ⟨171, Tryz.f171, (.tup si sc), (.tup (.own 207007 (.int .i64) true) .unit), [], [], [(0, ⟨[(2, sj), (5, (.own 207003 .bool true)), (11, s3), (12, s0), (13, s0)], [(.exit 0, [(1207003, (.own 207003 .bool true))])], [5]⟩)], [], [], none⟩
noncomputable def F2xH : FnH := ⟨239, Tryz.f239, (.tup s9 (.tup si s5)), (.tup (.own 207008 (.int .i64) true) .unit), [], [], [(0, ⟨[(3, sb), (4, sj), (7, (.own 206992 (.int .i64) true)), (13, s3), (14, s0), (15, s0)], [(.exit 0, [(7, (.own 207002 (.int .i64) true))])], [4]⟩)], [], [], none⟩
noncomputable def F39H : FnH := ⟨170, Tryz.f170, (.tup s9 (.tup si .unit)), (.tup (.own 207010 (.sl (.int .i64)) true) .unit), [], [], [(0, ⟨[(2, sb), (3, sj), (5, (.own 206988 (.sl (.int .i64)) true)), (9, s0), (10, s0)], [(.exit 0, [(5, (.own 207009 (.sl (.int .i64)) true))])], []⟩)], [], [], none⟩
noncomputable def F1kH : FnH := ⟨172, Tryz.f172, (.tup s9 sm), (.tup (.own 207013 (.int .i64) true) .unit), [], [], [(0, ⟨[(1, s7), (2, sb), (5, (.own 207011 (.int .i64) true)), (9, s0), (10, s0)], [(.exit 0, [(5, (.own 207012 (.int .i64) true))])], []⟩)], [], [], none⟩
noncomputable def F1aH : FnH := ⟨295, Tryz.f295, (.tup s8 .unit), (.tup (.own 207016 (.sl (.int .i64)) true) .unit), [], [], [(0, ⟨[(3, (.own 207015 (.sl (.int .i64)) true)), (11, s8), (12, s0), (13, s0)], [(.exit 0, [(1207015, (.own 207015 (.sl (.int .i64)) true))])], [3]⟩), (2, ⟨[(3, (.own 207014 (.sl (.int .i64)) true)), (4, s0), (11, s8), (12, s0), (13, s0), (18, s3), (19, s0), (20, s0)], [(.exit 2, [(1207014, (.own 207014 (.sl (.int .i64)) true))])], [3, 11, 12, 13]⟩)], [], [], none⟩
noncomputable def F5fH : FnH := ⟨322, Tryz.f322, (.tup se sa), (.tup se sa), [], [], [], [], [], none⟩
noncomputable def F3yH : FnH := ⟨259, Tryz.f259, (.tup se sa), (.tup se sa), [], [], [], [], [], none⟩
noncomputable def F2jH : FnH := ⟨193, Tryz.f193, (.tup s3 s5), (.tup (.own 207018 (.int .i64) true) .unit), [], [], [(0, ⟨[(7, (.own 207017 (.int .i64) true)), (8, s0)], [(.exit 0, [(1207017, (.own 207017 (.int .i64) true))])], [7]⟩)], [], [], none⟩
noncomputable def F4bH : FnH := ⟨158, Tryz.f158, sc, (.tup (.own 207019 (.int .i64) true) .unit), [], [], [], [], [], none⟩
noncomputable def FkH : FnH := ⟨238, Tryz.f238, (.tup s8 sc), (.tup (.own 207026 (.int .i64) true) .unit), [], [], [(0, ⟨[(0, s8), (5, (.own 207020 (.int .i64) true)), (6, s3), (17, s3), (18, s0), (19, s0)], [(.exit 0, [(1207020, (.own 207020 (.int .i64) true))])], [0, 5, 6]⟩), (2, ⟨[(0, s8), (5, (.own 207024 (.int .i64) true)), (6, (.own 207021 (.int .i64) true))], [(.exit 2, [(1207024, (.own 207024 (.int .i64) true))])], [5]⟩), (4, ⟨[(0, s8), (5, (.own 207023 (.int .i64) true)), (6, (.own 207022 (.int .i64) true)), (37, s3), (38, s0), (39, s0)], [(.exit 4, [(1207023, (.own 207023 (.int .i64) true)), (6, (.own 207025 (.int .i64) true))])], [0, 5]⟩)], [], [], none⟩
noncomputable def F5sH : FnH := ⟨296, Tryz.f296, (.tup s0 (.tup s10 sh)), s4, [], [], [], [], [], none⟩
noncomputable def F2zH : FnH := ⟨152, Tryz.f152, (.tup s3 (.tup (.v (.fn 296 (.pair (.sl (.int .i64)) (.pair (.int .i64) .nil)))) .unit)), s5, [], [], [(0, ⟨[(0, s3), (1, (.v (.fn 296 (.pair (.sl (.int .i64)) (.pair (.int .i64) .nil))))), (7, s0), (8, s0)], [(.ret, [(4, s0)]), (.exit 0, [])], []⟩)], [], [], none⟩
noncomputable def FfH : FnH := ⟨232, Tryz.f232, (.tup s8 (.tup s3 sc)), (.tup (.own 207030 (.int .i64) true) .unit), [], [(61, 10148)], [(0, ⟨[(0, s8), (7, s10), (8, s0), (18, s3), (19, s0), (20, s0)], [(.exit 0, [(8, s0)])], [0, 7]⟩), (2, ⟨[(0, s8), (7, s10), (11, (.own 207027 (.int .i64) true)), (12, (.box 207028 s0))], [(.exit 2, [(11, (.own 207029 (.int .i64) true))])], []⟩)], [], [], none⟩
noncomputable def F72H : FnH := ⟨166, Tryz.f166, (.tup s9 (.tup si sm)), (.tup (.own 207031 (.int .i64) true) .unit), [], [], [], [], [], none⟩
noncomputable def F24H : FnH := ⟨147, Tryz.f147, s14, (.tup (.own 207036 (.sl (.int .i64)) true) .unit), [], [], [(0, ⟨[(1, sb), (3, (.own 207034 (.sl (.int .i64)) true)), (7, s0), (8, s0)], [(.exit 0, [(3, (.own 207035 (.sl (.int .i64)) true))])], []⟩)], [], [], none⟩
noncomputable def F4sH : FnH := ⟨221, Tryz.f221, (.tup s0 (.tup sj sh)), s4, [], [], [], [], [], none⟩
noncomputable def F3iH : FnH := ⟨152, Tryz.f152, (.tup s3 (.tup sr .unit)), s5, [], [], [(0, ⟨[(0, s3), (1, sr), (7, s0), (8, s0)], [(.ret, [(4, s0)]), (.exit 0, [])], []⟩)], [], [], none⟩
noncomputable def F1rH : FnH := ⟨149, Tryz.f149, (.tup (.own 207042 (.int .i64) true) (.tup sr .unit)), (.tup .any (.tup (.own 207043 (.int .i64) true) .unit)), [207042], [(10, 10154)], [(0, ⟨[(0, (.own 207041 (.int .i64) true)), (1, sr), (5, s0), (6, s0)], [(.exit 0, [(1207041, (.own 207041 (.int .i64) true)), (5, s0)])], [0]⟩)], [], [], none⟩
noncomputable def F8H : FnH := ⟨146, Tryz.f146, (.tup s9 (.tup si sc)), (.tup (.own 207045 (.sl (.int .i64)) true) .unit), [], [], [(0, ⟨[(3, sb), (4, sj), (7, (.own 207037 (.sl (.int .i64)) true)), (8, s8), (9, (.own 207038 (.int .i64) true)), (24, s3), (25, s0), (26, s0)], [(.exit 0, [(7, (.own 207044 (.sl (.int .i64)) true))])], []⟩), (2, ⟨[(3, sb), (4, sj), (7, s8), (8, s8), (11, s17), (12, (.own 207040 .bool true)), (24, s3), (25, s0), (26, s0), (36, s3), (37, s0), (38, s0)], [(.exit 2, [(1207040, (.own 207040 .bool true))])], [3, 4, 7, 8, 11, 12, 24, 25, 26]⟩), (4, ⟨[(3, sb), (4, sj), (7, s8), (8, s8), (11, s17), (12, (.own 207039 .bool true)), (24, s3), (25, s0), (26, s0), (36, s3), (37, s0), (38, s0), (45, s3), (46, s0), (47, s0)], [(.exit 4, [(1207039, (.own 207039 .bool true))])], [3, 4, 7, 8, 11, 12, 24, 25, 26, 36, 37, 38]⟩)], [], [], none⟩
noncomputable def F6gH : FnH := ⟨224, Tryz.f224, sc, s4, [], [], [], [], [], none⟩
noncomputable def F2yH : FnH := ⟨223, Tryz.f223, (.tup s8 (.tup (.v (.fn 224 .nil)) .unit)), s5, [], [], [(0, ⟨[(0, s8), (1, (.v (.fn 224 .nil))), (7, s0), (8, s0)], [(.ret, [(4, s0)]), (.exit 0, [])], []⟩)], [], [], none⟩
noncomputable def F35H : FnH := ⟨148, Tryz.f148, (.tup s8 .unit), s5, [], [], [], [], [], none⟩
noncomputable def F3nH : FnH := ⟨173, Tryz.f173, (.tup s3 s5), s5, [], [], [(0, ⟨[(0, s3), (1, s0), (7, s0), (8, s0)], [(.ret, [(4, s0)]), (.exit 0, [])], []⟩)], [], [], none⟩
noncomputable def F4jH : FnH := ⟨96, Tryz.f96, (.tup s3 s5), s4, [], [], [], [], [], none⟩
noncomputable def F3xH : FnH := ⟨151, Tryz.f151, (.tup s0 (.tup sq sh)), s4, [], [], [], [], [], none⟩
noncomputable def FiH : FnH := ⟨152, Tryz.f152, (.tup s3 (.tup su .unit)), s5, [], [], [(0, ⟨[(0, s3), (1, su), (7, s0), (8, s0)], [(.ret, [(4, s0)]), (.exit 0, [])], []⟩)], [], [], none⟩
noncomputable def F41H : FnH := ⟨144, Tryz.f144, (.tup s3 (.tup su .unit)), s4, [], [(7, 10163)], [], [], [], none⟩
noncomputable def FlH : FnH := ⟨150, Tryz.f150, (.tup s0 (.tup sq (.tup sq sh))), s4, [], [(11, 10162)], [], [], [], none⟩
noncomputable def F1H : FnH := ⟨152, Tryz.f152, (.tup s3 (.tup sg .unit)), s5, [], [], [(0, ⟨[(0, s3), (1, sg), (7, s0), (8, s0)], [(.ret, [(4, s0)]), (.exit 0, [])], []⟩)], [], [], none⟩
noncomputable def FdH : FnH := ⟨149, Tryz.f149, (.tup (.own 207047 (.int .i64) true) (.tup sg .unit)), (.tup .any (.tup (.own 207048 (.int .i64) true) .unit)), [207047], [(10, 10160)], [(0, ⟨[(0, (.own 207046 (.int .i64) true)), (1, sg), (5, s0), (6, s0)], [(.exit 0, [(1207046, (.own 207046 (.int .i64) true)), (5, s0)])], [0]⟩)], [], [], none⟩
noncomputable def F6fH : FnH := ⟨151, Tryz.f151, (.tup s0 (.tup (.sp (.hsl (.sl (.int .i64)))) sh)), s4, [], [], [], [], [], none⟩
noncomputable def F3fH : FnH := ⟨152, Tryz.f152, (.tup s3 (.tup st .unit)), s5, [], [(16, 10172)], [(0, ⟨[(0, s3), (1, st), (7, s0), (8, s0)], [(.ret, [(4, s0)]), (.exit 0, [])], []⟩)], [], [], none⟩
noncomputable def F58H : FnH := ⟨144, Tryz.f144, (.tup s3 (.tup st .unit)), s4, [], [(7, 10171)], [], [], [], none⟩
noncomputable def F4mH : FnH := ⟨150, Tryz.f150, (.tup s0 (.tup sq (.tup (.sp (.hsl (.sl (.int .i64)))) sh))), s4, [], [(11, 10170)], [], [], [], none⟩
noncomputable def F2oH : FnH := ⟨152, Tryz.f152, (.tup s3 (.tup sf .unit)), s5, [], [(16, 10169)], [(0, ⟨[(0, s3), (1, sf), (7, s0), (8, s0)], [(.ret, [(4, s0)]), (.exit 0, [])], []⟩)], [], [], none⟩
noncomputable def F2bH : FnH := ⟨149, Tryz.f149, (.tup (.own 207052 (.int .i64) true) (.tup sf .unit)), (.tup .any (.tup (.own 207053 (.int .i64) true) .unit)), [207052], [(10, 10168), (28, 10169)], [(0, ⟨[(0, (.own 207051 (.int .i64) true)), (1, sf), (5, s0), (6, s0)], [(.exit 0, [(1207051, (.own 207051 (.int .i64) true)), (5, s0)])], [0]⟩)], [], [], none⟩
noncomputable def F5cH : FnH := ⟨153, Tryz.f153, (.tup s0 (.tup sq (.tup s10 sh))), s4, [], [], [], [], [], none⟩
noncomputable def F2lH : FnH := ⟨152, Tryz.f152, (.tup s3 (.tup s11 .unit)), s5, [], [], [(0, ⟨[(0, s3), (1, s11), (7, s0), (8, s0)], [(.ret, [(4, s0)]), (.exit 0, [])], []⟩)], [], [], none⟩
noncomputable def F2H : FnH := ⟨77, Tryz.f77, (.tup s9 (.tup si sc)), (.tup (.own 207057 (.int .i64) true) .unit), [], [(39, 10167), (58, 10173)], [(0, ⟨[(7, (.box 207049 (.own 207050 (.sl (.int .i64)) true))), (8, sq), (9, s0), (10, s17)], [(.exit 0, [(2207049, (.box 207049 (.own 207050 (.sl (.int .i64)) true)))])], [7, 8, 9]⟩), (2, ⟨[(7, sq), (8, sq), (9, s0), (11, (.box 207054 (.own 207055 (.int .i64) true))), (12, s17)], [(.exit 2, [(2207054, (.box 207054 (.own 207056 (.int .i64) true)))])], [11]⟩)], [], [], none⟩
noncomputable def F70H : FnH := ⟨233, Tryz.f233, (.tup s9 (.tup si sc)), (.tup (.own 207061 (.int .i64) true) s4), [], [], [], [], [], none⟩
noncomputable def F2nH : FnH := ⟨299, Tryz.f299, (.tup s7 sm), s4, [], [], [(0, ⟨[(0, s7), (1, s7), (12, s0), (13, s0)], [(.ret, [(4, sx)]), (.exit 0, [])], []⟩)], [], [], none⟩
noncomputable def F75H : FnH := ⟨298, Tryz.f298, (.tup s7 (.tup (.sp (.sl tyNode)) .unit)), s4, [], [], [], [], [], none⟩
noncomputable def F2wH : FnH := ⟨207, Tryz.f207, (.tup s6 (.tup (.v (.fn 298 (.pair (.sl tyNode) .nil))) .unit)), s5, [], [], [(0, ⟨[(0, s6), (1, (.v (.fn 298 (.pair (.sl tyNode) .nil)))), (7, s0), (8, s0)], [(.ret, [(4, s0)]), (.exit 0, [])], []⟩)], [], [], none⟩
noncomputable def F51H : FnH := ⟨127, Tryz.f127, (.tup s6 (.tup (.v (.fn 298 (.pair (.sl tyNode) .nil))) .unit)), s4, [], [(7, 10180)], [], [], [], none⟩
noncomputable def F5eH : FnH := ⟨300, Tryz.f300, sm, (.tup (.own 207062 tyNode true) .unit), [], [], [], [], [], none⟩
noncomputable def F3uH : FnH := ⟨297, Tryz.f297, (.tup s7 (.tup (.box 207063 (.own 207064 (.sl tyNode) true)) .unit)), (.tup (.box 207063 (.own 207065 (.sl tyNode) true)) .unit), [207063], [(9, 10179)], [], [], [], none⟩
noncomputable def F5mH : FnH := ⟨365, Tryz.f365, (.tup s7 (.tup s17 sh)), s4, [], [], [], [], [], none⟩
noncomputable def F2mH : FnH := ⟨207, Tryz.f207, (.tup s6 (.tup sv .unit)), s5, [], [], [(0, ⟨[(0, s6), (1, sv), (7, s0), (8, s0)], [(.ret, [(4, s0)]), (.exit 0, [])], []⟩)], [], [], none⟩
noncomputable def F6oH : FnH := ⟨127, Tryz.f127, (.tup s6 (.tup sv .unit)), s4, [], [(7, 10187)], [], [], [], none⟩
noncomputable def F5bH : FnH := ⟨366, Tryz.f366, (.tup s0 (.tup s0 sm)), (.tup s7 s4), [], [], [], [], [], none⟩
noncomputable def FzH : FnH := ⟨340, Tryz.f340, (.tup s0 (.tup s0 (.tup s7 sw))), (.tup s7 s4), [], [(27, 10186)], [(0, ⟨[(3, s6), (4, s17), (5, s17), (10, (.own 207072 tyNode true)), (30, s7), (31, s0), (32, s0)], [(.exit 0, [(10, (.own 207073 tyNode true))])], [4, 5]⟩)], [], [], none⟩
noncomputable def F17H : FnH := ⟨301, Tryz.f301, (.tup s9 (.tup s0 sm)), (.tup s7 s4), [], [], [(0, ⟨[(1, s0), (2, s7), (3, sb), (8, (.own 207069 (.sl tyNode) true)), (14, s0), (15, s0)], [(.exit 0, [(8, (.own 207070 (.sl tyNode) true))])], [1, 2, 3]⟩), (2, ⟨[(2, s7), (3, sb), (8, (.own 207071 (.sl tyNode) false)), (31, so), (32, s0), (33, s0)], [(.exit 2, [(1207071, (.own 207071 (.sl tyNode) false))])], [2, 3, 8]⟩)], [], [], none⟩
noncomputable def F5H : FnH := ⟨234, Tryz.f234, (.tup s9 sw), (.tup (.own 207080 (.sl tyNode) true) .unit), [], [], [(0, ⟨[(1, s6), (2, sb), (5, (.box 207066 (.own 207067 (.sl tyNode) true))), (6, (.clo 297 (.tup (.ptr 207066) .unit))), (17, sk), (18, s0), (19, s0)], [(.exit 0, [(2207066, (.box 207066 (.own 207068 (.sl tyNode) true)))])], [1, 2, 5, 6]⟩), (2, ⟨[(2, sb), (5, (.box 207075 (.own 207077 (.sl tyNode) true))), (6, (.clo 297 (.tup (.ptr 207075) .unit))), (28, s6), (29, s0), (30, s0)], [(.exit 2, [(2207075, (.box 207075 (.own 207079 (.sl tyNode) true)))])], [5]⟩), (4, ⟨[(2, sb), (5, (.box 207074 (.own 207076 (.sl tyNode) true))), (6, (.clo 297 (.tup (.ptr 207074) .unit))), (10, s7), (28, s6), (29, s0), (30, s0), (36, s0), (37, s0)], [(.exit 4, [(2207074, (.box 207074 (.own 207078 (.sl tyNode) true)))])], [2, 5, 6, 28, 29, 30]⟩)], [], [], none⟩
noncomputable def F6vH : FnH := ⟨306, Tryz.f306, (.tup s0 (.tup sj sh)), s4, [], [], [], [], [], none⟩
noncomputable def F3mH : FnH := ⟨152, Tryz.f152, (.tup s3 (.tup sz .unit)), s5, [], [], [(0, ⟨[(0, s3), (1, sz), (7, s0), (8, s0)], [(.ret, [(4, s0)]), (.exit 0, [])], []⟩)], [], [], none⟩
noncomputable def F6yH : FnH := ⟨144, Tryz.f144, (.tup s3 (.tup sz .unit)), s4, [], [(7, 10195)], [], [], [], none⟩
noncomputable def F3vH : FnH := ⟨305, Tryz.f305, (.tup s0 (.tup sb (.tup sj sh))), s4, [], [(10, 10194)], [], [], [], none⟩
noncomputable def FhH : FnH := ⟨152, Tryz.f152, (.tup s3 (.tup sn .unit)), s5, [], [], [(0, ⟨[(0, s3), (1, sn), (7, s0), (8, s0)], [(.ret, [(4, s0)]), (.exit 0, [])], []⟩)], [], [], none⟩
noncomputable def F27H : FnH := ⟨149, Tryz.f149, (.tup (.own 207082 (.int .i64) true) (.tup sn .unit)), (.tup .any (.tup (.own 207083 (.int .i64) true) .unit)), [207082], [(10, 10192)], [(0, ⟨[(0, (.own 207081 (.int .i64) true)), (1, sn), (5, s0), (6, s0)], [(.exit 0, [(1207081, (.own 207081 (.int .i64) true)), (5, s0)])], [0]⟩)], [], [], none⟩
noncomputable def F1dH : FnH := ⟨236, Tryz.f236, (.tup s9 (.tup si (.tup s0 s5))), (.tup (.own 207084 (.int .i64) true) .unit), [], [(13, 10191)], [], [], [], none⟩
noncomputable def F40H : FnH := ⟨367, Tryz.f367, (.tup (.nl tyNode) s5), (.tup (.own 207085 tyNode true) .unit), [], [], [], [], [], none⟩
noncomputable def F4H : FnH := ⟨341, Tryz.f341, sw, (.tup (.own 207088 tyNode true) .unit), [], [], [(0, ⟨[(0, s6), (3, s0), (9, s6), (10, s0), (11, s0)], [(.exit 0, [(3, s0)])], [0]⟩), (2, ⟨[(6, (.own 207086 tyNode true)), (25, s6), (26, s0), (27, s0)], [(.exit 2, [(6, (.own 207087 tyNode true))])], []⟩)], [], [], none⟩
noncomputable def F65H : FnH := ⟨368, Tryz.f368, (.tup s0 (.tup sb (.tup (.sp (.sl tyNode)) .unit))), s4, [], [], [], [], [], none⟩
noncomputable def F3kH : FnH := ⟨152, Tryz.f152, (.tup s3 (.tup sy .unit)), s5, [], [], [(0, ⟨[(0, s3), (1, sy), (7, s0), (8, s0)], [(.ret, [(4, s0)]), (.exit 0, [])], []⟩)], [], [], none⟩
noncomputable def F5rH : FnH := ⟨144, Tryz.f144, (.tup s3 (.tup sy .unit)), s4, [], [(7, 10205)], [], [], [], none⟩
noncomputable def F1iH : FnH := ⟨342, Tryz.f342, (.tup s9 (.tup s7 sc)), s4, [], [(9, 10204)], [], [], [], none⟩
noncomputable def F4yH : FnH := ⟨303, Tryz.f303, (.tup s9 (.tup s7 (.tup s3 sc))), s4, [], [], [], [], [], none⟩
noncomputable def F6kH : FnH := ⟨302, Tryz.f302, (.tup s7 (.tup sb (.tup s10 (.tup s10 .unit)))), s4, [], [], [], [], [], none⟩
noncomputable def F2vH : FnH := ⟨207, Tryz.f207, (.tup s6 (.tup s15 .unit)), s5, [], [], [(0, ⟨[(0, s6), (1, s15), (7, s0), (8, s0)], [(.ret, [(4, s0)]), (.exit 0, [])], []⟩)], [], [], none⟩
noncomputable def F42H : FnH := ⟨235, Tryz.f235, (.tup s9 (.tup s6 (.tup s3 sc))), s5, [], [(11, 10198)], [], [], [], none⟩
noncomputable def F2kH : FnH := ⟨237, Tryz.f237, (.tup si sc), (.tup (.one (.own 207091 (.int .i64) true)) .unit), [], [], [(0, ⟨[(2, sj), (4, sj), (5, (.box 207089 (.one (.own 207090 (.int .i64) true)))), (13, s3), (14, s0), (15, s0)], [(.exit 0, [(2207089, (.box 207089 (.one (.own 207090 (.int .i64) true))))])], [2, 4, 5]⟩)], [], [], none⟩
noncomputable def F66H : FnH := ⟨167, Tryz.f167, (.tup s9 (.tup si (.tup s6 sc))), (.tup (.one (.own 207092 (.int .i64) true)) (.tup s0 s4)), [], [], [], [], [], none⟩
noncomputable def F33H : FnH := ⟨91, Tryz.f91, ss, (.tup (.pair s0 (.pair (.own 207098 (.int .i64) true) (.pair s0 (.one (.own 207099 (.int .i64) true))))) .unit), [], [], [(0, ⟨[(1, s6), (2, s7), (3, s0), (4, sb), (8, (.box 207033 (.v tyFinding))), (9, (.box 207032 (.pair s0 (.pair (.own 207058 (.int .i64) true) (.pair s0 (.one (.own 207093 (.int .i64) true)))))))], [(.ret, [(2207032, .any), (2207033, (.box 207033 (.pair s0 (.pair (.own 207096 (.int .i64) true) (.pair s0 (.one (.own 207097 (.int .i64) true)))))))])], [8]⟩)], [], [], none⟩
noncomputable def F4qH : FnH := ⟨41, Tryz.f41, ss, (.tup (.pair s0 (.pair (.own 207100 (.int .i64) true) (.pair s0 (.one (.own 207101 (.int .i64) true))))) s4), [], [], [], [], [], none⟩
noncomputable def F25H : FnH := ⟨31, Tryz.f31, (.tup s3 sc), s4, [], [], [(0, ⟨[(0, s3), (1, s3), (5, s0)], [(.ret, [(4, sx)]), (.exit 0, [])], []⟩)], [], [], none⟩
noncomputable def F5dH : FnH := ⟨17, Tryz.f17, (.tup si (.tup si .unit)), s4, [], [], [], [], [], none⟩
noncomputable def F4fH : FnH := ⟨42, Tryz.f42, (.tup (.v tyFinding) (.tup (.v tyFinding) .unit)), s4, [], [], [], [], [], none⟩
noncomputable def F6H : FnH := ⟨92, Tryz.f92, (.tup (.v tyNode) s16), s4, [], [], [], [], [], none⟩
noncomputable def FbH : FnH := ⟨43, Tryz.f43, (.tup s7 sm), s4, [], [], [(0, ⟨[(0, s7), (1, s7), (5, s0)], [(.ret, [(4, sx)]), (.exit 0, [])], []⟩)], [], [], none⟩
noncomputable def F13H : FnH := ⟨291, Tryz.f291, (.tup (.v tyChange) (.tup (.v tyChange) .unit)), s4, [], [], [], [], [], none⟩
noncomputable def F2hH : FnH := ⟨225, Tryz.f225, (.tup so (.tup so .unit)), s4, [], [], [(0, ⟨[(0, so), (1, so), (5, s0)], [(.ret, [(4, sx)]), (.exit 0, [])], []⟩)], [], [], none⟩
noncomputable def F12H : FnH := ⟨154, Tryz.f154, (.tup (.v tyCommand) (.tup (.v tyCommand) .unit)), s4, [], [], [], [], [], none⟩
noncomputable def F34H : FnH := ⟨78, Tryz.f78, (.tup sk (.tup sk .unit)), s4, [], [], [(0, ⟨[(0, sk), (1, sk), (5, s0)], [(.ret, [(4, sx)]), (.exit 0, [])], []⟩)], [], [], none⟩
noncomputable def F7aH : FnH := ⟨32, Tryz.f32, (.tup s9 s14), s4, [], [], [], [], [], none⟩
noncomputable def F2rH : FnH := ⟨19, Tryz.f19, (.tup s6 sw), s4, [], [], [(0, ⟨[(0, s6), (1, s6), (5, s0)], [(.ret, [(4, sx)]), (.exit 0, [])], []⟩)], [], [], none⟩
noncomputable def FcH : FnH := ⟨44, Tryz.f44, (.tup (.own 207103 tyNode true) s5), (.tup (.own 207103 tyNode true) s5), [207103], [], [(0, ⟨[(0, (.own 207102 tyNode true)), (1, s0), (5, s0)], [(.exit 0, [(1207102, (.own 207102 tyNode true)), (1, s0)])], []⟩)], [], [], none⟩
noncomputable def F3oH : FnH := ⟨155, Tryz.f155, (.tup (.own 207108 tyChange true) s5), (.tup (.own 207108 tyChange true) s5), [207108], [], [(0, ⟨[(0, (.own 207107 tyChange true)), (1, s0), (5, s0)], [(.exit 0, [(1207107, (.own 207107 tyChange true)), (1, s0)])], []⟩)], [], [], none⟩
noncomputable def F3cH : FnH := ⟨79, Tryz.f79, (.tup (.own 207106 tyCommand true) s5), (.tup (.own 207106 tyCommand true) s5), [207106], [], [(0, ⟨[(0, (.own 207105 tyCommand true)), (1, s0), (5, s0)], [(.exit 0, [(1207105, (.own 207105 tyCommand true)), (1, s0)])], []⟩)], [], [], none⟩
noncomputable def F5qH : FnH := ⟨33, Tryz.f33, (.tup (.pair s0 (.pair s0 (.pair (.own 207104 tyNode true) (.own 207109 tyCommand true)))) s5), (.tup (.own 207104 tyNode true) (.tup (.own 207109 tyCommand true) s5)), [207104, 207109], [], [], [], [], none⟩
noncomputable def F3jH : FnH := ⟨21, Tryz.f21, (.tup (.own 207111 (.sl tyNode) true) s5), (.tup (.own 207111 (.sl tyNode) true) s5), [207111], [], [(0, ⟨[(0, (.own 207110 (.sl tyNode) true)), (1, s0), (5, s0)], [(.exit 0, [(1207110, (.own 207110 (.sl tyNode) true)), (1, s0)])], []⟩)], [], [], none⟩
noncomputable def F2eH : FnH := ⟨34, Tryz.f34, (.tup (.own 207113 (.int .i64) true) s5), (.tup (.own 207113 (.int .i64) true) s5), [207113], [], [(0, ⟨[(0, (.own 207112 (.int .i64) true)), (1, s0), (5, s0)], [(.exit 0, [(1207112, (.own 207112 (.int .i64) true)), (1, s0)])], []⟩)], [], [], none⟩
noncomputable def F5nH : FnH := ⟨22, Tryz.f22, (.tup (.one (.own 207115 (.int .i64) true)) s5), (.tup (.own 207115 (.int .i64) true) s5), [207115], [], [], [], [], none⟩
noncomputable def F6hH : FnH := ⟨45, Tryz.f45, (.tup (.pair s0 (.pair (.own 207114 (.int .i64) true) (.pair s0 (.one (.own 207116 (.int .i64) true))))) s5), (.tup (.own 207114 (.int .i64) true) (.tup (.own 207116 (.int .i64) true) s5)), [207114, 207116], [], [], [], [], none⟩
noncomputable def F28H : FnH := ⟨35, Tryz.f35, (.tup s3 s5), s5, [], [], [(0, ⟨[(0, s3), (1, s0), (5, s0)], [(.ret, [(4, s0)]), (.exit 0, [(1, s0)])], []⟩)], [], [], none⟩
noncomputable def F6qH : FnH := ⟨23, Tryz.f23, (.tup si s5), s5, [], [], [], [], [], none⟩
noncomputable def F4tH : FnH := ⟨46, Tryz.f46, (.tup (.v tyFinding) s5), s5, [], [], [], [], [], none⟩
noncomputable def F7sH : FnH := ⟨6, Tryz.f6, ss, s4, [], [], [], [], [], none⟩
def extsL : List (Nat × ExtF) := []
def tysL : List (Nat × Ty) := [(2, (.int .i64)), (3, (.int .i64)), (4, .bool), (22, (.sl tyNode)), (23, (.sl tyCommand)), (25, tyProgram), (26, (.sl (.sl tyNode))), (32, (.sl (.int .i64))), (34, tySight), (37, (.sl tyNode)), (38, (.sl tyCommand)), (40, tyProgram), (41, (.sl (.sl tyNode))), (72, tyFinding), (106, (.sl (.sl (.int .i64)))), (121, (.int .u64)), (123, tyNode), (125, tyNode), (139, (.sl (.int .u64))), (141, (.sl .bool)), (160, (.sl (.sl (.sl tyNode)))), (164, (.sl tyChange)), (166, tyCommand), (171, (.sl tyChange)), (173, tyCommand), (233, tyChange), (234, (.int .u64)), (276, (.sl tySaid)), (277, tySaid), (281, tyChange)]
def nfsL : List (Nat × Nat) := [(25, 4), (34, 1), (40, 4), (72, 4), (123, 2), (125, 2), (166, 2), (173, 2), (233, 2), (281, 2)]
def cellsL : List Nat := []
def mtysL : List (Nat × (Nat × Nat)) := [(323, (277, 3))]
noncomputable def keysL : List (Nat × FnH) := [(38, FpH), (287, F19H), (211, F38H), (135, F15H), (69, F30H), (24, F53H), (12, F36H), (89, F3H), (40, F7H), (288, F1bH), (217, F2sH), (141, F14H), (75, F3aH), (27, F47H), (15, F1jH), (116, F3wH), (272, F4pH), (273, F4dH), (307, FxH), (330, F4eH), (274, F3eH), (203, FqH), (123, F45H), (269, F2fH), (200, F3dH), (121, F69H), (60, F2gH), (84, F62H), (159, F4rH), (176, F23H), (309, F26H), (369, F6aH), (343, F6rH), (344, FsH), (345, F1oH), (346, F3rH), (308, F74H), (240, F43H), (175, F4oH), (99, F1eH), (98, F1fH), (198, F10H), (118, F1uH), (85, F4cH), (86, F32H), (213, F1wH), (160, F1gH), (188, F1zH), (189, F1pH), (214, F1yH), (216, F3lH), (215, F3qH), (140, F1lH), (138, FyH), (228, F78H), (162, F2pH), (227, F18H), (156, F5iH), (226, FaH), (161, FgH), (87, F6jH), (72, FtH), (73, F20H), (139, F1hH), (74, F9H), (292, F2tH), (229, F21H), (338, F4wH), (339, F56H), (293, FwH), (230, F16H), (163, FjH), (165, F2cH), (294, F1qH), (231, F6bH), (164, F3hH), (88, F5zH), (39, F2aH), (275, F4gH), (276, F4lH), (334, F4kH), (183, F0H), (364, F49H), (335, F6eH), (336, F5gH), (152, F2iH), (144, F5uH), (284, FuH), (285, F6xH), (208, F46H), (129, F48H), (279, F2dH), (278, F6sH), (331, F3pH), (277, F57H), (204, F3zH), (125, F4iH), (130, F5kH), (207, F31H), (127, F5jH), (64, F3tH), (119, F4xH), (90, F67H), (133, F5pH), (66, F11H), (131, F44H), (106, F1nH), (347, F6lH), (348, F5lH), (311, F4vH), (312, F3sH), (313, FeH), (314, FvH), (243, F4nH), (182, FoH), (286, F1xH), (209, F1cH), (218, F29H), (142, F5aH), (210, F22H), (132, F4uH), (65, F37H), (219, F2qH), (143, FrH), (304, F1vH), (105, FmH), (337, F77H), (290, F3gH), (289, F2uH), (282, F71H), (283, F6tH), (222, F1mH), (220, F1tH), (171, F1sH), (239, F2xH), (170, F39H), (172, F1kH), (295, F1aH), (322, F5fH), (259, F3yH), (193, F2jH), (158, F4bH), (238, FkH), (296, F5sH), (10148, F2zH), (232, FfH), (166, F72H), (147, F24H), (221, F4sH), (10154, F3iH), (149, F1rH), (146, F8H), (224, F6gH), (223, F2yH), (148, F35H), (173, F3nH), (96, F4jH), (151, F3xH), (10163, FiH), (10162, F41H), (150, FlH), (10160, F1H), (10159, FdH), (10172, F6fH), (10171, F3fH), (10170, F58H), (10169, F4mH), (10168, F2oH), (10167, F2bH), (153, F5cH), (10173, F2lH), (77, F2H), (233, F70H), (299, F2nH), (298, F75H), (10180, F2wH), (10179, F51H), (300, F5eH), (297, F3uH), (365, F5mH), (10187, F2mH), (10186, F6oH), (366, F5bH), (340, FzH), (301, F17H), (234, F5H), (306, F6vH), (10195, F3mH), (10194, F6yH), (305, F3vH), (10192, FhH), (10191, F27H), (236, F1dH), (367, F40H), (341, F4H), (368, F65H), (10205, F3kH), (10204, F5rH), (342, F1iH), (303, F4yH), (302, F6kH), (10198, F2vH), (235, F42H), (237, F2kH), (167, F66H), (91, F33H), (41, F4qH), (31, F25H), (17, F5dH), (42, F4fH), (92, F6H), (43, FbH), (291, F13H), (225, F2hH), (154, F12H), (78, F34H), (32, F7aH), (19, F2rH), (44, FcH), (155, F3oH), (79, F3cH), (33, F5qH), (21, F3jH), (34, F2eH), (22, F5nH), (45, F6hH), (35, F28H), (23, F6qH), (46, F4tH), (6, F7sH)]
noncomputable def H : Hints := { extF := fun f => J1b extsL f, ty := fun T => J1b tysL T, nf := fun T => match J1b nfsL T with | some n => n | none => 0, cell := fun T => hasN cellsL T, key := fun k => J1b keysL k, mty := fun T => J1b mtysL T }
abbrev DRN := Bool × List (Bool × List DNode)
abbrev DRI := Bool × List (Bool × List Int)
abbrev DLN := Bool × List DNode
abbrev DLI := Bool × List Int
abbrev DLB := Bool × List Bool
noncomputable def Fp (a : DLN) (left_ : Int) : Option Int := (inf H).call 38 (a, left_)
noncomputable def F19 (a : DChange) (left_ : Int) : Option Int := (inf H).call 287 (a, left_)
noncomputable def F38 (a : Bool × List DChange) (left_ : Int) : Option Int := (inf H).call 211 (a, left_)
theorem F38K : H.key 211 = some F38H := by kernel_rfl
noncomputable def Fa2 (a : Bool × List DChange) (left_ : Int) (i : Int) : Option (Int ⊕ Int) := (inf H).loop 211 0 (Jc5 Tryz.f211 0) (a, (left_, i))
noncomputable def F15 (a : DCommand) (left_ : Int) : Option Int := (inf H).call 135 (a, left_)
noncomputable def F30 (a : Bool × List DCommand) (left_ : Int) : Option Int := (inf H).call 69 (a, left_)
theorem F30K : H.key 69 = some F30H := by kernel_rfl
noncomputable def Fad (a : Bool × List DCommand) (left_ : Int) (i : Int) : Option (Int ⊕ Int) := (inf H).loop 69 0 (Jc5 Tryz.f69 0) (a, (left_, i))
noncomputable def F53 (a : DProgram) (left_ : Int) : Option Int := (inf H).call 24 (a, left_)
noncomputable def F36 (a : DRN) (left_ : Int) : Option Int := (inf H).call 12 (a, left_)
theorem F36K : H.key 12 = some F36H := by kernel_rfl
noncomputable def F7f (a : DRN) (left_ : Int) (i : Int) : Option (Int ⊕ Int) := (inf H).loop 12 0 (Jc5 Tryz.f12 0) (a, (left_, i))
noncomputable def F3 (a : DNode) : Option DNode := (inf H).call 89 a
noncomputable def F7 (a : DLN) : Option DLN := (inf H).call 40 a
theorem F7K : H.key 40 = some F7H := by kernel_rfl
noncomputable def F89 (a : DLN) (out : DLN) (i : Int) : Option DLN := (inf H).loop 40 0 (Jc5 Tryz.f40 0) (a, (out, i))
noncomputable def F1b (a : DChange) : Option DChange := (inf H).call 288 a
noncomputable def F2s (a : Bool × List DChange) : Option (Bool × List DChange) := (inf H).call 217 a
theorem F2sK : H.key 217 = some F2sH := by kernel_rfl
noncomputable def Fa7 (a : Bool × List DChange) (out : Bool × List DChange) (i : Int) : Option (Bool × List DChange) := (inf H).loop 217 0 (Jc5 Tryz.f217 0) (a, (out, i))
noncomputable def F14 (a : DCommand) : Option DCommand := (inf H).call 141 a
noncomputable def F3a (a : Bool × List DCommand) : Option (Bool × List DCommand) := (inf H).call 75 a
theorem F3aK : H.key 75 = some F3aH := by kernel_rfl
noncomputable def F8j (a : Bool × List DCommand) (out : Bool × List DCommand) (i : Int) : Option (Bool × List DCommand) := (inf H).loop 75 0 (Jc5 Tryz.f75 0) (a, (out, i))
noncomputable def F47 (a : DProgram) : Option DProgram := (inf H).call 27 a
noncomputable def F1j (a : DRN) : Option DRN := (inf H).call 15 a
theorem F1jK : H.key 15 = some F1jH := by kernel_rfl
noncomputable def F9c (a : DRN) (out : DRN) (i : Int) : Option DRN := (inf H).loop 15 0 (Jc5 Tryz.f15 0) (a, (out, i))
noncomputable def F3w (n : Int) (lo : Int) (hi : Int) : Option Bool := (inf H).call 116 (n, (lo, hi))
noncomputable def F4p (wide : Int) : Option Bool := (inf H).call 272 wide
noncomputable def F4d (op : Int) : Option DEdge := (inf H).call 273 op
noncomputable def Fx (wide : Int) (a : Int) : Option Int := (inf H).call 307 (wide, a)
theorem FxK : H.key 307 = some FxH := by kernel_rfl
noncomputable def Fa6 (wide : Int) (a : Int) (out : Int) (k_ : Int) : Option Int := (inf H).loop 307 0 (Jc5 Tryz.f307 0) (wide, (a, (out, k_)))
noncomputable def F4e (wide : Int) (a : Int) : Option Bool := (inf H).call 330 (wide, a)
noncomputable def F3e (wide : Int) (vars : Int) (n : DNode) : Option Bool := (inf H).call 274 (wide, (vars, n))
noncomputable def Fq (wide : Int) (vars : Int) (t : DLN) : Option Int := (inf H).call 203 (wide, (vars, t))
theorem FqK : H.key 203 = some FqH := by kernel_rfl
noncomputable def F9u (wide : Int) (vars : Int) (pile : DLI) (t27 : DLN) (t28 : Int) (t29 : Int) : Option (Int ⊕ DLI) := (inf H).loop 203 0 (Jc5 Tryz.f203 0) (wide, (vars, (pile, (t27, (t28, t29)))))
noncomputable def F8s (wide : Int) (vars : Int) (pile : DLI) (many : Int) (part : Int) (own : Int) (t27 : DLN) (t28 : Int) (t29 : Int) : Option (Int ⊕ DLI) := (inf H).loop 203 2 (Jc5 Tryz.f203 2) (wide, (vars, (pile, (many, (part, (own, (t27, (t28, t29))))))))
noncomputable def F45 (p : DProgram) (t : DLN) : Option Bool := (inf H).call 123 (p, t)
noncomputable def F2f (p : DProgram) (c : DCommand) : Option Bool := (inf H).call 269 (p, c)
theorem F2fK : H.key 269 = some F2fH := by kernel_rfl
noncomputable def F4z (p : DProgram) (c : DCommand) (t21 : Bool × List DChange) (t22 : Int) (t23 : Int) : Option (Bool ⊕ Unit) := (inf H).loop 269 0 (Jc5 Tryz.f269 0) (p, (c, (t21, (t22, t23))))
noncomputable def F3d (p : DProgram) : Option Bool := (inf H).call 200 p
theorem F3dK : H.key 200 = some F3dH := by kernel_rfl
noncomputable def F8q (p : DProgram) (t18 : Bool × List DCommand) (t19 : Int) (t20 : Int) : Option (Bool ⊕ Unit) := (inf H).loop 200 0 (Jc5 Tryz.f200 0) (p, (t18, (t19, t20)))
noncomputable def F69 (p : DProgram) : Option Bool := (inf H).call 121 p
noncomputable def F2g (p : DProgram) (preds : DRN) : Option Bool := (inf H).call 60 (p, preds)
theorem F2gK : H.key 60 = some F2gH := by kernel_rfl
noncomputable def F9m (p : DProgram) (t10 : DRN) (t11 : Int) (t12 : Int) : Option (Bool ⊕ Unit) := (inf H).loop 60 0 (Jc5 Tryz.f60 0) (p, (t10, (t11, t12)))
noncomputable def F62 (p : DProgram) (preds : DRN) (bad : DLN) (budget : Int) : Option Bool := (inf H).call 84 (p, (preds, (bad, budget)))
noncomputable def F4r (p : DProgram) : Option Int := (inf H).call 159 p
noncomputable def F23 (p : DProgram) (no : Int) : Option DLI := (inf H).call 176 (p, no)
theorem F23K : H.key 176 = some F23H := by kernel_rfl
noncomputable def F86 (no : Int) (p : DProgram) (out : DLI) (v : Int) : Option DLI := (inf H).loop 176 0 (Jc5 Tryz.f176 0) (no, (p, (out, v)))
noncomputable def F26 (t : DLN) (k_ : Int) : Option Int := (inf H).call 309 (t, k_)
theorem F26K : H.key 309 = some F26H := by kernel_rfl
noncomputable def F7u (t : DLN) (many : Int) (from_ : Int) : Option Int := (inf H).loop 309 0 (Jc5 Tryz.f309 0) (t, (many, from_))
noncomputable def F6a (wide : Int) (a : Int) (b : Int) : Option Bool := (inf H).call 369 (wide, (a, b))
noncomputable def F6r (wide : Int) (a : Int) (b : Int) : Option (Int × Int × Bool) := (inf H).call 343 (wide, (a, b))
noncomputable def Fs (wide : Int) (a : Int) (by_ : Int) (left_ : Bool) : Option Int := (inf H).call 344 (wide, (a, (by_, left_)))
theorem FsK : H.key 344 = some FsH := by kernel_rfl
noncomputable def F59 (wide : Int) (a : Int) (by_ : Int) (left_ : Bool) : Option Int := (inf H).loop 344 0 (Jc5 Tryz.f344 0) (wide, (a, (by_, left_)))
noncomputable def F1o (is : Bool) : Option Int := (inf H).call 345 is
noncomputable def F3r (wide : Int) (a : Int) : Option Int := (inf H).call 346 (wide, a)
noncomputable def F74 (wide : Int) (op : Int) (a : Int) (b : Int) : Option Int := (inf H).call 308 (wide, (op, (a, b)))
noncomputable def F43 (wide : Int) (t : DLN) (k_ : Int) (state : DLI) : Option Int := (inf H).call 240 (wide, (t, (k_, state)))
noncomputable def F4o (p : DProgram) (t : DLN) (s : DLI) : Option Bool := (inf H).call 175 (p, (t, s))
noncomputable def F1e (p : DProgram) (t : DLN) : Option DLI := (inf H).call 99 (p, t)
theorem F1eK : H.key 99 = some F1eH := by kernel_rfl
noncomputable def F6p (t : DLN) (p : DProgram) (out : DLI) (no : Int) : Option DLI := (inf H).loop 99 0 (Jc5 Tryz.f99 0) (t, (p, (out, no)))
noncomputable def F1f (l : DLI) (n : Int) : Option Bool := (inf H).call 98 (l, n)
theorem F1fK : H.key 98 = some F1fH := by kernel_rfl
noncomputable def F97 (n : Int) (t7 : DLI) (t8 : Int) (t9 : Int) : Option (Bool ⊕ Unit) := (inf H).loop 98 0 (Jc5 Tryz.f98 0) (n, (t7, (t8, t9)))
noncomputable def F10 (keys : DLI) : Option DLI := (inf H).call 198 keys
theorem F10K : H.key 198 = some F10H := by kernel_rfl
noncomputable def F5t (keys : DLI) (t2 : DSight) (out : DLI) (many : Int) (t9 : DLI) (t10 : Int) (t11 : Int) : Option DLI := (inf H).loop 198 0 (Jc5 Tryz.f198 0) (keys, (t2, (out, (many, (t9, (t10, t11))))))
noncomputable def Fa8 (keys : DLI) (t2 : DSight) (out : DSight) (many : Int) (i : Int) (key : Int) (class_ : Int) (j : Int) (t9 : DLI) (t10 : Int) (t11 : Int) : Option Int := (inf H).loop 198 2 (Jc5 Tryz.f198 2) (keys, (t2, (out, (many, (i, (key, (class_, (j, (t9, (t10, t11))))))))))
noncomputable def F1u (v : DSight) (some_ : DLI) : Option DLI := (inf H).call 118 (v, some_)
theorem F1uK : H.key 118 = some F1uH := by kernel_rfl
noncomputable def F79 (some_ : DLI) (t4 : DSight) (keys : DLI) (t9 : DLI) (t10 : Int) (t11 : Int) : Option DLI := (inf H).loop 118 0 (Jc5 Tryz.f118 0) (some_, (t4, (keys, (t9, (t10, t11)))))
noncomputable def F4c (p : DProgram) (v : DSight) (t : DLN) : Option DLI := (inf H).call 85 (p, (v, t))
noncomputable def F32 (p : DProgram) (preds : DRN) : Option DLI := (inf H).call 86 (p, preds)
theorem F32K : H.key 86 = some F32H := by kernel_rfl
noncomputable def F8l (p : DProgram) (t4 : DSight) (v : DLI) (t12 : DRN) (t13 : Int) (t14 : Int) : Option DLI := (inf H).loop 86 0 (Jc5 Tryz.f86 0) (p, (t4, (v, (t12, (t13, t14)))))
noncomputable def F1w (l : DLI) (n : Int) : Option DLI := (inf H).call 213 (l, n)
theorem F1wK : H.key 213 = some F1wH := by kernel_rfl
noncomputable def F9i (l : DLI) (n : Int) (k_ : Int) : Option Int := (inf H).loop 213 0 (Jc5 Tryz.f213 0) (l, (n, k_))
noncomputable def F1g (v : DSight) (states : DLI) : Option DLI := (inf H).call 160 (v, states)
theorem F1gK : H.key 160 = some F1gH := by kernel_rfl
noncomputable def F94 (v : DSight) (out : DLI) (t8 : DLI) (t9 : Int) (t10 : Int) : Option DLI := (inf H).loop 160 0 (Jc5 Tryz.f160 0) (v, (out, (t8, (t9, t10))))
noncomputable def F1z (v : DSight) : Option Int := (inf H).call 188 v
theorem F1zK : H.key 188 = some F1zH := by kernel_rfl
noncomputable def F5x (many : Int) (t7 : DLI) (t8 : Int) (t9 : Int) : Option Int := (inf H).loop 188 0 (Jc5 Tryz.f188 0) (many, (t7, (t8, t9)))
noncomputable def F1p (v : DSight) (class_ : Int) : Option DLI := (inf H).call 189 (v, class_)
theorem F1pK : H.key 189 = some F1pH := by kernel_rfl
noncomputable def F6w (class_ : Int) (out : DLI) (t9 : DLI) (t10 : Int) (t11 : Int) : Option DLI := (inf H).loop 189 0 (Jc5 Tryz.f189 0) (class_, (out, (t9, (t10, t11))))
noncomputable def F1y (p : DProgram) (s : DLI) : Option DLI := (inf H).call 214 (p, s)
theorem F1yK : H.key 214 = some F1yH := by kernel_rfl
noncomputable def F68 (s : DLI) (p : DProgram) (out : DLI) (t9 : Bool × List DCommand) (t10 : Int) (t11 : Int) : Option DLI := (inf H).loop 214 0 (Jc5 Tryz.f214 0) (s, (p, (out, (t9, (t10, t11)))))
noncomputable def F3l (p : DProgram) (s : DLI) (k_ : Int) : Option DLI := (inf H).call 216 (p, (s, k_))
theorem F3lK : H.key 216 = some F3lH := by kernel_rfl
noncomputable def F7i (s : DLI) (p : DProgram) (out : DLI) (t18 : Bool × List DChange) (t19 : Int) (t20 : Int) : Option DLI := (inf H).loop 216 0 (Jc5 Tryz.f216 0) (s, (p, (out, (t18, (t19, t20)))))
noncomputable def F3q (p : DProgram) (s : DLI) : Option Int := (inf H).call 215 (p, s)
theorem F3qK : H.key 215 = some F3qH := by kernel_rfl
noncomputable def F8m (s : DLI) (p : DProgram) (n : Int) (v : Int) : Option Int := (inf H).loop 215 0 (Jc5 Tryz.f215 0) (s, (p, (n, v)))
noncomputable def F1l (p : DProgram) (no : Int) : Option DLI := (inf H).call 140 (p, no)
theorem F1lK : H.key 140 = some F1lH := by kernel_rfl
noncomputable def Faa (no : Int) (p : DProgram) (s : DLI) (out : DLI) (t14 : DLI) (t15 : Int) (t16 : Int) : Option DLI := (inf H).loop 140 0 (Jc5 Tryz.f140 0) (no, (p, (s, (out, (t14, (t15, t16))))))
noncomputable def Fy (p : DProgram) (some_ : DLI) : Option DLI := (inf H).call 138 (p, some_)
theorem FyK : H.key 138 = some FyH := by kernel_rfl
noncomputable def F8w (p : DProgram) (out : DLI) (t10 : DLI) (t11 : Int) (t12 : Int) : Option DLI := (inf H).loop 138 0 (Jc5 Tryz.f138 0) (p, (out, (t10, (t11, t12))))
noncomputable def F7n (p : DProgram) (out : DLI) (t10 : DLI) (t11 : Int) (t12 : Int) (t18 : DLI) (t19 : Int) (t20 : Int) : Option DLI := (inf H).loop 138 2 (Jc5 Tryz.f138 2) (p, (out, (t10, (t11, (t12, (t18, (t19, t20)))))))
noncomputable def F78 (p : DProgram) (v : DSight) (class_ : Int) : Option DLI := (inf H).call 228 (p, (v, class_))
noncomputable def F2p (p : DProgram) (v : DSight) : Option DRI := (inf H).call 162 (p, v)
theorem F2pK : H.key 162 = some F2pH := by kernel_rfl
noncomputable def F9z (p : DProgram) (v : DSight) (out : DRI) (class_ : Int) : Option DRI := (inf H).loop 162 0 (Jc5 Tryz.f162 0) (p, (v, (out, class_)))
noncomputable def F18 (next : DRI) : Option DRI := (inf H).call 227 next
theorem F18K : H.key 227 = some F18H := by kernel_rfl
noncomputable def Fa5 (out : DRI) (t11 : DRI) (t12 : Int) (t13 : Int) : Option DRI := (inf H).loop 227 0 (Jc5 Tryz.f227 0) (out, (t11, (t12, t13)))
noncomputable def F85 (out : DRI) (k_ : Int) (t11 : DRI) (t12 : Int) (t13 : Int) (t18 : DLI) (t19 : Int) (t20 : Int) : Option DRI := (inf H).loop 227 2 (Jc5 Tryz.f227 2) (out, (k_, (t11, (t12, (t13, (t18, (t19, t20)))))))
noncomputable def F5i (l : DLI) : Option DLI := (inf H).call 156 l
noncomputable def Fa (next : DRI) (from_ : DLI) : Option DLI := (inf H).call 226 (next, from_)
theorem FaK : H.key 226 = some FaH := by kernel_rfl
noncomputable def F7y (next : DRI) (from_ : DLI) (out : DLI) (t17 : Int) (t18 : Int) : Option DLI := (inf H).loop 226 0 (Jc5 Tryz.f226 0) (next, (from_, (out, (t17, t18))))
noncomputable def F8a (next : DRI) (from_ : DLI) (out : DLI) (t25 : DLI) (t26 : Int) (t27 : Int) : Option DLI := (inf H).loop 226 2 (Jc5 Tryz.f226 2) (next, (from_, (out, (t25, (t26, t27)))))
noncomputable def Fab (next : DRI) (out : DLI) (row_ : DLI) : Option DLI := (inf H).loop 226 4 (Jc5 Tryz.f226 4) (next, (out, row_))
noncomputable def F6d (next : DRI) (out : DLI) (row_ : DLI) (k_ : Int) (t48 : DLI) (t49 : Int) (t50 : Int) : Option DLasso := (inf H).loop 226 6 (Jc5 Tryz.f226 6) (next, (out, (row_, (k_, (t48, (t49, t50))))))
noncomputable def Fg (next : DRI) (from_ : DLI) (to : DLI) : Option (DLI × Bool) := (inf H).call 161 (next, (from_, to))
theorem FgK : H.key 161 = some FgH := by kernel_rfl
noncomputable def F4h (next : DRI) (far : DLI) (best : Int) (t19 : DLI) (t20 : Int) (t21 : Int) : Option Int := (inf H).loop 161 0 (Jc5 Tryz.f161 0) (next, (far, (best, (t19, (t20, t21)))))
noncomputable def F83 (next : DRI) (far : DLI) (best : Int) (out : DLI) : Option DLI := (inf H).loop 161 2 (Jc5 Tryz.f161 2) (next, (far, (best, out)))
noncomputable def F9d (next : DRI) (far : DLI) (best : Int) (out : DLI) (t59 : DLI) (t60 : Int) (t61 : Int) : Option Int := (inf H).loop 161 4 (Jc5 Tryz.f161 4) (next, (far, (best, (out, (t59, (t60, t61))))))
noncomputable def F6j (p : DProgram) (v : DSight) (bad : DLN) : Option (DLI × Bool) := (inf H).call 87 (p, (v, bad))
noncomputable def Ft (p : DProgram) (v : DSight) (path : DLI) : Option DRI := (inf H).call 72 (p, (v, path))
theorem FtK : H.key 72 = some FtH := by kernel_rfl
noncomputable def F7r (p : DProgram) (v : DSight) (out : DRI) (some_ : DLI) (t18 : DLI) (t19 : Int) (t20 : Int) : Option DRI := (inf H).loop 72 0 (Jc5 Tryz.f72 0) (p, (v, (out, (some_, (t18, (t19, t20))))))
noncomputable def F76 (p : DProgram) (v : DSight) (out : DRI) (class_ : Int) (in_ : DLI) (t18 : DLI) (t19 : Int) (t20 : Int) (t24 : DLI) (t25 : Int) (t26 : Int) : Option DLI := (inf H).loop 72 2 (Jc5 Tryz.f72 2) (p, (v, (out, (class_, (in_, (t18, (t19, (t20, (t24, (t25, t26))))))))))
noncomputable def F20 (along : DRI) : Option Int := (inf H).call 73 along
theorem F20K : H.key 73 = some F20H := by kernel_rfl
noncomputable def F7v (t5 : DRI) (t6 : Int) (t7 : Int) : Option (Int ⊕ Unit) := (inf H).loop 73 0 (Jc5 Tryz.f73 0) (t5, (t6, t7))
noncomputable def F1h (a : DLI) (b : DLI) : Option Bool := (inf H).call 139 (a, b)
theorem F1hK : H.key 139 = some F1hH := by kernel_rfl
noncomputable def F7z (b : DLI) (t7 : DLI) (t8 : Int) (t9 : Int) : Option (Bool ⊕ Unit) := (inf H).loop 139 0 (Jc5 Tryz.f139 0) (b, (t7, (t8, t9)))
noncomputable def F9 (p : DProgram) (along : DRI) : Option DLI := (inf H).call 74 (p, along)
theorem F9K : H.key 74 = some F9H := by kernel_rfl
noncomputable def F98 (along : DRI) (p : DProgram) (can : DRI) (k_ : Int) : Option DRI := (inf H).loop 74 0 (Jc5 Tryz.f74 0) (along, (p, (can, k_)))
noncomputable def F63 (along : DRI) (p : DProgram) (can : DRI) (k_ : Int) (in_ : DLI) (t27 : DLI) (t28 : Int) (t29 : Int) : Option DLI := (inf H).loop 74 2 (Jc5 Tryz.f74 2) (along, (p, (can, (k_, (in_, (t27, (t28, t29)))))))
noncomputable def F80 (p : DProgram) (can : DRI) (out : DLI) (k_ : Int) : Option DLI := (inf H).loop 74 4 (Jc5 Tryz.f74 4) (p, (can, (out, k_)))
noncomputable def F9y (p : DProgram) (can : DRI) (out : DLI) (k_ : Int) (t69 : DLI) (t70 : Int) (t71 : Int) : Option DLI := (inf H).loop 74 6 (Jc5 Tryz.f74 6) (p, (can, (out, (k_, (t69, (t70, t71))))))
noncomputable def F2t (a : DLN) (b : DLN) : Option Bool := (inf H).call 292 (a, b)
theorem F2tK : H.key 292 = some F2tH := by kernel_rfl
noncomputable def F82 (a : DLN) (b : DLN) (t12 : Int) (t13 : Int) : Option (Bool ⊕ Unit) := (inf H).loop 292 0 (Jc5 Tryz.f292 0) (a, (b, (t12, t13)))
noncomputable def F21 (l : DRN) (t : DLN) : Option DRN := (inf H).call 229 (l, t)
theorem F21K : H.key 229 = some F21H := by kernel_rfl
noncomputable def F8k (l : DRN) (t : DLN) (t8 : Int) (t9 : Int) : Option (DRN ⊕ DRN) := (inf H).loop 229 0 (Jc5 Tryz.f229 0) (l, (t, (t8, t9)))
noncomputable def F4w (wide : Int) (vars : Int) (t : DLN) : Option Bool := (inf H).call 338 (wide, (vars, t))
noncomputable def F56 (wide : Int) (vars : Int) (t : DLN) : Option (DLN × Bool) := (inf H).call 339 (wide, (vars, t))
noncomputable def Fw (wide : Int) (vars : Int) (t : DLN) (by_ : DRN) : Option (DLN × Bool) := (inf H).call 293 (wide, (vars, (t, by_)))
theorem FwK : H.key 293 = some FwH := by kernel_rfl
noncomputable def F90 (wide : Int) (vars : Int) (t : DLN) (by_ : DRN) (t26 : DRN) (t27 : Int) (t28 : Int) : Option (Bool ⊕ Unit) := (inf H).loop 293 0 (Jc5 Tryz.f293 0) (wide, (vars, (t, (by_, (t26, (t27, t28))))))
noncomputable def F6z (wide : Int) (vars : Int) (by_ : DRN) (out : DLN) (t38 : DLN) (t39 : Int) (t40 : Int) : Option DLN := (inf H).loop 293 2 (Jc5 Tryz.f293 2) (wide, (vars, (by_, (out, (t38, (t39, t40))))))
noncomputable def F16 (p : DProgram) (k_ : Int) (t : DLN) : Option (DLN × Bool) := (inf H).call 230 (p, (k_, t))
theorem F16K : H.key 230 = some F16H := by kernel_rfl
noncomputable def F91 (k_ : Int) (t : DLN) (p : DProgram) (by_ : DRN) (v : Int) : Option DRN := (inf H).loop 230 0 (Jc5 Tryz.f230 0) (k_, (t, (p, (by_, v))))
noncomputable def F7p (t : DLN) (p : DProgram) (by_ : DRN) (t30 : Bool × List DChange) (t31 : Int) (t32 : Int) : Option DRN := (inf H).loop 230 2 (Jc5 Tryz.f230 2) (t, (p, (by_, (t30, (t31, t32)))))
noncomputable def Fj (p : DProgram) (preds : DRN) : Option DRN := (inf H).call 163 (p, preds)
theorem FjK : H.key 163 = some FjH := by kernel_rfl
noncomputable def Fa1 (preds : DRN) (p : DProgram) (out : DRN) (t14 : Bool × List DCommand) (t15 : Int) (t16 : Int) : Option DRN := (inf H).loop 163 0 (Jc5 Tryz.f163 0) (preds, (p, (out, (t14, (t15, t16)))))
noncomputable def F8n (p : DProgram) (out : DRN) (t25 : DRN) (t26 : Int) (t27 : Int) : Option DRN := (inf H).loop 163 2 (Jc5 Tryz.f163 2) (p, (out, (t25, (t26, t27))))
noncomputable def F5w (p : DProgram) (out : DRN) (t : DLN) (t25 : DRN) (t26 : Int) (t27 : Int) (t33 : Int) (t34 : Int) : Option DRN := (inf H).loop 163 4 (Jc5 Tryz.f163 4) (p, (out, (t, (t25, (t26, (t27, (t33, t34)))))))
noncomputable def F2c (p : DProgram) (v : DSight) (class_ : Int) (to : Int) : Option DLI := (inf H).call 165 (p, (v, (class_, to)))
theorem F2cK : H.key 165 = some F2cH := by kernel_rfl
noncomputable def F50 (to : Int) (p : DProgram) (v : DSight) (out : DLI) (t14 : DLI) (t15 : Int) (t16 : Int) : Option DLI := (inf H).loop 165 0 (Jc5 Tryz.f165 0) (to, (p, (v, (out, (t14, (t15, t16))))))
noncomputable def F1q (some_ : DLI) (in_ : DLI) : Option Bool := (inf H).call 294 (some_, in_)
theorem F1qK : H.key 294 = some F1qH := by kernel_rfl
noncomputable def F9p (in_ : DLI) (t7 : DLI) (t8 : Int) (t9 : Int) : Option (Bool ⊕ Unit) := (inf H).loop 294 0 (Jc5 Tryz.f294 0) (in_, (t7, (t8, t9)))
noncomputable def F6b (p : DProgram) (t : DLN) (a : DLI) (b : DLI) : Option Bool := (inf H).call 231 (p, (t, (a, b)))
noncomputable def F3h (p : DProgram) (terms : DRN) (a : DLI) (b : DLI) : Option Int := (inf H).call 164 (p, (terms, (a, b)))
theorem F3hK : H.key 164 = some F3hH := by kernel_rfl
noncomputable def F88 (a : DLI) (b : DLI) (p : DProgram) (t11 : DRN) (t12 : Int) (t13 : Int) : Option (Int ⊕ Unit) := (inf H).loop 164 0 (Jc5 Tryz.f164 0) (a, (b, (p, (t11, (t12, t13)))))
noncomputable def F5z (p : DProgram) (v : DSight) (preds : DRN) (path : DLI) : Option (DLI × Int) := (inf H).call 88 (p, (v, (preds, path)))
noncomputable def F2a (p : DProgram) (preds : DRN) (bad : DLN) (budget : Int) : Option (Int × DLI × (Int × DSight) × Bool) := (inf H).call 39 (p, (preds, (bad, budget)))
theorem F2aK : H.key 39 = some F2aH := by kernel_rfl
noncomputable def F5v (preds : DRN) (bad : DLN) (budget : Int) (p : DProgram) (t8 : DFinding) (v : DLI) (rounds : Int) : Option ((Int × DLI × Int × DLI × Bool) ⊕ (DFinding × DSight)) := (inf H).loop 39 0 (Jc5 Tryz.f39 0) (preds, (bad, (budget, (p, (t8, (v, rounds))))))
noncomputable def F4g (n : Int) : Option Bool := (inf H).call 275 n
noncomputable def F4l (n : Int) : Option Bool := (inf H).call 276 n
noncomputable def F4k (op : Int) : Option DEdge := (inf H).call 334 op
noncomputable def F0 (wide : Int) : Option Int := (inf H).call 183 wide
noncomputable def F49 (wide : Int) (a : Int) : Option Bool := (inf H).call 364 (wide, a)
noncomputable def F6e (wide : Int) (vars : Int) (x : DNode) : Option Bool := (inf H).call 335 (wide, (vars, x))
noncomputable def F5g (own : Int) (a1 : Int) : Option Bool := (inf H).call 336 (own, a1)
noncomputable def F2i (s : DLI) (f : Int × Unit) : Option Int := (inf H).call 152 (s, f)
theorem F2iK : H.key 152 = some F2iH := by kernel_rfl
noncomputable def F9o (s : DLI) (f : Int × Unit) (t7 : Int) (t8 : Int) : Option (Int ⊕ Unit) := (inf H).loop 152 0 (Jc5 Tryz.f152 0) (s, (f, (t7, t8)))
noncomputable def F5u (s : DLI) (f : Int × Unit) : Option Bool := (inf H).call 144 (s, f)
noncomputable def Fu (wide : Int) (vars : Int) (t : DLN) : Option Bool := (inf H).call 284 (wide, (vars, t))
theorem FuK : H.key 284 = some FuH := by kernel_rfl
noncomputable def F7l (wide : Int) (vars : Int) (stack : DLI) (t33 : DLN) (t34 : Int) (t35 : Int) : Option (Bool ⊕ DLI) := (inf H).loop 284 0 (Jc5 Tryz.f284 0) (wide, (vars, (stack, (t33, (t34, t35)))))
noncomputable def F6x (t : DLN) : Option Int := (inf H).call 285 t
noncomputable def F46 (wide : Int) (vars : Int) (t : DLN) (kind : Int) : Option Bool := (inf H).call 208 (wide, (vars, (t, kind)))
noncomputable def F48 (p : DProgram) (t : DLN) : Option Bool := (inf H).call 129 (p, t)
noncomputable def F2d (p : DProgram) (c : DCommand) : Option Bool := (inf H).call 279 (p, c)
theorem F2dK : H.key 279 = some F2dH := by kernel_rfl
noncomputable def F5y (p : DProgram) (c : DCommand) (t13 : Bool × List DChange) (t14 : Int) (t15 : Int) : Option (Bool ⊕ Unit) := (inf H).loop 279 0 (Jc5 Tryz.f279 0) (p, (c, (t13, (t14, t15))))
noncomputable def F6s (c : DCommand) (a1 : DProgram) : Option Bool := (inf H).call 278 (c, a1)
noncomputable def F3p (s : Bool × List DCommand) (f : DProgram × Unit) : Option Int := (inf H).call 331 (s, f)
theorem F3pK : H.key 331 = some F3pH := by kernel_rfl
noncomputable def F9j (s : Bool × List DCommand) (f : DProgram × Unit) (t7 : Int) (t8 : Int) : Option (Int ⊕ Unit) := (inf H).loop 331 0 (Jc5 Tryz.f331 0) (s, (f, (t7, t8)))
noncomputable def F57 (s : Bool × List DCommand) (f : DProgram × Unit) : Option Bool := (inf H).call 277 (s, f)
noncomputable def F3z (p : DProgram) : Option Bool := (inf H).call 204 p
noncomputable def F4i (p : DProgram) : Option Bool := (inf H).call 125 p
noncomputable def F5k (t : DLN) (a1 : DProgram) : Option Bool := (inf H).call 130 (t, a1)
noncomputable def F31 (s : DRN) (f : DProgram × Unit) : Option Int := (inf H).call 207 (s, f)
theorem F31K : H.key 207 = some F31H := by kernel_rfl
noncomputable def F7k (s : DRN) (f : DProgram × Unit) (t7 : Int) (t8 : Int) : Option (Int ⊕ Unit) := (inf H).loop 207 0 (Jc5 Tryz.f207 0) (s, (f, (t7, t8)))
noncomputable def F5j (s : DRN) (f : DProgram × Unit) : Option Bool := (inf H).call 127 (s, f)
noncomputable def F3t (p : DProgram) (preds : DRN) (least : Int) : Option Bool := (inf H).call 64 (p, (preds, least))
noncomputable def F4x (n : Int) : Option Bool := (inf H).call 119 n
noncomputable def F67 (p : DProgram) (preds : DRN) (bad : DLN) (budget : Int) : Option Bool := (inf H).call 90 (p, (preds, (bad, budget)))
noncomputable def F5p (n : Int) : Option DRN := (inf H).call 133 n
noncomputable def F11 (slices : Bool × List DRN) : Option DRN := (inf H).call 66 slices
theorem F11K : H.key 66 = some F11H := by kernel_rfl
noncomputable def F96 (slices : Bool × List DRN) (size_ : Int) (t9 : Bool × List DRN) (t10 : Int) (t11 : Int) : Option Int := (inf H).loop 66 0 (Jc5 Tryz.f66 0) (slices, (size_, (t9, (t10, t11))))
noncomputable def F99 (newslice : DRN) (t25 : Bool × List DRN) (t26 : Int) (t27 : Int) : Option DRN := (inf H).loop 66 2 (Jc5 Tryz.f66 2) (newslice, (t25, (t26, t27)))
noncomputable def F44 (p : DProgram) : Option Int := (inf H).call 131 p
noncomputable def F1n (p : DProgram) (no : Int) : Option DLI := (inf H).call 106 (p, no)
theorem F1nK : H.key 106 = some F1nH := by kernel_rfl
noncomputable def F95 (no : Int) (p : DProgram) (out : DLI) (t9 : Int) (t10 : Int) : Option DLI := (inf H).loop 106 0 (Jc5 Tryz.f106 0) (no, (p, (out, (t9, t10))))
noncomputable def F6l (wide : Int) (a : Int) (b : Int) : Option Bool := (inf H).call 347 (wide, (a, b))
noncomputable def F5l (hi : Int) (lo : Int) (y : Int) : Option (Int × Int) := (inf H).call 348 (hi, (lo, y))
noncomputable def F4v (wide : Int) (a : Int) (b : Int) : Option (Int × Int × Bool) := (inf H).call 311 (wide, (a, b))
noncomputable def F3s (wide : Int) (a : Int) (by_ : Int) (left_ : Bool) : Option Int := (inf H).call 312 (wide, (a, (by_, left_)))
noncomputable def Fe (holds : Bool) : Option Int := (inf H).call 313 holds
noncomputable def Fv (wide : Int) (a : Int) : Option Int := (inf H).call 314 (wide, a)
noncomputable def F4n (wide : Int) (op : Int) (a : Int) (b : Int) : Option Int := (inf H).call 243 (wide, (op, (a, b)))
noncomputable def Fo (wide : Int) (t : DLN) (state : DLI) : Option Int := (inf H).call 182 (wide, (t, state))
theorem FoK : H.key 182 = some FoH := by kernel_rfl
noncomputable def F3b (wide : Int) (state : DLI) (stack : DLI) (t12 : DLN) (t13 : Int) (t14 : Int) : Option DLI := (inf H).loop 182 0 (Jc5 Tryz.f182 0) (wide, (state, (stack, (t12, (t13, t14)))))
noncomputable def F1x (keys : Bool × List DSaid) : Option DLI := (inf H).call 286 keys
theorem F1xK : H.key 286 = some F1xH := by kernel_rfl
noncomputable def F6u (t2 : DSight) (known : Bool × List (DSaid × Int)) (v : DLI) (t11 : Bool × List DSaid) (t12 : Int) (t13 : Int) : Option ((Bool × List (DSaid × Int)) × DLI) := (inf H).loop 286 0 (Jc5 Tryz.f286 0) (t2, (known, (v, (t11, (t12, t13)))))
noncomputable def F1c (p : DProgram) (preds : DRN) : Option (DLI × Bool) := (inf H).call 209 (p, preds)
theorem F1cK : H.key 209 = some F1cH := by kernel_rfl
noncomputable def F8g (preds : DRN) (p : DProgram) (t4 : DSight) (keys : Bool × List DSaid) (t25 : Int) (t26 : Int) : Option (Bool × List DSaid) := (inf H).loop 209 0 (Jc5 Tryz.f209 0) (preds, (p, (t4, (keys, (t25, t26)))))
noncomputable def F8i (preds : DRN) (p : DProgram) (t4 : DSight) (keys : Bool × List DSaid) (no : Int) (s : DLI) (t25 : Int) (t26 : Int) (t32 : DRN) (t33 : Int) (t34 : Int) : Option (Bool × List DSaid) := (inf H).loop 209 2 (Jc5 Tryz.f209 2) (preds, (p, (t4, (keys, (no, (s, (t25, (t26, (t32, (t33, t34))))))))))
noncomputable def F29 (v : DSight) (states : Int) : Option Bool := (inf H).call 218 (v, states)
theorem F29K : H.key 218 = some F29H := by kernel_rfl
noncomputable def F61 (states : Int) (v : DSight) (classes : Int) (t9 : DLI) (t10 : Int) (t11 : Int) : Option (Bool ⊕ Unit) := (inf H).loop 218 0 (Jc5 Tryz.f218 0) (states, (v, (classes, (t9, (t10, t11)))))
noncomputable def F5a (p : DProgram) (v : DSight) : Option Bool := (inf H).call 142 (p, v)
noncomputable def F22 (a : DSight) (b : DSight) : Option DLI := (inf H).call 210 (a, b)
theorem F22K : H.key 210 = some F22H := by kernel_rfl
noncomputable def F9b (b : DSight) (t4 : DSight) (keys : Bool × List DSaid) (t10 : DLI) (t11 : Int) (t12 : Int) : Option (Bool × List DSaid) := (inf H).loop 210 0 (Jc5 Tryz.f210 0) (b, (t4, (keys, (t10, (t11, t12)))))
noncomputable def F4u (p : DProgram) (v : DSight) (t : DLN) : Option (DLI × Bool) := (inf H).call 132 (p, (v, t))
noncomputable def F37 (p : DProgram) (preds : DRN) : Option DLI := (inf H).call 65 (p, preds)
theorem F37K : H.key 65 = some F37H := by kernel_rfl
noncomputable def F9r (p : DProgram) (t4 : DSight) (v : DLI) (t12 : DRN) (t13 : Int) (t14 : Int) : Option DLI := (inf H).loop 65 0 (Jc5 Tryz.f65 0) (p, (t4, (v, (t12, (t13, t14)))))
noncomputable def F2q (x : DLI) : Option Int := (inf H).call 219 x
theorem F2qK : H.key 219 = some F2qH := by kernel_rfl
noncomputable def F9x (x : DLI) (m : Int) (i : Int) : Option Int := (inf H).loop 219 0 (Jc5 Tryz.f219 0) (x, (m, i))
noncomputable def Fr (v : DSight) : Option Int := (inf H).call 143 v
noncomputable def F1v (v : DSight) (class_ : Int) : Option DLI := (inf H).call 304 (v, class_)
theorem F1vK : H.key 304 = some F1vH := by kernel_rfl
noncomputable def F6i (class_ : Int) (out : DLI) (t10 : DLI) (t11 : Int) (t12 : Int) : Option DLI := (inf H).loop 304 0 (Jc5 Tryz.f304 0) (class_, (out, (t10, (t11, t12))))
noncomputable def Fm (p : DProgram) (t : DLN) (s : DLI) : Option Bool := (inf H).call 105 (p, (t, s))
noncomputable def F77 (s : DLI) : Option DLI := (inf H).call 337 s
noncomputable def F3g (p : DProgram) (c : DCommand) (s : DLI) : Option DLI := (inf H).call 290 (p, (c, s))
theorem F3gK : H.key 290 = some F3gH := by kernel_rfl
noncomputable def Fa4 (s : DLI) (p : DProgram) (out : DLI) (t13 : Bool × List DChange) (t14 : Int) (t15 : Int) : Option DLI := (inf H).loop 290 0 (Jc5 Tryz.f290 0) (s, (p, (out, (t13, (t14, t15)))))
noncomputable def F2u (p : DProgram) (s : DLI) : Option Int := (inf H).call 289 (p, s)
theorem F2uK : H.key 289 = some F2uH := by kernel_rfl
noncomputable def F7h (p : DProgram) (no : Int) (t8 : DLI) (t9 : Int) (t10 : Int) : Option Int := (inf H).loop 289 0 (Jc5 Tryz.f289 0) (p, (no, (t8, (t9, t10))))
noncomputable def F71 (s : DLI) : Option DLI := (inf H).call 282 s
noncomputable def F6t (s : DLI) : Option DLI := (inf H).call 283 s
noncomputable def F1m (p : DProgram) (no : Int) : Option DLI := (inf H).call 222 (p, no)
theorem F1mK : H.key 222 = some F1mH := by kernel_rfl
noncomputable def F6m (no : Int) (p : DProgram) (s : DLI) (out : DLI) (t14 : Bool × List DCommand) (t15 : Int) (t16 : Int) : Option DLI := (inf H).loop 222 0 (Jc5 Tryz.f222 0) (no, (p, (s, (out, (t14, (t15, t16))))))
noncomputable def F1t (list : DLB) : Option DLI := (inf H).call 220 list
theorem F1tK : H.key 220 = some F1tH := by kernel_rfl
noncomputable def F55 (out : DLI) (t7 : DLB) (t8 : Int) (t9 : Int) : Option DLI := (inf H).loop 220 0 (Jc5 Tryz.f220 0) (out, (t7, (t8, t9)))
noncomputable def F1s (v : DSight) (some_ : DLI) : Option DLI := (inf H).call 171 (v, some_)
theorem F1sK : H.key 171 = some F1sH := by kernel_rfl
noncomputable def F7q (v : DSight) (in_ : DLB) (t11 : DLI) (t12 : Int) (t13 : Int) : Option DLB := (inf H).loop 171 0 (Jc5 Tryz.f171 0) (v, (in_, (t11, (t12, t13))))
noncomputable def F2x (p : DProgram) (v : DSight) (class_ : Int) : Option DLI := (inf H).call 239 (p, (v, class_))
theorem F2xK : H.key 239 = some F2xH := by kernel_rfl
noncomputable def F8f (p : DProgram) (v : DSight) (next : DLI) (t13 : DLI) (t14 : Int) (t15 : Int) : Option DLI := (inf H).loop 239 0 (Jc5 Tryz.f239 0) (p, (v, (next, (t13, (t14, t15)))))
noncomputable def F39 (p : DProgram) (v : DSight) : Option DRI := (inf H).call 170 (p, v)
theorem F39K : H.key 170 = some F39H := by kernel_rfl
noncomputable def F7d (p : DProgram) (v : DSight) (out : DRI) (t9 : Int) (t10 : Int) : Option DRI := (inf H).loop 170 0 (Jc5 Tryz.f170 0) (p, (v, (out, (t9, t10))))
noncomputable def F1k (p : DProgram) (t : DLN) : Option DLI := (inf H).call 172 (p, t)
theorem F1kK : H.key 172 = some F1kH := by kernel_rfl
noncomputable def F6n (t : DLN) (p : DProgram) (out : DLI) (t9 : Int) (t10 : Int) : Option DLI := (inf H).loop 172 0 (Jc5 Tryz.f172 0) (t, (p, (out, (t9, t10))))
noncomputable def F1a (g : DRI) : Option DRI := (inf H).call 295 g
theorem F1aK : H.key 295 = some F1aH := by kernel_rfl
noncomputable def F8u (out : DRI) (t11 : DRI) (t12 : Int) (t13 : Int) : Option DRI := (inf H).loop 295 0 (Jc5 Tryz.f295 0) (out, (t11, (t12, t13)))
noncomputable def F81 (out : DRI) (v : Int) (t11 : DRI) (t12 : Int) (t13 : Int) (t18 : DLI) (t19 : Int) (t20 : Int) : Option DRI := (inf H).loop 295 2 (Jc5 Tryz.f295 2) (out, (v, (t11, (t12, (t13, (t18, (t19, t20)))))))
noncomputable def F5f (x : Int) (y : Int) : Option (Int × Int) := (inf H).call 322 (x, y)
noncomputable def F3y (x : Int) (y : Int) : Option (Int × Int) := (inf H).call 259 (x, y)
noncomputable def F2j (x : DLI) (count : Int) : Option DLI := (inf H).call 193 (x, count)
theorem F2jK : H.key 193 = some F2jH := by kernel_rfl
noncomputable def F9l (newslice : DLI) (n : Int) : Option DLI := (inf H).loop 193 0 (Jc5 Tryz.f193 0) (newslice, n)
noncomputable def F4b (s : DLI) : Option DLI := (inf H).call 158 s
noncomputable def Fk (g : DRI) (some_ : DLI) : Option DLI := (inf H).call 238 (g, some_)
theorem FkK : H.key 238 = some FkH := by kernel_rfl
noncomputable def F7c (g : DRI) (steps : DLI) (open_ : DLI) (t17 : DLI) (t18 : Int) (t19 : Int) : Option DLI := (inf H).loop 238 0 (Jc5 Tryz.f238 0) (g, (steps, (open_, (t17, (t18, t19)))))
noncomputable def F8p (g : DRI) (steps : DLI) (open_ : DLI) : Option DLI := (inf H).loop 238 2 (Jc5 Tryz.f238 2) (g, (steps, open_))
noncomputable def F5o (g : DRI) (steps : DLI) (open_ : DLI) (t37 : DLI) (t38 : Int) (t39 : Int) : Option DLasso := (inf H).loop 238 4 (Jc5 Tryz.f238 4) (g, (steps, (open_, (t37, (t38, t39)))))
noncomputable def F5s (w : Int) (a1 : DLI) (a2 : Int) : Option Bool := (inf H).call 296 (w, (a1, a2))
noncomputable def F2z (s : DLI) (f : DLI × Int × Unit) : Option Int := (inf H).call 10148 (s, f)
theorem F2zK : H.key 10148 = some F2zH := by kernel_rfl
noncomputable def Fac (s : DLI) (f : DLI × Int × Unit) (t7 : Int) (t8 : Int) : Option (Int ⊕ Unit) := (inf H).loop 10148 0 (Jc5 Tryz.f152 0) (s, (f, (t7, t8)))
noncomputable def Ff (g : DRI) (from_ : DLI) (to : DLI) : Option DLI := (inf H).call 232 (g, (from_, to))
theorem FfK : H.key 232 = some FfH := by kernel_rfl
noncomputable def F4a (g : DRI) (steps : DLI) (best : Int) (t18 : DLI) (t19 : Int) (t20 : Int) : Option Int := (inf H).loop 232 0 (Jc5 Tryz.f232 0) (g, (steps, (best, (t18, (t19, t20)))))
noncomputable def F8d (g : DRI) (steps : DLI) (way : DLI) (v : Int) : Option DLI := (inf H).loop 232 2 (Jc5 Tryz.f232 2) (g, (steps, (way, v)))
noncomputable def F72 (p : DProgram) (v : DSight) (bad : DLN) : Option DLI := (inf H).call 166 (p, (v, bad))
noncomputable def F24 (p : DProgram) : Option DRI := (inf H).call 147 p
theorem F24K : H.key 147 = some F24H := by kernel_rfl
noncomputable def F8r (p : DProgram) (out : DRI) (t7 : Int) (t8 : Int) : Option DRI := (inf H).loop 147 0 (Jc5 Tryz.f147 0) (p, (out, (t7, t8)))
noncomputable def F4s (no : Int) (a1 : DSight) (a2 : Int) : Option Bool := (inf H).call 221 (no, (a1, a2))
noncomputable def F3i (s : DLI) (f : DSight × Int × Unit) : Option Int := (inf H).call 10154 (s, f)
theorem F3iK : H.key 10154 = some F3iH := by kernel_rfl
noncomputable def F9e (s : DLI) (f : DSight × Int × Unit) (t7 : Int) (t8 : Int) : Option (Int ⊕ Unit) := (inf H).loop 10154 0 (Jc5 Tryz.f152 0) (s, (f, (t7, t8)))
noncomputable def F1r (s : DLI) (del : DSight × Int × Unit) : Option DLI := (inf H).call 149 (s, del)
theorem F1rK : H.key 149 = some F1rH := by kernel_rfl
noncomputable def F64 (s : DLI) (del : DSight × Int × Unit) (i : Int) (j : Int) : Option (DLI × Int) := (inf H).loop 149 0 (Jc5 Tryz.f149 0) (s, (del, (i, j)))
noncomputable def F8 (p : DProgram) (v : DSight) (path : DLI) : Option DRI := (inf H).call 146 (p, (v, path))
theorem F8K : H.key 146 = some F8H := by kernel_rfl
noncomputable def F52 (p : DProgram) (v : DSight) (out : DRI) (next : DRI) (now : DLI) (t24 : DLI) (t25 : Int) (t26 : Int) : Option DRI := (inf H).loop 146 0 (Jc5 Tryz.f146 0) (p, (v, (out, (next, (now, (t24, (t25, t26)))))))
noncomputable def F9t (p : DProgram) (v : DSight) (out : DRI) (next : DRI) (class_ : Int) (in_ : DLB) (t24 : DLI) (t25 : Int) (t26 : Int) (t36 : DLI) (t37 : Int) (t38 : Int) : Option DLB := (inf H).loop 146 2 (Jc5 Tryz.f146 2) (p, (v, (out, (next, (class_, (in_, (t24, (t25, (t26, (t36, (t37, t38)))))))))))
noncomputable def F9a (p : DProgram) (v : DSight) (out : DRI) (next : DRI) (class_ : Int) (in_ : DLB) (t24 : DLI) (t25 : Int) (t26 : Int) (t36 : DLI) (t37 : Int) (t38 : Int) (t45 : DLI) (t46 : Int) (t47 : Int) : Option DLB := (inf H).loop 146 4 (Jc5 Tryz.f146 4) (p, (v, (out, (next, (class_, (in_, (t24, (t25, (t26, (t36, (t37, (t38, (t45, (t46, t47))))))))))))))
noncomputable def F6g (list : DLI) : Option Bool := (inf H).call 224 list
noncomputable def F2y (s : DRI) (f : Unit) : Option Int := (inf H).call 223 (s, f)
theorem F2yK : H.key 223 = some F2yH := by kernel_rfl
noncomputable def F87 (s : DRI) (f : Unit) (t7 : Int) (t8 : Int) : Option (Int ⊕ Unit) := (inf H).loop 223 0 (Jc5 Tryz.f223 0) (s, (f, (t7, t8)))
noncomputable def F35 (along : DRI) : Option Int := (inf H).call 148 along
noncomputable def F3n (s : DLI) (v : Int) : Option Int := (inf H).call 173 (s, v)
theorem F3nK : H.key 173 = some F3nH := by kernel_rfl
noncomputable def F9g (s : DLI) (v : Int) (t7 : Int) (t8 : Int) : Option (Int ⊕ Unit) := (inf H).loop 173 0 (Jc5 Tryz.f173 0) (s, (v, (t7, t8)))
noncomputable def F4j (s : DLI) (v : Int) : Option Bool := (inf H).call 96 (s, v)
noncomputable def F3x (to : Int) (a1 : DRI) (a2 : Int) : Option Bool := (inf H).call 151 (to, (a1, a2))
noncomputable def Fi (s : DLI) (f : DRI × Int × Unit) : Option Int := (inf H).call 10163 (s, f)
theorem FiK : H.key 10163 = some FiH := by kernel_rfl
noncomputable def F8o (s : DLI) (f : DRI × Int × Unit) (t7 : Int) (t8 : Int) : Option (Int ⊕ Unit) := (inf H).loop 10163 0 (Jc5 Tryz.f152 0) (s, (f, (t7, t8)))
noncomputable def F41 (s : DLI) (f : DRI × Int × Unit) : Option Bool := (inf H).call 10162 (s, f)
noncomputable def Fl (no : Int) (a1 : DRI) (a2 : DRI) (a3 : Int) : Option Bool := (inf H).call 150 (no, (a1, (a2, a3)))
noncomputable def F1 (s : DLI) (f : DRI × DRI × Int × Unit) : Option Int := (inf H).call 10160 (s, f)
theorem F1K : H.key 10160 = some F1H := by kernel_rfl
noncomputable def F7e (s : DLI) (f : DRI × DRI × Int × Unit) (t7 : Int) (t8 : Int) : Option (Int ⊕ Unit) := (inf H).loop 10160 0 (Jc5 Tryz.f152 0) (s, (f, (t7, t8)))
noncomputable def Fd (s : DLI) (del : DRI × DRI × Int × Unit) : Option DLI := (inf H).call 10159 (s, del)
theorem FdK : H.key 10159 = some FdH := by kernel_rfl
noncomputable def F60 (s : DLI) (del : DRI × DRI × Int × Unit) (i : Int) (j : Int) : Option (DLI × Int) := (inf H).loop 10159 0 (Jc5 Tryz.f149 0) (s, (del, (i, j)))
noncomputable def F6f (to : Int) (a1 : Bool × List (Option DLI)) (a2 : Int) : Option Bool := (inf H).call 10172 (to, (a1, a2))
noncomputable def F3f (s : DLI) (f : (Bool × List (Option DLI)) × Int × Unit) : Option Int := (inf H).call 10171 (s, f)
theorem F3fK : H.key 10171 = some F3fH := by kernel_rfl
noncomputable def F8c (s : DLI) (f : (Bool × List (Option DLI)) × Int × Unit) (t7 : Int) (t8 : Int) : Option (Int ⊕ Unit) := (inf H).loop 10171 0 (Jc5 Tryz.f152 0) (s, (f, (t7, t8)))
noncomputable def F58 (s : DLI) (f : (Bool × List (Option DLI)) × Int × Unit) : Option Bool := (inf H).call 10170 (s, f)
noncomputable def F4m (no : Int) (a1 : DRI) (a2 : Bool × List (Option DLI)) (a3 : Int) : Option Bool := (inf H).call 10169 (no, (a1, (a2, a3)))
noncomputable def F2o (s : DLI) (f : DRI × (Bool × List (Option DLI)) × Int × Unit) : Option Int := (inf H).call 10168 (s, f)
theorem F2oK : H.key 10168 = some F2oH := by kernel_rfl
noncomputable def F9s (s : DLI) (f : DRI × (Bool × List (Option DLI)) × Int × Unit) (t7 : Int) (t8 : Int) : Option (Int ⊕ Unit) := (inf H).loop 10168 0 (Jc5 Tryz.f152 0) (s, (f, (t7, t8)))
noncomputable def F2b (s : DLI) (del : DRI × (Bool × List (Option DLI)) × Int × Unit) : Option DLI := (inf H).call 10167 (s, del)
theorem F2bK : H.key 10167 = some F2bH := by kernel_rfl
noncomputable def F73 (s : DLI) (del : DRI × (Bool × List (Option DLI)) × Int × Unit) (i : Int) (j : Int) : Option (DLI × Int) := (inf H).loop 10167 0 (Jc5 Tryz.f149 0) (s, (del, (i, j)))
noncomputable def F5c (to : Int) (a1 : DRI) (a2 : DLI) (a3 : Int) : Option Bool := (inf H).call 153 (to, (a1, (a2, a3)))
noncomputable def F2l (s : DLI) (f : DRI × DLI × Int × Unit) : Option Int := (inf H).call 10173 (s, f)
theorem F2lK : H.key 10173 = some F2lH := by kernel_rfl
noncomputable def F8e (s : DLI) (f : DRI × DLI × Int × Unit) (t7 : Int) (t8 : Int) : Option (Int ⊕ Unit) := (inf H).loop 10173 0 (Jc5 Tryz.f152 0) (s, (f, (t7, t8)))
noncomputable def F2 (p : DProgram) (v : DSight) (path : DLI) : Option DLI := (inf H).call 77 (p, (v, path))
theorem F2K : H.key 77 = some F2H := by kernel_rfl
noncomputable def F7o (along : DRI) (next : DRI) (last : Int) (k_ : Int) : Option DRI := (inf H).loop 77 0 (Jc5 Tryz.f77 0) (along, (next, (last, k_)))
noncomputable def F9k (along : DRI) (next : DRI) (last : Int) (out : DLI) (k_ : Int) : Option DLI := (inf H).loop 77 2 (Jc5 Tryz.f77 2) (along, (next, (last, (out, k_))))
noncomputable def F70 (p : DProgram) (v : DSight) (path : DLI) : Option (DLI × Bool) := (inf H).call 233 (p, (v, path))
noncomputable def F2n (s1 : DLN) (s2 : DLN) : Option Bool := (inf H).call 299 (s1, s2)
theorem F2nK : H.key 299 = some F2nH := by kernel_rfl
noncomputable def F8y (s1 : DLN) (s2 : DLN) (t12 : Int) (t13 : Int) : Option (Bool ⊕ Unit) := (inf H).loop 299 0 (Jc5 Tryz.f299 0) (s1, (s2, (t12, t13)))
noncomputable def F75 (own : DLN) (a1 : DLN) : Option Bool := (inf H).call 298 (own, a1)
noncomputable def F2w (s : DRN) (f : DLN × Unit) : Option Int := (inf H).call 10180 (s, f)
theorem F2wK : H.key 10180 = some F2wH := by kernel_rfl
noncomputable def F7t (s : DRN) (f : DLN × Unit) (t7 : Int) (t8 : Int) : Option (Int ⊕ Unit) := (inf H).loop 10180 0 (Jc5 Tryz.f207 0) (s, (f, (t7, t8)))
noncomputable def F51 (s : DRN) (f : DLN × Unit) : Option Bool := (inf H).call 10179 (s, f)
noncomputable def F5e (s : DLN) : Option DLN := (inf H).call 300 s
noncomputable def F3u (t : DLN) (a1 : DRN) : Option DRN := (inf H).call 297 (t, a1)
noncomputable def F5m (own : DLN) (a1 : Int) (a2 : Int) : Option Bool := (inf H).call 365 (own, (a1, a2))
noncomputable def F2m (s : DRN) (f : Int × Int × Unit) : Option Int := (inf H).call 10187 (s, f)
theorem F2mK : H.key 10187 = some F2mH := by kernel_rfl
noncomputable def F7w (s : DRN) (f : Int × Int × Unit) (t7 : Int) (t8 : Int) : Option (Int ⊕ Unit) := (inf H).loop 10187 0 (Jc5 Tryz.f207 0) (s, (f, (t7, t8)))
noncomputable def F6o (s : DRN) (f : Int × Int × Unit) : Option Bool := (inf H).call 10186 (s, f)
noncomputable def F5b (wide : Int) (vars : Int) (t : DLN) : Option (DLN × Bool) := (inf H).call 366 (wide, (vars, t))
noncomputable def Fz (wide : Int) (vars : Int) (t : DLN) (by_ : DRN) : Option (DLN × Bool) := (inf H).call 340 (wide, (vars, (t, by_)))
theorem FzK : H.key 340 = some FzH := by kernel_rfl
noncomputable def F54 (by_ : DRN) (wide : Int) (vars : Int) (out : DLN) (t30 : DLN) (t31 : Int) (t32 : Int) : Option DLN := (inf H).loop 340 0 (Jc5 Tryz.f340 0) (by_, (wide, (vars, (out, (t30, (t31, t32))))))
noncomputable def F17 (p : DProgram) (k_ : Int) (t : DLN) : Option (DLN × Bool) := (inf H).call 301 (p, (k_, t))
theorem F17K : H.key 301 = some F17H := by kernel_rfl
noncomputable def F93 (k_ : Int) (t : DLN) (p : DProgram) (by_ : DRN) (t14 : Int) (t15 : Int) : Option DRN := (inf H).loop 301 0 (Jc5 Tryz.f301 0) (k_, (t, (p, (by_, (t14, t15)))))
noncomputable def F7b (t : DLN) (p : DProgram) (by_ : DRN) (t31 : Bool × List DChange) (t32 : Int) (t33 : Int) : Option DRN := (inf H).loop 301 2 (Jc5 Tryz.f301 2) (t, (p, (by_, (t31, (t32, t33)))))
noncomputable def F5 (p : DProgram) (preds : DRN) : Option DRN := (inf H).call 234 (p, preds)
theorem F5K : H.key 234 = some F5H := by kernel_rfl
noncomputable def Fa9 (preds : DRN) (p : DProgram) (out : DRN) (t17 : Bool × List DCommand) (t18 : Int) (t19 : Int) : Option DRN := (inf H).loop 234 0 (Jc5 Tryz.f234 0) (preds, (p, (out, (t17, (t18, t19)))))
noncomputable def F9h (p : DProgram) (out : DRN) (t28 : DRN) (t29 : Int) (t30 : Int) : Option DRN := (inf H).loop 234 2 (Jc5 Tryz.f234 2) (p, (out, (t28, (t29, t30))))
noncomputable def F5h (p : DProgram) (out : DRN) (t : DLN) (t28 : DRN) (t29 : Int) (t30 : Int) (t36 : Int) (t37 : Int) : Option DRN := (inf H).loop 234 4 (Jc5 Tryz.f234 4) (p, (out, (t, (t28, (t29, (t30, (t36, t37)))))))
noncomputable def F6v (next : Int) (a1 : DSight) (a2 : Int) : Option Bool := (inf H).call 306 (next, (a1, a2))
noncomputable def F3m (s : DLI) (f : DSight × Int × Unit) : Option Int := (inf H).call 10195 (s, f)
theorem F3mK : H.key 10195 = some F3mH := by kernel_rfl
noncomputable def F9f (s : DLI) (f : DSight × Int × Unit) (t7 : Int) (t8 : Int) : Option (Int ⊕ Unit) := (inf H).loop 10195 0 (Jc5 Tryz.f152 0) (s, (f, (t7, t8)))
noncomputable def F6y (s : DLI) (f : DSight × Int × Unit) : Option Bool := (inf H).call 10194 (s, f)
noncomputable def F3v (no : Int) (a1 : DProgram) (a2 : DSight) (a3 : Int) : Option Bool := (inf H).call 305 (no, (a1, (a2, a3)))
noncomputable def Fh (s : DLI) (f : DProgram × DSight × Int × Unit) : Option Int := (inf H).call 10192 (s, f)
theorem FhK : H.key 10192 = some FhH := by kernel_rfl
noncomputable def F7j (s : DLI) (f : DProgram × DSight × Int × Unit) (t7 : Int) (t8 : Int) : Option (Int ⊕ Unit) := (inf H).loop 10192 0 (Jc5 Tryz.f152 0) (s, (f, (t7, t8)))
noncomputable def F27 (s : DLI) (del : DProgram × DSight × Int × Unit) : Option DLI := (inf H).call 10191 (s, del)
theorem F27K : H.key 10191 = some F27H := by kernel_rfl
noncomputable def F6c (s : DLI) (del : DProgram × DSight × Int × Unit) (i : Int) (j : Int) : Option (DLI × Int) := (inf H).loop 10191 0 (Jc5 Tryz.f149 0) (s, (del, (i, j)))
noncomputable def F1d (p : DProgram) (v : DSight) (class_ : Int) (to : Int) : Option DLI := (inf H).call 236 (p, (v, (class_, to)))
noncomputable def F40 (n : Int) : Option DLN := (inf H).call 367 n
noncomputable def F4 (slices : DRN) : Option DLN := (inf H).call 341 slices
theorem F4K : H.key 341 = some F4H := by kernel_rfl
noncomputable def Fa0 (slices : DRN) (size_ : Int) (t9 : DRN) (t10 : Int) (t11 : Int) : Option Int := (inf H).loop 341 0 (Jc5 Tryz.f341 0) (slices, (size_, (t9, (t10, t11))))
noncomputable def Fa3 (newslice : DLN) (t25 : DRN) (t26 : Int) (t27 : Int) : Option DLN := (inf H).loop 341 2 (Jc5 Tryz.f341 2) (newslice, (t25, (t26, t27)))
noncomputable def F65 (no : Int) (a1 : DProgram) (a2 : DLN) : Option Bool := (inf H).call 368 (no, (a1, a2))
noncomputable def F3k (s : DLI) (f : DProgram × DLN × Unit) : Option Int := (inf H).call 10205 (s, f)
theorem F3kK : H.key 10205 = some F3kH := by kernel_rfl
noncomputable def F9n (s : DLI) (f : DProgram × DLN × Unit) (t7 : Int) (t8 : Int) : Option (Int ⊕ Unit) := (inf H).loop 10205 0 (Jc5 Tryz.f152 0) (s, (f, (t7, t8)))
noncomputable def F5r (s : DLI) (f : DProgram × DLN × Unit) : Option Bool := (inf H).call 10204 (s, f)
noncomputable def F1i (p : DProgram) (t : DLN) (some_ : DLI) : Option Bool := (inf H).call 342 (p, (t, some_))
noncomputable def F4y (p : DProgram) (t : DLN) (a : DLI) (b : DLI) : Option Bool := (inf H).call 303 (p, (t, (a, b)))
noncomputable def F6k (t : DLN) (a1 : DProgram) (a2 : DLI) (a3 : DLI) : Option Bool := (inf H).call 302 (t, (a1, (a2, a3)))
noncomputable def F2v (s : DRN) (f : DProgram × DLI × DLI × Unit) : Option Int := (inf H).call 10198 (s, f)
theorem F2vK : H.key 10198 = some F2vH := by kernel_rfl
noncomputable def F8h (s : DRN) (f : DProgram × DLI × DLI × Unit) (t7 : Int) (t8 : Int) : Option (Int ⊕ Unit) := (inf H).loop 10198 0 (Jc5 Tryz.f207 0) (s, (f, (t7, t8)))
noncomputable def F42 (p : DProgram) (terms : DRN) (a : DLI) (b : DLI) : Option Int := (inf H).call 235 (p, (terms, (a, b)))
noncomputable def F2k (v : DSight) (some_ : DLI) : Option DLI := (inf H).call 237 (v, some_)
theorem F2kK : H.key 237 = some F2kH := by kernel_rfl
noncomputable def F9q (v : DSight) (t4 : DSight) (in_ : DLI) (t13 : DLI) (t14 : Int) (t15 : Int) : Option DLI := (inf H).loop 237 0 (Jc5 Tryz.f237 0) (v, (t4, (in_, (t13, (t14, t15)))))
noncomputable def F66 (p : DProgram) (v : DSight) (preds : DRN) (path : DLI) : Option (DLI × Int × Bool) := (inf H).call 167 (p, (v, (preds, path)))
noncomputable def F33 (p : DProgram) (preds : DRN) (bad : DLN) (budget : Int) : Option (Int × DLI × Int × DLI) := (inf H).call 91 (p, (preds, (bad, budget)))
theorem F33K : H.key 91 = some F33H := by kernel_rfl
noncomputable def F8z (preds : DRN) (bad : DLN) (budget : Int) (p : DProgram) (t8 : DFinding) (out_0 : Int) (out_1 : DLI) (out_2 : Int) (out_3 : DLI) : Option (Int × DLI × Int × DLI) := (inf H).loop 91 0 (Jc5 Tryz.f91 0) (preds, (bad, (budget, (p, (t8, (out_0, (out_1, (out_2, out_3))))))))
noncomputable def F4q (p : DProgram) (preds : DRN) (bad : DLN) (budget : Int) : Option (Int × DLI × Int × DLI × Bool) := (inf H).call 41 (p, (preds, (bad, budget)))
noncomputable def F25 (a : DLI) (b : DLI) : Option Bool := (inf H).call 31 (a, b)
theorem F25K : H.key 31 = some F25H := by kernel_rfl
noncomputable def F84 (a : DLI) (b : DLI) (i : Int) : Option (Bool ⊕ Unit) := (inf H).loop 31 0 (Jc5 Tryz.f31 0) (a, (b, i))
noncomputable def F5d (a : DSight) (b : DSight) : Option Bool := (inf H).call 17 (a, b)
noncomputable def F4f (a : DFinding) (b : DFinding) : Option Bool := (inf H).call 42 (a, b)
noncomputable def F6 (a : DNode) (b : DNode) : Option Bool := (inf H).call 92 (a, b)
noncomputable def Fb (a : DLN) (b : DLN) : Option Bool := (inf H).call 43 (a, b)
theorem FbK : H.key 43 = some FbH := by kernel_rfl
noncomputable def F7x (a : DLN) (b : DLN) (i : Int) : Option (Bool ⊕ Unit) := (inf H).loop 43 0 (Jc5 Tryz.f43 0) (a, (b, i))
noncomputable def F13 (a : DChange) (b : DChange) : Option Bool := (inf H).call 291 (a, b)
noncomputable def F2h (a : Bool × List DChange) (b : Bool × List DChange) : Option Bool := (inf H).call 225 (a, b)
theorem F2hK : H.key 225 = some F2hH := by kernel_rfl
noncomputable def F92 (a : Bool × List DChange) (b : Bool × List DChange) (i : Int) : Option (Bool ⊕ Unit) := (inf H).loop 225 0 (Jc5 Tryz.f225 0) (a, (b, i))
noncomputable def F12 (a : DCommand) (b : DCommand) : Option Bool := (inf H).call 154 (a, b)
noncomputable def F34 (a : Bool × List DCommand) (b : Bool × List DCommand) : Option Bool := (inf H).call 78 (a, b)
theorem F34K : H.key 78 = some F34H := by kernel_rfl
noncomputable def F8v (a : Bool × List DCommand) (b : Bool × List DCommand) (i : Int) : Option (Bool ⊕ Unit) := (inf H).loop 78 0 (Jc5 Tryz.f78 0) (a, (b, i))
noncomputable def F7a (a : DProgram) (b : DProgram) : Option Bool := (inf H).call 32 (a, b)
noncomputable def F2r (a : DRN) (b : DRN) : Option Bool := (inf H).call 19 (a, b)
theorem F2rK : H.key 19 = some F2rH := by kernel_rfl
noncomputable def F8t (a : DRN) (b : DRN) (i : Int) : Option (Bool ⊕ Unit) := (inf H).loop 19 0 (Jc5 Tryz.f19 0) (a, (b, i))
noncomputable def Fc (a : DLN) (k_ : Int) : Option (DLN × Int) := (inf H).call 44 (a, k_)
theorem FcK : H.key 44 = some FcH := by kernel_rfl
noncomputable def F9v (a : DLN) (k_ : Int) (i : Int) : Option (DLN × Int) := (inf H).loop 44 0 (Jc5 Tryz.f44 0) (a, (k_, i))
noncomputable def F3o (a : Bool × List DChange) (k_ : Int) : Option ((Bool × List DChange) × Int) := (inf H).call 155 (a, k_)
theorem F3oK : H.key 155 = some F3oH := by kernel_rfl
noncomputable def F8b (a : Bool × List DChange) (k_ : Int) (i : Int) : Option ((Bool × List DChange) × Int) := (inf H).loop 155 0 (Jc5 Tryz.f155 0) (a, (k_, i))
noncomputable def F3c (a : Bool × List DCommand) (k_ : Int) : Option ((Bool × List DCommand) × Int) := (inf H).call 79 (a, k_)
theorem F3cK : H.key 79 = some F3cH := by kernel_rfl
noncomputable def F7m (a : Bool × List DCommand) (k_ : Int) (i : Int) : Option ((Bool × List DCommand) × Int) := (inf H).loop 79 0 (Jc5 Tryz.f79 0) (a, (k_, i))
noncomputable def F5q (a0_0 : Int) (a0_1 : Int) (a0_2 : DLN) (a0_3 : Bool × List DCommand) (k_ : Int) : Option (DLN × (Bool × List DCommand) × Int) := (inf H).call 33 (a0_0, (a0_1, (a0_2, (a0_3, k_))))
noncomputable def F3j (a : DRN) (k_ : Int) : Option (DRN × Int) := (inf H).call 21 (a, k_)
theorem F3jK : H.key 21 = some F3jH := by kernel_rfl
noncomputable def F7g (a : DRN) (k_ : Int) (i : Int) : Option (DRN × Int) := (inf H).loop 21 0 (Jc5 Tryz.f21 0) (a, (k_, i))
noncomputable def F2e (a : DLI) (k_ : Int) : Option (DLI × Int) := (inf H).call 34 (a, k_)
theorem F2eK : H.key 34 = some F2eH := by kernel_rfl
noncomputable def F8x (a : DLI) (k_ : Int) (i : Int) : Option (DLI × Int) := (inf H).loop 34 0 (Jc5 Tryz.f34 0) (a, (k_, i))
noncomputable def F5n (a : DLI) (k_ : Int) : Option (DLI × Int) := (inf H).call 22 (a, k_)
noncomputable def F6h (a0_0 : Int) (a0_1 : DLI) (a0_2 : Int) (a0_3 : DLI) (k_ : Int) : Option (DLI × DLI × Int) := (inf H).call 45 (a0_0, (a0_1, (a0_2, (a0_3, k_))))
noncomputable def F28 (a : DLI) (k_ : Int) : Option Int := (inf H).call 35 (a, k_)
theorem F28K : H.key 35 = some F28H := by kernel_rfl
noncomputable def F9w (a : DLI) (k_ : Int) (i : Int) : Option (Int ⊕ Int) := (inf H).loop 35 0 (Jc5 Tryz.f35 0) (a, (k_, i))
noncomputable def F6q (a : DSight) (k_ : Int) : Option Int := (inf H).call 23 (a, k_)
noncomputable def F4t (a : DFinding) (k_ : Int) : Option Int := (inf H).call 46 (a, k_)
noncomputable def F7s (aP : DProgram) (aPreds : DRN) (aBad : DLN) (aBudget : Int) : Option Bool := (inf H).call 6 (aP, (aPreds, (aBad, aBudget)))
theorem tC {k : Nat} {x : Den (tyOf (aTys H k))} {y} (h : J64 H (inf H) k x = y := by kernel_rfl) : (inf H).call k x = y := (J6c k x).trans h
theorem tL {k n : Nat} {c : Code} {x : Den (tyOf (hTys (Jc H k n)))} {f : FnH} {y} (hf : H.key k = some f) (h : J2p H k f (inf H) n c x = y := by kernel_rfl) : (inf H).loop k n c x = y := (J6d k n c x hf).trans h
theorem FpE (a left_) : Fp a left_ =
 bif decide ((IntKind.i64.wrap (left_ - (a.2.length : Int))) < 0) then
 some (-1)
else 
 some (IntKind.i64.wrap (left_ - (a.2.length : Int))) := tC
theorem F19E (a left_) : F19 a left_ =
(Fp a.2 left_).bind fun r =>
 bif decide (r < 0) then
 some (-1)
else 
 some r := tC
theorem Fa2E (a left_ i) : Fa2 a left_ i =
 bif decide (i < (a.2.length : Int)) then
 bif decide (0 ≤ i) then
 bif decide (i < (a.2.length : Int)) then
(F19 (a.2.getD (Int.toNat i) (0, (true, []))) left_).bind fun r =>
 bif decide (r < 0) then
 some (.inl (-1))
else 
(Fa2 a r (IntKind.i64.wrap (i + 1))).bind fun r => some r
else none
else none
else 
 some (.inr left_) := tL F38K
theorem F38E (a left_) : F38 a left_ =
 bif decide ((IntKind.i64.wrap (left_ - (a.2.length : Int))) < 0) then
 some (-1)
else 
(Fa2 a (IntKind.i64.wrap (left_ - (a.2.length : Int))) 0).bind fun r =>
 match r with
| .inl y =>
 some y
| .inr z =>
 some z := tC
theorem F15E (a left_) : F15 a left_ =
(Fp a.1 left_).bind fun r =>
 bif decide (r < 0) then
 some (-1)
else 
(F38 a.2 r).bind fun r1 =>
 bif decide (r1 < 0) then
 some (-1)
else 
 some r1 := tC
theorem FadE (a left_ i) : Fad a left_ i =
 bif decide (i < (a.2.length : Int)) then
 bif decide (0 ≤ i) then
 bif decide (i < (a.2.length : Int)) then
(F15 (a.2.getD (Int.toNat i) ((true, []), (true, []))) left_).bind fun r =>
 bif decide (r < 0) then
 some (.inl (-1))
else 
(Fad a r (IntKind.i64.wrap (i + 1))).bind fun r => some r
else none
else none
else 
 some (.inr left_) := tL F30K
theorem F30E (a left_) : F30 a left_ =
 bif decide ((IntKind.i64.wrap (left_ - (a.2.length : Int))) < 0) then
 some (-1)
else 
(Fad a (IntKind.i64.wrap (left_ - (a.2.length : Int))) 0).bind fun r =>
 match r with
| .inl y =>
 some y
| .inr z =>
 some z := tC
theorem F53E (a left_) : F53 a left_ =
(Fp a.2.2.1 left_).bind fun r =>
 bif decide (r < 0) then
 some (-1)
else 
(F30 a.2.2.2 r).bind fun r1 =>
 bif decide (r1 < 0) then
 some (-1)
else 
 some r1 := tC
theorem F7fE (a left_ i) : F7f a left_ i =
 bif decide (i < (a.2.length : Int)) then
 bif decide (0 ≤ i) then
 bif decide (i < (a.2.length : Int)) then
(Fp (a.2.getD (Int.toNat i) (true, [])) left_).bind fun r =>
 bif decide (r < 0) then
 some (.inl (-1))
else 
(F7f a r (IntKind.i64.wrap (i + 1))).bind fun r => some r
else none
else none
else 
 some (.inr left_) := tL F36K
theorem F36E (a left_) : F36 a left_ =
 bif decide ((IntKind.i64.wrap (left_ - (a.2.length : Int))) < 0) then
 some (-1)
else 
(F7f a (IntKind.i64.wrap (left_ - (a.2.length : Int))) 0).bind fun r =>
 match r with
| .inl y =>
 some y
| .inr z =>
 some z := tC
theorem F3E (a) : F3 a =
 some (a.1, a.2) := tC
theorem F89E (a out i) : F89 a out i =
 bif decide (i < (a.2.length : Int)) then
 bif decide (0 ≤ i) then
 bif decide (i < (a.2.length : Int)) then
(F3 (a.2.getD (Int.toNat i) (0, 0))).bind fun r =>
 bif decide (0 ≤ i) then
 bif decide (i < (out.2.length : Int)) then
(F89 a (out.1, (out.2.set (Int.toNat i) r)) (IntKind.i64.wrap (i + 1))).bind fun r => some r
else none
else none
else none
else none
else 
 some (out.1, out.2) := tL F7K
theorem F7E (a) : F7 a =
 bif decide (0 ≤ (a.2.length : Int)) then
 bif decide ((a.2.length : Int) ≤ lim) then
 bif decide ((a.2.length : Int) ≤ (a.2.length : Int)) then
 bif decide ((a.2.length : Int) ≤ lim) then
(F89 a (false, (List.replicate (Int.toNat (a.2.length : Int)) ((0, 0) : DNode))) 0).bind fun r =>
 some (r.1, r.2)
else none
else none
else none
else none := tC
theorem F1bE (a) : F1b a =
(F7 a.2).bind fun r =>
 some (a.1, (r.1, r.2)) := tC
theorem Fa7E (a out i) : Fa7 a out i =
 bif decide (i < (a.2.length : Int)) then
 bif decide (0 ≤ i) then
 bif decide (i < (a.2.length : Int)) then
(F1b (a.2.getD (Int.toNat i) (0, (true, [])))).bind fun r =>
 bif decide (0 ≤ i) then
 bif decide (i < (out.2.length : Int)) then
(Fa7 a (out.1, (out.2.set (Int.toNat i) (r.1, (r.2.1, r.2.2)))) (IntKind.i64.wrap (i + 1))).bind fun r => some r
else none
else none
else none
else none
else 
 some (out.1, out.2) := tL F2sK
theorem F2sE (a) : F2s a =
 bif decide (0 ≤ (a.2.length : Int)) then
 bif decide ((a.2.length : Int) ≤ lim) then
 bif decide ((a.2.length : Int) ≤ (a.2.length : Int)) then
 bif decide ((a.2.length : Int) ≤ lim) then
(Fa7 a (false, (List.replicate (Int.toNat (a.2.length : Int)) ((0, (true, [])) : DChange))) 0).bind fun r =>
 some (r.1, r.2)
else none
else none
else none
else none := tC
theorem F14E (a) : F14 a =
(F7 a.1).bind fun r =>
(F2s a.2).bind fun r1 =>
 some ((r.1, r.2), (r1.1, r1.2)) := tC
theorem F8jE (a out i) : F8j a out i =
 bif decide (i < (a.2.length : Int)) then
 bif decide (0 ≤ i) then
 bif decide (i < (a.2.length : Int)) then
(F14 (a.2.getD (Int.toNat i) ((true, []), (true, [])))).bind fun r =>
 bif decide (0 ≤ i) then
 bif decide (i < (out.2.length : Int)) then
(F8j a (out.1, (out.2.set (Int.toNat i) ((r.1.1, r.1.2), (r.2.1, r.2.2)))) (IntKind.i64.wrap (i + 1))).bind fun r => some r
else none
else none
else none
else none
else 
 some (out.1, out.2) := tL F3aK
theorem F3aE (a) : F3a a =
 bif decide (0 ≤ (a.2.length : Int)) then
 bif decide ((a.2.length : Int) ≤ lim) then
 bif decide ((a.2.length : Int) ≤ (a.2.length : Int)) then
 bif decide ((a.2.length : Int) ≤ lim) then
(F8j a (false, (List.replicate (Int.toNat (a.2.length : Int)) (((true, []), (true, [])) : DCommand))) 0).bind fun r =>
 some (r.1, r.2)
else none
else none
else none
else none := tC
theorem F47E (a) : F47 a =
(F7 a.2.2.1).bind fun r =>
(F3a a.2.2.2).bind fun r1 =>
 some (a.1, (a.2.1, ((r.1, r.2), (r1.1, r1.2)))) := tC
theorem F9cE (a out i) : F9c a out i =
 bif decide (i < (a.2.length : Int)) then
 bif decide (0 ≤ i) then
 bif decide (i < (a.2.length : Int)) then
(F7 (a.2.getD (Int.toNat i) (true, []))).bind fun r =>
 bif decide (0 ≤ i) then
 bif decide (i < (out.2.length : Int)) then
(F9c a (out.1, (out.2.set (Int.toNat i) (r.1, r.2))) (IntKind.i64.wrap (i + 1))).bind fun r => some r
else none
else none
else none
else none
else 
 some (out.1, out.2) := tL F1jK
theorem F1jE (a) : F1j a =
 bif decide (0 ≤ (a.2.length : Int)) then
 bif decide ((a.2.length : Int) ≤ lim) then
 bif decide ((a.2.length : Int) ≤ (a.2.length : Int)) then
 bif decide ((a.2.length : Int) ≤ lim) then
(F9c a (false, (List.replicate (Int.toNat (a.2.length : Int)) ((true, []) : Bool × List DNode))) 0).bind fun r =>
 some (r.1, r.2)
else none
else none
else none
else none := tC
theorem F3wE (n lo hi) : F3w n lo hi =
 bif decide (n ≥ lo) then
 some (decide (n ≤ hi))
else 
 some false := tC
theorem F4pE (wide) : F4p wide =
(F3w wide 1 64).bind fun r =>
 some r := tC
theorem F4dE (op) : F4d op =
 bif (op == 1) then
 some (0, (1, 1))
else 
 bif (op == 2) then
 some (0, (1, 1))
else 
 bif (op == 20) then
 some (0, (2, 2))
else 
 bif (op == 13) then
 some (1, (1, 1))
else 
 bif (op == 19) then
 some (1, (2, 2))
else 
(F3w op 3 12).bind fun r =>
 bif r then
 some (2, (1, 1))
else 
(F3w op 14 16).bind fun r1 =>
 bif r1 then
 some (2, (1, 2))
else 
 bif (op == 17) then
 some (2, (2, 2))
else 
 bif (op == 18) then
 some (2, (2, 2))
else 
 some (0, (0, 0)) := tC
theorem Fa6E (wide a out k_) : Fa6 wide a out k_ =
 bif decide (k_ < wide) then
 bif decide ((IntKind.u64.wrap k_) < 0) then
 none
else 
(Fa6 wide a (bOr .u64 out (bAnd .u64 a (bShl .u64 1 (IntKind.u64.wrap k_)))) (IntKind.i64.wrap (k_ + 1))).bind fun r => some r
else 
 some out := tL FxK
theorem FxE (wide a) : Fx wide a =
(Fa6 wide a 0 0).bind fun r =>
 some r := tC
theorem F4eE (wide a) : F4e wide a =
(F4p wide).bind fun r =>
 bif r then
(Fx wide a).bind fun r1 =>
 some (r1 == a)
else 
 some false := tC
theorem F3eE (wide vars n) : F3e wide vars n =
 bif (n.1 == 1) then
(F4e wide n.2).bind fun r =>
 some r
else 
 bif (n.1 == 2) then
 some (decide (n.2 < (IntKind.u64.wrap vars)))
else 
 bif (n.1 == 20) then
 some (decide (n.2 < 2))
else 
 some (n.2 == 0) := tC
theorem F9uE (wide vars pile t27 t28 t29) : F9u wide vars pile t27 t28 t29 =
 bif decide (t29 < t28) then
 bif decide (0 ≤ t29) then
 bif decide (t29 < (t27.2.length : Int)) then
(F4d ((t27.2.getD (Int.toNat t29) (0, 0)).1)).bind fun r =>
 bif (r.2.2 == 0) then
 some (.inl 0)
else 
(F3e wide vars (t27.2.getD (Int.toNat t29) (0, 0))).bind fun r1 =>
 bif !r1 then
 some (.inl 0)
else 
 bif decide ((pile.2.length : Int) < r.1) then
 some (.inl 0)
else 
(F8s wide vars (pile.1, pile.2) r.1 r.2.1 r.2.2 t27 t28 t29).bind fun r2 =>
 match r2 with
| .inl y =>
 some (.inl y)
| .inr z =>
 bif decide (z.2.length + [r.2.2].length ≤ lim) then
(F9u wide vars ((z.1 && false), (z.2 ++ [r.2.2])) t27 t28 (IntKind.i64.wrap (t29 + 1))).bind fun r => some r
else none
else none
else none
else 
 some (.inr (pile.1, pile.2)) := tL FqK
theorem F8sE (wide vars pile many part own t27 t28 t29) : F8s wide vars pile many part own t27 t28 t29 =
 bif decide (many > 0) then
 bif decide (0 ≤ (IntKind.i64.wrap ((pile.2.length : Int) - 1))) then
 bif decide ((IntKind.i64.wrap ((pile.2.length : Int) - 1)) < (pile.2.length : Int)) then
 bif ((pile.2.getD (Int.toNat (IntKind.i64.wrap ((pile.2.length : Int) - 1))) 0) != part) then
 some (.inl 0)
else 
 bif decide (0 ≤ (IntKind.i64.wrap ((pile.2.length : Int) - 1))) then
 bif decide ((IntKind.i64.wrap ((pile.2.length : Int) - 1)) ≤ (pile.2.length : Int)) then
(F8s wide vars (pile.1, ((pile.2.take (Int.toNat (IntKind.i64.wrap ((pile.2.length : Int) - 1)))).drop 0)) (IntKind.i64.wrap (many - 1)) part own t27 t28 t29).bind fun r => some r
else none
else none
else none
else none
else 
 some (.inr (pile.1, pile.2)) := tL FqK
theorem FqE (wide vars t) : Fq wide vars t =
(F4p wide).bind fun r =>
 bif !r then
 some 0
else 
(F3w vars 1 4).bind fun r1 =>
 bif !r1 then
 some 0
else 
(F3w (t.2.length : Int) 1 48).bind fun r2 =>
 bif !r2 then
 some 0
else 
(F9u wide vars (true, []) t (t.2.length : Int) 0).bind fun r3 =>
 match r3 with
| .inl y =>
 some y
| .inr z =>
 bif ((z.2.length : Int) != 1) then
 some 0
else 
 bif decide (0 < (z.2.length : Int)) then
 some (z.2.getD 0 0)
else none := tC
theorem F45E (p t) : F45 p t =
(Fq p.1 p.2.1 t).bind fun r =>
 some (r == 2) := tC
theorem F4zE (p c t21 t22 t23) : F4z p c t21 t22 t23 =
 bif decide (t23 < t22) then
 bif decide (0 ≤ t23) then
 bif decide (t23 < (t21.2.length : Int)) then
(F3w ((t21.2.getD (Int.toNat t23) (0, (true, []))).1) 0 (IntKind.i64.wrap (p.2.1 - 1))).bind fun r =>
 bif !r then
 some (.inl false)
else 
 bif decide (t23 > 0) then
 bif decide (0 ≤ (IntKind.i64.wrap (t23 - 1))) then
 bif decide ((IntKind.i64.wrap (t23 - 1)) < (c.2.2.length : Int)) then
 bif decide (((c.2.2.getD (Int.toNat (IntKind.i64.wrap (t23 - 1))) (0, (true, []))).1) ≥ ((t21.2.getD (Int.toNat t23) (0, (true, []))).1)) then
 some (.inl false)
else 
(Fq p.1 p.2.1 ((t21.2.getD (Int.toNat t23) (0, (true, []))).2)).bind fun r1 =>
 bif (r1 != 1) then
 some (.inl false)
else 
(F4z p c t21 t22 (IntKind.i64.wrap (t23 + 1))).bind fun r => some r
else none
else none
else 
(Fq p.1 p.2.1 ((t21.2.getD (Int.toNat t23) (0, (true, []))).2)).bind fun r2 =>
 bif (r2 != 1) then
 some (.inl false)
else 
(F4z p c t21 t22 (IntKind.i64.wrap (t23 + 1))).bind fun r => some r
else none
else none
else 
 some (.inr ()) := tL F2fK
theorem F2fE (p c) : F2f p c =
(F45 p c.1).bind fun r =>
 bif !r then
 some false
else 
 bif decide ((c.2.2.length : Int) > p.2.1) then
 some false
else 
(F4z p c c.2 (c.2.2.length : Int) 0).bind fun r1 =>
 match r1 with
| .inl y =>
 some y
| .inr z =>
 some true := tC
theorem F8qE (p t18 t19 t20) : F8q p t18 t19 t20 =
 bif decide (t20 < t19) then
 bif decide (0 ≤ t20) then
 bif decide (t20 < (t18.2.length : Int)) then
(F2f p (t18.2.getD (Int.toNat t20) ((true, []), (true, [])))).bind fun r =>
 bif !r then
 some (.inl false)
else 
(F8q p t18 t19 (IntKind.i64.wrap (t20 + 1))).bind fun r => some r
else none
else none
else 
 some (.inr ()) := tL F3dK
theorem F3dE (p) : F3d p =
(F45 p p.2.2.1).bind fun r =>
 bif !r then
 some false
else 
(F3w (p.2.2.2.2.length : Int) 1 6).bind fun r1 =>
 bif !r1 then
 some false
else 
(F8q p p.2.2.2 (p.2.2.2.2.length : Int) 0).bind fun r2 =>
 match r2 with
| .inl y =>
 some y
| .inr z =>
 some true := tC
theorem F69E (p) : F69 p =
(F3d p).bind fun r =>
 bif r then
 some (decide ((IntKind.i64.wrap (p.1 * p.2.1)) ≤ 5))
else 
 some false := tC
theorem F9mE (p t10 t11 t12) : F9m p t10 t11 t12 =
 bif decide (t12 < t11) then
 bif decide (0 ≤ t12) then
 bif decide (t12 < (t10.2.length : Int)) then
(F45 p (t10.2.getD (Int.toNat t12) (true, []))).bind fun r =>
 bif !r then
 some (.inl false)
else 
(F9m p t10 t11 (IntKind.i64.wrap (t12 + 1))).bind fun r => some r
else none
else none
else 
 some (.inr ()) := tL F2gK
theorem F2gE (p preds) : F2g p preds =
 bif decide ((preds.2.length : Int) > 8) then
 some false
else 
(F9m p preds (preds.2.length : Int) 0).bind fun r =>
 match r with
| .inl y =>
 some y
| .inr z =>
 some true := tC
theorem F62E (p preds bad budget) : F62 p preds bad budget =
(F69 p).bind fun r =>
 bif r then
(F2g p preds).bind fun r1 =>
 bif r1 then
(F45 p bad).bind fun r2 =>
 bif r2 then
(F3w budget 0 40).bind fun r3 =>
 some r3
else 
 some false
else 
 some false
else 
 some false := tC
theorem F4rE (p) : F4r p =
 bif decide ((IntKind.u64.wrap (IntKind.i64.wrap (p.1 * p.2.1))) < 0) then
 none
else 
 some (bShl .i64 1 (IntKind.u64.wrap (IntKind.i64.wrap (p.1 * p.2.1)))) := tC
theorem F86E (no p out v) : F86 no p out v =
 bif decide (v < p.2.1) then
 bif decide ((IntKind.u64.wrap (IntKind.i64.wrap (v * p.1))) < 0) then
 none
else 
 bif decide ((IntKind.u64.wrap p.1) < 0) then
 none
else 
 bif decide (out.2.length + [IntKind.u64.wrap (bAnd .i64 (bShr .i64 no (IntKind.u64.wrap (IntKind.i64.wrap (v * p.1)))) (IntKind.i64.wrap ((bShl .i64 1 (IntKind.u64.wrap p.1)) - 1)))].length ≤ lim) then
(F86 no p ((out.1 && false), (out.2 ++ [IntKind.u64.wrap (bAnd .i64 (bShr .i64 no (IntKind.u64.wrap (IntKind.i64.wrap (v * p.1)))) (IntKind.i64.wrap ((bShl .i64 1 (IntKind.u64.wrap p.1)) - 1)))])) (IntKind.i64.wrap (v + 1))).bind fun r => some r
else none
else 
 some (out.1, out.2) := tL F23K
theorem F23E (p no) : F23 p no =
(F86 no p (true, []) 0).bind fun r =>
 some (r.1, r.2) := tC
theorem F7uE (t many from_) : F7u t many from_ =
 bif decide (many > 0) then
(F26 t (IntKind.i64.wrap (from_ - 1))).bind fun r =>
(F7u t (IntKind.i64.wrap (many - 1)) r).bind fun r => some r
else 
 some from_ := tL F26K
theorem F26E (t k_) : F26 t k_ =
 bif decide (0 ≤ k_) then
 bif decide (k_ < (t.2.length : Int)) then
(F4d ((t.2.getD (Int.toNat k_) (0, 0)).1)).bind fun r =>
(F7u t r.1 k_).bind fun r1 =>
 some r1
else none
else none := tC
theorem F6aE (wide a b) : F6a wide a b =
(F4e wide a).bind fun r =>
 bif r then
(F4e wide b).bind fun r1 =>
 some r1
else 
 some false := tC
theorem F6rE (wide a b) : F6r wide a b =
(F6a wide a b).bind fun r =>
 bif !r then
 some (0, (0, false))
else 
 bif (b == 0) then
(Fx wide 18446744073709551615).bind fun r1 =>
 some (r1, (a, true))
else 
 bif (b == 0) then
 none
else 
 bif (b == 0) then
 none
else 
 some (IntKind.u64.wrap (Int.tdiv a b), (Int.tmod a b, true)) := tC
theorem F59E (wide a by_ left_) : F59 wide a by_ left_ =
 bif decide (by_ > 0) then
 bif left_ then
(Fx wide (bShl .u64 a 1)).bind fun r =>
(F59 wide r (IntKind.u64.wrap (by_ - 1)) left_).bind fun r => some r
else 
(F59 wide (bShr .u64 a 1) (IntKind.u64.wrap (by_ - 1)) left_).bind fun r => some r
else 
 some a := tL FsK
theorem FsE (wide a by_ left_) : Fs wide a by_ left_ =
 bif decide (by_ ≥ (IntKind.u64.wrap wide)) then
 some 0
else 
(F59 wide a by_ left_).bind fun r =>
 some r := tC
theorem F1oE (is) : F1o is =
 bif is then
 some 1
else 
 some 0 := tC
theorem F3rE (wide a) : F3r wide a =
 bif decide ((IntKind.u64.wrap (IntKind.i64.wrap (wide - 1))) < 0) then
 none
else 
 bif ((bAnd .u64 (bShr .u64 a (IntKind.u64.wrap (IntKind.i64.wrap (wide - 1)))) 1) == 1) then
(Fx wide 18446744073709551615).bind fun r =>
 some (IntKind.i64.wrap (bOr .u64 a (bXor .u64 18446744073709551615 r)))
else 
 some (IntKind.i64.wrap a) := tC
theorem F74E (wide op a b) : F74 wide op a b =
(F6r wide a b).bind fun r =>
 bif (op == 3) then
(Fx wide (IntKind.u64.wrap (a + b))).bind fun r1 =>
 some r1
else 
 bif (op == 4) then
(Fx wide (IntKind.u64.wrap (a - b))).bind fun r2 =>
 some r2
else 
 bif (op == 5) then
(Fx wide (IntKind.u64.wrap (a * b))).bind fun r3 =>
 some r3
else 
 bif (op == 6) then
 some r.1
else 
 bif (op == 7) then
 some r.2.1
else 
 bif (op == 8) then
 bif (op == 8) then
 some (bAnd .u64 a b)
else 
 bif (op == 9) then
 bif (op == 9) then
 some (bOr .u64 a b)
else 
 bif (op == 10) then
 some (bXor .u64 a b)
else 
 bif (op == 11) then
(Fs wide a b true).bind fun r4 =>
 some r4
else 
 bif (op == 12) then
(Fs wide a b false).bind fun r5 =>
 some r5
else 
 bif (op == 14) then
(F1o (a == b)).bind fun r6 =>
 some r6
else 
 bif (op == 15) then
(F1o (decide (a < b))).bind fun r7 =>
 some r7
else 
 bif (op == 16) then
(F3r wide a).bind fun r8 =>
(F3r wide b).bind fun r9 =>
(F1o (decide (r8 < r9))).bind fun r10 =>
 some r10
else 
 some 0
else 
 bif (op == 18) then
 some (bOr .u64 a b)
else 
 bif (op == 10) then
 some (bXor .u64 a b)
else 
 bif (op == 11) then
(Fs wide a b true).bind fun r11 =>
 some r11
else 
 bif (op == 12) then
(Fs wide a b false).bind fun r12 =>
 some r12
else 
 bif (op == 14) then
(F1o (a == b)).bind fun r13 =>
 some r13
else 
 bif (op == 15) then
(F1o (decide (a < b))).bind fun r14 =>
 some r14
else 
 bif (op == 16) then
(F3r wide a).bind fun r15 =>
(F3r wide b).bind fun r16 =>
(F1o (decide (r15 < r16))).bind fun r17 =>
 some r17
else 
 some 0
else 
 bif (op == 17) then
 some (bAnd .u64 a b)
else 
 bif (op == 9) then
 bif (op == 9) then
 some (bOr .u64 a b)
else 
 bif (op == 10) then
 some (bXor .u64 a b)
else 
 bif (op == 11) then
(Fs wide a b true).bind fun r18 =>
 some r18
else 
 bif (op == 12) then
(Fs wide a b false).bind fun r19 =>
 some r19
else 
 bif (op == 14) then
(F1o (a == b)).bind fun r20 =>
 some r20
else 
 bif (op == 15) then
(F1o (decide (a < b))).bind fun r21 =>
 some r21
else 
 bif (op == 16) then
(F3r wide a).bind fun r22 =>
(F3r wide b).bind fun r23 =>
(F1o (decide (r22 < r23))).bind fun r24 =>
 some r24
else 
 some 0
else 
 bif (op == 18) then
 some (bOr .u64 a b)
else 
 bif (op == 10) then
 some (bXor .u64 a b)
else 
 bif (op == 11) then
(Fs wide a b true).bind fun r25 =>
 some r25
else 
 bif (op == 12) then
(Fs wide a b false).bind fun r26 =>
 some r26
else 
 bif (op == 14) then
(F1o (a == b)).bind fun r27 =>
 some r27
else 
 bif (op == 15) then
(F1o (decide (a < b))).bind fun r28 =>
 some r28
else 
 bif (op == 16) then
(F3r wide a).bind fun r29 =>
(F3r wide b).bind fun r30 =>
(F1o (decide (r29 < r30))).bind fun r31 =>
 some r31
else 
 some 0 := tC
theorem F43E (wide t k_ state) : F43 wide t k_ state =
 bif decide (0 ≤ k_) then
 bif decide (k_ < (t.2.length : Int)) then
(F4d ((t.2.getD (Int.toNat k_) (0, 0)).1)).bind fun r =>
 bif (((t.2.getD (Int.toNat k_) (0, 0)).1) == 2) then
 bif decide (0 ≤ ((t.2.getD (Int.toNat k_) (0, 0)).2)) then
 bif decide (((t.2.getD (Int.toNat k_) (0, 0)).2) < (state.2.length : Int)) then
 some (state.2.getD (Int.toNat ((t.2.getD (Int.toNat k_) (0, 0)).2)) 0)
else none
else none
else 
 bif (r.1 == 0) then
 some ((t.2.getD (Int.toNat k_) (0, 0)).2)
else 
 bif (((t.2.getD (Int.toNat k_) (0, 0)).1) == 13) then
(F43 wide t (IntKind.i64.wrap (k_ - 1)) state).bind fun r1 =>
(Fx wide (bXor .u64 18446744073709551615 r1)).bind fun r2 =>
 some r2
else 
 bif (((t.2.getD (Int.toNat k_) (0, 0)).1) == 19) then
(F43 wide t (IntKind.i64.wrap (k_ - 1)) state).bind fun r3 =>
 some (IntKind.u64.wrap (1 - r3))
else 
(F26 t (IntKind.i64.wrap (k_ - 1))).bind fun r4 =>
(F43 wide t (IntKind.i64.wrap (r4 - 1)) state).bind fun r5 =>
(F43 wide t (IntKind.i64.wrap (k_ - 1)) state).bind fun r6 =>
(F74 wide ((t.2.getD (Int.toNat k_) (0, 0)).1) r5 r6).bind fun r7 =>
 some r7
else none
else none := tC
theorem F4oE (p t s) : F4o p t s =
(F43 p.1 t (IntKind.i64.wrap ((t.2.length : Int) - 1)) s).bind fun r =>
 some (r == 1) := tC
theorem F6pE (t p out no) : F6p t p out no =
(F4r p).bind fun r =>
 bif decide (no < r) then
(F23 p no).bind fun r1 =>
(F4o p t (r1.1, r1.2)).bind fun r2 =>
 bif r2 then
 bif decide (out.2.length + [no].length ≤ lim) then
(F6p t p ((out.1 && false), (out.2 ++ [no])) (IntKind.i64.wrap (no + 1))).bind fun r => some r
else none
else 
(F6p t p (out.1, out.2) (IntKind.i64.wrap (no + 1))).bind fun r => some r
else 
 some (out.1, out.2) := tL F1eK
theorem F1eE (p t) : F1e p t =
(F6p t p (true, []) 0).bind fun r =>
 some (r.1, r.2) := tC
theorem F97E (n t7 t8 t9) : F97 n t7 t8 t9 =
 bif decide (t9 < t8) then
 bif decide (0 ≤ t9) then
 bif decide (t9 < (t7.2.length : Int)) then
 bif ((t7.2.getD (Int.toNat t9) 0) == n) then
 some (.inl true)
else 
(F97 n t7 t8 (IntKind.i64.wrap (t9 + 1))).bind fun r => some r
else none
else none
else 
 some (.inr ()) := tL F1fK
theorem F1fE (l n) : F1f l n =
(F97 n l (l.2.length : Int) 0).bind fun r =>
 match r with
| .inl y =>
 some y
| .inr z =>
 some false := tC
theorem F5tE (keys t2 out many t9 t10 t11) : F5t keys t2 out many t9 t10 t11 =
 bif decide (t11 < t10) then
 bif decide (0 ≤ t11) then
 bif decide (t11 < (t9.2.length : Int)) then
(Fa8 keys t2 (out.1, out.2) many t11 (t9.2.getD (Int.toNat t11) 0) many 0 t9 t10 t11).bind fun r =>
 bif (r == many) then
 bif decide (out.2.length + [r].length ≤ lim) then
(F5t keys t2 ((out.1 && false), (out.2 ++ [r])) (IntKind.i64.wrap (many + 1)) t9 t10 (IntKind.i64.wrap (t11 + 1))).bind fun r => some r
else none
else 
 bif decide (out.2.length + [r].length ≤ lim) then
(F5t keys t2 ((out.1 && false), (out.2 ++ [r])) many t9 t10 (IntKind.i64.wrap (t11 + 1))).bind fun r => some r
else none
else none
else none
else 
 some (out.1, out.2) := tL F10K
theorem Fa8E (keys t2 out many i key class_ j t9 t10 t11) : Fa8 keys t2 out many i key class_ j t9 t10 t11 =
 bif decide (j < i) then
 bif decide (0 ≤ j) then
 bif decide (j < (keys.2.length : Int)) then
 bif ((keys.2.getD (Int.toNat j) 0) == key) then
 bif decide (0 ≤ j) then
 bif decide (j < (out.2.length : Int)) then
 some (out.2.getD (Int.toNat j) 0)
else none
else none
else 
(Fa8 keys t2 out many i key class_ (IntKind.i64.wrap (j + 1)) t9 t10 t11).bind fun r => some r
else none
else none
else 
 some class_ := tL F10K
theorem F10E (keys) : F10 keys =
(F5t keys (true, []) (true, []) 0 keys (keys.2.length : Int) 0).bind fun r =>
 some (r.1, r.2) := tC
theorem F79E (some_ t4 keys t9 t10 t11) : F79 some_ t4 keys t9 t10 t11 =
 bif decide (t11 < t10) then
 bif decide (0 ≤ t11) then
 bif decide (t11 < (t9.2.length : Int)) then
(F1f some_ t11).bind fun r =>
 bif r then
 bif decide (keys.2.length + [IntKind.i64.wrap ((IntKind.i64.wrap (2 * (t9.2.getD (Int.toNat t11) 0))) + 1)].length ≤ lim) then
(F79 some_ t4 ((keys.1 && false), (keys.2 ++ [IntKind.i64.wrap ((IntKind.i64.wrap (2 * (t9.2.getD (Int.toNat t11) 0))) + 1)])) t9 t10 (IntKind.i64.wrap (t11 + 1))).bind fun r => some r
else none
else 
 bif decide (keys.2.length + [IntKind.i64.wrap (2 * (t9.2.getD (Int.toNat t11) 0))].length ≤ lim) then
(F79 some_ t4 ((keys.1 && false), (keys.2 ++ [IntKind.i64.wrap (2 * (t9.2.getD (Int.toNat t11) 0))])) t9 t10 (IntKind.i64.wrap (t11 + 1))).bind fun r => some r
else none
else none
else none
else 
 some (keys.1, keys.2) := tL F1uK
theorem F1uE (v some_) : F1u v some_ =
(F79 some_ (true, []) (true, []) v (v.2.length : Int) 0).bind fun r =>
(F10 (r.1, r.2)).bind fun r1 =>
 some (r1.1, r1.2) := tC
theorem F4cE (p v t) : F4c p v t =
(F1e p t).bind fun r =>
(F1u v (r.1, r.2)).bind fun r1 =>
 some (r1.1, r1.2) := tC
theorem F8lE (p t4 v t12 t13 t14) : F8l p t4 v t12 t13 t14 =
 bif decide (t14 < t13) then
 bif decide (0 ≤ t14) then
 bif decide (t14 < (t12.2.length : Int)) then
(F4c p (v.1, v.2) (t12.2.getD (Int.toNat t14) (true, []))).bind fun r =>
(F8l p t4 (r.1, r.2) t12 t13 (IntKind.i64.wrap (t14 + 1))).bind fun r => some r
else none
else none
else 
 some (v.1, v.2) := tL F32K
theorem F32E (p preds) : F32 p preds =
(F4r p).bind fun r =>
 bif decide (0 ≤ r) then
 bif decide (r ≤ lim) then
 bif decide (r ≤ r) then
 bif decide (r ≤ lim) then
(F8l p (true, []) (false, (List.replicate (Int.toNat r) (0 : Int))) preds (preds.2.length : Int) 0).bind fun r1 =>
 some (r1.1, r1.2)
else none
else none
else none
else none := tC
theorem F9iE (l n k_) : F9i l n k_ =
 bif decide (k_ < (l.2.length : Int)) then
 bif decide (0 ≤ k_) then
 bif decide (k_ < (l.2.length : Int)) then
 bif decide ((l.2.getD (Int.toNat k_) 0) < n) then
(F9i l n (IntKind.i64.wrap (k_ + 1))).bind fun r => some r
else 
 some k_
else none
else none
else 
 some k_ := tL F1wK
theorem F1wE (l n) : F1w l n =
(F9i l n 0).bind fun r =>
 bif decide (r < (l.2.length : Int)) then
 bif decide (0 ≤ r) then
 bif decide (r < (l.2.length : Int)) then
 bif ((l.2.getD (Int.toNat r) 0) == n) then
 some l
else 
 bif decide (0 ≤ r) then
 bif decide (r ≤ (l.2.length : Int)) then
 bif decide (([] : List Int).length + ((l.2.take (Int.toNat r)).drop 0).length ≤ lim) then
 bif decide (([] ++ ((l.2.take (Int.toNat r)).drop 0)).length + [n].length ≤ lim) then
 bif decide (0 ≤ r) then
 bif decide (r ≤ (l.2.length : Int)) then
 bif decide ((([] ++ ((l.2.take (Int.toNat r)).drop 0)) ++ [n]).length + ((l.2.take l.2.length).drop (Int.toNat r)).length ≤ lim) then
 some (false, ((([] ++ ((l.2.take (Int.toNat r)).drop 0)) ++ [n]) ++ ((l.2.take l.2.length).drop (Int.toNat r))))
else none
else none
else none
else none
else none
else none
else none
else none
else none
else 
 bif decide (0 ≤ r) then
 bif decide (r ≤ (l.2.length : Int)) then
 bif decide (([] : List Int).length + ((l.2.take (Int.toNat r)).drop 0).length ≤ lim) then
 bif decide (([] ++ ((l.2.take (Int.toNat r)).drop 0)).length + [n].length ≤ lim) then
 bif decide (0 ≤ r) then
 bif decide (r ≤ (l.2.length : Int)) then
 bif decide ((([] ++ ((l.2.take (Int.toNat r)).drop 0)) ++ [n]).length + ((l.2.take l.2.length).drop (Int.toNat r)).length ≤ lim) then
 some (false, ((([] ++ ((l.2.take (Int.toNat r)).drop 0)) ++ [n]) ++ ((l.2.take l.2.length).drop (Int.toNat r))))
else none
else none
else none
else none
else none
else none
else none := tC
theorem F94E (v out t8 t9 t10) : F94 v out t8 t9 t10 =
 bif decide (t10 < t9) then
 bif decide (0 ≤ t10) then
 bif decide (t10 < (t8.2.length : Int)) then
 bif decide (0 ≤ (t8.2.getD (Int.toNat t10) 0)) then
 bif decide ((t8.2.getD (Int.toNat t10) 0) < (v.2.length : Int)) then
(F1w out (v.2.getD (Int.toNat (t8.2.getD (Int.toNat t10) 0)) 0)).bind fun r =>
(F94 v r t8 t9 (IntKind.i64.wrap (t10 + 1))).bind fun r => some r
else none
else none
else none
else none
else 
 some out := tL F1gK
theorem F1gE (v states) : F1g v states =
(F94 v (true, []) states (states.2.length : Int) 0).bind fun r =>
 some r := tC
theorem F5xE (many t7 t8 t9) : F5x many t7 t8 t9 =
 bif decide (t9 < t8) then
 bif decide (0 ≤ t9) then
 bif decide (t9 < (t7.2.length : Int)) then
 bif decide ((t7.2.getD (Int.toNat t9) 0) ≥ many) then
(F5x (IntKind.i64.wrap ((t7.2.getD (Int.toNat t9) 0) + 1)) t7 t8 (IntKind.i64.wrap (t9 + 1))).bind fun r => some r
else 
(F5x many t7 t8 (IntKind.i64.wrap (t9 + 1))).bind fun r => some r
else none
else none
else 
 some many := tL F1zK
theorem F1zE (v) : F1z v =
(F5x 0 v (v.2.length : Int) 0).bind fun r =>
 some r := tC
theorem F6wE (class_ out t9 t10 t11) : F6w class_ out t9 t10 t11 =
 bif decide (t11 < t10) then
 bif decide (0 ≤ t11) then
 bif decide (t11 < (t9.2.length : Int)) then
 bif ((t9.2.getD (Int.toNat t11) 0) == class_) then
 bif decide (out.2.length + [t11].length ≤ lim) then
(F6w class_ ((out.1 && false), (out.2 ++ [t11])) t9 t10 (IntKind.i64.wrap (t11 + 1))).bind fun r => some r
else none
else 
(F6w class_ (out.1, out.2) t9 t10 (IntKind.i64.wrap (t11 + 1))).bind fun r => some r
else none
else none
else 
 some (out.1, out.2) := tL F1pK
theorem F1pE (v class_) : F1p v class_ =
(F6w class_ (true, []) v (v.2.length : Int) 0).bind fun r =>
 some (r.1, r.2) := tC
theorem F68E (s p out t9 t10 t11) : F68 s p out t9 t10 t11 =
 bif decide (t11 < t10) then
 bif decide (0 ≤ t11) then
 bif decide (t11 < (t9.2.length : Int)) then
(F4o p ((t9.2.getD (Int.toNat t11) ((true, []), (true, []))).1) s).bind fun r =>
 bif r then
 bif decide (out.2.length + [t11].length ≤ lim) then
(F68 s p ((out.1 && false), (out.2 ++ [t11])) t9 t10 (IntKind.i64.wrap (t11 + 1))).bind fun r => some r
else none
else 
(F68 s p (out.1, out.2) t9 t10 (IntKind.i64.wrap (t11 + 1))).bind fun r => some r
else none
else none
else 
 some (out.1, out.2) := tL F1yK
theorem F1yE (p s) : F1y p s =
(F68 s p (true, []) p.2.2.2 (p.2.2.2.2.length : Int) 0).bind fun r =>
 some (r.1, r.2) := tC
theorem F7iE (s p out t18 t19 t20) : F7i s p out t18 t19 t20 =
 bif decide (t20 < t19) then
 bif decide (0 ≤ t20) then
 bif decide (t20 < (t18.2.length : Int)) then
(F43 p.1 ((t18.2.getD (Int.toNat t20) (0, (true, []))).2) (IntKind.i64.wrap (((((t18.2.getD (Int.toNat t20) (0, (true, []))).2).2).length : Int) - 1)) s).bind fun r =>
 bif decide (0 ≤ ((t18.2.getD (Int.toNat t20) (0, (true, []))).1)) then
 bif decide (((t18.2.getD (Int.toNat t20) (0, (true, []))).1) < (out.2.length : Int)) then
(F7i s p (out.1, (out.2.set (Int.toNat ((t18.2.getD (Int.toNat t20) (0, (true, []))).1)) r)) t18 t19 (IntKind.i64.wrap (t20 + 1))).bind fun r => some r
else none
else none
else none
else none
else 
 some (out.1, out.2) := tL F3lK
theorem F3lE (p s k_) : F3l p s k_ =
 bif decide (([] : List Int).length + s.2.length ≤ lim) then
 bif decide (0 ≤ k_) then
 bif decide (k_ < (p.2.2.2.2.length : Int)) then
(F7i s p (false, ([] ++ s.2)) ((p.2.2.2.2.getD (Int.toNat k_) ((true, []), (true, []))).2) ((((p.2.2.2.2.getD (Int.toNat k_) ((true, []), (true, []))).2).2).length : Int) 0).bind fun r =>
 some (r.1, r.2)
else none
else none
else none := tC
theorem F8mE (s p n v) : F8m s p n v =
 bif decide (v ≥ 0) then
 bif decide ((IntKind.u64.wrap p.1) < 0) then
 none
else 
 bif decide (0 ≤ v) then
 bif decide (v < (s.2.length : Int)) then
(F8m s p (IntKind.i64.wrap ((bShl .i64 n (IntKind.u64.wrap p.1)) + (IntKind.i64.wrap (s.2.getD (Int.toNat v) 0)))) (IntKind.i64.wrap (v - 1))).bind fun r => some r
else none
else none
else 
 some n := tL F3qK
theorem F3qE (p s) : F3q p s =
(F8m s p 0 (IntKind.i64.wrap (p.2.1 - 1))).bind fun r =>
 some r := tC
theorem FaaE (no p s out t14 t15 t16) : Faa no p s out t14 t15 t16 =
 bif decide (t16 < t15) then
 bif decide (0 ≤ t16) then
 bif decide (t16 < (t14.2.length : Int)) then
(F3l p s (t14.2.getD (Int.toNat t16) 0)).bind fun r =>
(F3q p (r.1, r.2)).bind fun r1 =>
(F1w out r1).bind fun r2 =>
(Faa no p s r2 t14 t15 (IntKind.i64.wrap (t16 + 1))).bind fun r => some r
else none
else none
else 
 some out := tL F1lK
theorem F1lE (p no) : F1l p no =
(F23 p no).bind fun r =>
(F1y p (r.1, r.2)).bind fun r1 =>
(Faa no p (r.1, r.2) (true, []) (r1.1, r1.2) (r1.2.length : Int) 0).bind fun r2 =>
 bif ((r2.2.length : Int) == 0) then
 some (false, [no])
else 
 some r2 := tC
theorem F8wE (p out t10 t11 t12) : F8w p out t10 t11 t12 =
 bif decide (t12 < t11) then
 bif decide (0 ≤ t12) then
 bif decide (t12 < (t10.2.length : Int)) then
(F1l p (t10.2.getD (Int.toNat t12) 0)).bind fun r =>
(F7n p out t10 t11 t12 r (r.2.length : Int) 0).bind fun r1 =>
(F8w p r1 t10 t11 (IntKind.i64.wrap (t12 + 1))).bind fun r => some r
else none
else none
else 
 some out := tL FyK
theorem F7nE (p out t10 t11 t12 t18 t19 t20) : F7n p out t10 t11 t12 t18 t19 t20 =
 bif decide (t20 < t19) then
 bif decide (0 ≤ t20) then
 bif decide (t20 < (t18.2.length : Int)) then
(F1w out (t18.2.getD (Int.toNat t20) 0)).bind fun r =>
(F7n p r t10 t11 t12 t18 t19 (IntKind.i64.wrap (t20 + 1))).bind fun r => some r
else none
else none
else 
 some out := tL FyK
theorem FyE (p some_) : Fy p some_ =
(F8w p (true, []) some_ (some_.2.length : Int) 0).bind fun r =>
 some r := tC
theorem F78E (p v class_) : F78 p v class_ =
(F1p v class_).bind fun r =>
(Fy p (r.1, r.2)).bind fun r1 =>
(F1g v r1).bind fun r2 =>
 some r2 := tC
theorem F9zE (p v out class_) : F9z p v out class_ =
(F1z v).bind fun r =>
 bif decide (class_ < r) then
(F78 p v class_).bind fun r1 =>
 bif decide (out.2.length + [r1].length ≤ lim) then
(F9z p v ((out.1 && false), (out.2 ++ [r1])) (IntKind.i64.wrap (class_ + 1))).bind fun r => some r
else none
else 
 some (out.1, out.2) := tL F2pK
theorem F2pE (p v) : F2p p v =
(F9z p v (true, []) 0).bind fun r =>
 some (r.1, r.2) := tC
theorem Fa5E (out t11 t12 t13) : Fa5 out t11 t12 t13 =
 bif decide (t13 < t12) then
 bif decide (0 ≤ t13) then
 bif decide (t13 < (t11.2.length : Int)) then
(F85 (out.1, out.2) t13 t11 t12 t13 (t11.2.getD (Int.toNat t13) (true, [])) (((t11.2.getD (Int.toNat t13) (true, [])).2).length : Int) 0).bind fun r =>
(Fa5 (r.1, r.2) t11 t12 (IntKind.i64.wrap (t13 + 1))).bind fun r => some r
else none
else none
else 
 some (out.1, out.2) := tL F18K
theorem F85E (out k_ t11 t12 t13 t18 t19 t20) : F85 out k_ t11 t12 t13 t18 t19 t20 =
 bif decide (t20 < t19) then
 bif decide (0 ≤ t20) then
 bif decide (t20 < (t18.2.length : Int)) then
 bif decide (0 ≤ (t18.2.getD (Int.toNat t20) 0)) then
 bif decide ((t18.2.getD (Int.toNat t20) 0) < (out.2.length : Int)) then
 bif decide (((out.2.getD (Int.toNat (t18.2.getD (Int.toNat t20) 0)) (true, [])).2).length + [k_].length ≤ lim) then
 bif decide (0 ≤ (t18.2.getD (Int.toNat t20) 0)) then
 bif decide ((t18.2.getD (Int.toNat t20) 0) < (out.2.length : Int)) then
 bif ((Int.toNat (t18.2.getD (Int.toNat t20) 0)) == (Int.toNat (t18.2.getD (Int.toNat t20) 0))) then
(F85 (out.1, (out.2.set (Int.toNat (t18.2.getD (Int.toNat t20) 0)) ((((out.2.getD (Int.toNat (t18.2.getD (Int.toNat t20) 0)) (true, [])).1) && false), (((out.2.getD (Int.toNat (t18.2.getD (Int.toNat t20) 0)) (true, [])).2) ++ [k_])))) k_ t11 t12 t13 t18 t19 (IntKind.i64.wrap (t20 + 1))).bind fun r => some r
else none
else none
else none
else none
else none
else none
else none
else none
else 
 some (out.1, out.2) := tL F18K
theorem F18E (next) : F18 next =
 bif decide (0 ≤ (next.2.length : Int)) then
 bif decide ((next.2.length : Int) ≤ lim) then
 bif decide ((next.2.length : Int) ≤ (next.2.length : Int)) then
 bif decide ((next.2.length : Int) ≤ lim) then
(Fa5 (false, (List.replicate (Int.toNat (next.2.length : Int)) ((true, []) : Bool × List Int))) next (next.2.length : Int) 0).bind fun r =>
 some (r.1, r.2)
else none
else none
else none
else none := tC
theorem F5iE (l) : F5i l =
 bif decide (([] : List Int).length + l.2.length ≤ lim) then
 some (false, ([] ++ l.2))
else none := tC
theorem F7yE (next from_ out t17 t18) : F7y next from_ out t17 t18 =
 bif decide (t18 < t17) then
 bif decide (0 ≤ t18) then
 bif decide (t18 < (out.2.length : Int)) then
(F7y next from_ (out.1, (out.2.set (Int.toNat t18) (-1))) t17 (IntKind.i64.wrap (t18 + 1))).bind fun r => some r
else none
else none
else 
 some (out.1, out.2) := tL FaK
theorem F8aE (next from_ out t25 t26 t27) : F8a next from_ out t25 t26 t27 =
 bif decide (t27 < t26) then
 bif decide (0 ≤ t27) then
 bif decide (t27 < (t25.2.length : Int)) then
 bif decide (0 ≤ (t25.2.getD (Int.toNat t27) 0)) then
 bif decide ((t25.2.getD (Int.toNat t27) 0) < (out.2.length : Int)) then
(F8a next from_ (out.1, (out.2.set (Int.toNat (t25.2.getD (Int.toNat t27) 0)) 0)) t25 t26 (IntKind.i64.wrap (t27 + 1))).bind fun r => some r
else none
else none
else none
else none
else 
 some (out.1, out.2) := tL FaK
theorem FabE (next out row_) : Fab next out row_ =
 bif decide ((row_.2.length : Int) > 0) then
 bif decide (0 < (row_.2.length : Int)) then
 bif decide (1 ≤ (row_.2.length : Int)) then
 bif decide (0 ≤ (row_.2.getD 0 0)) then
 bif decide ((row_.2.getD 0 0) < (next.2.length : Int)) then
(F6d next (out.1, out.2) (row_.1, ((row_.2.take row_.2.length).drop 1)) (row_.2.getD 0 0) (next.2.getD (Int.toNat (row_.2.getD 0 0)) (true, [])) (((next.2.getD (Int.toNat (row_.2.getD 0 0)) (true, [])).2).length : Int) 0).bind fun r =>
(Fab next (r.1.1, r.1.2) (r.2.1, r.2.2)).bind fun r => some r
else none
else none
else none
else none
else 
 some (out.1, out.2) := tL FaK
theorem F6dE (next out row_ k_ t48 t49 t50) : F6d next out row_ k_ t48 t49 t50 =
 bif decide (t50 < t49) then
 bif decide (0 ≤ t50) then
 bif decide (t50 < (t48.2.length : Int)) then
 bif decide (0 ≤ (t48.2.getD (Int.toNat t50) 0)) then
 bif decide ((t48.2.getD (Int.toNat t50) 0) < (out.2.length : Int)) then
 bif decide ((out.2.getD (Int.toNat (t48.2.getD (Int.toNat t50) 0)) 0) < 0) then
 bif decide (0 ≤ k_) then
 bif decide (k_ < (out.2.length : Int)) then
 bif decide (0 ≤ (t48.2.getD (Int.toNat t50) 0)) then
 bif decide ((t48.2.getD (Int.toNat t50) 0) < (out.2.length : Int)) then
 bif decide (row_.2.length + [(t48.2.getD (Int.toNat t50) 0)].length ≤ lim) then
(F6d next (out.1, (out.2.set (Int.toNat (t48.2.getD (Int.toNat t50) 0)) (IntKind.i64.wrap ((out.2.getD (Int.toNat k_) 0) + 1)))) ((row_.1 && false), (row_.2 ++ [(t48.2.getD (Int.toNat t50) 0)])) k_ t48 t49 (IntKind.i64.wrap (t50 + 1))).bind fun r => some r
else none
else none
else none
else none
else none
else 
(F6d next (out.1, out.2) (row_.1, row_.2) k_ t48 t49 (IntKind.i64.wrap (t50 + 1))).bind fun r => some r
else none
else none
else none
else none
else 
 some ((out.1, out.2), (row_.1, row_.2)) := tL FaK
theorem FaE (next from_) : Fa next from_ =
 bif decide (0 ≤ (next.2.length : Int)) then
 bif decide ((next.2.length : Int) ≤ lim) then
 bif decide ((next.2.length : Int) ≤ (next.2.length : Int)) then
 bif decide ((next.2.length : Int) ≤ lim) then
(F7y next from_ (false, (List.replicate (Int.toNat (next.2.length : Int)) (0 : Int))) ((List.replicate (Int.toNat (next.2.length : Int)) (0 : Int)).length : Int) 0).bind fun r =>
(F8a next from_ (r.1, r.2) from_ (from_.2.length : Int) 0).bind fun r1 =>
(F5i from_).bind fun r2 =>
(Fab next (r1.1, r1.2) (r2.1, r2.2)).bind fun r3 =>
 some (r3.1, r3.2)
else none
else none
else none
else none := tC
theorem F4hE (next far best t19 t20 t21) : F4h next far best t19 t20 t21 =
 bif decide (t21 < t20) then
 bif decide (0 ≤ t21) then
 bif decide (t21 < (t19.2.length : Int)) then
 bif decide (0 ≤ (t19.2.getD (Int.toNat t21) 0)) then
 bif decide ((t19.2.getD (Int.toNat t21) 0) < (far.2.length : Int)) then
 bif decide ((far.2.getD (Int.toNat (t19.2.getD (Int.toNat t21) 0)) 0) ≥ 0) then
 bif decide (best < 0) then
(F4h next far (t19.2.getD (Int.toNat t21) 0) t19 t20 (IntKind.i64.wrap (t21 + 1))).bind fun r => some r
else 
 bif decide (0 ≤ (t19.2.getD (Int.toNat t21) 0)) then
 bif decide ((t19.2.getD (Int.toNat t21) 0) < (far.2.length : Int)) then
 bif decide (0 ≤ best) then
 bif decide (best < (far.2.length : Int)) then
 bif decide ((far.2.getD (Int.toNat (t19.2.getD (Int.toNat t21) 0)) 0) < (far.2.getD (Int.toNat best) 0)) then
(F4h next far (t19.2.getD (Int.toNat t21) 0) t19 t20 (IntKind.i64.wrap (t21 + 1))).bind fun r => some r
else 
(F4h next far best t19 t20 (IntKind.i64.wrap (t21 + 1))).bind fun r => some r
else none
else none
else none
else none
else 
(F4h next far best t19 t20 (IntKind.i64.wrap (t21 + 1))).bind fun r => some r
else none
else none
else none
else none
else 
 some best := tL FgK
theorem F83E (next far best out) : F83 next far best out =
 bif decide (0 ≤ best) then
 bif decide (best < (far.2.length : Int)) then
 bif decide ((far.2.getD (Int.toNat best) 0) > 0) then
 bif decide (0 ≤ best) then
 bif decide (best < (next.2.length : Int)) then
(F9d next far best (out.1, out.2) (next.2.getD (Int.toNat best) (true, [])) (((next.2.getD (Int.toNat best) (true, [])).2).length : Int) 0).bind fun r =>
 bif decide (out.2.length + [r].length ≤ lim) then
(F83 next far r ((out.1 && false), (out.2 ++ [r]))).bind fun r => some r
else none
else none
else none
else 
 some (out.1, out.2)
else none
else none := tL FgK
theorem F9dE (next far best out t59 t60 t61) : F9d next far best out t59 t60 t61 =
 bif decide (t61 < t60) then
 bif decide (0 ≤ t61) then
 bif decide (t61 < (t59.2.length : Int)) then
 bif decide (0 ≤ (t59.2.getD (Int.toNat t61) 0)) then
 bif decide ((t59.2.getD (Int.toNat t61) 0) < (far.2.length : Int)) then
 bif decide (0 ≤ best) then
 bif decide (best < (far.2.length : Int)) then
 bif ((far.2.getD (Int.toNat (t59.2.getD (Int.toNat t61) 0)) 0) == (IntKind.i64.wrap ((far.2.getD (Int.toNat best) 0) - 1))) then
 some (t59.2.getD (Int.toNat t61) 0)
else 
(F9d next far best out t59 t60 (IntKind.i64.wrap (t61 + 1))).bind fun r => some r
else none
else none
else none
else none
else none
else none
else 
 some best := tL FgK
theorem FgE (next from_ to) : Fg next from_ to =
(F18 next).bind fun r =>
(Fa (r.1, r.2) to).bind fun r1 =>
(F4h next (r1.1, r1.2) (-1) from_ (from_.2.length : Int) 0).bind fun r2 =>
 bif decide (r2 < 0) then
 some ((true, []), false)
else 
(F83 next (r1.1, r1.2) r2 (false, [r2])).bind fun r3 =>
 some ((r3.1, r3.2), true) := tC
theorem F6jE (p v bad) : F6j p v bad =
(F1e p p.2.2.1).bind fun r =>
(F1g v (r.1, r.2)).bind fun r1 =>
(F2p p v).bind fun r2 =>
(F1e p bad).bind fun r3 =>
(F1g v (r3.1, r3.2)).bind fun r4 =>
(Fg (r2.1, r2.2) r1 r4).bind fun r5 =>
 some ((r5.1.1, r5.1.2), r5.2) := tC
theorem F7rE (p v out some_ t18 t19 t20) : F7r p v out some_ t18 t19 t20 =
 bif decide (t20 < t19) then
 bif decide (0 ≤ t20) then
 bif decide (t20 < (t18.2.length : Int)) then
(F76 p v (out.1, out.2) (t18.2.getD (Int.toNat t20) 0) (true, []) t18 t19 t20 some_ (some_.2.length : Int) 0).bind fun r =>
 bif decide (out.2.length + [(r.1, r.2)].length ≤ lim) then
(Fy p (r.1, r.2)).bind fun r1 =>
(F7r p v ((out.1 && false), (out.2 ++ [(r.1, r.2)])) r1 t18 t19 (IntKind.i64.wrap (t20 + 1))).bind fun r => some r
else none
else none
else none
else 
 some (out.1, out.2) := tL FtK
theorem F76E (p v out class_ in_ t18 t19 t20 t24 t25 t26) : F76 p v out class_ in_ t18 t19 t20 t24 t25 t26 =
 bif decide (t26 < t25) then
 bif decide (0 ≤ t26) then
 bif decide (t26 < (t24.2.length : Int)) then
 bif decide (0 ≤ (t24.2.getD (Int.toNat t26) 0)) then
 bif decide ((t24.2.getD (Int.toNat t26) 0) < (v.2.length : Int)) then
 bif ((v.2.getD (Int.toNat (t24.2.getD (Int.toNat t26) 0)) 0) == class_) then
 bif decide (in_.2.length + [(t24.2.getD (Int.toNat t26) 0)].length ≤ lim) then
(F76 p v out class_ ((in_.1 && false), (in_.2 ++ [(t24.2.getD (Int.toNat t26) 0)])) t18 t19 t20 t24 t25 (IntKind.i64.wrap (t26 + 1))).bind fun r => some r
else none
else 
(F76 p v out class_ (in_.1, in_.2) t18 t19 t20 t24 t25 (IntKind.i64.wrap (t26 + 1))).bind fun r => some r
else none
else none
else none
else none
else 
 some (in_.1, in_.2) := tL FtK
theorem FtE (p v path) : Ft p v path =
(F1e p p.2.2.1).bind fun r =>
(F7r p v (true, []) (r.1, r.2) path (path.2.length : Int) 0).bind fun r1 =>
 some (r1.1, r1.2) := tC
theorem F7vE (t5 t6 t7) : F7v t5 t6 t7 =
 bif decide (t7 < t6) then
 bif decide (0 ≤ t7) then
 bif decide (t7 < (t5.2.length : Int)) then
 bif ((((t5.2.getD (Int.toNat t7) (true, [])).2).length : Int) == 0) then
 some (.inl t7)
else 
(F7v t5 t6 (IntKind.i64.wrap (t7 + 1))).bind fun r => some r
else none
else none
else 
 some (.inr ()) := tL F20K
theorem F20E (along) : F20 along =
(F7v along (along.2.length : Int) 0).bind fun r =>
 match r with
| .inl y =>
 some y
| .inr z =>
 some (-1) := tC
theorem F7zE (b t7 t8 t9) : F7z b t7 t8 t9 =
 bif decide (t9 < t8) then
 bif decide (0 ≤ t9) then
 bif decide (t9 < (t7.2.length : Int)) then
(F1f b (t7.2.getD (Int.toNat t9) 0)).bind fun r =>
 bif r then
 some (.inl true)
else 
(F7z b t7 t8 (IntKind.i64.wrap (t9 + 1))).bind fun r => some r
else none
else none
else 
 some (.inr ()) := tL F1hK
theorem F1hE (a b) : F1h a b =
(F7z b a (a.2.length : Int) 0).bind fun r =>
 match r with
| .inl y =>
 some y
| .inr z =>
 some false := tC
theorem F98E (along p can k_) : F98 along p can k_ =
 bif decide (k_ ≥ 0) then
 bif decide (0 ≤ k_) then
 bif decide (k_ < (along.2.length : Int)) then
(F63 along p (can.1, can.2) k_ (true, []) (along.2.getD (Int.toNat k_) (true, [])) (((along.2.getD (Int.toNat k_) (true, [])).2).length : Int) 0).bind fun r =>
 bif decide (0 ≤ k_) then
 bif decide (k_ < (can.2.length : Int)) then
(F98 along p (can.1, (can.2.set (Int.toNat k_) (r.1, r.2))) (IntKind.i64.wrap (k_ - 1))).bind fun r => some r
else none
else none
else none
else none
else 
 some (can.1, can.2) := tL F9K
theorem F63E (along p can k_ in_ t27 t28 t29) : F63 along p can k_ in_ t27 t28 t29 =
 bif decide (t29 < t28) then
 bif decide (0 ≤ t29) then
 bif decide (t29 < (t27.2.length : Int)) then
(F1l p (t27.2.getD (Int.toNat t29) 0)).bind fun r =>
 bif decide (0 ≤ (IntKind.i64.wrap (k_ + 1))) then
 bif decide ((IntKind.i64.wrap (k_ + 1)) < (can.2.length : Int)) then
(F1h r (can.2.getD (Int.toNat (IntKind.i64.wrap (k_ + 1))) (true, []))).bind fun r1 =>
 bif r1 then
 bif decide (in_.2.length + [(t27.2.getD (Int.toNat t29) 0)].length ≤ lim) then
(F63 along p can k_ ((in_.1 && false), (in_.2 ++ [(t27.2.getD (Int.toNat t29) 0)])) t27 t28 (IntKind.i64.wrap (t29 + 1))).bind fun r => some r
else none
else 
(F63 along p can k_ (in_.1, in_.2) t27 t28 (IntKind.i64.wrap (t29 + 1))).bind fun r => some r
else none
else none
else none
else none
else 
 some (in_.1, in_.2) := tL F9K
theorem F80E (p can out k_) : F80 p can out k_ =
 bif decide (k_ < (can.2.length : Int)) then
 bif decide (0 ≤ (IntKind.i64.wrap (k_ - 1))) then
 bif decide ((IntKind.i64.wrap (k_ - 1)) < (out.2.length : Int)) then
(F1l p (out.2.getD (Int.toNat (IntKind.i64.wrap (k_ - 1))) 0)).bind fun r =>
(F9y p can (out.1, out.2) k_ r (r.2.length : Int) 0).bind fun r1 =>
(F80 p can (r1.1, r1.2) (IntKind.i64.wrap (k_ + 1))).bind fun r => some r
else none
else none
else 
 some (out.1, out.2) := tL F9K
theorem F9yE (p can out k_ t69 t70 t71) : F9y p can out k_ t69 t70 t71 =
 bif decide (t71 < t70) then
 bif decide (0 ≤ t71) then
 bif decide (t71 < (t69.2.length : Int)) then
 bif decide (0 ≤ k_) then
 bif decide (k_ < (can.2.length : Int)) then
(F1f (can.2.getD (Int.toNat k_) (true, [])) (t69.2.getD (Int.toNat t71) 0)).bind fun r =>
 bif r then
 bif decide (out.2.length + [(t69.2.getD (Int.toNat t71) 0)].length ≤ lim) then
 some ((out.1 && false), (out.2 ++ [(t69.2.getD (Int.toNat t71) 0)]))
else none
else 
(F9y p can (out.1, out.2) k_ t69 t70 (IntKind.i64.wrap (t71 + 1))).bind fun r => some r
else none
else none
else none
else none
else 
 some (out.1, out.2) := tL F9K
theorem F9E (p along) : F9 p along =
 bif decide (([] : List (Bool × List Int)).length + along.2.length ≤ lim) then
(F98 along p (false, ([] ++ along.2)) (IntKind.i64.wrap ((([] ++ along.2).length : Int) - 2))).bind fun r =>
 bif decide (0 < (r.2.length : Int)) then
 bif decide (0 < (((r.2.getD 0 (true, [])).2).length : Int)) then
(F80 p (r.1, r.2) (false, [(((r.2.getD 0 (true, [])).2).getD 0 0)]) 1).bind fun r1 =>
 some (r1.1, r1.2)
else none
else none
else none := tC
theorem F82E (a b t12 t13) : F82 a b t12 t13 =
 bif decide (t13 < t12) then
 bif decide (0 ≤ t13) then
 bif decide (t13 < (a.2.length : Int)) then
 bif decide (0 ≤ t13) then
 bif decide (t13 < (b.2.length : Int)) then
 bif !((((a.2.getD (Int.toNat t13) (0, 0)).1) == ((b.2.getD (Int.toNat t13) (0, 0)).1)) && (((a.2.getD (Int.toNat t13) (0, 0)).2) == ((b.2.getD (Int.toNat t13) (0, 0)).2))) then
 some (.inl false)
else 
(F82 a b t12 (IntKind.i64.wrap (t13 + 1))).bind fun r => some r
else none
else none
else none
else none
else 
 some (.inr ()) := tL F2tK
theorem F2tE (a b) : F2t a b =
 bif ((a.2.length : Int) != (b.2.length : Int)) then
 some false
else 
(F82 a b (a.2.length : Int) 0).bind fun r =>
 match r with
| .inl y =>
 some y
| .inr z =>
 some true := tC
theorem F8kE (l t t8 t9) : F8k l t t8 t9 =
 bif decide (t9 < t8) then
 bif decide (0 ≤ t9) then
 bif decide (t9 < (l.2.length : Int)) then
(F2t ((l.2.getD (Int.toNat t9) (true, [])).1, (l.2.getD (Int.toNat t9) (true, [])).2) t).bind fun r =>
 bif r then
 some (.inl (l.1, (l.2.set (Int.toNat t9) ((l.2.getD (Int.toNat t9) (true, [])).1, (l.2.getD (Int.toNat t9) (true, [])).2))))
else 
(F8k (l.1, (l.2.set (Int.toNat t9) ((l.2.getD (Int.toNat t9) (true, [])).1, (l.2.getD (Int.toNat t9) (true, [])).2))) t t8 (IntKind.i64.wrap (t9 + 1))).bind fun r => some r
else none
else none
else 
 some (.inr (l.1, l.2)) := tL F21K
theorem F21E (l t) : F21 l t =
(F8k (l.1, l.2) t (l.2.length : Int) 0).bind fun r =>
 match r with
| .inl y =>
 some (y.1, y.2)
| .inr z =>
 bif ((z.2.length : Int) == 40) then
 some (z.1, z.2)
else 
 bif decide (([] : List DNode).length + t.2.length ≤ lim) then
 bif decide (z.2.length + [(false, ([] ++ t.2))].length ≤ lim) then
 some ((z.1 && false), (z.2 ++ [(false, ([] ++ t.2))]))
else none
else none := tC
theorem F4wE (wide vars t) : F4w wide vars t =
(Fq wide vars t).bind fun r =>
 some (decide (r > 0)) := tC
theorem F56E (wide vars t) : F56 wide vars t =
(F4w wide vars t).bind fun r =>
 bif !r then
 some ((true, []), false)
else 
 some (t, true) := tC
theorem F90E (wide vars t by_ t26 t27 t28) : F90 wide vars t by_ t26 t27 t28 =
 bif decide (t28 < t27) then
 bif decide (0 ≤ t28) then
 bif decide (t28 < (t26.2.length : Int)) then
(Fq wide vars (t26.2.getD (Int.toNat t28) (true, []))).bind fun r =>
 bif (r != 1) then
 some (.inl false)
else 
(F90 wide vars t by_ t26 t27 (IntKind.i64.wrap (t28 + 1))).bind fun r => some r
else none
else none
else 
 some (.inr ()) := tL FwK
theorem F6zE (wide vars by_ out t38 t39 t40) : F6z wide vars by_ out t38 t39 t40 =
 bif decide (t40 < t39) then
 bif decide (0 ≤ t40) then
 bif decide (t40 < (t38.2.length : Int)) then
 bif (((t38.2.getD (Int.toNat t40) (0, 0)).1) == 2) then
 bif decide (0 ≤ ((t38.2.getD (Int.toNat t40) (0, 0)).2)) then
 bif decide (((t38.2.getD (Int.toNat t40) (0, 0)).2) < (by_.2.length : Int)) then
 bif decide (out.2.length + ((by_.2.getD (Int.toNat ((t38.2.getD (Int.toNat t40) (0, 0)).2)) (true, [])).2 : List DNode).length ≤ lim) then
(F6z wide vars by_ ((out.1 && ((by_.2.getD (Int.toNat ((t38.2.getD (Int.toNat t40) (0, 0)).2)) (true, [])).2).isEmpty), (out.2 ++ ((by_.2.getD (Int.toNat ((t38.2.getD (Int.toNat t40) (0, 0)).2)) (true, [])).2))) t38 t39 (IntKind.i64.wrap (t40 + 1))).bind fun r => some r
else none
else none
else none
else 
 bif decide (out.2.length + [(t38.2.getD (Int.toNat t40) (0, 0))].length ≤ lim) then
(F6z wide vars by_ ((out.1 && false), (out.2 ++ [(t38.2.getD (Int.toNat t40) (0, 0))])) t38 t39 (IntKind.i64.wrap (t40 + 1))).bind fun r => some r
else none
else none
else none
else 
 some (out.1, out.2) := tL FwK
theorem FwE (wide vars t by_) : Fw wide vars t by_ =
(F4w wide vars t).bind fun r =>
 bif !r then
 some ((true, []), false)
else 
 bif ((by_.2.length : Int) != vars) then
 some ((true, []), false)
else 
(F90 wide vars t by_ by_ (by_.2.length : Int) 0).bind fun r1 =>
 match r1 with
| .inl y =>
 some ((true, []), y)
| .inr z =>
(F6z wide vars by_ (true, []) t (t.2.length : Int) 0).bind fun r2 =>
(F56 wide vars (r2.1, r2.2)).bind fun r3 =>
 some (r3.1, r3.2) := tC
theorem F91E (k_ t p by_ v) : F91 k_ t p by_ v =
 bif decide (v < p.2.1) then
 bif decide (by_.2.length + [(false, [(2, IntKind.u64.wrap v)])].length ≤ lim) then
(F91 k_ t p ((by_.1 && false), (by_.2 ++ [(false, [(2, IntKind.u64.wrap v)])])) (IntKind.i64.wrap (v + 1))).bind fun r => some r
else none
else 
 some (by_.1, by_.2) := tL F16K
theorem F7pE (t p by_ t30 t31 t32) : F7p t p by_ t30 t31 t32 =
 bif decide (t32 < t31) then
 bif decide (0 ≤ t32) then
 bif decide (t32 < (t30.2.length : Int)) then
 bif decide (0 ≤ ((t30.2.getD (Int.toNat t32) (0, (true, []))).1)) then
 bif decide (((t30.2.getD (Int.toNat t32) (0, (true, []))).1) < (by_.2.length : Int)) then
(F7p t p (by_.1, (by_.2.set (Int.toNat ((t30.2.getD (Int.toNat t32) (0, (true, []))).1)) ((t30.2.getD (Int.toNat t32) (0, (true, []))).2))) t30 t31 (IntKind.i64.wrap (t32 + 1))).bind fun r => some r
else none
else none
else none
else none
else 
 some (by_.1, by_.2) := tL F16K
theorem F16E (p k_ t) : F16 p k_ t =
(F91 k_ t p (true, []) 0).bind fun r =>
 bif decide (0 ≤ k_) then
 bif decide (k_ < (p.2.2.2.2.length : Int)) then
(F7p t p (r.1, r.2) ((p.2.2.2.2.getD (Int.toNat k_) ((true, []), (true, []))).2) ((((p.2.2.2.2.getD (Int.toNat k_) ((true, []), (true, []))).2).2).length : Int) 0).bind fun r1 =>
(Fw p.1 p.2.1 t (r1.1, r1.2)).bind fun r2 =>
 some (r2.1, r2.2)
else none
else none := tC
theorem Fa1E (preds p out t14 t15 t16) : Fa1 preds p out t14 t15 t16 =
 bif decide (t16 < t15) then
 bif decide (0 ≤ t16) then
 bif decide (t16 < (t14.2.length : Int)) then
(F21 (out.1, out.2) ((t14.2.getD (Int.toNat t16) ((true, []), (true, []))).1)).bind fun r =>
(Fa1 preds p (r.1, r.2) t14 t15 (IntKind.i64.wrap (t16 + 1))).bind fun r => some r
else none
else none
else 
 some (out.1, out.2) := tL FjK
theorem F8nE (p out t25 t26 t27) : F8n p out t25 t26 t27 =
 bif decide (t27 < t26) then
 bif decide (0 ≤ t27) then
 bif decide (t27 < (t25.2.length : Int)) then
(F5w p (out.1, out.2) (t25.2.getD (Int.toNat t27) (true, [])) t25 t26 t27 (p.2.2.2.2.length : Int) 0).bind fun r =>
(F8n p (r.1, r.2) t25 t26 (IntKind.i64.wrap (t27 + 1))).bind fun r => some r
else none
else none
else 
 some (out.1, out.2) := tL FjK
theorem F5wE (p out t t25 t26 t27 t33 t34) : F5w p out t t25 t26 t27 t33 t34 =
 bif decide (t34 < t33) then
(F16 p t34 t).bind fun r =>
 bif r.2 then
(F21 (out.1, out.2) r.1).bind fun r1 =>
(F5w p (r1.1, r1.2) t t25 t26 t27 t33 (IntKind.i64.wrap (t34 + 1))).bind fun r => some r
else 
(F5w p (out.1, out.2) t t25 t26 t27 t33 (IntKind.i64.wrap (t34 + 1))).bind fun r => some r
else 
 some (out.1, out.2) := tL FjK
theorem FjE (p preds) : Fj p preds =
(Fa1 preds p (true, []) p.2.2.2 (p.2.2.2.2.length : Int) 0).bind fun r =>
(F8n p (r.1, r.2) preds (preds.2.length : Int) 0).bind fun r1 =>
 some (r1.1, r1.2) := tC
theorem F50E (to p v out t14 t15 t16) : F50 to p v out t14 t15 t16 =
 bif decide (t16 < t15) then
 bif decide (0 ≤ t16) then
 bif decide (t16 < (t14.2.length : Int)) then
(F1l p (t14.2.getD (Int.toNat t16) 0)).bind fun r =>
(F1g v r).bind fun r1 =>
(F1f r1 to).bind fun r2 =>
 bif r2 then
 bif decide (out.2.length + [(t14.2.getD (Int.toNat t16) 0)].length ≤ lim) then
(F50 to p v ((out.1 && false), (out.2 ++ [(t14.2.getD (Int.toNat t16) 0)])) t14 t15 (IntKind.i64.wrap (t16 + 1))).bind fun r => some r
else none
else 
(F50 to p v (out.1, out.2) t14 t15 (IntKind.i64.wrap (t16 + 1))).bind fun r => some r
else none
else none
else 
 some (out.1, out.2) := tL F2cK
theorem F2cE (p v class_ to) : F2c p v class_ to =
(F1p v class_).bind fun r =>
(F50 to p v (true, []) (r.1, r.2) (r.2.length : Int) 0).bind fun r1 =>
 some (r1.1, r1.2) := tC
theorem F9pE (in_ t7 t8 t9) : F9p in_ t7 t8 t9 =
 bif decide (t9 < t8) then
 bif decide (0 ≤ t9) then
 bif decide (t9 < (t7.2.length : Int)) then
(F1f in_ (t7.2.getD (Int.toNat t9) 0)).bind fun r =>
 bif !r then
 some (.inl false)
else 
(F9p in_ t7 t8 (IntKind.i64.wrap (t9 + 1))).bind fun r => some r
else none
else none
else 
 some (.inr ()) := tL F1qK
theorem F1qE (some_ in_) : F1q some_ in_ =
(F9p in_ some_ (some_.2.length : Int) 0).bind fun r =>
 match r with
| .inl y =>
 some y
| .inr z =>
 some true := tC
theorem F6bE (p t a b) : F6b p t a b =
(F1e p t).bind fun r =>
(F1q a (r.1, r.2)).bind fun r1 =>
 bif r1 then
(F1h b (r.1, r.2)).bind fun r2 =>
 bif !r2 then
 some true
else 
(F1h a (r.1, r.2)).bind fun r3 =>
 bif !r3 then
(F1q b (r.1, r.2)).bind fun r4 =>
 some r4
else 
 some false
else 
(F1h a (r.1, r.2)).bind fun r5 =>
 bif !r5 then
(F1q b (r.1, r.2)).bind fun r6 =>
 some r6
else 
 some false := tC
theorem F88E (a b p t11 t12 t13) : F88 a b p t11 t12 t13 =
 bif decide (t13 < t12) then
 bif decide (0 ≤ t13) then
 bif decide (t13 < (t11.2.length : Int)) then
(F6b p (t11.2.getD (Int.toNat t13) (true, [])) a b).bind fun r =>
 bif r then
 some (.inl t13)
else 
(F88 a b p t11 t12 (IntKind.i64.wrap (t13 + 1))).bind fun r => some r
else none
else none
else 
 some (.inr ()) := tL F3hK
theorem F3hE (p terms a b) : F3h p terms a b =
(F88 a b p terms (terms.2.length : Int) 0).bind fun r =>
 match r with
| .inl y =>
 some y
| .inr z =>
 some (-1) := tC
theorem F5zE (p v preds path) : F5z p v preds path =
(Ft p v path).bind fun r =>
(F20 (r.1, r.2)).bind fun r1 =>
(Fj p preds).bind fun r2 =>
 bif decide (0 ≤ (IntKind.i64.wrap (r1 - 1))) then
 bif decide ((IntKind.i64.wrap (r1 - 1)) < (r.2.length : Int)) then
 bif decide (0 ≤ (IntKind.i64.wrap (r1 - 1))) then
 bif decide ((IntKind.i64.wrap (r1 - 1)) < (path.2.length : Int)) then
 bif decide (0 ≤ r1) then
 bif decide (r1 < (path.2.length : Int)) then
(F2c p v (path.2.getD (Int.toNat (IntKind.i64.wrap (r1 - 1))) 0) (path.2.getD (Int.toNat r1) 0)).bind fun r3 =>
(F3h p (r2.1, r2.2) (r.2.getD (Int.toNat (IntKind.i64.wrap (r1 - 1))) (true, [])) (r3.1, r3.2)).bind fun r4 =>
 bif decide (r4 < 0) then
 bif decide (0 ≤ (IntKind.i64.wrap (r1 - 1))) then
 bif decide ((IntKind.i64.wrap (r1 - 1)) < (r.2.length : Int)) then
(F1u v (r.2.getD (Int.toNat (IntKind.i64.wrap (r1 - 1))) (true, []))).bind fun r5 =>
 some ((r5.1, r5.2), (-1))
else none
else none
else 
 bif decide (0 ≤ r4) then
 bif decide (r4 < (r2.2.length : Int)) then
(F4c p v ((r2.2.getD (Int.toNat r4) (true, [])).1, (r2.2.getD (Int.toNat r4) (true, [])).2)).bind fun r6 =>
 some ((r6.1, r6.2), r4)
else none
else none
else none
else none
else none
else none
else none
else none := tC
theorem F5vE (preds bad budget p t8 v rounds) : F5v preds bad budget p t8 v rounds =
 bif decide (rounds ≤ budget) then
(F6j p v bad).bind fun r =>
 bif !r.2 then
 some (.inl (1, ((true, []), (rounds, (v, true)))))
else 
(Ft p v (r.1.1, r.1.2)).bind fun r1 =>
(F20 (r1.1, r1.2)).bind fun r2 =>
 bif decide (r2 < 0) then
(F9 p (r1.1, r1.2)).bind fun r3 =>
 some (.inl (2, ((r3.1, r3.2), (rounds, (v, true)))))
else 
 bif decide (rounds < budget) then
(F5z p v preds (r.1.1, r.1.2)).bind fun r4 =>
(F5v preds bad budget p t8 (r4.1.1, r4.1.2) (IntKind.i64.wrap (rounds + 1))).bind fun r => some r
else 
(F5v preds bad budget p t8 v (IntKind.i64.wrap (rounds + 1))).bind fun r => some r
else 
 some (.inr (t8, v)) := tL F2aK
theorem F2aE (p preds bad budget) : F2a p preds bad budget =
(F62 p preds bad budget).bind fun r =>
 bif !r then
 some (0, ((true, []), ((0, (true, [])), false)))
else 
(F32 p preds).bind fun r1 =>
(F4c p (r1.1, r1.2) bad).bind fun r2 =>
(F5v preds bad budget p (0, ((true, []), (0, (true, [])))) (r2.1, r2.2) 0).bind fun r3 =>
 match r3 with
| .inl y =>
 some (y.1, ((y.2.1.1, y.2.1.2), ((y.2.2.1, y.2.2.2.1), y.2.2.2.2)))
| .inr z =>
 some (3, ((true, []), ((budget, z.2), true))) := tC
theorem F4gE (n) : F4g n =
 bif decide (n ≥ 1) then
 some (decide (n ≤ 64))
else 
 some false := tC
theorem F4lE (n) : F4l n =
 bif decide (n ≥ 1) then
 some (decide (n ≤ 4))
else 
 some false := tC
theorem F4kE (op) : F4k op =
 bif (op == 1) then
 some (0, (0, 1))
else 
 bif (op == 2) then
 some (0, (0, 1))
else 
 bif (op == 20) then
 some (0, (0, 2))
else 
 bif (op == 13) then
 some (1, (1, 1))
else 
 bif (op == 19) then
 some (1, (2, 2))
else 
 bif decide (op ≥ 3) then
 bif decide (op ≤ 12) then
 some (2, (1, 1))
else 
 bif decide (op ≥ 14) then
 bif decide (op ≤ 16) then
 some (2, (1, 2))
else 
 bif (op == 17) then
 some (2, (2, 2))
else 
 bif (op == 18) then
 some (2, (2, 2))
else 
 some (0, (0, 0))
else 
 bif (op == 17) then
 some (2, (2, 2))
else 
 bif (op == 18) then
 some (2, (2, 2))
else 
 some (0, (0, 0))
else 
 bif decide (op ≥ 14) then
 bif decide (op ≤ 16) then
 some (2, (1, 2))
else 
 bif (op == 17) then
 some (2, (2, 2))
else 
 bif (op == 18) then
 some (2, (2, 2))
else 
 some (0, (0, 0))
else 
 bif (op == 17) then
 some (2, (2, 2))
else 
 bif (op == 18) then
 some (2, (2, 2))
else 
 some (0, (0, 0)) := tC
theorem F0E (wide) : F0 wide =
 bif decide ((IntKind.i64.wrap (64 - wide)) < 0) then
 none
else 
 some (bShr .u64 18446744073709551615 (IntKind.i64.wrap (64 - wide))) := tC
theorem F49E (wide a) : F49 wide a =
(F4g wide).bind fun r =>
 bif r then
(F0 wide).bind fun r1 =>
 some (decide (a ≤ r1))
else 
 some false := tC
theorem F6eE (wide vars x) : F6e wide vars x =
 bif (x.1 == 1) then
(F49 wide x.2).bind fun r =>
 some r
else 
 bif (x.1 == 2) then
 some (decide (x.2 < (IntKind.u64.wrap vars)))
else 
 bif (x.1 == 20) then
 some (decide (x.2 ≤ 1))
else 
 some (x.2 == 0) := tC
theorem F5gE (own a1) : F5g own a1 =
 some (own != a1) := tC
theorem F9oE (s f t7 t8) : F9o s f t7 t8 =
 bif decide (t8 < t7) then
 bif decide (0 ≤ t8) then
 bif decide (t8 < (s.2.length : Int)) then
(F5g (s.2.getD (Int.toNat t8) 0) f.1).bind fun r =>
 bif r then
 some (.inl t8)
else 
(F9o s f t7 (IntKind.i64.wrap (t8 + 1))).bind fun r => some r
else none
else none
else 
 some (.inr ()) := tL F2iK
theorem F2iE (s f) : F2i s f =
(F9o s f (s.2.length : Int) 0).bind fun r =>
 match r with
| .inl y =>
 some y
| .inr z =>
 some (-1) := tC
theorem F5uE (s f) : F5u s f =
(F2i s f).bind fun r =>
 some (decide (r ≥ 0)) := tC
theorem F7lE (wide vars stack t33 t34 t35) : F7l wide vars stack t33 t34 t35 =
 bif decide (t35 < t34) then
 bif decide (0 ≤ t35) then
 bif decide (t35 < (t33.2.length : Int)) then
(F4k ((t33.2.getD (Int.toNat t35) (0, 0)).1)).bind fun r =>
 bif (r.2.2 == 0) then
 some (.inl false)
else 
(F6e wide vars (t33.2.getD (Int.toNat t35) (0, 0))).bind fun r1 =>
 bif !r1 then
 some (.inl false)
else 
 bif decide ((IntKind.i64.wrap ((stack.2.length : Int) - r.1)) < 0) then
 some (.inl false)
else 
 bif decide (0 ≤ (IntKind.i64.wrap ((stack.2.length : Int) - r.1))) then
 bif decide ((IntKind.i64.wrap ((stack.2.length : Int) - r.1)) ≤ (stack.2.length : Int)) then
(F5u (stack.1, ((stack.2.take stack.2.length).drop (Int.toNat (IntKind.i64.wrap ((stack.2.length : Int) - r.1))))) (r.2.1, ())).bind fun r2 =>
 bif r2 then
 some (.inl false)
else 
 bif decide (0 ≤ (IntKind.i64.wrap ((stack.2.length : Int) - r.1))) then
 bif decide ((IntKind.i64.wrap ((stack.2.length : Int) - r.1)) ≤ (stack.2.length : Int)) then
 bif decide (((stack.2.take (Int.toNat (IntKind.i64.wrap ((stack.2.length : Int) - r.1)))).drop 0).length + [r.2.2].length ≤ lim) then
(F7l wide vars ((stack.1 && false), (((stack.2.take (Int.toNat (IntKind.i64.wrap ((stack.2.length : Int) - r.1)))).drop 0) ++ [r.2.2])) t33 t34 (IntKind.i64.wrap (t35 + 1))).bind fun r => some r
else none
else none
else none
else none
else none
else none
else none
else 
 some (.inr (stack.1, stack.2)) := tL FuK
theorem FuE (wide vars t) : Fu wide vars t =
(F4g wide).bind fun r =>
 bif !r then
 some false
else 
(F4l vars).bind fun r1 =>
 bif !r1 then
 some false
else 
 bif decide ((t.2.length : Int) < 1) then
 some false
else 
 bif decide ((t.2.length : Int) > 48) then
 some false
else 
(F7l wide vars (false, []) t (t.2.length : Int) 0).bind fun r2 =>
 match r2 with
| .inl y =>
 some y
| .inr z =>
 some ((z.2.length : Int) == 1) := tC
theorem F6xE (t) : F6x t =
 bif decide (0 ≤ (IntKind.i64.wrap ((t.2.length : Int) - 1))) then
 bif decide ((IntKind.i64.wrap ((t.2.length : Int) - 1)) < (t.2.length : Int)) then
(F4k ((t.2.getD (Int.toNat (IntKind.i64.wrap ((t.2.length : Int) - 1))) (0, 0)).1)).bind fun r =>
 some r.2.2
else none
else none := tC
theorem F46E (wide vars t kind) : F46 wide vars t kind =
(Fu wide vars t).bind fun r =>
 bif r then
(F6x t).bind fun r1 =>
 some (r1 == kind)
else 
 some false := tC
theorem F48E (p t) : F48 p t =
(F46 p.1 p.2.1 t 2).bind fun r =>
 some r := tC
theorem F5yE (p c t13 t14 t15) : F5y p c t13 t14 t15 =
 bif decide (t15 < t14) then
 bif decide (0 ≤ t15) then
 bif decide (t15 < (t13.2.length : Int)) then
 bif decide (((t13.2.getD (Int.toNat t15) (0, (true, []))).1) < 0) then
 some (.inl false)
else 
 bif decide (((t13.2.getD (Int.toNat t15) (0, (true, []))).1) ≥ p.2.1) then
 some (.inl false)
else 
 bif decide (t15 > 0) then
 bif decide (0 ≤ (IntKind.i64.wrap (t15 - 1))) then
 bif decide ((IntKind.i64.wrap (t15 - 1)) < (c.2.2.length : Int)) then
 bif decide (((c.2.2.getD (Int.toNat (IntKind.i64.wrap (t15 - 1))) (0, (true, []))).1) ≥ ((t13.2.getD (Int.toNat t15) (0, (true, []))).1)) then
 some (.inl false)
else 
(F46 p.1 p.2.1 ((t13.2.getD (Int.toNat t15) (0, (true, []))).2) 1).bind fun r =>
 bif !r then
 some (.inl false)
else 
(F5y p c t13 t14 (IntKind.i64.wrap (t15 + 1))).bind fun r => some r
else none
else none
else 
(F46 p.1 p.2.1 ((t13.2.getD (Int.toNat t15) (0, (true, []))).2) 1).bind fun r1 =>
 bif !r1 then
 some (.inl false)
else 
(F5y p c t13 t14 (IntKind.i64.wrap (t15 + 1))).bind fun r => some r
else none
else none
else 
 some (.inr ()) := tL F2dK
theorem F2dE (p c) : F2d p c =
(F48 p c.1).bind fun r =>
 bif !r then
 some false
else 
(F5y p c c.2 (c.2.2.length : Int) 0).bind fun r1 =>
 match r1 with
| .inl y =>
 some y
| .inr z =>
 some true := tC
theorem F6sE (c a1) : F6s c a1 =
(F2d a1 c).bind fun r =>
 some (!r) := tC
theorem F9jE (s f t7 t8) : F9j s f t7 t8 =
 bif decide (t8 < t7) then
 bif decide (0 ≤ t8) then
 bif decide (t8 < (s.2.length : Int)) then
(F6s (s.2.getD (Int.toNat t8) ((true, []), (true, []))) f.1).bind fun r =>
 bif r then
 some (.inl t8)
else 
(F9j s f t7 (IntKind.i64.wrap (t8 + 1))).bind fun r => some r
else none
else none
else 
 some (.inr ()) := tL F3pK
theorem F3pE (s f) : F3p s f =
(F9j s f (s.2.length : Int) 0).bind fun r =>
 match r with
| .inl y =>
 some y
| .inr z =>
 some (-1) := tC
theorem F57E (s f) : F57 s f =
(F3p s f).bind fun r =>
 some (decide (r ≥ 0)) := tC
theorem F3zE (p) : F3z p =
(F4g p.1).bind fun r =>
 bif !r then
 some false
else 
(F4l p.2.1).bind fun r1 =>
 bif !r1 then
 some false
else 
(F48 p p.2.2.1).bind fun r2 =>
 bif !r2 then
 some false
else 
 bif decide ((p.2.2.2.2.length : Int) < 1) then
 some false
else 
 bif decide ((p.2.2.2.2.length : Int) > 6) then
 some false
else 
(F57 p.2.2.2 (p, ())).bind fun r3 =>
 some (!r3) := tC
theorem F4iE (p) : F4i p =
(F3z p).bind fun r =>
 bif r then
 some (decide ((IntKind.i64.wrap (p.1 * p.2.1)) ≤ 5))
else 
 some false := tC
theorem F5kE (t a1) : F5k t a1 =
(F48 a1 t).bind fun r =>
 some (!r) := tC
theorem F7kE (s f t7 t8) : F7k s f t7 t8 =
 bif decide (t8 < t7) then
 bif decide (0 ≤ t8) then
 bif decide (t8 < (s.2.length : Int)) then
(F5k (s.2.getD (Int.toNat t8) (true, [])) f.1).bind fun r =>
 bif r then
 some (.inl t8)
else 
(F7k s f t7 (IntKind.i64.wrap (t8 + 1))).bind fun r => some r
else none
else none
else 
 some (.inr ()) := tL F31K
theorem F31E (s f) : F31 s f =
(F7k s f (s.2.length : Int) 0).bind fun r =>
 match r with
| .inl y =>
 some y
| .inr z =>
 some (-1) := tC
theorem F5jE (s f) : F5j s f =
(F31 s f).bind fun r =>
 some (decide (r ≥ 0)) := tC
theorem F3tE (p preds least) : F3t p preds least =
 bif decide ((preds.2.length : Int) ≥ least) then
 bif decide ((preds.2.length : Int) ≤ 8) then
(F5j preds (p, ())).bind fun r =>
 some (!r)
else 
 some false
else 
 some false := tC
theorem F4xE (n) : F4x n =
 bif decide (n ≥ 0) then
 some (decide (n ≤ 40))
else 
 some false := tC
theorem F67E (p preds bad budget) : F67 p preds bad budget =
(F4i p).bind fun r =>
 bif r then
(F3t p preds 0).bind fun r1 =>
 bif r1 then
(F48 p bad).bind fun r2 =>
 bif r2 then
(F4x budget).bind fun r3 =>
 some r3
else 
 some false
else 
 some false
else 
 some false := tC
theorem F5pE (n) : F5p n =
 bif decide (n < 0) then
 none
else 
 bif decide ((IntKind.i64.wrap (n - (IntKind.i64.wrap (0 - 0)))) > 0) then
 bif decide (0 ≤ (IntKind.i64.wrap (n - (IntKind.i64.wrap (0 - 0))))) then
 bif decide ((IntKind.i64.wrap (n - (IntKind.i64.wrap (0 - 0)))) ≤ lim) then
 bif decide (([] : List (Bool × List DNode)).length + ((List.replicate (Int.toNat (IntKind.i64.wrap (n - (IntKind.i64.wrap (0 - 0))))) ((true, []) : Bool × List DNode)) : List (Bool × List DNode)).length ≤ lim) then
 bif decide (0 ≤ (([] ++ (List.replicate (Int.toNat (IntKind.i64.wrap (n - (IntKind.i64.wrap (0 - 0))))) ((true, []) : Bool × List DNode))).length : Int)) then
 some ((List.replicate (Int.toNat (IntKind.i64.wrap (n - (IntKind.i64.wrap (0 - 0))))) ((true, []) : Bool × List DNode)).isEmpty, ((([] ++ (List.replicate (Int.toNat (IntKind.i64.wrap (n - (IntKind.i64.wrap (0 - 0))))) ((true, []) : Bool × List DNode))).take 0).drop 0))
else none
else none
else none
else none
else 
 some (true, []) := tC
theorem F96E (slices size_ t9 t10 t11) : F96 slices size_ t9 t10 t11 =
 bif decide (t11 < t10) then
 bif decide (0 ≤ t11) then
 bif decide (t11 < (t9.2.length : Int)) then
 bif decide ((IntKind.i64.wrap (size_ + (((t9.2.getD (Int.toNat t11) (true, [])).2).length : Int))) < 0) then
 none
else 
(F96 slices (IntKind.i64.wrap (size_ + (((t9.2.getD (Int.toNat t11) (true, [])).2).length : Int))) t9 t10 (IntKind.i64.wrap (t11 + 1))).bind fun r => some r
else none
else none
else 
 some size_ := tL F11K
theorem F99E (newslice t25 t26 t27) : F99 newslice t25 t26 t27 =
 bif decide (t27 < t26) then
 bif decide (0 ≤ t27) then
 bif decide (t27 < (t25.2.length : Int)) then
 bif decide (newslice.2.length + ((t25.2.getD (Int.toNat t27) (true, [])).2 : List (Bool × List DNode)).length ≤ lim) then
(F99 ((newslice.1 && ((t25.2.getD (Int.toNat t27) (true, [])).2).isEmpty), (newslice.2 ++ ((t25.2.getD (Int.toNat t27) (true, [])).2))) t25 t26 (IntKind.i64.wrap (t27 + 1))).bind fun r => some r
else none
else none
else none
else 
 some (newslice.1, newslice.2) := tL F11K
theorem F11E (slices) : F11 slices =
(F96 slices 0 slices (slices.2.length : Int) 0).bind fun r =>
(F5p r).bind fun r1 =>
(F99 (r1.1, r1.2) slices (slices.2.length : Int) 0).bind fun r2 =>
 some (r2.1, r2.2) := tC
theorem F44E (p) : F44 p =
 bif decide ((IntKind.i64.wrap (p.1 * p.2.1)) < 0) then
 none
else 
 some (bShl .i64 1 (IntKind.i64.wrap (p.1 * p.2.1))) := tC
theorem F95E (no p out t9 t10) : F95 no p out t9 t10 =
 bif decide (t10 < t9) then
 bif decide ((IntKind.i64.wrap (p.1 * t10)) < 0) then
 none
else 
(F0 p.1).bind fun r =>
 bif decide (out.2.length + [bAnd .u64 (bShr .u64 (IntKind.u64.wrap no) (IntKind.i64.wrap (p.1 * t10))) r].length ≤ lim) then
(F95 no p ((out.1 && false), (out.2 ++ [bAnd .u64 (bShr .u64 (IntKind.u64.wrap no) (IntKind.i64.wrap (p.1 * t10))) r])) t9 (IntKind.i64.wrap (t10 + 1))).bind fun r => some r
else none
else 
 some (out.1, out.2) := tL F1nK
theorem F1nE (p no) : F1n p no =
(F95 no p (false, []) p.2.1 0).bind fun r =>
 some (r.1, r.2) := tC
theorem F6lE (wide a b) : F6l wide a b =
(F49 wide a).bind fun r =>
 bif r then
(F49 wide b).bind fun r1 =>
 some r1
else 
 some false := tC
theorem F5lE (hi lo y) : F5l hi lo y =
 bif (y == 0) then
 none
else 
 bif decide (y ≤ hi) then
 none
else 
 bif (hi == 0) then
 bif (y == 0) then
 none
else 
 bif (y == 0) then
 none
else 
 some (IntKind.u64.wrap (Int.tdiv lo y), Int.tmod lo y)
else none := tC
theorem F4vE (wide a b) : F4v wide a b =
(F6l wide a b).bind fun r =>
 bif !r then
 some (0, (0, false))
else 
 bif (b == 0) then
(F0 wide).bind fun r1 =>
 some (r1, (a, true))
else 
(F5l 0 a b).bind fun r2 =>
 some (r2.1, (r2.2, true)) := tC
theorem F3sE (wide a by_ left_) : F3s wide a by_ left_ =
 bif decide (by_ ≥ (IntKind.u64.wrap wide)) then
 some 0
else 
 bif left_ then
 bif decide (by_ < 0) then
 none
else 
(F0 wide).bind fun r =>
 some (bAnd .u64 (bShl .u64 a by_) r)
else 
 bif decide (by_ < 0) then
 none
else 
 some (bShr .u64 a by_) := tC
theorem FeE (holds) : Fe holds =
 bif holds then
 some 1
else 
 some 0 := tC
theorem FvE (wide a) : Fv wide a =
 bif decide ((IntKind.i64.wrap (64 - wide)) < 0) then
 none
else 
 bif decide ((IntKind.i64.wrap (64 - wide)) < 0) then
 none
else 
 some (bShr .i64 (IntKind.i64.wrap (bShl .u64 a (IntKind.i64.wrap (64 - wide)))) (IntKind.i64.wrap (64 - wide))) := tC
theorem F4nE (wide op a b) : F4n wide op a b =
 bif (op == 3) then
(F0 wide).bind fun r =>
 some (bAnd .u64 (IntKind.u64.wrap (a + b)) r)
else 
 bif (op == 4) then
(F0 wide).bind fun r1 =>
 some (bAnd .u64 (IntKind.u64.wrap (a - b)) r1)
else 
 bif (op == 5) then
(F0 wide).bind fun r2 =>
 some (bAnd .u64 (IntKind.u64.wrap (a * b)) r2)
else 
 bif (op == 6) then
(F4v wide a b).bind fun r3 =>
(F0 wide).bind fun r4 =>
 some (bAnd .u64 r3.1 r4)
else 
 bif (op == 7) then
(F4v wide a b).bind fun r5 =>
(F0 wide).bind fun r6 =>
 some (bAnd .u64 r5.2.1 r6)
else 
 bif (op == 8) then
 bif (op == 8) then
(F0 wide).bind fun r7 =>
 some (bAnd .u64 (bAnd .u64 a b) r7)
else 
 bif (op == 9) then
 bif (op == 9) then
(F0 wide).bind fun r8 =>
 some (bAnd .u64 (bOr .u64 a b) r8)
else 
 bif (op == 10) then
(F0 wide).bind fun r9 =>
 some (bAnd .u64 (bXor .u64 a b) r9)
else 
 bif (op == 11) then
 bif (op == 11) then
(F3s wide a b (op == 11)).bind fun r10 =>
(F0 wide).bind fun r11 =>
 some (bAnd .u64 r10 r11)
else 
 bif (op == 14) then
(Fe (a == b)).bind fun r12 =>
(F0 wide).bind fun r13 =>
 some (bAnd .u64 r12 r13)
else 
 bif (op == 15) then
(Fe (decide (a < b))).bind fun r14 =>
(F0 wide).bind fun r15 =>
 some (bAnd .u64 r14 r15)
else 
 bif (op == 16) then
(Fv wide a).bind fun r16 =>
(Fv wide b).bind fun r17 =>
(Fe (decide (r16 < r17))).bind fun r18 =>
(F0 wide).bind fun r19 =>
 some (bAnd .u64 r18 r19)
else 
(F0 wide).bind fun r20 =>
 some (bAnd .u64 0 r20)
else 
 bif (op == 12) then
(F3s wide a b (op == 11)).bind fun r21 =>
(F0 wide).bind fun r22 =>
 some (bAnd .u64 r21 r22)
else 
 bif (op == 14) then
(Fe (a == b)).bind fun r23 =>
(F0 wide).bind fun r24 =>
 some (bAnd .u64 r23 r24)
else 
 bif (op == 15) then
(Fe (decide (a < b))).bind fun r25 =>
(F0 wide).bind fun r26 =>
 some (bAnd .u64 r25 r26)
else 
 bif (op == 16) then
(Fv wide a).bind fun r27 =>
(Fv wide b).bind fun r28 =>
(Fe (decide (r27 < r28))).bind fun r29 =>
(F0 wide).bind fun r30 =>
 some (bAnd .u64 r29 r30)
else 
(F0 wide).bind fun r31 =>
 some (bAnd .u64 0 r31)
else 
 bif (op == 18) then
(F0 wide).bind fun r32 =>
 some (bAnd .u64 (bOr .u64 a b) r32)
else 
 bif (op == 10) then
(F0 wide).bind fun r33 =>
 some (bAnd .u64 (bXor .u64 a b) r33)
else 
 bif (op == 11) then
 bif (op == 11) then
(F3s wide a b (op == 11)).bind fun r34 =>
(F0 wide).bind fun r35 =>
 some (bAnd .u64 r34 r35)
else 
 bif (op == 14) then
(Fe (a == b)).bind fun r36 =>
(F0 wide).bind fun r37 =>
 some (bAnd .u64 r36 r37)
else 
 bif (op == 15) then
(Fe (decide (a < b))).bind fun r38 =>
(F0 wide).bind fun r39 =>
 some (bAnd .u64 r38 r39)
else 
 bif (op == 16) then
(Fv wide a).bind fun r40 =>
(Fv wide b).bind fun r41 =>
(Fe (decide (r40 < r41))).bind fun r42 =>
(F0 wide).bind fun r43 =>
 some (bAnd .u64 r42 r43)
else 
(F0 wide).bind fun r44 =>
 some (bAnd .u64 0 r44)
else 
 bif (op == 12) then
(F3s wide a b (op == 11)).bind fun r45 =>
(F0 wide).bind fun r46 =>
 some (bAnd .u64 r45 r46)
else 
 bif (op == 14) then
(Fe (a == b)).bind fun r47 =>
(F0 wide).bind fun r48 =>
 some (bAnd .u64 r47 r48)
else 
 bif (op == 15) then
(Fe (decide (a < b))).bind fun r49 =>
(F0 wide).bind fun r50 =>
 some (bAnd .u64 r49 r50)
else 
 bif (op == 16) then
(Fv wide a).bind fun r51 =>
(Fv wide b).bind fun r52 =>
(Fe (decide (r51 < r52))).bind fun r53 =>
(F0 wide).bind fun r54 =>
 some (bAnd .u64 r53 r54)
else 
(F0 wide).bind fun r55 =>
 some (bAnd .u64 0 r55)
else 
 bif (op == 17) then
(F0 wide).bind fun r56 =>
 some (bAnd .u64 (bAnd .u64 a b) r56)
else 
 bif (op == 9) then
 bif (op == 9) then
(F0 wide).bind fun r57 =>
 some (bAnd .u64 (bOr .u64 a b) r57)
else 
 bif (op == 10) then
(F0 wide).bind fun r58 =>
 some (bAnd .u64 (bXor .u64 a b) r58)
else 
 bif (op == 11) then
 bif (op == 11) then
(F3s wide a b (op == 11)).bind fun r59 =>
(F0 wide).bind fun r60 =>
 some (bAnd .u64 r59 r60)
else 
 bif (op == 14) then
(Fe (a == b)).bind fun r61 =>
(F0 wide).bind fun r62 =>
 some (bAnd .u64 r61 r62)
else 
 bif (op == 15) then
(Fe (decide (a < b))).bind fun r63 =>
(F0 wide).bind fun r64 =>
 some (bAnd .u64 r63 r64)
else 
 bif (op == 16) then
(Fv wide a).bind fun r65 =>
(Fv wide b).bind fun r66 =>
(Fe (decide (r65 < r66))).bind fun r67 =>
(F0 wide).bind fun r68 =>
 some (bAnd .u64 r67 r68)
else 
(F0 wide).bind fun r69 =>
 some (bAnd .u64 0 r69)
else 
 bif (op == 12) then
(F3s wide a b (op == 11)).bind fun r70 =>
(F0 wide).bind fun r71 =>
 some (bAnd .u64 r70 r71)
else 
 bif (op == 14) then
(Fe (a == b)).bind fun r72 =>
(F0 wide).bind fun r73 =>
 some (bAnd .u64 r72 r73)
else 
 bif (op == 15) then
(Fe (decide (a < b))).bind fun r74 =>
(F0 wide).bind fun r75 =>
 some (bAnd .u64 r74 r75)
else 
 bif (op == 16) then
(Fv wide a).bind fun r76 =>
(Fv wide b).bind fun r77 =>
(Fe (decide (r76 < r77))).bind fun r78 =>
(F0 wide).bind fun r79 =>
 some (bAnd .u64 r78 r79)
else 
(F0 wide).bind fun r80 =>
 some (bAnd .u64 0 r80)
else 
 bif (op == 18) then
(F0 wide).bind fun r81 =>
 some (bAnd .u64 (bOr .u64 a b) r81)
else 
 bif (op == 10) then
(F0 wide).bind fun r82 =>
 some (bAnd .u64 (bXor .u64 a b) r82)
else 
 bif (op == 11) then
 bif (op == 11) then
(F3s wide a b (op == 11)).bind fun r83 =>
(F0 wide).bind fun r84 =>
 some (bAnd .u64 r83 r84)
else 
 bif (op == 14) then
(Fe (a == b)).bind fun r85 =>
(F0 wide).bind fun r86 =>
 some (bAnd .u64 r85 r86)
else 
 bif (op == 15) then
(Fe (decide (a < b))).bind fun r87 =>
(F0 wide).bind fun r88 =>
 some (bAnd .u64 r87 r88)
else 
 bif (op == 16) then
(Fv wide a).bind fun r89 =>
(Fv wide b).bind fun r90 =>
(Fe (decide (r89 < r90))).bind fun r91 =>
(F0 wide).bind fun r92 =>
 some (bAnd .u64 r91 r92)
else 
(F0 wide).bind fun r93 =>
 some (bAnd .u64 0 r93)
else 
 bif (op == 12) then
(F3s wide a b (op == 11)).bind fun r94 =>
(F0 wide).bind fun r95 =>
 some (bAnd .u64 r94 r95)
else 
 bif (op == 14) then
(Fe (a == b)).bind fun r96 =>
(F0 wide).bind fun r97 =>
 some (bAnd .u64 r96 r97)
else 
 bif (op == 15) then
(Fe (decide (a < b))).bind fun r98 =>
(F0 wide).bind fun r99 =>
 some (bAnd .u64 r98 r99)
else 
 bif (op == 16) then
(Fv wide a).bind fun r100 =>
(Fv wide b).bind fun r101 =>
(Fe (decide (r100 < r101))).bind fun r102 =>
(F0 wide).bind fun r103 =>
 some (bAnd .u64 r102 r103)
else 
(F0 wide).bind fun r104 =>
 some (bAnd .u64 0 r104) := tC
theorem F3bE (wide state stack t12 t13 t14) : F3b wide state stack t12 t13 t14 =
 bif decide (t14 < t13) then
 bif decide (0 ≤ t14) then
 bif decide (t14 < (t12.2.length : Int)) then
 bif (((t12.2.getD (Int.toNat t14) (0, 0)).1) == 1) then
 bif (((t12.2.getD (Int.toNat t14) (0, 0)).1) == 1) then
 bif decide (stack.2.length + [(t12.2.getD (Int.toNat t14) (0, 0)).2].length ≤ lim) then
(F3b wide state ((stack.1 && false), (stack.2 ++ [(t12.2.getD (Int.toNat t14) (0, 0)).2])) t12 t13 (IntKind.i64.wrap (t14 + 1))).bind fun r => some r
else none
else 
 bif (((t12.2.getD (Int.toNat t14) (0, 0)).1) == 2) then
 bif decide (0 ≤ ((t12.2.getD (Int.toNat t14) (0, 0)).2)) then
 bif decide (((t12.2.getD (Int.toNat t14) (0, 0)).2) < (state.2.length : Int)) then
 bif decide (stack.2.length + [(state.2.getD (Int.toNat ((t12.2.getD (Int.toNat t14) (0, 0)).2)) 0)].length ≤ lim) then
(F3b wide state ((stack.1 && false), (stack.2 ++ [(state.2.getD (Int.toNat ((t12.2.getD (Int.toNat t14) (0, 0)).2)) 0)])) t12 t13 (IntKind.i64.wrap (t14 + 1))).bind fun r => some r
else none
else none
else none
else 
 bif (((t12.2.getD (Int.toNat t14) (0, 0)).1) == 13) then
 bif decide (0 ≤ (IntKind.i64.wrap ((stack.2.length : Int) - 1))) then
 bif decide ((IntKind.i64.wrap ((stack.2.length : Int) - 1)) < (stack.2.length : Int)) then
(F0 wide).bind fun r =>
 bif decide (0 ≤ (IntKind.i64.wrap ((stack.2.length : Int) - 1))) then
 bif decide ((IntKind.i64.wrap ((stack.2.length : Int) - 1)) < (stack.2.length : Int)) then
(F3b wide state (stack.1, (stack.2.set (Int.toNat (IntKind.i64.wrap ((stack.2.length : Int) - 1))) (bAnd .u64 (bXor .u64 18446744073709551615 (stack.2.getD (Int.toNat (IntKind.i64.wrap ((stack.2.length : Int) - 1))) 0)) r))) t12 t13 (IntKind.i64.wrap (t14 + 1))).bind fun r => some r
else none
else none
else none
else none
else 
 bif (((t12.2.getD (Int.toNat t14) (0, 0)).1) == 19) then
 bif decide (0 ≤ (IntKind.i64.wrap ((stack.2.length : Int) - 1))) then
 bif decide ((IntKind.i64.wrap ((stack.2.length : Int) - 1)) < (stack.2.length : Int)) then
 bif decide (0 ≤ (IntKind.i64.wrap ((stack.2.length : Int) - 1))) then
 bif decide ((IntKind.i64.wrap ((stack.2.length : Int) - 1)) < (stack.2.length : Int)) then
(F3b wide state (stack.1, (stack.2.set (Int.toNat (IntKind.i64.wrap ((stack.2.length : Int) - 1))) (IntKind.u64.wrap (1 - (stack.2.getD (Int.toNat (IntKind.i64.wrap ((stack.2.length : Int) - 1))) 0))))) t12 t13 (IntKind.i64.wrap (t14 + 1))).bind fun r => some r
else none
else none
else none
else none
else 
 bif decide (0 ≤ (IntKind.i64.wrap ((IntKind.i64.wrap ((stack.2.length : Int) - 1)) - 1))) then
 bif decide ((IntKind.i64.wrap ((IntKind.i64.wrap ((stack.2.length : Int) - 1)) - 1)) ≤ (stack.2.length : Int)) then
 bif decide (0 ≤ (IntKind.i64.wrap ((IntKind.i64.wrap ((stack.2.length : Int) - 1)) - 1))) then
 bif decide ((IntKind.i64.wrap ((IntKind.i64.wrap ((stack.2.length : Int) - 1)) - 1)) < (stack.2.length : Int)) then
 bif decide (0 ≤ (IntKind.i64.wrap ((stack.2.length : Int) - 1))) then
 bif decide ((IntKind.i64.wrap ((stack.2.length : Int) - 1)) < (stack.2.length : Int)) then
(F4n wide ((t12.2.getD (Int.toNat t14) (0, 0)).1) (stack.2.getD (Int.toNat (IntKind.i64.wrap ((IntKind.i64.wrap ((stack.2.length : Int) - 1)) - 1))) 0) (stack.2.getD (Int.toNat (IntKind.i64.wrap ((stack.2.length : Int) - 1))) 0)).bind fun r1 =>
 bif decide (((stack.2.take (Int.toNat (IntKind.i64.wrap ((IntKind.i64.wrap ((stack.2.length : Int) - 1)) - 1)))).drop 0).length + [r1].length ≤ lim) then
(F3b wide state ((stack.1 && false), (((stack.2.take (Int.toNat (IntKind.i64.wrap ((IntKind.i64.wrap ((stack.2.length : Int) - 1)) - 1)))).drop 0) ++ [r1])) t12 t13 (IntKind.i64.wrap (t14 + 1))).bind fun r => some r
else none
else none
else none
else none
else none
else none
else none
else 
 bif (((t12.2.getD (Int.toNat t14) (0, 0)).1) == 20) then
 bif decide (stack.2.length + [(t12.2.getD (Int.toNat t14) (0, 0)).2].length ≤ lim) then
(F3b wide state ((stack.1 && false), (stack.2 ++ [(t12.2.getD (Int.toNat t14) (0, 0)).2])) t12 t13 (IntKind.i64.wrap (t14 + 1))).bind fun r => some r
else none
else 
 bif (((t12.2.getD (Int.toNat t14) (0, 0)).1) == 2) then
 bif decide (0 ≤ ((t12.2.getD (Int.toNat t14) (0, 0)).2)) then
 bif decide (((t12.2.getD (Int.toNat t14) (0, 0)).2) < (state.2.length : Int)) then
 bif decide (stack.2.length + [(state.2.getD (Int.toNat ((t12.2.getD (Int.toNat t14) (0, 0)).2)) 0)].length ≤ lim) then
(F3b wide state ((stack.1 && false), (stack.2 ++ [(state.2.getD (Int.toNat ((t12.2.getD (Int.toNat t14) (0, 0)).2)) 0)])) t12 t13 (IntKind.i64.wrap (t14 + 1))).bind fun r => some r
else none
else none
else none
else 
 bif (((t12.2.getD (Int.toNat t14) (0, 0)).1) == 13) then
 bif decide (0 ≤ (IntKind.i64.wrap ((stack.2.length : Int) - 1))) then
 bif decide ((IntKind.i64.wrap ((stack.2.length : Int) - 1)) < (stack.2.length : Int)) then
(F0 wide).bind fun r2 =>
 bif decide (0 ≤ (IntKind.i64.wrap ((stack.2.length : Int) - 1))) then
 bif decide ((IntKind.i64.wrap ((stack.2.length : Int) - 1)) < (stack.2.length : Int)) then
(F3b wide state (stack.1, (stack.2.set (Int.toNat (IntKind.i64.wrap ((stack.2.length : Int) - 1))) (bAnd .u64 (bXor .u64 18446744073709551615 (stack.2.getD (Int.toNat (IntKind.i64.wrap ((stack.2.length : Int) - 1))) 0)) r2))) t12 t13 (IntKind.i64.wrap (t14 + 1))).bind fun r => some r
else none
else none
else none
else none
else 
 bif (((t12.2.getD (Int.toNat t14) (0, 0)).1) == 19) then
 bif decide (0 ≤ (IntKind.i64.wrap ((stack.2.length : Int) - 1))) then
 bif decide ((IntKind.i64.wrap ((stack.2.length : Int) - 1)) < (stack.2.length : Int)) then
 bif decide (0 ≤ (IntKind.i64.wrap ((stack.2.length : Int) - 1))) then
 bif decide ((IntKind.i64.wrap ((stack.2.length : Int) - 1)) < (stack.2.length : Int)) then
(F3b wide state (stack.1, (stack.2.set (Int.toNat (IntKind.i64.wrap ((stack.2.length : Int) - 1))) (IntKind.u64.wrap (1 - (stack.2.getD (Int.toNat (IntKind.i64.wrap ((stack.2.length : Int) - 1))) 0))))) t12 t13 (IntKind.i64.wrap (t14 + 1))).bind fun r => some r
else none
else none
else none
else none
else 
 bif decide (0 ≤ (IntKind.i64.wrap ((IntKind.i64.wrap ((stack.2.length : Int) - 1)) - 1))) then
 bif decide ((IntKind.i64.wrap ((IntKind.i64.wrap ((stack.2.length : Int) - 1)) - 1)) ≤ (stack.2.length : Int)) then
 bif decide (0 ≤ (IntKind.i64.wrap ((IntKind.i64.wrap ((stack.2.length : Int) - 1)) - 1))) then
 bif decide ((IntKind.i64.wrap ((IntKind.i64.wrap ((stack.2.length : Int) - 1)) - 1)) < (stack.2.length : Int)) then
 bif decide (0 ≤ (IntKind.i64.wrap ((stack.2.length : Int) - 1))) then
 bif decide ((IntKind.i64.wrap ((stack.2.length : Int) - 1)) < (stack.2.length : Int)) then
(F4n wide ((t12.2.getD (Int.toNat t14) (0, 0)).1) (stack.2.getD (Int.toNat (IntKind.i64.wrap ((IntKind.i64.wrap ((stack.2.length : Int) - 1)) - 1))) 0) (stack.2.getD (Int.toNat (IntKind.i64.wrap ((stack.2.length : Int) - 1))) 0)).bind fun r3 =>
 bif decide (((stack.2.take (Int.toNat (IntKind.i64.wrap ((IntKind.i64.wrap ((stack.2.length : Int) - 1)) - 1)))).drop 0).length + [r3].length ≤ lim) then
(F3b wide state ((stack.1 && false), (((stack.2.take (Int.toNat (IntKind.i64.wrap ((IntKind.i64.wrap ((stack.2.length : Int) - 1)) - 1)))).drop 0) ++ [r3])) t12 t13 (IntKind.i64.wrap (t14 + 1))).bind fun r => some r
else none
else none
else none
else none
else none
else none
else none
else none
else none
else 
 some (stack.1, stack.2) := tL FoK
theorem FoE (wide t state) : Fo wide t state =
(F3b wide state (false, []) t (t.2.length : Int) 0).bind fun r =>
 bif decide (0 < (r.2.length : Int)) then
 some (r.2.getD 0 0)
else none := tC
theorem F6uE (t2 known v t11 t12 t13) : F6u t2 known v t11 t12 t13 =
 bif decide (t13 < t12) then
 bif decide (0 ≤ t13) then
 bif decide (t13 < (t11.2.length : Int)) then
 bif !((Jj tySaid (.int .i64) known.2 (t11.2.getD (Int.toNat t13) (0, 0))).isSome) then
 bif decide (known.2.length ≤ lim) then
 bif decide (v.2.length + [(known.2.length : Int)].length ≤ lim) then
(F6u t2 (false, (J2a tySaid (.int .i64) known.2 (t11.2.getD (Int.toNat t13) (0, 0)) (known.2.length : Int))) ((v.1 && false), (v.2 ++ [(known.2.length : Int)])) t11 t12 (IntKind.i64.wrap (t13 + 1))).bind fun r => some r
else none
else none
else 
 bif decide (v.2.length + [((Jj tySaid (.int .i64) known.2 (t11.2.getD (Int.toNat t13) (0, 0))).getD 0)].length ≤ lim) then
(F6u t2 (false, known.2) ((v.1 && false), (v.2 ++ [((Jj tySaid (.int .i64) known.2 (t11.2.getD (Int.toNat t13) (0, 0))).getD 0)])) t11 t12 (IntKind.i64.wrap (t13 + 1))).bind fun r => some r
else none
else none
else none
else 
 some ((false, known.2), (v.1, v.2)) := tL F1xK
theorem F1xE (keys) : F1x keys =
(F6u (true, []) (false, []) (true, []) keys (keys.2.length : Int) 0).bind fun r =>
 some (r.2.1, r.2.2) := tC
theorem F8gE (preds p t4 keys t25 t26) : F8g preds p t4 keys t25 t26 =
 bif decide (t26 < t25) then
(F1n p t26).bind fun r =>
(F8i preds p t4 (keys.1, keys.2) t26 (r.1, r.2) t25 t26 preds (preds.2.length : Int) 0).bind fun r1 =>
(F8g preds p t4 (r1.1, r1.2) t25 (IntKind.i64.wrap (t26 + 1))).bind fun r => some r
else 
 some (keys.1, keys.2) := tL F1cK
theorem F8iE (preds p t4 keys no s t25 t26 t32 t33 t34) : F8i preds p t4 keys no s t25 t26 t32 t33 t34 =
 bif decide (t34 < t33) then
 bif decide (0 ≤ t34) then
 bif decide (t34 < (t32.2.length : Int)) then
 bif decide (0 ≤ no) then
 bif decide (no < (keys.2.length : Int)) then
(Fo p.1 (t32.2.getD (Int.toNat t34) (true, [])) s).bind fun r =>
 bif decide (t34 < 0) then
 none
else 
 bif decide (0 ≤ no) then
 bif decide (no < (keys.2.length : Int)) then
(F8i preds p t4 (keys.1, (keys.2.set (Int.toNat no) (bOr .i64 ((keys.2.getD (Int.toNat no) (0, 0)).1) (bShl .i64 (IntKind.i64.wrap r) t34), (keys.2.getD (Int.toNat no) (0, 0)).2))) no s t25 t26 t32 t33 (IntKind.i64.wrap (t34 + 1))).bind fun r => some r
else none
else none
else none
else none
else none
else none
else 
 some (keys.1, keys.2) := tL F1cK
theorem F1cE (p preds) : F1c p preds =
(F4i p).bind fun r =>
 bif !r then
 some ((true, []), false)
else 
(F3t p preds 0).bind fun r1 =>
 bif !r1 then
 some ((true, []), false)
else 
(F44 p).bind fun r2 =>
 bif decide (0 ≤ r2) then
 bif decide (r2 ≤ lim) then
 bif decide (r2 ≤ r2) then
 bif decide (r2 ≤ lim) then
(F8g preds p (true, []) (false, (List.replicate (Int.toNat r2) ((0, 0) : DSaid))) ((List.replicate (Int.toNat r2) ((0, 0) : DSaid)).length : Int) 0).bind fun r3 =>
(F1x (r3.1, r3.2)).bind fun r4 =>
 some ((r4.1, r4.2), true)
else none
else none
else none
else none := tC
theorem F61E (states v classes t9 t10 t11) : F61 states v classes t9 t10 t11 =
 bif decide (t11 < t10) then
 bif decide (0 ≤ t11) then
 bif decide (t11 < (t9.2.length : Int)) then
 bif decide ((t9.2.getD (Int.toNat t11) 0) < 0) then
 some (.inl false)
else 
 bif decide ((t9.2.getD (Int.toNat t11) 0) > classes) then
 some (.inl false)
else 
 bif ((t9.2.getD (Int.toNat t11) 0) == classes) then
(F61 states v (IntKind.i64.wrap (classes + 1)) t9 t10 (IntKind.i64.wrap (t11 + 1))).bind fun r => some r
else 
(F61 states v classes t9 t10 (IntKind.i64.wrap (t11 + 1))).bind fun r => some r
else none
else none
else 
 some (.inr ()) := tL F29K
theorem F29E (v states) : F29 v states =
(F61 states v 0 v (v.2.length : Int) 0).bind fun r =>
 match r with
| .inl y =>
 some y
| .inr z =>
 some ((v.2.length : Int) == states) := tC
theorem F5aE (p v) : F5a p v =
(F4i p).bind fun r =>
 bif r then
(F44 p).bind fun r1 =>
(F29 v r1).bind fun r2 =>
 some r2
else 
 some false := tC
theorem F9bE (b t4 keys t10 t11 t12) : F9b b t4 keys t10 t11 t12 =
 bif decide (t12 < t11) then
 bif decide (0 ≤ t12) then
 bif decide (t12 < (t10.2.length : Int)) then
 bif decide (0 ≤ t12) then
 bif decide (t12 < (b.2.length : Int)) then
 bif decide (keys.2.length + [((t10.2.getD (Int.toNat t12) 0), (b.2.getD (Int.toNat t12) 0))].length ≤ lim) then
(F9b b t4 ((keys.1 && false), (keys.2 ++ [((t10.2.getD (Int.toNat t12) 0), (b.2.getD (Int.toNat t12) 0))])) t10 t11 (IntKind.i64.wrap (t12 + 1))).bind fun r => some r
else none
else none
else none
else none
else none
else 
 some (keys.1, keys.2) := tL F22K
theorem F22E (a b) : F22 a b =
(F9b b (true, []) (false, []) a (a.2.length : Int) 0).bind fun r =>
(F1x (r.1, r.2)).bind fun r1 =>
 some (r1.1, r1.2) := tC
theorem F4uE (p v t) : F4u p v t =
(F1c p (false, [t])).bind fun r =>
 bif !r.2 then
 some ((true, []), false)
else 
(F5a p v).bind fun r1 =>
 bif !r1 then
 some ((true, []), false)
else 
(F22 v (r.1.1, r.1.2)).bind fun r2 =>
 some ((r2.1, r2.2), true) := tC
theorem F9rE (p t4 v t12 t13 t14) : F9r p t4 v t12 t13 t14 =
 bif decide (t14 < t13) then
 bif decide (0 ≤ t14) then
 bif decide (t14 < (t12.2.length : Int)) then
(F4u p (v.1, v.2) (t12.2.getD (Int.toNat t14) (true, []))).bind fun r =>
(F9r p t4 (r.1.1, r.1.2) t12 t13 (IntKind.i64.wrap (t14 + 1))).bind fun r => some r
else none
else none
else 
 some (v.1, v.2) := tL F37K
theorem F37E (p preds) : F37 p preds =
(F44 p).bind fun r =>
 bif decide (0 ≤ r) then
 bif decide (r ≤ lim) then
 bif decide (r ≤ r) then
 bif decide (r ≤ lim) then
(F9r p (true, []) (false, (List.replicate (Int.toNat r) (0 : Int))) preds (preds.2.length : Int) 0).bind fun r1 =>
 some (r1.1, r1.2)
else none
else none
else none
else none := tC
theorem F9xE (x m i) : F9x x m i =
 bif decide (i < (x.2.length : Int)) then
 bif decide (0 ≤ i) then
 bif decide (i < (x.2.length : Int)) then
(F9x x (bif decide (m < (x.2.getD (Int.toNat i) 0)) then (x.2.getD (Int.toNat i) 0) else m) (IntKind.i64.wrap (i + 1))).bind fun r => some r
else none
else none
else 
 some m := tL F2qK
theorem F2qE (x) : F2q x =
 bif decide ((x.2.length : Int) < 1) then
 none
else 
 bif decide (0 < (x.2.length : Int)) then
(F9x x (x.2.getD 0 0) 1).bind fun r =>
 some r
else none := tC
theorem FrE (v) : Fr v =
(F2q v).bind fun r =>
 some (IntKind.i64.wrap (r + 1)) := tC
theorem F6iE (class_ out t10 t11 t12) : F6i class_ out t10 t11 t12 =
 bif decide (t12 < t11) then
 bif decide (0 ≤ t12) then
 bif decide (t12 < (t10.2.length : Int)) then
 bif ((t10.2.getD (Int.toNat t12) 0) == class_) then
 bif decide (out.2.length + [t12].length ≤ lim) then
(F6i class_ ((out.1 && false), (out.2 ++ [t12])) t10 t11 (IntKind.i64.wrap (t12 + 1))).bind fun r => some r
else none
else 
(F6i class_ (out.1, out.2) t10 t11 (IntKind.i64.wrap (t12 + 1))).bind fun r => some r
else none
else none
else 
 some (out.1, out.2) := tL F1vK
theorem F1vE (v class_) : F1v v class_ =
(F6i class_ (false, []) v (v.2.length : Int) 0).bind fun r =>
 some (r.1, r.2) := tC
theorem FmE (p t s) : Fm p t s =
(Fo p.1 t s).bind fun r =>
 some (r == 1) := tC
theorem F77E (s) : F77 s =
 bif s.1 then
 some (true, [])
else 
 bif decide (([] : List Int).length + s.2.length ≤ lim) then
 some (false, ([] ++ s.2))
else none := tC
theorem Fa4E (s p out t13 t14 t15) : Fa4 s p out t13 t14 t15 =
 bif decide (t15 < t14) then
 bif decide (0 ≤ t15) then
 bif decide (t15 < (t13.2.length : Int)) then
(Fo p.1 ((t13.2.getD (Int.toNat t15) (0, (true, []))).2) s).bind fun r =>
 bif decide (0 ≤ ((t13.2.getD (Int.toNat t15) (0, (true, []))).1)) then
 bif decide (((t13.2.getD (Int.toNat t15) (0, (true, []))).1) < (out.2.length : Int)) then
(Fa4 s p (out.1, (out.2.set (Int.toNat ((t13.2.getD (Int.toNat t15) (0, (true, []))).1)) r)) t13 t14 (IntKind.i64.wrap (t15 + 1))).bind fun r => some r
else none
else none
else none
else none
else 
 some (out.1, out.2) := tL F3gK
theorem F3gE (p c s) : F3g p c s =
(F77 s).bind fun r =>
(Fa4 s p (r.1, r.2) c.2 (c.2.2.length : Int) 0).bind fun r1 =>
 some (r1.1, r1.2) := tC
theorem F7hE (p no t8 t9 t10) : F7h p no t8 t9 t10 =
 bif decide (t10 < t9) then
 bif decide (0 ≤ t10) then
 bif decide (t10 < (t8.2.length : Int)) then
 bif decide ((IntKind.i64.wrap (p.1 * t10)) < 0) then
 none
else 
(F7h p (bOr .i64 no (bShl .i64 (IntKind.i64.wrap (t8.2.getD (Int.toNat t10) 0)) (IntKind.i64.wrap (p.1 * t10)))) t8 t9 (IntKind.i64.wrap (t10 + 1))).bind fun r => some r
else none
else none
else 
 some no := tL F2uK
theorem F2uE (p s) : F2u p s =
(F7h p 0 s (s.2.length : Int) 0).bind fun r =>
 some r := tC
theorem F71E (s) : F71 s =
(J9w s).bind fun r => some r := tC
theorem F6tE (s) : F6t s =
(J1z s).bind fun r => some r := tC
theorem F6mE (no p s out t14 t15 t16) : F6m no p s out t14 t15 t16 =
 bif decide (t16 < t15) then
 bif decide (0 ≤ t16) then
 bif decide (t16 < (t14.2.length : Int)) then
(Fm p ((t14.2.getD (Int.toNat t16) ((true, []), (true, []))).1) s).bind fun r =>
 bif r then
(F3g p (t14.2.getD (Int.toNat t16) ((true, []), (true, []))) s).bind fun r1 =>
(F2u p (r1.1, r1.2)).bind fun r2 =>
 bif decide (out.2.length + [r2].length ≤ lim) then
(F6m no p s ((out.1 && false), (out.2 ++ [r2])) t14 t15 (IntKind.i64.wrap (t16 + 1))).bind fun r => some r
else none
else 
(F6m no p s (out.1, out.2) t14 t15 (IntKind.i64.wrap (t16 + 1))).bind fun r => some r
else none
else none
else 
 some (out.1, out.2) := tL F1mK
theorem F1mE (p no) : F1m p no =
(F1n p no).bind fun r =>
(F6m no p (r.1, r.2) (false, []) p.2.2.2 (p.2.2.2.2.length : Int) 0).bind fun r1 =>
 bif ((r1.2.length : Int) == 0) then
 some (false, [no])
else 
(F71 (r1.1, r1.2)).bind fun r2 =>
(F6t (r2.1, r2.2)).bind fun r3 =>
 some (r3.1, r3.2) := tC
theorem F55E (out t7 t8 t9) : F55 out t7 t8 t9 =
 bif decide (t9 < t8) then
 bif decide (0 ≤ t9) then
 bif decide (t9 < (t7.2.length : Int)) then
 bif (t7.2.getD (Int.toNat t9) false) then
 bif decide (out.2.length + [t9].length ≤ lim) then
(F55 ((out.1 && false), (out.2 ++ [t9])) t7 t8 (IntKind.i64.wrap (t9 + 1))).bind fun r => some r
else none
else 
(F55 (out.1, out.2) t7 t8 (IntKind.i64.wrap (t9 + 1))).bind fun r => some r
else none
else none
else 
 some (out.1, out.2) := tL F1tK
theorem F1tE (list) : F1t list =
(F55 (false, []) list (list.2.length : Int) 0).bind fun r =>
 some (r.1, r.2) := tC
theorem F7qE (v in_ t11 t12 t13) : F7q v in_ t11 t12 t13 =
 bif decide (t13 < t12) then
 bif decide (0 ≤ t13) then
 bif decide (t13 < (t11.2.length : Int)) then
 bif decide (0 ≤ (t11.2.getD (Int.toNat t13) 0)) then
 bif decide ((t11.2.getD (Int.toNat t13) 0) < (v.2.length : Int)) then
 bif decide (0 ≤ (v.2.getD (Int.toNat (t11.2.getD (Int.toNat t13) 0)) 0)) then
 bif decide ((v.2.getD (Int.toNat (t11.2.getD (Int.toNat t13) 0)) 0) < (in_.2.length : Int)) then
(F7q v (in_.1, (in_.2.set (Int.toNat (v.2.getD (Int.toNat (t11.2.getD (Int.toNat t13) 0)) 0)) true)) t11 t12 (IntKind.i64.wrap (t13 + 1))).bind fun r => some r
else none
else none
else none
else none
else none
else none
else 
 some (in_.1, in_.2) := tL F1sK
theorem F1sE (v some_) : F1s v some_ =
(Fr v).bind fun r =>
 bif decide (0 ≤ r) then
 bif decide (r ≤ lim) then
 bif decide (r ≤ r) then
 bif decide (r ≤ lim) then
(F7q v (false, (List.replicate (Int.toNat r) (false : Bool))) some_ (some_.2.length : Int) 0).bind fun r1 =>
(F1t (r1.1, r1.2)).bind fun r2 =>
 some (r2.1, r2.2)
else none
else none
else none
else none := tC
theorem F8fE (p v next t13 t14 t15) : F8f p v next t13 t14 t15 =
 bif decide (t15 < t14) then
 bif decide (0 ≤ t15) then
 bif decide (t15 < (t13.2.length : Int)) then
(F1m p (t13.2.getD (Int.toNat t15) 0)).bind fun r =>
 bif decide (next.2.length + r.2.length ≤ lim) then
(F8f p v ((next.1 && r.2.isEmpty), (next.2 ++ r.2)) t13 t14 (IntKind.i64.wrap (t15 + 1))).bind fun r => some r
else none
else none
else none
else 
 some (next.1, next.2) := tL F2xK
theorem F2xE (p v class_) : F2x p v class_ =
(F1v v class_).bind fun r =>
(F8f p v (false, []) (r.1, r.2) (r.2.length : Int) 0).bind fun r1 =>
(F1s v (r1.1, r1.2)).bind fun r2 =>
 some (r2.1, r2.2) := tC
theorem F7dE (p v out t9 t10) : F7d p v out t9 t10 =
 bif decide (t10 < t9) then
(F2x p v t10).bind fun r =>
 bif decide (out.2.length + [(r.1, r.2)].length ≤ lim) then
(F7d p v ((out.1 && false), (out.2 ++ [(r.1, r.2)])) t9 (IntKind.i64.wrap (t10 + 1))).bind fun r => some r
else none
else 
 some (out.1, out.2) := tL F39K
theorem F39E (p v) : F39 p v =
(Fr v).bind fun r =>
(F7d p v (false, []) r 0).bind fun r1 =>
 some (r1.1, r1.2) := tC
theorem F6nE (t p out t9 t10) : F6n t p out t9 t10 =
 bif decide (t10 < t9) then
(F1n p t10).bind fun r =>
(Fm p t (r.1, r.2)).bind fun r1 =>
 bif r1 then
 bif decide (out.2.length + [t10].length ≤ lim) then
(F6n t p ((out.1 && false), (out.2 ++ [t10])) t9 (IntKind.i64.wrap (t10 + 1))).bind fun r => some r
else none
else 
(F6n t p (out.1, out.2) t9 (IntKind.i64.wrap (t10 + 1))).bind fun r => some r
else 
 some (out.1, out.2) := tL F1kK
theorem F1kE (p t) : F1k p t =
(F44 p).bind fun r =>
(F6n t p (false, []) r 0).bind fun r1 =>
 some (r1.1, r1.2) := tC
theorem F8uE (out t11 t12 t13) : F8u out t11 t12 t13 =
 bif decide (t13 < t12) then
 bif decide (0 ≤ t13) then
 bif decide (t13 < (t11.2.length : Int)) then
(F81 (out.1, out.2) t13 t11 t12 t13 (t11.2.getD (Int.toNat t13) (true, [])) (((t11.2.getD (Int.toNat t13) (true, [])).2).length : Int) 0).bind fun r =>
(F8u (r.1, r.2) t11 t12 (IntKind.i64.wrap (t13 + 1))).bind fun r => some r
else none
else none
else 
 some (out.1, out.2) := tL F1aK
theorem F81E (out v t11 t12 t13 t18 t19 t20) : F81 out v t11 t12 t13 t18 t19 t20 =
 bif decide (t20 < t19) then
 bif decide (0 ≤ t20) then
 bif decide (t20 < (t18.2.length : Int)) then
 bif decide (0 ≤ (t18.2.getD (Int.toNat t20) 0)) then
 bif decide ((t18.2.getD (Int.toNat t20) 0) < (out.2.length : Int)) then
 bif decide (((out.2.getD (Int.toNat (t18.2.getD (Int.toNat t20) 0)) (true, [])).2).length + [v].length ≤ lim) then
 bif decide (0 ≤ (t18.2.getD (Int.toNat t20) 0)) then
 bif decide ((t18.2.getD (Int.toNat t20) 0) < (out.2.length : Int)) then
 bif ((Int.toNat (t18.2.getD (Int.toNat t20) 0)) == (Int.toNat (t18.2.getD (Int.toNat t20) 0))) then
(F81 (out.1, (out.2.set (Int.toNat (t18.2.getD (Int.toNat t20) 0)) ((((out.2.getD (Int.toNat (t18.2.getD (Int.toNat t20) 0)) (true, [])).1) && false), (((out.2.getD (Int.toNat (t18.2.getD (Int.toNat t20) 0)) (true, [])).2) ++ [v])))) v t11 t12 t13 t18 t19 (IntKind.i64.wrap (t20 + 1))).bind fun r => some r
else none
else none
else none
else none
else none
else none
else none
else none
else 
 some (out.1, out.2) := tL F1aK
theorem F1aE (g) : F1a g =
 bif decide (0 ≤ (g.2.length : Int)) then
 bif decide ((g.2.length : Int) ≤ lim) then
 bif decide ((g.2.length : Int) ≤ (g.2.length : Int)) then
 bif decide ((g.2.length : Int) ≤ lim) then
(F8u (false, (List.replicate (Int.toNat (g.2.length : Int)) ((true, []) : Bool × List Int))) g (g.2.length : Int) 0).bind fun r =>
 some (r.1, r.2)
else none
else none
else none
else none := tC
theorem F5fE (x y) : F5f x y =
 some (IntKind.u64.wrap ((IntKind.u64.wrap ((IntKind.u64.wrap ((bShr .u64 x 32) * (bShr .u64 y 32))) + (bShr .u64 (IntKind.u64.wrap ((IntKind.u64.wrap ((bShr .u64 x 32) * (bAnd .u64 y 4294967295))) + (bShr .u64 (IntKind.u64.wrap ((bAnd .u64 x 4294967295) * (bAnd .u64 y 4294967295))) 32))) 32))) + (bShr .u64 (IntKind.u64.wrap ((bAnd .u64 (IntKind.u64.wrap ((IntKind.u64.wrap ((bShr .u64 x 32) * (bAnd .u64 y 4294967295))) + (bShr .u64 (IntKind.u64.wrap ((bAnd .u64 x 4294967295) * (bAnd .u64 y 4294967295))) 32))) 4294967295) + (IntKind.u64.wrap ((bAnd .u64 x 4294967295) * (bShr .u64 y 32))))) 32)), IntKind.u64.wrap (x * y)) := tC
theorem F3yE (x y) : F3y x y =
(F5f x y).bind fun r =>
 some (r.1, r.2) := tC
theorem F9lE (newslice n) : F9l newslice n =
 bif decide (n < (newslice.2.length : Int)) then
 bif decide (0 ≤ n) then
 bif decide (n ≤ (newslice.2.length : Int)) then
 bif decide (0 ≤ n) then
 bif decide (n ≤ (newslice.2.length : Int)) then
(F9l (newslice.1, (newslice.2.take (Int.toNat n) ++ (((newslice.2.take (Int.toNat n)).drop 0).take (newslice.2.length - (Int.toNat n)) ++ newslice.2.drop ((Int.toNat n) + (min ((newslice.2.take (Int.toNat n)).drop 0).length (newslice.2.length - (Int.toNat n))))))) (IntKind.i64.wrap (n + ((min ((newslice.2.take (Int.toNat n)).drop 0).length (newslice.2.length - (Int.toNat n)) : Nat) : Int)))).bind fun r => some r
else none
else none
else none
else none
else 
 some (newslice.1, newslice.2) := tL F2jK
theorem F2jE (x count) : F2j x count =
 bif decide (count < 0) then
 none
else 
(F3y (IntKind.u64.wrap (x.2.length : Int)) (IntKind.u64.wrap count)).bind fun r =>
 bif decide (r.1 > 0) then
 none
else 
 bif decide (r.2 > 9223372036854775807) then
 none
else 
 bif decide (0 ≤ (IntKind.i64.wrap r.2)) then
 bif decide ((IntKind.i64.wrap r.2) ≤ lim) then
 bif decide ((IntKind.i64.wrap r.2) ≤ (IntKind.i64.wrap r.2)) then
 bif decide ((IntKind.i64.wrap r.2) ≤ lim) then
(F9l (false, (x.2.take (List.replicate (Int.toNat (IntKind.i64.wrap r.2)) (0 : Int)).length ++ (List.replicate (Int.toNat (IntKind.i64.wrap r.2)) (0 : Int)).drop (min x.2.length (List.replicate (Int.toNat (IntKind.i64.wrap r.2)) (0 : Int)).length))) ((min x.2.length (List.replicate (Int.toNat (IntKind.i64.wrap r.2)) (0 : Int)).length : Nat) : Int)).bind fun r1 =>
 some (r1.1, r1.2)
else none
else none
else none
else none := tC
theorem F4bE (s) : F4b s =
 bif s.1 then
 some (true, [])
else 
 bif decide (([] : List Int).length + s.2.length ≤ lim) then
 some (false, ([] ++ s.2))
else none := tC
theorem F7cE (g steps open_ t17 t18 t19) : F7c g steps open_ t17 t18 t19 =
 bif decide (t19 < t18) then
 bif decide (0 ≤ t19) then
 bif decide (t19 < (t17.2.length : Int)) then
 bif decide (0 ≤ (t17.2.getD (Int.toNat t19) 0)) then
 bif decide ((t17.2.getD (Int.toNat t19) 0) < (steps.2.length : Int)) then
(F7c g (steps.1, (steps.2.set (Int.toNat (t17.2.getD (Int.toNat t19) 0)) 0)) open_ t17 t18 (IntKind.i64.wrap (t19 + 1))).bind fun r => some r
else none
else none
else none
else none
else 
 some (steps.1, steps.2) := tL FkK
theorem F8pE (g steps open_) : F8p g steps open_ =
 bif decide ((open_.2.length : Int) > 0) then
 bif decide (0 < (open_.2.length : Int)) then
 bif decide (0 ≤ (open_.2.getD 0 0)) then
 bif decide ((open_.2.getD 0 0) < (g.2.length : Int)) then
(F5o g (steps.1, steps.2) (open_.1, open_.2) (g.2.getD (Int.toNat (open_.2.getD 0 0)) (true, [])) (((g.2.getD (Int.toNat (open_.2.getD 0 0)) (true, [])).2).length : Int) 0).bind fun r =>
 bif decide (1 ≤ (r.2.2.length : Int)) then
(F8p g (r.1.1, r.1.2) (r.2.1, ((r.2.2.take r.2.2.length).drop 1))).bind fun r => some r
else none
else none
else none
else none
else 
 some (steps.1, steps.2) := tL FkK
theorem F5oE (g steps open_ t37 t38 t39) : F5o g steps open_ t37 t38 t39 =
 bif decide (t39 < t38) then
 bif decide (0 ≤ t39) then
 bif decide (t39 < (t37.2.length : Int)) then
 bif decide (0 ≤ (t37.2.getD (Int.toNat t39) 0)) then
 bif decide ((t37.2.getD (Int.toNat t39) 0) < (steps.2.length : Int)) then
 bif decide ((steps.2.getD (Int.toNat (t37.2.getD (Int.toNat t39) 0)) 0) < 0) then
 bif decide (0 < (open_.2.length : Int)) then
 bif decide (0 ≤ (open_.2.getD 0 0)) then
 bif decide ((open_.2.getD 0 0) < (steps.2.length : Int)) then
 bif decide (0 ≤ (t37.2.getD (Int.toNat t39) 0)) then
 bif decide ((t37.2.getD (Int.toNat t39) 0) < (steps.2.length : Int)) then
 bif decide (open_.2.length + [(t37.2.getD (Int.toNat t39) 0)].length ≤ lim) then
(F5o g (steps.1, (steps.2.set (Int.toNat (t37.2.getD (Int.toNat t39) 0)) (IntKind.i64.wrap ((steps.2.getD (Int.toNat (open_.2.getD 0 0)) 0) + 1)))) ((open_.1 && false), (open_.2 ++ [(t37.2.getD (Int.toNat t39) 0)])) t37 t38 (IntKind.i64.wrap (t39 + 1))).bind fun r => some r
else none
else none
else none
else none
else none
else none
else 
(F5o g (steps.1, steps.2) (open_.1, open_.2) t37 t38 (IntKind.i64.wrap (t39 + 1))).bind fun r => some r
else none
else none
else none
else none
else 
 some ((steps.1, steps.2), (open_.1, open_.2)) := tL FkK
theorem FkE (g some_) : Fk g some_ =
(F2j (false, [(-1)]) (g.2.length : Int)).bind fun r =>
(F4b some_).bind fun r1 =>
(F7c g (r.1, r.2) (r1.1, r1.2) some_ (some_.2.length : Int) 0).bind fun r2 =>
(F8p g (r2.1, r2.2) (r1.1, r1.2)).bind fun r3 =>
 some (r3.1, r3.2) := tC
theorem F5sE (w a1 a2) : F5s w a1 a2 =
 bif decide (0 ≤ w) then
 bif decide (w < (a1.2.length : Int)) then
 bif decide (0 ≤ a2) then
 bif decide (a2 < (a1.2.length : Int)) then
 some ((a1.2.getD (Int.toNat w) 0) == (IntKind.i64.wrap ((a1.2.getD (Int.toNat a2) 0) - 1)))
else none
else none
else none
else none := tC
theorem FacE (s f t7 t8) : Fac s f t7 t8 =
 bif decide (t8 < t7) then
 bif decide (0 ≤ t8) then
 bif decide (t8 < (s.2.length : Int)) then
(F5s (s.2.getD (Int.toNat t8) 0) f.1 f.2.1).bind fun r =>
 bif r then
 some (.inl t8)
else 
(Fac s f t7 (IntKind.i64.wrap (t8 + 1))).bind fun r => some r
else none
else none
else 
 some (.inr ()) := tL F2zK
theorem F2zE (s f) : F2z s f =
(Fac s f (s.2.length : Int) 0).bind fun r =>
 match r with
| .inl y =>
 some y
| .inr z =>
 some (-1) := tC
theorem F4aE (g steps best t18 t19 t20) : F4a g steps best t18 t19 t20 =
 bif decide (t20 < t19) then
 bif decide (0 ≤ t20) then
 bif decide (t20 < (t18.2.length : Int)) then
 bif decide (0 ≤ (t18.2.getD (Int.toNat t20) 0)) then
 bif decide ((t18.2.getD (Int.toNat t20) 0) < (steps.2.length : Int)) then
 bif decide ((steps.2.getD (Int.toNat (t18.2.getD (Int.toNat t20) 0)) 0) ≥ 0) then
 bif decide (best < 0) then
(F4a g steps (t18.2.getD (Int.toNat t20) 0) t18 t19 (IntKind.i64.wrap (t20 + 1))).bind fun r => some r
else 
 bif decide (0 ≤ (t18.2.getD (Int.toNat t20) 0)) then
 bif decide ((t18.2.getD (Int.toNat t20) 0) < (steps.2.length : Int)) then
 bif decide (0 ≤ best) then
 bif decide (best < (steps.2.length : Int)) then
 bif decide ((steps.2.getD (Int.toNat (t18.2.getD (Int.toNat t20) 0)) 0) < (steps.2.getD (Int.toNat best) 0)) then
(F4a g steps (t18.2.getD (Int.toNat t20) 0) t18 t19 (IntKind.i64.wrap (t20 + 1))).bind fun r => some r
else 
(F4a g steps best t18 t19 (IntKind.i64.wrap (t20 + 1))).bind fun r => some r
else none
else none
else none
else none
else 
(F4a g steps best t18 t19 (IntKind.i64.wrap (t20 + 1))).bind fun r => some r
else none
else none
else none
else none
else 
 some best := tL FfK
theorem F8dE (g steps way v) : F8d g steps way v =
 bif decide (0 ≤ v) then
 bif decide (v < (steps.2.length : Int)) then
 bif decide ((steps.2.getD (Int.toNat v) 0) > 0) then
 bif decide (0 ≤ v) then
 bif decide (v < (g.2.length : Int)) then
(F2z (g.2.getD (Int.toNat v) (true, [])) (steps, (v, ()))).bind fun r =>
 bif decide (0 ≤ v) then
 bif decide (v < (g.2.length : Int)) then
 bif decide (0 ≤ r) then
 bif decide (r < (((g.2.getD (Int.toNat v) (true, [])).2).length : Int)) then
 bif decide (way.2.length + ([(((g.2.getD (Int.toNat v) (true, [])).2).getD (Int.toNat r) 0)] : List Int).length ≤ lim) then
(F8d g steps ((way.1 && false), (way.2 ++ [(((g.2.getD (Int.toNat v) (true, [])).2).getD (Int.toNat r) 0)])) (((g.2.getD (Int.toNat v) (true, [])).2).getD (Int.toNat r) 0)).bind fun r => some r
else none
else none
else none
else none
else none
else none
else none
else 
 some (way.1, way.2)
else none
else none := tL FfK
theorem FfE (g from_ to) : Ff g from_ to =
(F1a g).bind fun r =>
(Fk (r.1, r.2) to).bind fun r1 =>
(F4a g (r1.1, r1.2) (-1) from_ (from_.2.length : Int) 0).bind fun r2 =>
 bif decide (r2 < 0) then
 some (true, [])
else 
(F8d g (r1.1, r1.2) (false, [r2]) r2).bind fun r3 =>
 some (r3.1, r3.2) := tC
theorem F72E (p v bad) : F72 p v bad =
(F39 p v).bind fun r =>
(F1k p p.2.2.1).bind fun r1 =>
(F1s v (r1.1, r1.2)).bind fun r2 =>
(F1k p bad).bind fun r3 =>
(F1s v (r3.1, r3.2)).bind fun r4 =>
(Ff (r.1, r.2) (r2.1, r2.2) (r4.1, r4.2)).bind fun r5 =>
 some (r5.1, r5.2) := tC
theorem F8rE (p out t7 t8) : F8r p out t7 t8 =
 bif decide (t8 < t7) then
(F1m p t8).bind fun r =>
 bif decide (out.2.length + [(r.1, r.2)].length ≤ lim) then
(F8r p ((out.1 && false), (out.2 ++ [(r.1, r.2)])) t7 (IntKind.i64.wrap (t8 + 1))).bind fun r => some r
else none
else 
 some (out.1, out.2) := tL F24K
theorem F24E (p) : F24 p =
(F44 p).bind fun r =>
(F8r p (false, []) r 0).bind fun r1 =>
 some (r1.1, r1.2) := tC
theorem F4sE (no a1 a2) : F4s no a1 a2 =
 bif decide (0 ≤ no) then
 bif decide (no < (a1.2.length : Int)) then
 some ((a1.2.getD (Int.toNat no) 0) != a2)
else none
else none := tC
theorem F9eE (s f t7 t8) : F9e s f t7 t8 =
 bif decide (t8 < t7) then
 bif decide (0 ≤ t8) then
 bif decide (t8 < (s.2.length : Int)) then
(F4s (s.2.getD (Int.toNat t8) 0) f.1 f.2.1).bind fun r =>
 bif r then
 some (.inl t8)
else 
(F9e s f t7 (IntKind.i64.wrap (t8 + 1))).bind fun r => some r
else none
else none
else 
 some (.inr ()) := tL F3iK
theorem F3iE (s f) : F3i s f =
(F9e s f (s.2.length : Int) 0).bind fun r =>
 match r with
| .inl y =>
 some y
| .inr z =>
 some (-1) := tC
theorem F64E (s del i j) : F64 s del i j =
 bif decide (j < (s.2.length : Int)) then
 bif decide (0 ≤ j) then
 bif decide (j < (s.2.length : Int)) then
(F4s (s.2.getD (Int.toNat j) 0) del.1 del.2.1).bind fun r =>
 bif !r then
 bif decide (0 ≤ i) then
 bif decide (i < (s.2.length : Int)) then
(F64 (s.1, (s.2.set (Int.toNat i) (s.2.getD (Int.toNat j) 0))) del (IntKind.i64.wrap (i + 1)) (IntKind.i64.wrap (j + 1))).bind fun r => some r
else none
else none
else 
(F64 (s.1, s.2) del i (IntKind.i64.wrap (j + 1))).bind fun r => some r
else none
else none
else 
 some ((s.1, s.2), i) := tL F1rK
theorem F1rE (s del) : F1r s del =
(F3i (s.1, s.2) del).bind fun r =>
 bif (r == (-1)) then
 some (s.1, s.2)
else 
(F64 (s.1, s.2) del r (IntKind.i64.wrap (r + 1))).bind fun r1 =>
 bif decide (0 ≤ r1.2) then
 bif decide (r1.2 ≤ (r1.1.2.length : Int)) then
 bif decide (0 ≤ r1.2) then
 bif decide (r1.2 ≤ ((r1.1.2.take (Int.toNat r1.2) ++ (List.replicate (r1.1.2.length - (Int.toNat r1.2)) (0 : Int) ++ r1.1.2.drop r1.1.2.length)).length : Int)) then
 some (r1.1.1, (((r1.1.2.take (Int.toNat r1.2) ++ (List.replicate (r1.1.2.length - (Int.toNat r1.2)) (0 : Int) ++ r1.1.2.drop r1.1.2.length)).take (Int.toNat r1.2)).drop 0))
else none
else none
else none
else none := tC
theorem F52E (p v out next now t24 t25 t26) : F52 p v out next now t24 t25 t26 =
 bif decide (t26 < t25) then
 bif decide (0 ≤ t26) then
 bif decide (t26 < (t24.2.length : Int)) then
 bif decide (t26 > 0) then
(F44 p).bind fun r =>
 bif decide (0 ≤ r) then
 bif decide (r ≤ lim) then
 bif decide (r ≤ r) then
 bif decide (r ≤ lim) then
(F9t p v (out.1, out.2) next (t24.2.getD (Int.toNat t26) 0) (false, (List.replicate (Int.toNat r) (false : Bool))) t24 t25 t26 (now.1, now.2) (now.2.length : Int) 0).bind fun r1 =>
(F1t (r1.1, r1.2)).bind fun r2 =>
(F1r (r2.1, r2.2) (v, ((t24.2.getD (Int.toNat t26) 0), ()))).bind fun r3 =>
(F4b (r3.1, r3.2)).bind fun r4 =>
 bif decide (out.2.length + [(r4.1, r4.2)].length ≤ lim) then
(F52 p v ((out.1 && false), (out.2 ++ [(r4.1, r4.2)])) next (r3.1, r3.2) t24 t25 (IntKind.i64.wrap (t26 + 1))).bind fun r => some r
else none
else none
else none
else none
else none
else 
(F1r (now.1, now.2) (v, ((t24.2.getD (Int.toNat t26) 0), ()))).bind fun r5 =>
(F4b (r5.1, r5.2)).bind fun r6 =>
 bif decide (out.2.length + [(r6.1, r6.2)].length ≤ lim) then
(F52 p v ((out.1 && false), (out.2 ++ [(r6.1, r6.2)])) next (r5.1, r5.2) t24 t25 (IntKind.i64.wrap (t26 + 1))).bind fun r => some r
else none
else none
else none
else 
 some (out.1, out.2) := tL F8K
theorem F9tE (p v out next class_ in_ t24 t25 t26 t36 t37 t38) : F9t p v out next class_ in_ t24 t25 t26 t36 t37 t38 =
 bif decide (t38 < t37) then
 bif decide (0 ≤ t38) then
 bif decide (t38 < (t36.2.length : Int)) then
 bif decide (0 ≤ (t36.2.getD (Int.toNat t38) 0)) then
 bif decide ((t36.2.getD (Int.toNat t38) 0) < (next.2.length : Int)) then
(F9a p v out next class_ (in_.1, in_.2) t24 t25 t26 t36 t37 t38 (next.2.getD (Int.toNat (t36.2.getD (Int.toNat t38) 0)) (true, [])) (((next.2.getD (Int.toNat (t36.2.getD (Int.toNat t38) 0)) (true, [])).2).length : Int) 0).bind fun r =>
(F9t p v out next class_ (r.1, r.2) t24 t25 t26 t36 t37 (IntKind.i64.wrap (t38 + 1))).bind fun r => some r
else none
else none
else none
else none
else 
 some (in_.1, in_.2) := tL F8K
theorem F9aE (p v out next class_ in_ t24 t25 t26 t36 t37 t38 t45 t46 t47) : F9a p v out next class_ in_ t24 t25 t26 t36 t37 t38 t45 t46 t47 =
 bif decide (t47 < t46) then
 bif decide (0 ≤ t47) then
 bif decide (t47 < (t45.2.length : Int)) then
 bif decide (0 ≤ (t45.2.getD (Int.toNat t47) 0)) then
 bif decide ((t45.2.getD (Int.toNat t47) 0) < (in_.2.length : Int)) then
(F9a p v out next class_ (in_.1, (in_.2.set (Int.toNat (t45.2.getD (Int.toNat t47) 0)) true)) t24 t25 t26 t36 t37 t38 t45 t46 (IntKind.i64.wrap (t47 + 1))).bind fun r => some r
else none
else none
else none
else none
else 
 some (in_.1, in_.2) := tL F8K
theorem F8E (p v path) : F8 p v path =
(F24 p).bind fun r =>
(F1k p p.2.2.1).bind fun r1 =>
(F52 p v (false, []) (r.1, r.2) (r1.1, r1.2) path (path.2.length : Int) 0).bind fun r2 =>
 some (r2.1, r2.2) := tC
theorem F6gE (list) : F6g list =
 some ((list.2.length : Int) == 0) := tC
theorem F87E (s f t7 t8) : F87 s f t7 t8 =
 bif decide (t8 < t7) then
 bif decide (0 ≤ t8) then
 bif decide (t8 < (s.2.length : Int)) then
(F6g (s.2.getD (Int.toNat t8) (true, []))).bind fun r =>
 bif r then
 some (.inl t8)
else 
(F87 s f t7 (IntKind.i64.wrap (t8 + 1))).bind fun r => some r
else none
else none
else 
 some (.inr ()) := tL F2yK
theorem F2yE (s f) : F2y s f =
(F87 s f (s.2.length : Int) 0).bind fun r =>
 match r with
| .inl y =>
 some y
| .inr z =>
 some (-1) := tC
theorem F35E (along) : F35 along =
(F2y along ()).bind fun r =>
 some r := tC
theorem F9gE (s v t7 t8) : F9g s v t7 t8 =
 bif decide (t8 < t7) then
 bif decide (0 ≤ t8) then
 bif decide (t8 < (s.2.length : Int)) then
 bif (v == (s.2.getD (Int.toNat t8) 0)) then
 some (.inl t8)
else 
(F9g s v t7 (IntKind.i64.wrap (t8 + 1))).bind fun r => some r
else none
else none
else 
 some (.inr ()) := tL F3nK
theorem F3nE (s v) : F3n s v =
(F9g s v (s.2.length : Int) 0).bind fun r =>
 match r with
| .inl y =>
 some y
| .inr z =>
 some (-1) := tC
theorem F4jE (s v) : F4j s v =
(F3n s v).bind fun r =>
 some (decide (r ≥ 0)) := tC
theorem F3xE (to a1 a2) : F3x to a1 a2 =
 bif decide (0 ≤ (IntKind.i64.wrap (a2 + 1))) then
 bif decide ((IntKind.i64.wrap (a2 + 1)) < (a1.2.length : Int)) then
(F4j (a1.2.getD (Int.toNat (IntKind.i64.wrap (a2 + 1))) (true, [])) to).bind fun r =>
 some r
else none
else none := tC
theorem F8oE (s f t7 t8) : F8o s f t7 t8 =
 bif decide (t8 < t7) then
 bif decide (0 ≤ t8) then
 bif decide (t8 < (s.2.length : Int)) then
(F3x (s.2.getD (Int.toNat t8) 0) f.1 f.2.1).bind fun r =>
 bif r then
 some (.inl t8)
else 
(F8o s f t7 (IntKind.i64.wrap (t8 + 1))).bind fun r => some r
else none
else none
else 
 some (.inr ()) := tL FiK
theorem FiE (s f) : Fi s f =
(F8o s f (s.2.length : Int) 0).bind fun r =>
 match r with
| .inl y =>
 some y
| .inr z =>
 some (-1) := tC
theorem F41E (s f) : F41 s f =
(Fi s f).bind fun r =>
 some (decide (r ≥ 0)) := tC
theorem FlE (no a1 a2 a3) : Fl no a1 a2 a3 =
 bif decide (0 ≤ no) then
 bif decide (no < (a1.2.length : Int)) then
(F41 (a1.2.getD (Int.toNat no) (true, [])) (a2, (a3, ()))).bind fun r =>
 some (!r)
else none
else none := tC
theorem F7eE (s f t7 t8) : F7e s f t7 t8 =
 bif decide (t8 < t7) then
 bif decide (0 ≤ t8) then
 bif decide (t8 < (s.2.length : Int)) then
(Fl (s.2.getD (Int.toNat t8) 0) f.1 f.2.1 f.2.2.1).bind fun r =>
 bif r then
 some (.inl t8)
else 
(F7e s f t7 (IntKind.i64.wrap (t8 + 1))).bind fun r => some r
else none
else none
else 
 some (.inr ()) := tL F1K
theorem F1E (s f) : F1 s f =
(F7e s f (s.2.length : Int) 0).bind fun r =>
 match r with
| .inl y =>
 some y
| .inr z =>
 some (-1) := tC
theorem F60E (s del i j) : F60 s del i j =
 bif decide (j < (s.2.length : Int)) then
 bif decide (0 ≤ j) then
 bif decide (j < (s.2.length : Int)) then
(Fl (s.2.getD (Int.toNat j) 0) del.1 del.2.1 del.2.2.1).bind fun r =>
 bif !r then
 bif decide (0 ≤ i) then
 bif decide (i < (s.2.length : Int)) then
(F60 (s.1, (s.2.set (Int.toNat i) (s.2.getD (Int.toNat j) 0))) del (IntKind.i64.wrap (i + 1)) (IntKind.i64.wrap (j + 1))).bind fun r => some r
else none
else none
else 
(F60 (s.1, s.2) del i (IntKind.i64.wrap (j + 1))).bind fun r => some r
else none
else none
else 
 some ((s.1, s.2), i) := tL FdK
theorem FdE (s del) : Fd s del =
(F1 (s.1, s.2) del).bind fun r =>
 bif (r == (-1)) then
 some (s.1, s.2)
else 
(F60 (s.1, s.2) del r (IntKind.i64.wrap (r + 1))).bind fun r1 =>
 bif decide (0 ≤ r1.2) then
 bif decide (r1.2 ≤ (r1.1.2.length : Int)) then
 bif decide (0 ≤ r1.2) then
 bif decide (r1.2 ≤ ((r1.1.2.take (Int.toNat r1.2) ++ (List.replicate (r1.1.2.length - (Int.toNat r1.2)) (0 : Int) ++ r1.1.2.drop r1.1.2.length)).length : Int)) then
 some (r1.1.1, (((r1.1.2.take (Int.toNat r1.2) ++ (List.replicate (r1.1.2.length - (Int.toNat r1.2)) (0 : Int) ++ r1.1.2.drop r1.1.2.length)).take (Int.toNat r1.2)).drop 0))
else none
else none
else none
else none := tC
theorem F6fE (to a1 a2) : F6f to a1 a2 =
 bif decide (0 ≤ (IntKind.i64.wrap (a2 + 1))) then
 bif decide ((IntKind.i64.wrap (a2 + 1)) < (a1.2.length : Int)) then
(a1.2.getD (Int.toNat (IntKind.i64.wrap (a2 + 1))) none).bind fun y =>
(F4j y to).bind fun r =>
 some r
else none
else none := tC
theorem F8cE (s f t7 t8) : F8c s f t7 t8 =
 bif decide (t8 < t7) then
 bif decide (0 ≤ t8) then
 bif decide (t8 < (s.2.length : Int)) then
(F6f (s.2.getD (Int.toNat t8) 0) f.1 f.2.1).bind fun r =>
 bif r then
 some (.inl t8)
else 
(F8c s f t7 (IntKind.i64.wrap (t8 + 1))).bind fun r => some r
else none
else none
else 
 some (.inr ()) := tL F3fK
theorem F3fE (s f) : F3f s f =
(F8c s f (s.2.length : Int) 0).bind fun r =>
 match r with
| .inl y =>
 some y
| .inr z =>
 some (-1) := tC
theorem F58E (s f) : F58 s f =
(F3f s f).bind fun r =>
 some (decide (r ≥ 0)) := tC
theorem F4mE (no a1 a2 a3) : F4m no a1 a2 a3 =
 bif decide (0 ≤ no) then
 bif decide (no < (a1.2.length : Int)) then
(F58 (a1.2.getD (Int.toNat no) (true, [])) (a2, (a3, ()))).bind fun r =>
 some (!r)
else none
else none := tC
theorem F9sE (s f t7 t8) : F9s s f t7 t8 =
 bif decide (t8 < t7) then
 bif decide (0 ≤ t8) then
 bif decide (t8 < (s.2.length : Int)) then
(F4m (s.2.getD (Int.toNat t8) 0) f.1 f.2.1 f.2.2.1).bind fun r =>
 bif r then
 some (.inl t8)
else 
(F9s s f t7 (IntKind.i64.wrap (t8 + 1))).bind fun r => some r
else none
else none
else 
 some (.inr ()) := tL F2oK
theorem F2oE (s f) : F2o s f =
(F9s s f (s.2.length : Int) 0).bind fun r =>
 match r with
| .inl y =>
 some y
| .inr z =>
 some (-1) := tC
theorem F73E (s del i j) : F73 s del i j =
 bif decide (j < (s.2.length : Int)) then
 bif decide (0 ≤ j) then
 bif decide (j < (s.2.length : Int)) then
(F4m (s.2.getD (Int.toNat j) 0) del.1 del.2.1 del.2.2.1).bind fun r =>
 bif !r then
 bif decide (0 ≤ i) then
 bif decide (i < (s.2.length : Int)) then
(F73 (s.1, (s.2.set (Int.toNat i) (s.2.getD (Int.toNat j) 0))) del (IntKind.i64.wrap (i + 1)) (IntKind.i64.wrap (j + 1))).bind fun r => some r
else none
else none
else 
(F73 (s.1, s.2) del i (IntKind.i64.wrap (j + 1))).bind fun r => some r
else none
else none
else 
 some ((s.1, s.2), i) := tL F2bK

end Go.Proofs.YtkfnlnohgfpipaaGreat.R
