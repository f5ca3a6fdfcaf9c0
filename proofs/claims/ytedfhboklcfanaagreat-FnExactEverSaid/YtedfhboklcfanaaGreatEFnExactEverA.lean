/- Kinds,signatures and loops of the functions that the laws J78,and what each computes. -/
import Derived.Test.YtedfhboklcfanaaGreatRfD
import Derived.Test.YtedfhboklcfanaaGreatProg
import Derived.KernelRfl
import Derived.Test.YtedfhboklcfanaaGreatShelf
set_option linter.unusedVariables false
set_option maxRecDepth 4000
namespace Go.Proofs.YtedfhboklcfanaaGreat.R
open Go.Rf Go.Proofs
open Go.IntKind (i64 u64)
open Int (toNat)
def tySaid:Ty:=(.pair (.int .i64) (.int .i64))
abbrev DSaid:=Int×Int
def tyNode:Ty:=(.pair (.int .i64) (.int .u64))
abbrev DNode:=Int×Int
def tySight:Ty:=(.one (.sl (.int .i64)))
abbrev DSight:=Bool×List Int
def tyLasso:Ty:=(.pair (.sl (.int .i64)) (.sl (.int .i64)))
abbrev DLasso:=(Bool×List Int)×Bool×List Int
def tyEdge:Ty:=(.pair (.int .i64) tySaid)
abbrev DEdge:=Int×DSaid
def tyboundsError:Ty:=(.pair (.int .i64) (.pair (.int .i64) (.pair .bool (.int .u8))))
abbrev DboundsError:=Int×Int×Bool×Int
def tyChange:Ty:=(.pair (.int .i64) (.sl tyNode))
abbrev DChange:=Int×Bool×List DNode
def tyl11Walk:Ty:=(.pair (.sl (.sl (.int .i64))) (.pair (.sl .bool) (.sl (.int .i64))))
abbrev Dl11Walk:=(Bool×List (Bool×List Int))×(Bool×List Bool)×Bool×List Int
def tyCommand:Ty:=(.pair (.sl tyNode) (.sl tyChange))
abbrev DCommand:=(Bool×List DNode)×Bool×List DChange
def tyOutcome:Ty:=(.pair (.int .i64) (.pair (.sl (.int .i64)) (.pair (.sl (.int .i64)) (.pair (.int .i64) tySight))))
abbrev DOutcome:=Int×(Bool×List Int)×(Bool×List Int)×Int×DSight
def tyAuto:Ty:=(.pair (.int .i64) (.pair (.sl (.int .i64)) (.pair (.sl tyEdge) (.sl (.sl (.int .i64))))))
abbrev DAuto:=Int×(Bool×List Int)×(Bool×List DEdge)×Bool×List (Bool×List Int)
def tytarjan:Ty:=(.pair (.sl (.sl (.int .i64))) (.pair (.sl (.int .i64)) (.pair (.sl (.int .i64)) (.pair (.sl (.int .i64)) (.pair (.sl (.int .i64)) (.int .i64))))))
abbrev Dtarjan:=(Bool×List (Bool×List Int))×(Bool×List Int)×(Bool×List Int)×(Bool×List Int)×(Bool×List Int)×Int
def tyProgram:Ty:=(.pair (.int .i64) (.pair (.int .i64) (.pair (.sl tyNode) (.sl tyCommand))))
abbrev DProgram:=Int×Int×(Bool×List DNode)×Bool×List DCommand
def tyQuestion:Ty:=(.pair tyProgram (.pair (.sl (.sl tyNode)) (.sl tySaid)))
abbrev DQuestion:=DProgram×(Bool×List (Bool×List DNode))×Bool×List DSaid
def oI(c:Nat):SS:= .own c (.int .i64) true
def s0:SS:= .v (.int .i64)
def s1:SS:= .v (.sl (.int .i64))
def s2:SS:= .v (.sl (.sl (.int .i64)))
def s3:SS:= .tup (.v .bool) .unit
def s4:SS:= .tup s0 .unit
def s5:SS:= .tup (.v (.int .u64)) .unit
def s6:SS:= .v (.sl (.sl tyNode))
def s7:SS:= .v (.sl tySaid)
def s8:SS:= .v tyProgram
def s9:SS:= .tup s1 .unit
def sa:SS:= .v (.sl tyNode)
def sb:SS:= .sp tyProgram
def sc:SS:= .v (.sl (.int .u64))
def sd:SS:= .v (.int .u64)
def se:SS:= .v (.fn 261 (.pair (.sl (.sl (.int .i64))) (.pair (.hsl (.sl (.int .i64))) (.pair (.int .i64) .nil))))
def sf:SS:= .v (.fn 261 (.pair (.sl (.sl (.int .i64))) (.pair (.sl (.sl (.int .i64))) (.pair (.int .i64) .nil))))
def sg:SS:= .sp tySight
def sh:SS:= .v tySight
def si:SS:= .sp tyQuestion
def sj:SS:= .sp (.sl (.sl (.int .i64)))
def sk:SS:= .v tyQuestion
def sm:SS:= .v (.sl tyCommand)
def sn:SS:= .tup (.sp (.int .i64)) .unit
def so:SS:= .v (.fn 188 (.pair (.sl (.int .i64)) (.pair (.int .i64) .nil)))
def sq:SS:= .v (.sl .bool)
def sr:SS:= .v (.sl tyChange)
def ss:SS:= .v (.fn 286 (.pair tySight (.pair (.int .i64) .nil)))
def st:SS:= .sp (.sl (.int .i64))
def su:SS:= .v .bool
def sv:SS:= .v (.fn 262 (.pair (.hsl (.sl (.int .i64))) (.pair (.int .i64) .nil)))
def sw:SS:= .v (.fn 262 (.pair (.sl (.sl (.int .i64))) (.pair (.int .i64) .nil)))
def sx:SS:= .tup s2 .unit
def sy:SS:= .tup s7 .unit
def sz:SS:= .tup sa .unit
def s10:SS:= .v (.fn 235 (.pair (.sl (.int .i64)) (.pair (.int .i64) (.pair (.sl (.sl (.int .i64))) (.pair tySaid .nil)))))
def s11:SS:= .v (.fn 263 (.pair (.sl (.sl (.int .i64))) (.pair (.sl (.int .i64)) (.pair (.int .i64) .nil))))
def s12:SS:= .tup s0 (.tup sd s5)
def s13:SS:= .tup sh .unit
def s14:SS:= .tup sc .unit
def s15:SS:= .tup s8 .unit
def s16:SS:= .tup (.v tySaid) .unit
def s17:SS:= .tup (.v tyNode) .unit
noncomputable def hN(i:Nat)(f:Func)(p o:SS)(b:List Nat)(s:List (Nat×Nat))(l:List (Nat×LoopH)):FnH:=⟨i,f,p,o,b,s,l,[],[],none⟩
noncomputable def hE(i:Nat)(f:Func)(p o:SS)(s:List (Nat×Nat))(l:List (Nat×LoopH)):FnH:=⟨i,f,p,o,[],s,l,[],[],none⟩
noncomputable def FzH:FnH:=hE 59 Tryz.f59 (.tup sa s4) s4 [] []
noncomputable def F1uH:FnH:=hE 264 Tryz.f264 (.tup (.v tyChange) s4) s4 [] []
noncomputable def F4lH:FnH:=hE 206 Tryz.f206 (.tup sr s4) s4 [] [(0,⟨[(0,sr),(1,s0),(5,s0)],[(.ret,[(4,s0)]),(.exit 0,[(1,s0)])],[]⟩)]
noncomputable def F1qH:FnH:=hE 137 Tryz.f137 (.tup (.v tyCommand) s4) s4 [] []
noncomputable def F43H:FnH:=hE 77 Tryz.f77 (.tup sm s4) s4 [] [(0,⟨[(0,sm),(1,s0),(5,s0)],[(.ret,[(4,s0)]),(.exit 0,[(1,s0)])],[]⟩)]
noncomputable def F7gH:FnH:=hE 31 Tryz.f31 (.tup s8 s4) s4 [] []
noncomputable def F2vH:FnH:=hE 22 Tryz.f22 (.tup s6 s4) s4 [] [(0,⟨[(0,s6),(1,s0),(5,s0)],[(.ret,[(4,s0)]),(.exit 0,[(1,s0)])],[]⟩)]
noncomputable def F7cH:FnH:=hE 32 Tryz.f32 (.tup s7 s4) s4 [] []
noncomputable def F6wH:FnH:=hE 6 Tryz.f6 (.tup sk s4) s4 [] []
noncomputable def F8H:FnH:=hE 125 Tryz.f125 s17 s17 [] []
noncomputable def FeH:FnH:=hE 69 Tryz.f69 sz (.tup (.own 206850 tyNode true) .unit) [] [(0,⟨[(0,sa),(3,(.own 206849 tyNode true)),(4,s0)],[(.exit 0,[(1206849,(.own 206849 tyNode true))])],[3]⟩)]
noncomputable def F1jH:FnH:=hE 269 Tryz.f269 (.tup (.v tyChange) .unit) (.tup (.pair s0 (.own 206851 tyNode true)) .unit) [] []
noncomputable def F4rH:FnH:=hE 212 Tryz.f212 (.tup sr .unit) (.tup (.own 206853 tyChange true) .unit) [] [(0,⟨[(0,sr),(3,(.own 206852 tyChange true)),(4,s0)],[(.exit 0,[(1206852,(.own 206852 tyChange true))])],[3]⟩)]
noncomputable def F1iH:FnH:=hE 146 Tryz.f146 (.tup (.v tyCommand) .unit) (.tup (.pair (.own 206854 tyNode true) (.own 206855 tyChange true)) .unit) [] []
noncomputable def F4kH:FnH:=hE 87 Tryz.f87 (.tup sm .unit) (.tup (.own 206857 tyCommand true) .unit) [] [(0,⟨[(0,sm),(3,(.own 206856 tyCommand true)),(4,s0)],[(.exit 0,[(1206856,(.own 206856 tyCommand true))])],[3]⟩)]
noncomputable def F7dH:FnH:=hE 39 Tryz.f39 s15 (.tup (.pair s0 (.pair s0 (.pair (.own 206858 tyNode true) (.own 206859 tyCommand true)))) .unit) [] []
noncomputable def F21H:FnH:=hE 24 Tryz.f24 (.tup s6 .unit) (.tup (.own 206861 (.sl tyNode) true) .unit) [] [(0,⟨[(0,s6),(3,(.own 206860 (.sl tyNode) true)),(4,s0)],[(.exit 0,[(1206860,(.own 206860 (.sl tyNode) true))])],[3]⟩)]
noncomputable def F1mH:FnH:=hE 88 Tryz.f88 s16 s16 [] []
noncomputable def F4eH:FnH:=hE 40 Tryz.f40 sy (.tup (.own 206863 tySaid true) .unit) [] [(0,⟨[(0,s7),(3,(.own 206862 tySaid true)),(4,s0)],[(.exit 0,[(1206862,(.own 206862 tySaid true))])],[3]⟩)]
noncomputable def F5dH:FnH:=hE 8 Tryz.f8 (.tup sk .unit) (.tup (.pair (.pair s0 (.pair s0 (.pair (.own 206864 tyNode true) (.own 206865 tyCommand true)))) (.pair (.own 206866 (.sl tyNode) true) (.own 206867 tySaid true))) .unit) [] []
noncomputable def F2oH:FnH:=hE 62 Tryz.f62 (.tup s0 (.tup s0 s4)) s3 [] []
noncomputable def F69H:FnH:=hE 247 Tryz.f247 s4 s3 [] []
noncomputable def F5hH:FnH:=hE 207 Tryz.f207 s4 (.tup s0 (.tup s0 s4)) [] []
noncomputable def F1aH:FnH:=hE 208 Tryz.f208 (.tup s0 s5) s5 [] [(0,⟨[(0,s0),(1,sd),(5,sd),(6,s0)],[(.exit 0,[(5,sd)])],[]⟩)]
noncomputable def F5nH:FnH:=hE 280 Tryz.f280 (.tup s0 s5) s3 [] []
noncomputable def F3sH:FnH:=hE 248 Tryz.f248 (.tup s0 (.tup s0 s17)) s3 [] []
noncomputable def F12H:FnH:=hE 194 Tryz.f194 (.tup s0 (.tup s0 sz)) s4 [] [(0,⟨[(0,s0),(1,s0),(7,(oI 206868)),(27,sa),(28,s0),(29,s0)],[(.ret,[(6,s0)]),(.exit 0,[(7,(oI 206871))])],[]⟩),(2,⟨[(0,s0),(1,s0),(7,(oI 206869)),(10,s0),(11,s0),(12,s0),(27,sa),(28,s0),(29,s0)],[(.ret,[(6,s0)]),(.exit 2,[(7,(oI 206870))])],[0,1,12,27,28,29]⟩)]
noncomputable def F5aH:FnH:=hE 119 Tryz.f119 (.tup s8 sz) s3 [] []
noncomputable def F2qH:FnH:=hE 244 Tryz.f244 (.tup s8 (.tup (.v tyCommand) .unit)) s3 [] [(0,⟨[(2,sb),(3,(.sp tyCommand)),(21,sr),(22,s0),(23,s0)],[(.ret,[(4,su)]),(.exit 0,[])],[]⟩)]
noncomputable def F4gH:FnH:=hE 191 Tryz.f191 s15 s3 [] [(0,⟨[(1,sb),(18,sm),(19,s0),(20,s0)],[(.ret,[(2,su)]),(.exit 0,[])],[]⟩)]
noncomputable def F7fH:FnH:=hE 117 Tryz.f117 s15 s3 [] []
noncomputable def F65H:FnH:=hE 245 Tryz.f245 s4 s4 [] []
noncomputable def F4uH:FnH:=hE 246 Tryz.f246 s16 s3 [] []
noncomputable def F4fH:FnH:=hE 192 Tryz.f192 sy s3 [] [(0,⟨[(3,s0),(11,s7),(12,s0),(13,s0)],[(.ret,[(2,su)]),(.exit 0,[(3,s0)])],[]⟩)]
noncomputable def F10H:FnH:=hE 141 Tryz.f141 (.tup s1 s4) s9 [] [(0,⟨[(0,s1),(1,s0),(5,s0)],[(.exit 0,[(5,s0)])],[0,1]⟩)]
noncomputable def F1nH:FnH:=hE 193 Tryz.f193 sy s9 [] [(0,⟨[(3,s1),(10,s7),(11,s0),(12,s0)],[(.exit 0,[(3,s1)])],[]⟩)]
noncomputable def F8oH:FnH:=hE 118 Tryz.f118 sy s3 [] []
noncomputable def F4mH:FnH:=hE 60 Tryz.f60 (.tup sk .unit) s3 [] [(0,⟨[(1,si),(22,s6),(23,s0),(24,s0)],[(.ret,[(2,su)]),(.exit 0,[])],[]⟩)]
noncomputable def F4cH:FnH:=hE 61 Tryz.f61 (.tup s8 (.tup s6 .unit)) s3 [] [(0,⟨[(2,sb),(10,s6),(11,s0),(12,s0)],[(.ret,[(4,su)]),(.exit 0,[])],[]⟩)]
noncomputable def F5mH:FnH:=hE 79 Tryz.f79 s15 s4 [] []
noncomputable def F2lH:FnH:=hE 81 Tryz.f81 (.tup s8 s4) (.tup (.own 206877 (.int .u64) true) .unit) [] [(0,⟨[(1,s0),(2,sb),(5,(.own 206875 (.int .u64) true)),(6,s0)],[(.exit 0,[(5,(.own 206876 (.int .u64) true))])],[]⟩)]
noncomputable def F33H:FnH:=hE 210 Tryz.f210 (.tup sa s4) s4 [] [(0,⟨[(0,sa),(5,s0),(8,s0)],[(.exit 0,[(8,s0)])],[]⟩)]
noncomputable def F8uH:FnH:=hE 289 Tryz.f289 s12 s3 [] []
noncomputable def F8kH:FnH:=hE 265 Tryz.f265 s12 (.tup sd (.tup sd s3)) [] []
noncomputable def F13H:FnH:=hE 266 Tryz.f266 (.tup s0 (.tup sd (.tup sd s3))) s5 [] [(0,⟨[(0,s0),(1,sd),(2,sd),(3,su)],[(.exit 0,[(1,sd)])],[]⟩)]
noncomputable def F23H:FnH:=hE 267 Tryz.f267 s3 s5 [] []
noncomputable def F4sH:FnH:=hE 268 Tryz.f268 (.tup s0 s5) s4 [] []
noncomputable def F86H:FnH:=hE 209 Tryz.f209 (.tup s0 s12) s5 [] []
noncomputable def F56H:FnH:=hE 139 Tryz.f139 (.tup s0 (.tup sa (.tup s0 s14))) s5 [] []
noncomputable def F5lH:FnH:=hE 80 Tryz.f80 (.tup s8 (.tup sa s14)) s3 [] []
noncomputable def F24H:FnH:=hE 35 Tryz.f35 (.tup s8 sz) (.tup (oI 206879) .unit) [] [(0,⟨[(1,sa),(2,sb),(5,(oI 206874)),(6,s0)],[(.exit 0,[(5,(oI 206878))])],[]⟩)]
noncomputable def F2nH:FnH:=hE 34 Tryz.f34 (.tup s1 s4) s3 [] [(0,⟨[(1,s0),(7,s1),(8,s0),(9,s0)],[(.ret,[(4,su)]),(.exit 0,[])],[]⟩)]
noncomputable def F19H:FnH:=hE 124 Tryz.f124 s9 (.tup (.one (oI 206885)) .unit) [] [(0,⟨[(0,s1),(2,sg),(3,(.box 206882 (.one (oI 206883)))),(4,s0),(9,s1),(10,s0),(11,s0)],[(.exit 0,[(2206882,(.box 206882 (.one (oI 206884))))])],[2,3]⟩),(2,⟨[(0,s1),(2,sg),(3,sg),(4,s0),(5,s0),(6,s0),(7,s0),(8,s0),(9,s1),(10,s0),(11,s0)],[(.exit 2,[(7,s0)])],[0,2,3,4,9,10,11]⟩)]
noncomputable def F2hH:FnH:=hE 67 Tryz.f67 (.tup sh s9) (.tup (.one (oI 206886)) .unit) [] [(0,⟨[(1,s1),(4,sg),(5,(oI 206880)),(9,s1),(10,s0),(11,s0)],[(.exit 0,[(5,(oI 206881))])],[4]⟩)]
noncomputable def F5wH:FnH:=hE 121 Tryz.f121 (.tup s8 (.tup sh sz)) (.tup (.one (oI 206887)) .unit) [] []
noncomputable def F3kH:FnH:=hE 120 Tryz.f120 (.tup s8 (.tup s6 .unit)) (.tup (.one (oI 206891)) .unit) [] [(0,⟨[(2,sb),(4,sg),(5,(.box 206888 (.one (oI 206889)))),(12,s6),(13,s0),(14,s0)],[(.exit 0,[(2206888,(.box 206888 (.one (oI 206890))))])],[4,5]⟩)]
noncomputable def F3uH:FnH:=hE 63 Tryz.f63 (.tup sk (.tup s6 .unit)) (.tup (.one (oI 206895)) .unit) [] [(0,⟨[(2,si),(4,sg),(5,(.box 206892 (.one (oI 206893)))),(13,s6),(14,s0),(15,s0)],[(.exit 0,[(2206892,(.box 206892 (.one (oI 206894))))])],[4,5]⟩)]
noncomputable def F1xH:FnH:=hE 225 Tryz.f225 (.tup s1 (.tup s0 s4)) s3 [] [(0,⟨[(1,s0),(2,s0),(9,s1),(10,s0),(11,s0)],[(.ret,[(6,su)]),(.exit 0,[])],[]⟩)]
noncomputable def FkH:FnH:=hE 224 Tryz.f224 (.tup s7 s9) (.tup (.own 206900 (.sl (.int .i64)) true) .unit) [] [(0,⟨[(1,s1),(5,(.own 206896 (.sl (.int .i64)) true)),(12,s7),(13,s0),(14,s0)],[(.exit 0,[(5,(.own 206899 (.sl (.int .i64)) true))])],[]⟩),(2,⟨[(1,s1),(5,s2),(6,s0),(7,(.sp tySaid)),(8,(oI 206897)),(9,s0),(12,s7),(13,s0),(14,s0)],[(.exit 2,[(8,(oI 206898))])],[1,5,12,13,14]⟩)]
noncomputable def F1zH:FnH:=hE 211 Tryz.f211 (.tup s7 s4) s4 [] [(0,⟨[(0,s7),(5,s0),(6,s0)],[(.exit 0,[(5,s0)])],[]⟩)]
noncomputable def FtH:FnH:=hE 277 Tryz.f277 (.tup s7 (.tup s1 (.tup s0 s4))) (.tup (.own 206905 .bool true) .unit) [] [(0,⟨[(0,s7),(1,s1),(2,s0),(3,s0),(9,(.own 206903 .bool true)),(13,s7),(14,s0),(15,s0)],[(.exit 0,[(9,(.own 206904 .bool true))])],[]⟩)]
noncomputable def F32H:FnH:=hE 226 Tryz.f226 (.tup s7 (.tup s1 (.tup s0 s4))) s4 [] [(0,⟨[(9,sq),(10,s0),(18,s1),(19,s0),(20,s0)],[(.exit 0,[(10,s0)])],[]⟩)]
noncomputable def FqH:FnH:=hE 159 Tryz.f159 (.tup s7 s3) (.tup (.pair s0 (.pair (oI 206930) (.pair (.own 206931 tyEdge true) (.own 206932 (.sl (.int .i64)) true)))) .unit) [] [(0,⟨[(0,s7),(1,su),(4,(.sp tyAuto)),(5,s1),(6,s0),(7,(.box 206901 (.pair s0 (.pair (oI 206902) (.pair (.own 206910 tyEdge true) (.own 206920 (.sl (.int .i64)) true)))))),(8,s0)],[(.exit 0,[(2206901,(.box 206901 (.pair s0 (.pair (oI 206927) (.pair (.own 206928 tyEdge true) (.own 206929 (.sl (.int .i64)) true))))))])],[4,7]⟩),(2,⟨[(0,s7),(1,su),(4,(.sp tyAuto)),(5,s1),(6,s0),(7,(.box 206908 (.pair s0 (.pair (oI 206913) (.pair (.own 206909 tyEdge true) (.own 206921 (.sl (.int .i64)) true)))))),(8,s0),(9,s0)],[(.exit 2,[(2206908,(.box 206908 (.pair s0 (.pair (oI 206924) (.pair (.own 206925 tyEdge true) (.own 206926 (.sl (.int .i64)) true))))))])],[0,1,4,5,6,7,8]⟩),(4,⟨[(0,s7),(1,su),(4,(.sp tyAuto)),(5,s1),(6,s0),(7,(.box 206906 (.pair s0 (.pair (oI 206914) (.pair (.own 206907 tyEdge true) (.own 206922 (.sl (.int .i64)) true)))))),(8,s0),(9,s0),(10,s0)],[(.exit 4,[(2206906,(.box 206906 (.pair s0 (.pair (oI 206915) (.pair (.own 206911 tyEdge true) (.own 206923 (.sl (.int .i64)) true))))))])],[0,1,4,5,6,7,8,9]⟩)]
noncomputable def F2pH:FnH:=hE 104 Tryz.f104 s13 s4 [] [(0,⟨[(3,s0),(7,s1),(8,s0),(9,s0)],[(.exit 0,[(3,s0)])],[]⟩)]
noncomputable def F2iH:FnH:=hE 105 Tryz.f105 (.tup sh s4) (.tup (oI 206935) .unit) [] [(0,⟨[(1,s0),(5,(oI 206933)),(9,s1),(10,s0),(11,s0)],[(.exit 0,[(5,(oI 206934))])],[]⟩)]
noncomputable def F38H:FnH:=hE 86 Tryz.f86 (.tup sk s4) s4 [] [(0,⟨[(1,s0),(2,si),(5,s0),(9,s6),(10,s0),(11,s0)],[(.exit 0,[(5,s0)])],[]⟩)]
noncomputable def F79H:FnH:=hE 160 Tryz.f160 (.tup sk (.tup sh s4)) s4 [] []
noncomputable def F2wH:FnH:=hE 140 Tryz.f140 (.tup s8 s14) (.tup (oI 206939) .unit) [] [(0,⟨[(1,sc),(2,sb),(5,(oI 206937)),(9,sm),(10,s0),(11,s0)],[(.exit 0,[(5,(oI 206938))])],[]⟩)]
noncomputable def F3xH:FnH:=hE 143 Tryz.f143 (.tup s8 (.tup sc s4)) (.tup (.own 206942 (.int .u64) true) .unit) [] [(0,⟨[(1,sc),(3,sb),(7,(.own 206941 (.int .u64) true)),(18,sr),(19,s0),(20,s0)],[(.exit 0,[(1206941,(.own 206941 (.int .u64) true))])],[7]⟩)]
noncomputable def F47H:FnH:=hE 142 Tryz.f142 (.tup s8 s14) s4 [] [(0,⟨[(1,sc),(2,sb),(5,s0),(6,s0)],[(.exit 0,[(5,s0)])],[]⟩)]
noncomputable def F2jH:FnH:=hE 83 Tryz.f83 (.tup s8 s4) s9 [] [(0,⟨[(1,s0),(2,sb),(5,sc),(6,s1),(14,s1),(15,s0),(16,s0)],[(.exit 0,[(6,s1)])],[1]⟩)]
noncomputable def F1eH:FnH:=hE 123 Tryz.f123 (.tup s8 s9) s9 [] [(0,⟨[(2,sb),(5,s1),(10,s1),(11,s0),(12,s0)],[(.exit 0,[(5,s1)])],[]⟩),(2,⟨[(2,sb),(5,s1),(10,s1),(11,s0),(12,s0),(18,s1),(19,s0),(20,s0)],[(.exit 2,[(5,s1)])],[2,10,11,12]⟩)]
noncomputable def F2xH:FnH:=hE 165 Tryz.f165 (.tup sh s9) s9 [] [(0,⟨[(2,sg),(5,s1),(8,s1),(9,s0),(10,s0)],[(.exit 0,[(5,s1)])],[]⟩)]
noncomputable def F7vH:FnH:=hE 161 Tryz.f161 (.tup s8 (.tup sh s4)) s9 [] []
noncomputable def F58H:FnH:=hE 82 Tryz.f82 s9 (.tup (oI 206949) .unit) [] []
noncomputable def F40H:FnH:=hE 162 Tryz.f162 (.tup s1 s9) s9 [] [(0,⟨[(5,s1),(10,s1),(11,s0),(12,s0)],[(.exit 0,[(5,s1)])],[]⟩)]
noncomputable def F4jH:FnH:=hE 164 Tryz.f164 s4 (.tup (oI 206955) .unit) [] [(0,⟨[(0,s0),(3,(oI 206953)),(4,s0)],[(.exit 0,[(3,(oI 206954))])],[]⟩)]
noncomputable def F1cH:FnH:=hE 163 Tryz.f163 (.tup s1 (.tup s1 s4)) (.tup (oI 206960) .unit) [] [(0,⟨[(1,s1),(2,s0),(7,(oI 206956)),(12,s1),(13,s0),(14,s0)],[(.exit 0,[(7,(oI 206959))])],[]⟩),(2,⟨[(1,s1),(2,s0),(7,(oI 206957)),(9,s0),(12,s1),(13,s0),(14,s0),(18,s1),(19,s0),(20,s0)],[(.exit 2,[(7,(oI 206958))])],[1,2,12,13,14]⟩)]
noncomputable def FaH:FnH:=hE 106 Tryz.f106 (.tup sk s13) (.tup (.own 206962 (.sl (.int .i64)) false) (.tup (oI 206963) (.tup (.own 206964 (.sl (.int .i64)) true) .unit))) [] [(0,⟨[(2,si),(3,sg),(7,(.sp tyAuto)),(8,s0),(9,(.own 206948 (.sl (.int .i64)) true)),(10,s0)],[(.exit 0,[(1206948,(.own 206948 (.sl (.int .i64)) true))])],[2,3,7,8,9]⟩),(2,⟨[(2,si),(3,sg),(7,(.sp tyAuto)),(8,s0),(9,(.own 206947 (.sl (.int .i64)) true)),(10,s0),(11,s0),(12,s1),(47,(.v (.sl tyEdge))),(48,s0),(49,s0)],[(.exit 2,[(1206947,(.own 206947 (.sl (.int .i64)) true))])],[2,3,7,8,9,10]⟩),(4,⟨[(2,si),(3,sg),(7,(.sp tyAuto)),(8,s0),(9,(.own 206946 (.sl (.int .i64)) true)),(10,s0),(11,s0),(12,s1),(14,(.sp tyEdge)),(47,(.v (.sl tyEdge))),(48,s0),(49,s0),(57,s1),(58,s0),(59,s0)],[(.exit 4,[(1206946,(.own 206946 (.sl (.int .i64)) true))])],[2,3,7,8,9,10,11,12,47,48,49]⟩),(6,⟨[(2,si),(3,sg),(8,s0),(9,(.own 206951 (.sl (.int .i64)) false)),(94,s0),(95,s0)],[(.exit 6,[(1206951,(.own 206951 (.sl (.int .i64)) false))])],[2,3,7,8,9]⟩),(8,⟨[(2,si),(3,sg),(7,(.sp tyAuto)),(8,s0),(9,s2),(18,(.own 206952 (.sl (.int .i64)) true)),(108,s2),(109,s0),(110,s0)],[(.exit 8,[(18,(.own 206961 (.sl (.int .i64)) true))])],[2,3,7,9]⟩)]
noncomputable def FgH:FnH:=hE 166 Tryz.f166 (.tup s2 s9) (.tup (oI 206972) .unit) [] [(0,⟨[(0,s2),(1,s1),(5,(oI 206965)),(17,s0),(18,s0)],[(.exit 0,[(1206965,(oI 206965))])],[0,1,5]⟩),(2,⟨[(0,s2),(1,s1),(5,(oI 206966)),(25,s1),(26,s0),(27,s0)],[(.exit 2,[(1206966,(oI 206966))])],[0,1,5]⟩),(4,⟨[(0,s2),(5,(oI 206970)),(9,(oI 206967))],[(.exit 4,[(1206970,(oI 206970))])],[5]⟩),(6,⟨[(0,s2),(5,(oI 206969)),(9,(oI 206968)),(10,s0),(48,s1),(49,s0),(50,s0)],[(.exit 6,[(1206969,(oI 206969)),(9,(oI 206971))])],[0,5]⟩)]
noncomputable def F2fH:FnH:=hN 228 Tryz.f228 (.tup (.box 206973 (.pair s2 (.pair (.own 206974 .bool true) (oI 206981)))) s4) (.tup (.box 206973 (.pair s2 (.pair (.own 206975 .bool true) (oI 206982)))) .unit) [206973] [] [(0,⟨[(0,(.box 206976 (.pair s2 (.pair (.own 206977 .bool true) (oI 206980))))),(1,s0),(25,s1),(26,s0),(27,s0)],[(.exit 0,[(2206976,(.box 206976 (.pair s2 (.pair (.own 206983 .bool true) (oI 206984)))))])],[0,1]⟩)]
noncomputable def F1gH:FnH:=hE 227 Tryz.f227 sx (.tup (.own 206992 (.sl (.int .i64)) true) .unit) [] [(0,⟨[(3,(.own 206991 (.sl (.int .i64)) true)),(11,s2),(12,s0),(13,s0)],[(.exit 0,[(1206991,(.own 206991 (.sl (.int .i64)) true))])],[3]⟩),(2,⟨[(3,(.own 206990 (.sl (.int .i64)) true)),(4,s0),(11,s2),(12,s0),(13,s0),(18,s1),(19,s0),(20,s0)],[(.exit 2,[(1206990,(.own 206990 (.sl (.int .i64)) true))])],[3,11,12,13]⟩)]
noncomputable def FhH:FnH:=hE 169 Tryz.f169 sx (.tup (oI 207001) .unit) [] [(0,⟨[(0,s2),(3,(.box 206985 (.pair s2 (.pair (.own 206986 .bool true) (oI 206987))))),(20,s0),(21,s0)],[(.exit 0,[(2206985,(.box 206985 (.pair s2 (.pair (.own 206988 .bool true) (oI 206989)))))])],[0,3]⟩),(2,⟨[(0,s2),(3,(.sp tyl11Walk)),(5,(.box 206993 (.pair s2 (.pair (.own 206994 .bool true) (oI 206997))))),(6,(oI 206996)),(7,s0)],[(.exit 2,[(1206996,(oI 206996)),(2206993,(.box 206993 (.pair s2 (.pair (.own 206998 .bool true) (oI 206999)))))])],[6]⟩),(4,⟨[(0,s2),(3,(.sp tyl11Walk)),(5,(.sp tyl11Walk)),(6,s1),(7,s0),(8,s0),(65,s1),(66,s0),(67,s0)],[(.exit 4,[(8,s0)])],[0,3,5,6,7]⟩),(6,⟨[(0,s2),(3,(.sp tyl11Walk)),(5,(.sp tyl11Walk)),(6,(oI 206995)),(7,s0),(8,s0),(79,s1),(80,s0),(81,s0)],[(.exit 6,[(1206995,(oI 206995))])],[0,3,5,6,7]⟩)]
noncomputable def F14H:FnH:=hE 170 Tryz.f170 (.tup s2 s9) (.tup (.own 207004 (.sl (.int .i64)) false) .unit) [] [(0,⟨[(1,s1),(5,(.own 207003 (.sl (.int .i64)) true)),(13,s2),(14,s0),(15,s0)],[(.exit 0,[(1207003,(.own 207003 (.sl (.int .i64)) true))])],[5]⟩),(2,⟨[(1,s1),(5,(.own 207002 (.sl (.int .i64)) true)),(6,s0),(13,s2),(14,s0),(15,s0),(20,s1),(21,s0),(22,s0)],[(.exit 2,[(1207002,(.own 207002 (.sl (.int .i64)) true))])],[1,5,13,14,15]⟩)]
noncomputable def FdH:FnH:=hE 167 Tryz.f167 (.tup s2 sx) (.tup (oI 207010) .unit) [] [(0,⟨[(0,s2),(1,s2),(5,s1),(7,(.own 207005 .bool true)),(8,s1),(28,s2),(29,s0),(30,s0)],[(.exit 0,[(1207005,(.own 207005 .bool true))])],[0,1,5,7,8]⟩),(2,⟨[(0,s2),(1,s2),(5,s1),(7,sq),(8,(oI 207007)),(54,s2),(55,s0),(56,s0)],[(.exit 2,[(1207007,(oI 207007))])],[0,1,5,7,8]⟩),(4,⟨[(0,s2),(1,s2),(5,s1),(7,sq),(8,(oI 207006)),(11,s0),(54,s2),(55,s0),(56,s0),(61,s1),(62,s0),(63,s0)],[(.exit 4,[(1207006,(oI 207006))])],[0,1,5,7,8,54,55,56]⟩),(6,⟨[(1,s2),(5,s1),(7,sq),(8,s1),(15,(oI 207008)),(87,s0),(88,s0)],[(.exit 6,[(15,(oI 207009))])],[]⟩)]
noncomputable def FlH:FnH:=hE 168 Tryz.f168 (.tup s2 (.tup s1 s9)) (.tup (oI 207013) s3) [] [(0,⟨[(0,s2),(8,s1),(9,s0),(19,s1),(20,s0),(21,s0)],[(.exit 0,[(9,s0)])],[0,8]⟩),(2,⟨[(0,s2),(8,s1),(9,s0),(12,(oI 207011))],[(.exit 2,[(12,(oI 207012))])],[]⟩),(4,⟨[(0,s2),(8,s1),(9,s0),(12,s1),(59,s1),(60,s0),(61,s0)],[(.exit 4,[(9,s0)])],[0,8,12]⟩)]
noncomputable def FoH:FnH:=hE 107 Tryz.f107 (.tup s2 (.tup s1 sx)) (.tup (oI 207018) (.tup (oI 207019) s3)) [] [(0,⟨[(0,s2),(1,s1),(2,s2),(9,s1),(10,s0),(32,s1),(33,s0),(34,s0)],[(.exit 0,[(10,s0)])],[0,1,2]⟩),(2,⟨[(10,s0),(13,s1),(15,s1),(16,s2),(17,(oI 207014)),(77,s2),(78,s0),(79,s0)],[(.exit 2,[(17,(oI 207017))])],[10,13,16]⟩),(4,⟨[(10,s0),(13,s1),(15,s1),(16,s2),(17,s1),(20,(oI 207015)),(77,s2),(78,s0),(79,s0),(83,s1),(84,s0),(85,s0)],[(.exit 4,[(20,(oI 207016))])],[10,13,15,16,17,77,78,79]⟩)]
noncomputable def F35H:FnH:=hE 108 Tryz.f108 (.tup s1 s4) (.tup (oI 207022) .unit) [] [(0,⟨[(1,s0),(5,(oI 207020)),(8,s1),(9,s0),(10,s0)],[(.exit 0,[(5,(oI 207021))])],[]⟩)]
noncomputable def F6uH:FnH:=hE 53 Tryz.f53 (.tup sk s13) (.tup (oI 207023) (.tup (oI 207024) s3)) [] []
noncomputable def F37H:FnH:=hE 66 Tryz.f66 (.tup s8 (.tup s1 s9)) (.tup (oI 207028) .unit) [] [(0,⟨[(2,s1),(3,sb),(7,(oI 207026)),(8,s0)],[(.exit 0,[(7,(oI 207027))])],[]⟩)]
noncomputable def F18H:FnH:=⟨65,Tryz.f65,(.tup s8 (.tup sh s9)),(.tup (.own 207034 (.sl (.int .i64)) false) .unit),[],[],[(0,⟨[(3,sb),(4,sg),(7,(.own 207029 (.sl (.int .i64)) false)),(8,s1),(18,s1),(19,s0),(20,s0)],[(.exit 0,[(7,(.own 207033 (.sl (.int .i64)) false))])],[]⟩),(2,⟨[(3,sb),(4,sg),(7,s2),(10,s0),(11,(oI 207031)),(18,s1),(19,s0),(20,s0),(24,s1),(25,s0),(26,s0)],[(.exit 2,[(11,(oI 207032))])],[3,4,7,18,19,20]⟩)],[],[44],none⟩
noncomputable def F2zH:FnH:=hE 68 Tryz.f68 sx s4 [] [(0,⟨[(5,s2),(6,s0),(7,s0)],[(.ret,[(2,s0)]),(.exit 0,[])],[]⟩)]
noncomputable def F48H:FnH:=hE 195 Tryz.f195 (.tup s1 s9) s3 [] [(0,⟨[(1,s1),(7,s1),(8,s0),(9,s0)],[(.ret,[(4,su)]),(.exit 0,[])],[]⟩)]
noncomputable def F5H:FnH:=hE 122 Tryz.f122 (.tup s8 sx) (.tup (oI 207042) .unit) [] [(0,⟨[(1,s2),(2,sb),(5,(.own 207037 (.sl (.int .i64)) false)),(6,s0)],[(.exit 0,[(1207037,(.own 207037 (.sl (.int .i64)) false))])],[2,5]⟩),(2,⟨[(1,s2),(2,sb),(5,s2),(6,s0),(7,(oI 207035)),(27,s1),(28,s0),(29,s0)],[(.exit 2,[(7,(oI 207036))])],[1,2,5,6]⟩),(4,⟨[(2,sb),(5,s2),(10,(oI 207038)),(11,s0)],[(.exit 4,[(10,(oI 207041))])],[]⟩),(6,⟨[(2,sb),(5,s2),(10,(oI 207039)),(11,s0),(69,s1),(70,s0),(71,s0)],[(.exit 6,[(1207039,.any),(10,(oI 207040))])],[2,5,11]⟩)]
noncomputable def F1sH:FnH:=hE 64 Tryz.f64 (.tup s8 (.tup sh (.tup s1 s9))) (.tup (oI 207047) (.tup (oI 207048) s3)) [] [(0,⟨[(2,s1),(3,s1),(12,s1),(13,s0)],[(.ret,[(8,(oI 207045)),(9,(oI 207046)),(10,su)]),(.exit 0,[])],[]⟩),(2,⟨[(2,s1),(3,s1),(12,s1),(13,s0),(14,s0)],[(.ret,[(8,(oI 207043)),(9,(oI 207044)),(10,su)]),(.exit 2,[])],[2,3,12,13]⟩)]
noncomputable def F34H:FnH:=hE 23 Tryz.f23 (.tup sk (.tup s6 s4)) (.tup (.pair s0 (.pair (oI 207060) (.pair (oI 207061) (.pair s0 (.one (oI 207062)))))) s3) [] [(0,⟨[(2,s0),(3,si),(6,(.box 207025 (.v tyOutcome))),(8,(.box 207051 (.one (oI 207052)))),(9,s0)],[(.ret,[(2207025,(.box 207025 (.pair s0 (.pair (oI 207057) (.pair (oI 207058) (.pair s0 (.one (oI 207055)))))))),(2207051,.any),(7,su)]),(.exit 0,[(2207025,(.box 207025 (.v tyOutcome))),(2207051,(.box 207051 (.one (oI 207059))))])],[2,6,8]⟩)]
noncomputable def F5jH:FnH:=hE 249 Tryz.f249 s4 s3 [] []
noncomputable def F5uH:FnH:=hE 250 Tryz.f250 s4 s3 [] []
noncomputable def F2yH:FnH:=hE 282 Tryz.f282 s4 (.tup s0 (.tup s0 s4)) [] []
noncomputable def F0H:FnH:=hE 94 Tryz.f94 s4 s5 [] []
noncomputable def F5pH:FnH:=hE 290 Tryz.f290 (.tup s0 s5) s3 [] []
noncomputable def F8lH:FnH:=hE 283 Tryz.f283 (.tup s0 (.tup s0 s17)) s3 [] []
noncomputable def F8gH:FnH:=hE 284 Tryz.f284 (.tup s0 sn) s3 [] []
noncomputable def F45H:FnH:=hE 147 Tryz.f147 (.tup s1 (.tup (.v (.fn 284 (.pair (.int .i64) .nil))) .unit)) s4 [] [(0,⟨[(0,s1),(1,(.v (.fn 284 (.pair (.int .i64) .nil)))),(7,s0),(8,s0)],[(.ret,[(4,s0)]),(.exit 0,[])],[]⟩)]
noncomputable def F7nH:FnH:=hE 90 Tryz.f90 (.tup s1 (.tup (.v (.fn 284 (.pair (.int .i64) .nil))) .unit)) s3 [] []
noncomputable def F1hH:FnH:=hE 255 Tryz.f255 (.tup s0 (.tup s0 sz)) s3 [] [(0,⟨[(0,s0),(1,s0),(7,(oI 207063)),(33,sa),(34,s0),(35,s0)],[(.ret,[(6,su)]),(.exit 0,[(7,(oI 207064))])],[]⟩)]
noncomputable def F6yH:FnH:=hE 256 Tryz.f256 sz s4 [] []
noncomputable def F5iH:FnH:=hE 199 Tryz.f199 (.tup s0 (.tup s0 (.tup sa s4))) s3 [] []
noncomputable def F5bH:FnH:=hE 130 Tryz.f130 (.tup s8 sz) s3 [] []
noncomputable def F39H:FnH:=hE 253 Tryz.f253 (.tup s8 (.tup (.v tyCommand) .unit)) s3 [] [(0,⟨[(2,sb),(3,(.sp tyCommand)),(13,sr),(14,s0),(15,s0)],[(.ret,[(4,su)]),(.exit 0,[])],[]⟩)]
noncomputable def F8pH:FnH:=hE 252 Tryz.f252 (.tup (.v tyCommand) (.tup sb .unit)) s3 [] []
noncomputable def F3mH:FnH:=hE 281 Tryz.f281 (.tup sm (.tup (.v (.fn 252 (.pair tyProgram .nil))) .unit)) s4 [] [(0,⟨[(0,sm),(1,(.v (.fn 252 (.pair tyProgram .nil)))),(7,s0),(8,s0)],[(.ret,[(4,s0)]),(.exit 0,[])],[]⟩)]
noncomputable def F8vH:FnH:=hE 251 Tryz.f251 (.tup sm (.tup (.v (.fn 252 (.pair tyProgram .nil))) .unit)) s3 [] []
noncomputable def F4zH:FnH:=hE 196 Tryz.f196 s15 s3 [] []
noncomputable def F5qH:FnH:=hE 126 Tryz.f126 s15 s3 [] []
noncomputable def F5oH:FnH:=hE 98 Tryz.f98 s4 s4 [] []
noncomputable def F6xH:FnH:=hE 254 Tryz.f254 s16 s3 [] []
noncomputable def F3rH:FnH:=hE 197 Tryz.f197 sy s3 [] [(0,⟨[(3,s0),(15,s7),(16,s0),(17,s0)],[(.ret,[(2,su)]),(.exit 0,[(3,s0)])],[]⟩)]
noncomputable def F51H:FnH:=hE 187 Tryz.f187 s9 (.tup (oI 207067) .unit) [] []
noncomputable def F2kH:FnH:=hE 233 Tryz.f233 sy (.tup (.own 207069 (.sl (.int .i64)) true) .unit) [] [(0,⟨[(3,(.own 207065 (.sl (.int .i64)) true)),(4,(oI 207066)),(10,s7),(11,s0),(12,s0)],[(.exit 0,[(3,(.own 207068 (.sl (.int .i64)) true))])],[]⟩)]
noncomputable def F6bH:FnH:=Jex 219 Tryz.f219 207072
noncomputable def F5vH:FnH:=J4a 220 Tryz.f220 207073 207074
noncomputable def FyH:FnH:=hE 189 Tryz.f189 sy (.tup (oI 207075) .unit) [] [(0,⟨[(3,(oI 207070)),(4,s2),(13,s7),(14,s0),(15,s0)],[(.exit 0,[(3,(oI 207071))])],[]⟩)]
noncomputable def F89H:FnH:=hE 127 Tryz.f127 sy s3 [] []
noncomputable def F8bH:FnH:=hE 129 Tryz.f129 (.tup sa (.tup si .unit)) s3 [] []
noncomputable def F3nH:FnH:=hE 198 Tryz.f198 (.tup s6 (.tup (.v (.fn 129 (.pair tyQuestion .nil))) .unit)) s4 [] [(0,⟨[(0,s6),(1,(.v (.fn 129 (.pair tyQuestion .nil)))),(7,s0),(8,s0)],[(.ret,[(4,s0)]),(.exit 0,[])],[]⟩)]
noncomputable def F7kH:FnH:=hE 128 Tryz.f128 (.tup s6 (.tup (.v (.fn 129 (.pair tyQuestion .nil))) .unit)) s3 [] []
noncomputable def F53H:FnH:=hE 70 Tryz.f70 (.tup sk .unit) s3 [] []
noncomputable def F8jH:FnH:=hE 131 Tryz.f131 (.tup sa (.tup sb .unit)) s3 [] []
noncomputable def F4oH:FnH:=hE 198 Tryz.f198 (.tup s6 (.tup (.v (.fn 131 (.pair tyProgram .nil))) .unit)) s4 [] [(0,⟨[(0,s6),(1,(.v (.fn 131 (.pair tyProgram .nil)))),(7,s0),(8,s0)],[(.ret,[(4,s0)]),(.exit 0,[])],[]⟩)]
noncomputable def F7mH:FnH:=hE 128 Tryz.f128 (.tup s6 (.tup (.v (.fn 131 (.pair tyProgram .nil))) .unit)) s3 [(7,10132)] []
noncomputable def F4tH:FnH:=hE 71 Tryz.f71 (.tup s8 (.tup s6 s4)) s3 [(19,10131)] []
noncomputable def F6qH:FnH:=hE 72 Tryz.f72 s4 s3 [] []
noncomputable def F7jH:FnH:=hE 201 Tryz.f201 (.tup (.nl (.sl tyNode)) s4) (.tup (.own 207076 (.sl tyNode) false) .unit) [] []
noncomputable def F1vH:FnH:=hE 133 Tryz.f133 (.tup (.v (.sl (.sl (.sl tyNode)))) .unit) (.tup (.own 207079 (.sl tyNode) false) .unit) [] [(0,⟨[(0,(.v (.sl (.sl (.sl tyNode))))),(3,s0),(9,(.v (.sl (.sl (.sl tyNode))))),(10,s0),(11,s0)],[(.exit 0,[(3,s0)])],[0]⟩),(2,⟨[(6,(.own 207077 (.sl tyNode) false)),(25,(.v (.sl (.sl (.sl tyNode))))),(26,s0),(27,s0)],[(.exit 2,[(6,(.own 207078 (.sl tyNode) false))])],[]⟩)]
noncomputable def F52H:FnH:=hE 89 Tryz.f89 s15 s4 [] []
noncomputable def F22H:FnH:=hE 44 Tryz.f44 (.tup s8 s4) (.tup (.own 207082 (.int .u64) true) .unit) [] [(0,⟨[(1,s0),(2,sb),(5,(.own 207080 (.int .u64) true)),(9,s0),(10,s0)],[(.exit 0,[(5,(.own 207081 (.int .u64) true))])],[]⟩)]
noncomputable def F70H:FnH:=hE 270 Tryz.f270 s12 s3 [] []
noncomputable def F88H:FnH:=hE 271 Tryz.f271 (.tup sd (.tup sd s5)) (.tup sd s5) [] []
noncomputable def F66H:FnH:=hE 213 Tryz.f213 s12 (.tup sd (.tup sd s3)) [] []
noncomputable def F4wH:FnH:=hE 214 Tryz.f214 (.tup s0 (.tup sd (.tup sd s3))) s5 [] []
noncomputable def FpH:FnH:=hE 215 Tryz.f215 s3 s5 [] []
noncomputable def F1fH:FnH:=hE 216 Tryz.f216 (.tup s0 s5) s4 [] []
noncomputable def F5tH:FnH:=hE 148 Tryz.f148 (.tup s0 s12) s5 [] []
noncomputable def FxH:FnH:=hE 93 Tryz.f93 (.tup s0 (.tup sa s14)) s5 [] [(0,⟨[(0,s0),(2,sc),(7,(.own 207085 (.int .u64) true)),(12,sa),(13,s0),(14,s0)],[(.exit 0,[(7,(.own 207086 (.int .u64) true))])],[]⟩)]
noncomputable def F2dH:FnH:=hE 285 Tryz.f285 sy (.tup (.one (oI 207091)) .unit) [] [(0,⟨[(2,sg),(3,(.map 207087 tySaid (.int .i64))),(4,(.box 207088 (.one (oI 207089)))),(11,s7),(12,s0),(13,s0)],[(.exit 0,[(1207087,(.map 207087 tySaid (.int .i64))),(2207088,(.box 207088 (.one (oI 207090))))])],[2,4]⟩)]
noncomputable def F1tH:FnH:=hE 257 Tryz.f257 (.tup s8 (.tup s6 .unit)) (.tup (.one (oI 207092)) s3) [] [(0,⟨[(1,s6),(2,sb),(4,sg),(6,(.own 207084 tySaid true)),(25,s0),(26,s0)],[(.exit 0,[(1207084,(.own 207084 tySaid true))])],[4,6]⟩),(2,⟨[(1,s6),(2,sb),(4,sg),(6,(.own 207083 tySaid true)),(7,s0),(8,sc),(25,s0),(26,s0),(32,s6),(33,s0),(34,s0)],[(.exit 2,[(1207083,(.own 207083 tySaid true))])],[1,2,4,6,25,26]⟩)]
noncomputable def F30H:FnH:=hE 171 Tryz.f171 (.tup sh s4) s3 [] [(0,⟨[(1,s0),(2,sg),(5,s0),(9,s1),(10,s0),(11,s0)],[(.ret,[(4,su)]),(.exit 0,[])],[1,2]⟩)]
noncomputable def F7qH:FnH:=hE 109 Tryz.f109 (.tup s8 s13) s3 [] []
noncomputable def F3hH:FnH:=hE 258 Tryz.f258 (.tup sh s13) (.tup (.one (oI 207095)) .unit) [] [(0,⟨[(3,sg),(4,sg),(5,(.own 207093 tySaid true)),(10,s1),(11,s0),(12,s0)],[(.exit 0,[(5,(.own 207094 tySaid true))])],[4]⟩)]
noncomputable def F85H:FnH:=hE 200 Tryz.f200 (.tup s8 (.tup sh sz)) (.tup (.one (oI 207096)) s3) [] []
noncomputable def F4hH:FnH:=hE 132 Tryz.f132 (.tup s8 (.tup s6 .unit)) (.tup (.one (oI 207100)) .unit) [] [(0,⟨[(2,sb),(4,sg),(5,(.box 207097 (.one (oI 207098)))),(12,s6),(13,s0),(14,s0)],[(.exit 0,[(2207097,(.box 207097 (.one (oI 207099))))])],[4,5]⟩)]
noncomputable def F42H:FnH:=hE 173 Tryz.f173 s9 s4 [] [(0,⟨[(0,s1),(3,s0),(4,s0)],[(.exit 0,[(3,s0)])],[]⟩)]
noncomputable def F15H:FnH:=hE 111 Tryz.f111 s13 s4 [] []
noncomputable def F9H:FnH:=hE 115 Tryz.f115 sy s4 [] []
noncomputable def F25H:FnH:=hE 150 Tryz.f150 (.tup s1 s4) s4 [] [(0,⟨[(0,s1),(1,s0),(7,s0),(8,s0)],[(.ret,[(4,s0)]),(.exit 0,[])],[]⟩)]
noncomputable def F5fH:FnH:=hE 43 Tryz.f43 (.tup s8 (.tup sa s14)) s3 [] []
noncomputable def F36H:FnH:=hE 97 Tryz.f97 (.tup sk s4) s4 [] [(0,⟨[(2,si),(5,sc),(6,s0),(14,s6),(15,s0),(16,s0)],[(.exit 0,[(6,s0)])],[]⟩)]
noncomputable def F6lH:FnH:=hE 174 Tryz.f174 (.tup sk (.tup sh s4)) s4 [] []
noncomputable def F3bH:FnH:=hE 231 Tryz.f231 (.tup sh s4) (.tup (oI 207103) .unit) [] [(0,⟨[(1,s0),(5,(oI 207101)),(10,s1),(11,s0),(12,s0)],[(.exit 0,[(5,(oI 207102))])],[]⟩)]
noncomputable def F8rH:FnH:=hE 272 Tryz.f272 s14 (.tup (.own 207106 (.int .u64) true) .unit) [] []
noncomputable def F3lH:FnH:=hE 218 Tryz.f218 (.tup s8 (.tup (.v tyCommand) s14)) (.tup (.own 207108 (.int .u64) true) .unit) [] [(0,⟨[(2,sc),(3,sb),(7,(.own 207107 (.int .u64) true)),(13,sr),(14,s0),(15,s0)],[(.exit 0,[(1207107,(.own 207107 (.int .u64) true))])],[7]⟩)]
noncomputable def F4bH:FnH:=hE 217 Tryz.f217 (.tup s8 s14) s4 [] [(0,⟨[(2,sb),(5,s0),(8,sc),(9,s0),(10,s0)],[(.exit 0,[(5,s0)])],[]⟩)]
noncomputable def F27H:FnH:=hE 149 Tryz.f149 (.tup s8 s4) (.tup (oI 207110) .unit) [] [(0,⟨[(1,s0),(2,sb),(5,sc),(6,(oI 207105)),(14,sm),(15,s0),(16,s0)],[(.exit 0,[(6,(oI 207109))])],[1]⟩)]
noncomputable def F26H:FnH:=hE 238 Tryz.f238 (.tup sq .unit) (.tup (oI 207115) .unit) [] [(0,⟨[(3,(oI 207113)),(7,sq),(8,s0),(9,s0)],[(.exit 0,[(3,(oI 207114))])],[]⟩)]
noncomputable def F3fH:FnH:=hE 180 Tryz.f180 (.tup sh s9) (.tup (oI 207116) .unit) [] [(0,⟨[(2,sg),(5,(.own 207112 .bool true)),(11,s1),(12,s0),(13,s0)],[(.exit 0,[(1207112,(.own 207112 .bool true))])],[5]⟩)]
noncomputable def F4aH:FnH:=hE 175 Tryz.f175 (.tup s8 (.tup sh s4)) (.tup (oI 207117) .unit) [] [(0,⟨[(3,sb),(4,sg),(7,(oI 207104)),(13,s1),(14,s0),(15,s0)],[(.exit 0,[(7,(oI 207111))])],[4]⟩)]
noncomputable def F55H:FnH:=hE 236 Tryz.f236 (.tup s1 (.tup s0 s4)) s3 [] []
noncomputable def FvH:FnH:=hE 232 Tryz.f232 (.tup s7 (.tup s0 s4)) (.tup (.own 207120 .bool true) .unit) [] [(0,⟨[(1,s0),(2,s0),(7,(.own 207118 .bool true)),(8,s2),(9,s1),(18,s7),(19,s0),(20,s0)],[(.exit 0,[(7,(.own 207119 .bool true))])],[]⟩)]
noncomputable def F2rH:FnH:=hE 176 Tryz.f176 (.tup s7 (.tup s0 s4)) s4 [] [(0,⟨[(7,sq),(8,s0),(16,s1),(17,s0),(18,s0)],[(.exit 0,[(8,s0)])],[]⟩)]
noncomputable def F6fH:FnH:=hE 235 Tryz.f235 (.tup s0 (.tup st (.tup (.sp (.int .i64)) (.tup sj (.tup (.sp tySaid) .unit))))) s3 [] []
noncomputable def F2gH:FnH:=hE 234 Tryz.f234 (.tup s7 (.tup s10 .unit)) (.tup (oI 207127) .unit) [] [(0,⟨[(1,s10),(5,(oI 207125)),(9,s0),(10,s0)],[(.exit 0,[(5,(oI 207126))])],[]⟩)]
noncomputable def F17H:FnH:=hE 177 Tryz.f177 sy (.tup (.own 207129 (.sl (.int .i64)) true) .unit) [] [(0,⟨[(0,s7),(3,(.own 207124 (.sl (.int .i64)) true)),(4,sj),(5,st),(13,s7),(14,s0),(15,s0)],[(.exit 0,[(3,(.own 207128 (.sl (.int .i64)) true))])],[]⟩)]
noncomputable def F3gH:FnH:=hE 178 Tryz.f178 (.tup s1 s4) (.tup (oI 207134) .unit) [] [(0,⟨[(1,s0),(5,(oI 207132)),(9,s1),(10,s0),(11,s0)],[(.exit 0,[(5,(oI 207133))])],[]⟩)]
noncomputable def F29H:FnH:=hE 181 Tryz.f181 (.tup s8 sz) (.tup (oI 207139) .unit) [] [(0,⟨[(1,sa),(2,sb),(5,(oI 207137)),(9,s0),(10,s0)],[(.exit 0,[(5,(oI 207138))])],[]⟩)]
noncomputable def F7uH:FnH:=hE 278 Tryz.f278 (.tup s0 (.tup st (.tup (.sp (.sl tySaid)) (.tup (.sp .bool) .unit)))) s3 [] []
noncomputable def F3dH:FnH:=hE 234 Tryz.f234 (.tup s7 (.tup (.v (.fn 278 (.pair (.sl (.int .i64)) (.pair (.sl tySaid) (.pair .bool .nil))))) .unit)) (.tup (oI 207143) .unit) [] [(0,⟨[(1,(.v (.fn 278 (.pair (.sl (.int .i64)) (.pair (.sl tySaid) (.pair .bool .nil)))))),(5,(oI 207141)),(9,s0),(10,s0)],[(.exit 0,[(5,(oI 207142))])],[]⟩)]
noncomputable def F4xH:FnH:=hE 237 Tryz.f237 (.tup s7 s3) (.tup (oI 207144) .unit) [(10,10182)] []
noncomputable def F3jH:FnH:=hE 179 Tryz.f179 (.tup sk s9) (.tup (oI 207146) .unit) [] [(0,⟨[(2,si),(5,(oI 207140)),(9,s1),(10,s0),(11,s0)],[(.exit 0,[(5,(oI 207145))])],[]⟩)]
noncomputable def FbH:FnH:=hE 112 Tryz.f112 (.tup sk s13) (.tup (.own 207147 (.sl (.int .i64)) true) (.tup (oI 207148) (.tup (.own 207149 (.sl (.int .i64)) true) .unit))) [] [(0,⟨[(2,si),(3,sg),(7,s0),(8,s0),(9,(.own 207123 (.sl (.int .i64)) true)),(10,s2),(31,s0),(32,s0)],[(.exit 0,[(1207123,(.own 207123 (.sl (.int .i64)) true))])],[2,3,7,8,9,10]⟩),(2,⟨[(2,si),(3,sg),(7,s0),(8,s0),(9,(.own 207122 (.sl (.int .i64)) true)),(10,s2),(11,s0),(12,s0),(31,s0),(32,s0),(43,s1),(44,s0),(45,s0)],[(.exit 2,[(1207122,(.own 207122 (.sl (.int .i64)) true))])],[2,3,7,8,9,10,31,32]⟩),(4,⟨[(2,si),(3,sg),(7,s0),(8,s0),(9,(.own 207121 (.sl (.int .i64)) true)),(10,s2),(11,s0),(12,s0),(14,s0),(31,s0),(32,s0),(43,s1),(44,s0),(45,s0),(49,s0),(50,s0)],[(.exit 4,[(1207121,(.own 207121 (.sl (.int .i64)) true))])],[2,3,7,8,9,10,11,12,31,32,43,44,45]⟩),(6,⟨[(2,si),(3,sg),(7,s0),(8,s0),(9,s2),(10,(.own 207130 (.sl (.int .i64)) true)),(81,s2),(82,s0),(83,s0)],[(.exit 6,[(10,(.own 207136 (.sl (.int .i64)) true))])],[2,3,9]⟩),(8,⟨[(2,si),(3,sg),(7,s0),(8,s0),(9,s2),(10,s2),(18,s1),(19,(oI 207131)),(81,s2),(82,s0),(83,s0),(88,s0),(89,s0)],[(.exit 8,[(19,(oI 207135))])],[2,3,7,8,9,10,81,82,83]⟩)]
noncomputable def F8qH:FnH:=hE 230 Tryz.f230 (.tup sd s5) (.tup sd s5) [] []
noncomputable def F54H:FnH:=hE 172 Tryz.f172 (.tup sd s5) (.tup sd s5) [] []
noncomputable def F2bH:FnH:=hE 110 Tryz.f110 (.tup s1 s4) (.tup (oI 207151) .unit) [] [(0,⟨[(7,(oI 207150)),(8,s0)],[(.exit 0,[(1207150,(oI 207150))])],[7]⟩)]
noncomputable def FuH:FnH:=hE 239 Tryz.f239 (.tup s2 s9) (.tup (oI 207158) .unit) [] [(0,⟨[(0,s2),(5,(oI 207152)),(6,s1),(17,s1),(18,s0),(19,s0)],[(.exit 0,[(1207152,(oI 207152))])],[0,5,6]⟩),(2,⟨[(0,s2),(5,(oI 207156)),(6,(oI 207153))],[(.exit 2,[(1207156,(oI 207156))])],[5]⟩),(4,⟨[(0,s2),(5,(oI 207155)),(6,(oI 207154)),(37,s1),(38,s0),(39,s0)],[(.exit 4,[(1207155,(oI 207155)),(6,(oI 207157))])],[0,5]⟩)]
noncomputable def F3qH:FnH:=hE 279 Tryz.f279 s9 s4 [] [(0,⟨[(0,s1),(3,s0),(4,s0)],[(.exit 0,[(3,s0)])],[]⟩)]
noncomputable def F11H:FnH:=hN 243 Tryz.f243 (.tup (.box 207159 (.pair s2 (.pair (oI 207160) (.pair (oI 207161) (.pair (oI 207177) (.pair (oI 207162) s0)))))) s4) (.tup (.box 207159 (.pair s2 (.pair (oI 207167) (.pair (oI 207168) (.pair (oI 207178) (.pair (oI 207169) s0)))))) .unit) [207159] [] [(0,⟨[(0,(.box 207163 (.pair s2 (.pair (oI 207164) (.pair (oI 207165) (.pair (oI 207176) (.pair (oI 207166) s0))))))),(1,s0),(53,s1),(54,s0),(55,s0)],[(.exit 0,[(2207163,(.box 207163 (.pair s2 (.pair (oI 207179) (.pair (oI 207180) (.pair (oI 207181) (.pair (oI 207182) s0)))))))])],[0,1]⟩),(2,⟨[(0,(.box 207173 (.pair s2 (.pair (oI 207183) (.pair (oI 207185) (.pair (oI 207174) (.pair (oI 207188) s0))))))),(6,s0),(7,s0),(154,(.subr 207188 (.int .i64))),(155,s0),(156,s0)],[(.exit 2,[(2207173,(.box 207173 (.pair s2 (.pair (oI 207184) (.pair (oI 207186) (.pair (oI 207174) (.pair (oI 207187) s0)))))))])],[0,6]⟩)]
noncomputable def F2eH:FnH:=hE 184 Tryz.f184 sx (.tup (oI 207198) .unit) [] [(0,⟨[(4,(.box 207189 (.pair s2 (.pair (oI 207190) (.pair (oI 207191) (.pair (oI 207192) (.pair (oI 207193) s0))))))),(19,s0),(20,s0)],[(.exit 0,[(2207189,(.box 207189 (.pair s2 (.pair (oI 207194) (.pair (oI 207195) (.pair (oI 207196) (.pair (oI 207197) s0)))))))])],[4]⟩)]
noncomputable def F7H:FnH:=hE 240 Tryz.f240 (.tup s2 sx) (.tup (.own 207205 .bool true) .unit) [] [(0,⟨[(1,s2),(5,s1),(6,s0),(7,(.own 207200 .bool true)),(8,sq),(28,s2),(29,s0),(30,s0)],[(.exit 0,[(1207200,(.own 207200 .bool true))])],[1,5,6,7,8]⟩),(2,⟨[(1,s2),(5,s1),(6,s0),(7,(.own 207199 .bool true)),(8,sq),(9,s0),(28,s2),(29,s0),(30,s0),(35,s1),(36,s0),(37,s0)],[(.exit 2,[(1207199,(.own 207199 .bool true))])],[1,5,6,7,8,28,29,30]⟩),(4,⟨[(5,s1),(6,s0),(7,(.own 207203 .bool true)),(8,sq),(67,s2),(68,s0),(69,s0)],[(.exit 4,[(1207203,(.own 207203 .bool true))])],[5,7,8]⟩),(6,⟨[(5,s1),(6,s0),(7,sq),(8,sq),(15,(.own 207201 .bool true)),(67,s2),(68,s0),(69,s0),(75,s1),(76,s0),(77,s0)],[(.exit 6,[(1207201,(.own 207201 .bool true))])],[5,6,7,8,15,67,68,69]⟩),(8,⟨[(5,s1),(6,s0),(7,(.own 207202 .bool true)),(8,sq),(15,sq),(67,s2),(68,s0),(69,s0),(89,s0),(90,s0)],[(.exit 8,[(1207202,(.own 207202 .bool true))])],[5,6,7,8,67,68,69]⟩),(10,⟨[(5,s1),(7,sq),(8,(.own 207204 .bool true)),(109,s0),(110,s0)],[(.exit 10,[(1207204,(.own 207204 .bool true))])],[8]⟩)]
noncomputable def F20H:FnH:=hE 182 Tryz.f182 (.tup s2 (.tup s1 sx)) s4 [] [(0,⟨[(7,s1),(8,s0),(16,sq),(17,s0),(18,s0)],[(.exit 0,[(8,s0)])],[]⟩)]
noncomputable def F1lH:FnH:=hE 241 Tryz.f241 sx (.tup (.own 207208 (.sl (.int .i64)) true) .unit) [] [(0,⟨[(3,(.own 207207 (.sl (.int .i64)) true)),(11,s2),(12,s0),(13,s0)],[(.exit 0,[(1207207,(.own 207207 (.sl (.int .i64)) true))])],[3]⟩),(2,⟨[(3,(.own 207206 (.sl (.int .i64)) true)),(4,s0),(11,s2),(12,s0),(13,s0),(18,s1),(19,s0),(20,s0)],[(.exit 2,[(1207206,(.own 207206 (.sl (.int .i64)) true))])],[3,11,12,13]⟩)]
noncomputable def F72H:FnH:=hE 242 Tryz.f242 (.tup s0 (.tup st sn)) s3 [] []
noncomputable def F4qH:FnH:=hE 147 Tryz.f147 (.tup s1 (.tup (.v (.fn 242 (.pair (.sl (.int .i64)) (.pair (.int .i64) .nil)))) .unit)) s4 [] [(0,⟨[(0,s1),(1,(.v (.fn 242 (.pair (.sl (.int .i64)) (.pair (.int .i64) .nil))))),(7,s0),(8,s0)],[(.ret,[(4,s0)]),(.exit 0,[])],[]⟩)]
noncomputable def FmH:FnH:=hE 183 Tryz.f183 (.tup s2 (.tup s1 s9)) (.tup (oI 207212) .unit) [(61,10196)] [(0,⟨[(0,s2),(7,st),(8,s0),(18,s1),(19,s0),(20,s0)],[(.exit 0,[(8,s0)])],[0,7]⟩),(2,⟨[(0,s2),(7,st),(11,(oI 207209)),(12,(.box 207210 s0))],[(.exit 2,[(11,(oI 207211))])],[]⟩)]
noncomputable def F16H:FnH:=hE 185 Tryz.f185 (.tup s2 (.tup s1 s4)) (.tup (.own 207215 (.sl (.int .i64)) false) .unit) [] [(0,⟨[(1,s1),(2,s0),(7,(.own 207214 (.sl (.int .i64)) true)),(15,s2),(16,s0),(17,s0)],[(.exit 0,[(1207214,(.own 207214 (.sl (.int .i64)) true))])],[7]⟩),(2,⟨[(1,s1),(2,s0),(7,(.own 207213 (.sl (.int .i64)) true)),(8,s0),(15,s2),(16,s0),(17,s0),(22,s1),(23,s0),(24,s0)],[(.exit 2,[(1207213,(.own 207213 (.sl (.int .i64)) true))])],[1,2,7,15,16,17]⟩)]
noncomputable def F61H:FnH:=hE 188 Tryz.f188 (.tup s0 (.tup st sn)) s3 [] []
noncomputable def F4iH:FnH:=hE 147 Tryz.f147 (.tup s1 (.tup so .unit)) s4 [] [(0,⟨[(0,s1),(1,so),(7,s0),(8,s0)],[(.ret,[(4,s0)]),(.exit 0,[])],[]⟩)]
noncomputable def F2tH:FnH:=hN 186 Tryz.f186 (.tup (oI 207218) (.tup so .unit)) (.tup .any (.tup (oI 207219) .unit)) [207218] [(10,10200)] [(0,⟨[(0,(oI 207217)),(1,so),(5,s0),(6,s0)],[(.exit 0,[(1207217,(oI 207217)),(5,s0)])],[0]⟩)]
noncomputable def F1dH:FnH:=hE 113 Tryz.f113 (.tup s2 (.tup s1 sx)) (.tup (oI 207221) (.tup (oI 207222) s3)) [] [(0,⟨[(9,(.sp (.int .i64))),(10,s1),(11,st),(12,s2),(13,(oI 207216)),(41,s2),(42,s0),(43,s0)],[(.exit 0,[(13,(oI 207220))])],[9,10,12]⟩)]
noncomputable def F31H:FnH:=hE 114 Tryz.f114 (.tup s1 (.tup si .unit)) (.tup (oI 207225) .unit) [] [(0,⟨[(1,si),(4,(oI 207223)),(8,s1),(9,s0),(10,s0)],[(.exit 0,[(4,(oI 207224))])],[]⟩)]
noncomputable def F1bH:FnH:=hE 56 Tryz.f56 (.tup sk s13) (.tup (oI 207226) (.tup (oI 207227) s3)) [] []
noncomputable def F6zH:FnH:=hE 92 Tryz.f92 (.tup (.nl (.int .i64)) s4) (.tup (oI 207230) .unit) [] []
noncomputable def F1oH:FnH:=hE 42 Tryz.f42 sx (.tup (oI 207233) .unit) [] [(0,⟨[(0,s2),(3,s0),(9,s2),(10,s0),(11,s0)],[(.exit 0,[(3,s0)])],[0]⟩),(2,⟨[(6,(oI 207231)),(25,s2),(26,s0),(27,s0)],[(.exit 2,[(6,(oI 207232))])],[]⟩)]
noncomputable def F60H:FnH:=hE 203 Tryz.f203 (.tup s8 (.tup s1 s9)) (.tup (oI 207234) .unit) [] []
noncomputable def F3cH:FnH:=hE 95 Tryz.f95 s15 (.tup (.own 207237 (.sl (.int .i64)) true) .unit) [] [(0,⟨[(1,sb),(3,(.own 207235 (.sl (.int .i64)) true)),(7,s0),(8,s0)],[(.exit 0,[(3,(.own 207236 (.sl (.int .i64)) true))])],[]⟩)]
noncomputable def F64H:FnH:=hE 286 Tryz.f286 (.tup s0 (.tup sg sn)) s3 [] []
noncomputable def F4dH:FnH:=hE 147 Tryz.f147 (.tup s1 (.tup ss .unit)) s4 [] [(0,⟨[(0,s1),(1,ss),(7,s0),(8,s0)],[(.ret,[(4,s0)]),(.exit 0,[])],[]⟩)]
noncomputable def F2mH:FnH:=hN 186 Tryz.f186 (.tup (oI 207243) (.tup ss .unit)) (.tup .any (.tup (oI 207244) .unit)) [207243] [(10,10211)] [(0,⟨[(0,(oI 207242)),(1,ss),(5,s0),(6,s0)],[(.exit 0,[(1207242,(oI 207242)),(5,s0)])],[0]⟩)]
noncomputable def FfH:FnH:=hE 259 Tryz.f259 (.tup s8 (.tup sh s9)) (.tup (.own 207246 (.sl (.int .i64)) true) .unit) [(60,10210)] [(0,⟨[(3,sb),(4,sg),(7,(.own 207238 (.sl (.int .i64)) true)),(8,s2),(9,(oI 207239)),(24,s1),(25,s0),(26,s0)],[(.exit 0,[(7,(.own 207245 (.sl (.int .i64)) true))])],[]⟩),(2,⟨[(3,sb),(4,sg),(7,s2),(8,s2),(11,(.sp (.int .i64))),(12,(.own 207241 .bool true)),(24,s1),(25,s0),(26,s0),(36,s1),(37,s0),(38,s0)],[(.exit 2,[(1207241,(.own 207241 .bool true))])],[3,4,7,8,11,12,24,25,26]⟩),(4,⟨[(3,sb),(4,sg),(7,s2),(8,s2),(11,(.sp (.int .i64))),(12,(.own 207240 .bool true)),(24,s1),(25,s0),(26,s0),(36,s1),(37,s0),(38,s0),(45,s1),(46,s0),(47,s0)],[(.exit 4,[(1207240,(.own 207240 .bool true))])],[3,4,7,8,11,12,24,25,26,36,37,38]⟩)]
noncomputable def F6sH:FnH:=hE 288 Tryz.f288 s9 s3 [] []
noncomputable def F41H:FnH:=hE 287 Tryz.f287 (.tup s2 (.tup (.v (.fn 288 .nil)) .unit)) s4 [] [(0,⟨[(0,s2),(1,(.v (.fn 288 .nil))),(7,s0),(8,s0)],[(.ret,[(4,s0)]),(.exit 0,[])],[]⟩)]
noncomputable def F4vH:FnH:=hE 260 Tryz.f260 sx s4 [] []
noncomputable def F5sH:FnH:=hE 96 Tryz.f96 (.tup s1 s4) s3 [] []
noncomputable def F4yH:FnH:=hE 262 Tryz.f262 (.tup s0 (.tup sj sn)) s3 [] []
noncomputable def FsH:FnH:=hE 147 Tryz.f147 (.tup s1 (.tup sw .unit)) s4 [] [(0,⟨[(0,s1),(1,sw),(7,s0),(8,s0)],[(.ret,[(4,s0)]),(.exit 0,[])],[]⟩)]
noncomputable def F50H:FnH:=hE 90 Tryz.f90 (.tup s1 (.tup sw .unit)) s3 [(7,10220)] []
noncomputable def FwH:FnH:=hE 261 Tryz.f261 (.tup s0 (.tup sj (.tup sj sn))) s3 [(11,10219)] []
noncomputable def F4H:FnH:=hE 147 Tryz.f147 (.tup s1 (.tup sf .unit)) s4 [] [(0,⟨[(0,s1),(1,sf),(7,s0),(8,s0)],[(.ret,[(4,s0)]),(.exit 0,[])],[]⟩)]
noncomputable def FrH:FnH:=hN 186 Tryz.f186 (.tup (oI 207248) (.tup sf .unit)) (.tup .any (.tup (oI 207249) .unit)) [207248] [(10,10217)] [(0,⟨[(0,(oI 207247)),(1,sf),(5,s0),(6,s0)],[(.exit 0,[(1207247,(oI 207247)),(5,s0)])],[0]⟩)]
noncomputable def F74H:FnH:=hE 262 Tryz.f262 (.tup s0 (.tup (.sp (.hsl (.sl (.int .i64)))) sn)) s3 [] []
noncomputable def F3oH:FnH:=hE 147 Tryz.f147 (.tup s1 (.tup sv .unit)) s4 [(16,10228)] [(0,⟨[(0,s1),(1,sv),(7,s0),(8,s0)],[(.ret,[(4,s0)]),(.exit 0,[])],[]⟩)]
noncomputable def F81H:FnH:=hE 90 Tryz.f90 (.tup s1 (.tup sv .unit)) s3 [(7,10227)] []
noncomputable def F68H:FnH:=hE 261 Tryz.f261 (.tup s0 (.tup sj (.tup (.sp (.hsl (.sl (.int .i64)))) sn))) s3 [(11,10226)] []
noncomputable def F3wH:FnH:=hE 147 Tryz.f147 (.tup s1 (.tup se .unit)) s4 [(16,10225)] [(0,⟨[(0,s1),(1,se),(7,s0),(8,s0)],[(.ret,[(4,s0)]),(.exit 0,[])],[]⟩)]
noncomputable def F2uH:FnH:=hN 186 Tryz.f186 (.tup (oI 207253) (.tup se .unit)) (.tup .any (.tup (oI 207254) .unit)) [207253] [(10,10224),(28,10225)] [(0,⟨[(0,(oI 207252)),(1,se),(5,s0),(6,s0)],[(.exit 0,[(1207252,(oI 207252)),(5,s0)])],[0]⟩)]
noncomputable def F7pH:FnH:=hE 263 Tryz.f263 (.tup s0 (.tup sj (.tup st sn))) s3 [] []
noncomputable def F3vH:FnH:=hE 147 Tryz.f147 (.tup s1 (.tup s11 .unit)) s4 [] [(0,⟨[(0,s1),(1,s11),(7,s0),(8,s0)],[(.ret,[(4,s0)]),(.exit 0,[])],[]⟩)]
noncomputable def F6H:FnH:=hE 202 Tryz.f202 (.tup s8 (.tup sh s9)) (.tup (oI 207258) .unit) [(39,10223),(58,10229)] [(0,⟨[(7,(.box 207250 (.own 207251 (.sl (.int .i64)) true))),(8,sj),(9,s0),(10,(.sp (.int .i64)))],[(.exit 0,[(2207250,(.box 207250 (.own 207251 (.sl (.int .i64)) true)))])],[7,8,9]⟩),(2,⟨[(7,sj),(8,sj),(9,s0),(11,(.box 207255 (oI 207256))),(12,(.sp (.int .i64)))],[(.exit 2,[(2207255,(.box 207255 (oI 207257)))])],[11]⟩)]
noncomputable def F3yH:FnH:=hE 134 Tryz.f134 (.tup s8 (.tup sh (.tup s1 s9))) (.tup (oI 207262) (.tup (oI 207263) s3)) [] [(0,⟨[(3,s1),(11,s1),(12,(.map 207259 (.int .i64) (.int .i64))),(13,s0)],[(.ret,[(1207259,(.map 207259 (.int .i64) (.int .i64))),(8,(oI 207260)),(9,(oI 207261)),(10,su)]),(.exit 0,[(1207259,(.map 207259 (.int .i64) (.int .i64)))])],[]⟩)]
noncomputable def F78H:FnH:=hE 204 Tryz.f204 (.tup s8 (.tup sh s9)) (.tup (oI 207269) s3) [] []
noncomputable def F49H:FnH:=hE 205 Tryz.f205 (.tup sh s9) (.tup (.one (oI 207272)) .unit) [] [(0,⟨[(2,sg),(4,sg),(5,(.box 207270 (.one (oI 207271)))),(13,s1),(14,s0),(15,s0)],[(.exit 0,[(2207270,(.box 207270 (.one (oI 207271))))])],[2,4,5]⟩)]
noncomputable def F7rH:FnH:=hE 135 Tryz.f135 (.tup s8 (.tup sh (.tup s1 s9))) (.tup (.one (oI 207273)) s3) [] []
noncomputable def F3tH:FnH:=hE 73 Tryz.f73 (.tup sk (.tup s6 s4)) (.tup (.pair s0 (.pair (oI 207280) (.pair (oI 207281) (.pair s0 (.one (oI 207282)))))) .unit) [] [(0,⟨[(2,s0),(3,si),(6,(.box 207229 (.v tyOutcome))),(7,(.box 207228 (.pair s0 (.pair (oI 207264) (.pair (oI 207267) (.pair s0 (.one (oI 207274))))))))],[(.ret,[(2207228,.any),(2207229,(.box 207229 (.pair s0 (.pair (oI 207277) (.pair (oI 207278) (.pair s0 (.one (oI 207279))))))))])],[6]⟩)]
noncomputable def F5yH:FnH:=hE 25 Tryz.f25 (.tup sk (.tup s6 s4)) (.tup (.pair s0 (.pair (oI 207283) (.pair (oI 207284) (.pair s0 (.one (oI 207285)))))) s3) [] []
noncomputable def F2cH:FnH:=hE 12 Tryz.f12 (.tup s1 s9) s3 [] [(0,⟨[(0,s1),(1,s1),(5,s0)],[(.ret,[(4,su)]),(.exit 0,[])],[]⟩)]
noncomputable def F76H:FnH:=hE 17 Tryz.f17 (.tup sh s13) s3 [] []
noncomputable def F5rH:FnH:=hE 26 Tryz.f26 (.tup (.v tyOutcome) (.tup (.v tyOutcome) .unit)) s3 [] []
noncomputable def FcH:FnH:=hE 136 Tryz.f136 (.tup (.v tyNode) s17) s3 [] []
noncomputable def FiH:FnH:=hE 74 Tryz.f74 (.tup sa sz) s3 [] [(0,⟨[(0,sa),(1,sa),(5,s0)],[(.ret,[(4,su)]),(.exit 0,[])],[]⟩)]
noncomputable def F1pH:FnH:=hE 276 Tryz.f276 (.tup (.v tyChange) (.tup (.v tyChange) .unit)) s3 [] []
noncomputable def F4nH:FnH:=hE 223 Tryz.f223 (.tup sr (.tup sr .unit)) s3 [] [(0,⟨[(0,sr),(1,sr),(5,s0)],[(.ret,[(4,su)]),(.exit 0,[])],[]⟩)]
noncomputable def F1kH:FnH:=hE 158 Tryz.f158 (.tup (.v tyCommand) (.tup (.v tyCommand) .unit)) s3 [] []
noncomputable def F46H:FnH:=hE 101 Tryz.f101 (.tup sm (.tup sm .unit)) s3 [] [(0,⟨[(0,sm),(1,sm),(5,s0)],[(.ret,[(4,su)]),(.exit 0,[])],[]⟩)]
noncomputable def F87H:FnH:=hE 48 Tryz.f48 (.tup s8 s15) s3 [] []
noncomputable def F3aH:FnH:=hE 27 Tryz.f27 (.tup s6 (.tup s6 .unit)) s3 [] [(0,⟨[(0,s6),(1,s6),(5,s0)],[(.ret,[(4,su)]),(.exit 0,[])],[]⟩)]
noncomputable def F1rH:FnH:=hE 102 Tryz.f102 (.tup (.v tySaid) s16) s3 [] []
noncomputable def F3pH:FnH:=hE 49 Tryz.f49 (.tup s7 sy) s3 [] [(0,⟨[(0,s7),(1,s7),(5,s0)],[(.ret,[(4,su)]),(.exit 0,[])],[]⟩)]
noncomputable def F8xH:FnH:=hE 11 Tryz.f11 (.tup sk (.tup sk .unit)) s3 [] []
noncomputable def FjH:FnH:=hN 75 Tryz.f75 (.tup (.own 207287 tyNode true) s4) (.tup (.own 207287 tyNode true) s4) [207287] [] [(0,⟨[(0,(.own 207286 tyNode true)),(1,s0),(5,s0)],[(.exit 0,[(1207286,(.own 207286 tyNode true)),(1,s0)])],[]⟩)]
noncomputable def F3zH:FnH:=hN 190 Tryz.f190 (.tup (.own 207292 tyChange true) s4) (.tup (.own 207292 tyChange true) s4) [207292] [] [(0,⟨[(0,(.own 207291 tyChange true)),(1,s0),(5,s0)],[(.exit 0,[(1207291,(.own 207291 tyChange true)),(1,s0)])],[]⟩)]
noncomputable def F44H:FnH:=hN 116 Tryz.f116 (.tup (.own 207290 tyCommand true) s4) (.tup (.own 207290 tyCommand true) s4) [207290] [] [(0,⟨[(0,(.own 207289 tyCommand true)),(1,s0),(5,s0)],[(.exit 0,[(1207289,(.own 207289 tyCommand true)),(1,s0)])],[]⟩)]
noncomputable def F8iH:FnH:=hN 57 Tryz.f57 (.tup (.pair s0 (.pair s0 (.pair (.own 207288 tyNode true) (.own 207293 tyCommand true)))) s4) (.tup (.own 207288 tyNode true) (.tup (.own 207293 tyCommand true) s4)) [207288,207293] [] []
noncomputable def F3eH:FnH:=hN 28 Tryz.f28 (.tup (.own 207297 (.sl tyNode) true) s4) (.tup (.own 207297 (.sl tyNode) true) s4) [207297] [] [(0,⟨[(0,(.own 207296 (.sl tyNode) true)),(1,s0),(5,s0)],[(.exit 0,[(1207296,(.own 207296 (.sl tyNode) true)),(1,s0)])],[]⟩)]
noncomputable def F4pH:FnH:=hN 58 Tryz.f58 (.tup (.own 207300 tySaid true) s4) (.tup (.own 207300 tySaid true) s4) [207300] [] [(0,⟨[(0,(.own 207299 tySaid true)),(1,s0),(5,s0)],[(.exit 0,[(1207299,(.own 207299 tySaid true)),(1,s0)])],[]⟩)]
noncomputable def F7aH:FnH:=hN 18 Tryz.f18 (.tup (.pair (.pair s0 (.pair s0 (.pair (.own 207294 tyNode true) (.own 207295 tyCommand true)))) (.pair (.own 207298 (.sl tyNode) true) (.own 207301 tySaid true))) s4) (.tup (.own 207294 tyNode true) (.tup (.own 207295 tyCommand true) (.tup (.own 207298 (.sl tyNode) true) (.tup (.own 207301 tySaid true) s4)))) [207294,207295,207298,207301] [] []
noncomputable def F28H:FnH:=hN 20 Tryz.f20 (.tup (oI 207303) s4) (.tup (oI 207303) s4) [207303] [] [(0,⟨[(0,(oI 207302)),(1,s0),(5,s0)],[(.exit 0,[(1207302,(oI 207302)),(1,s0)])],[]⟩)]
noncomputable def F6rH:FnH:=hN 19 Tryz.f19 (.tup (.one (oI 207306)) s4) (.tup (oI 207306) s4) [207306] [] []
noncomputable def F73H:FnH:=hN 29 Tryz.f29 (.tup (.pair s0 (.pair (oI 207304) (.pair (oI 207305) (.pair s0 (.one (oI 207307)))))) s4) (.tup (oI 207304) (.tup (oI 207305) (.tup (oI 207307) s4))) [207304,207305,207307] [] []
noncomputable def F2aH:FnH:=hE 21 Tryz.f21 (.tup s1 s4) s4 [] [(0,⟨[(0,s1),(1,s0),(5,s0)],[(.ret,[(4,s0)]),(.exit 0,[(1,s0)])],[]⟩)]
noncomputable def F7wH:FnH:=hE 76 Tryz.f76 (.tup sh s4) s4 [] []
noncomputable def F5zH:FnH:=hE 30 Tryz.f30 (.tup (.v tyOutcome) s4) s4 [] []
noncomputable def FcjH:FnH:=hE 5 Tryz.f5 (.tup sk (.tup s6 s4)) s3 [] []
def extsL:List (Nat×ExtF):=[]
def tysL:List (Nat×Ty):=[(2,(.int .i64)),(3,(.int .i64)),(4,.bool),(22,(.sl tyNode)),(23,(.sl tyCommand)),(25,tyProgram),(26,(.sl (.sl tyNode))),(27,(.sl tySaid)),(29,tyQuestion),(30,(.sl (.int .i64))),(34,(.sl tyNode)),(35,(.sl tyCommand)),(37,tyProgram),(38,(.sl (.sl tyNode))),(39,(.sl tySaid)),(41,tyQuestion),(52,tySight),(61,tyOutcome),(83,(.sl (.int .u64))),(85,(.sl .bool)),(98,(.sl (.sl (.int .i64)))),(120,tySaid),(122,tySaid),(126,(.int .u64)),(152,tyNode),(154,tyNode),(162,(.sl tyChange)),(164,tyCommand),(166,(.int .u64)),(172,(.sl tyChange)),(174,tyCommand),(182,(.sl tyEdge)),(184,tyAuto),(189,tyEdge),(216,(.sl (.sl (.sl tyNode)))),(226,tyChange),(246,tyl11Walk),(260,tytarjan),(272,tyChange),(283,(.sl tySaid)),(284,tySaid)]
def nfsL:List (Nat×Nat):=[(25,4),(29,3),(37,4),(41,3),(52,1),(61,5),(120,2),(122,2),(152,2),(154,2),(164,2),(174,2),(184,4),(189,3),(226,2),(246,3),(260,6),(272,2)]
def cellsL:List Nat:=[]
def mtysL:List (Nat×(Nat×Nat)):=[(219,(3,3)),(299,(284,3))]
noncomputable def keysL:List (Nat×FnH):=[(59,FzH),(264,F1uH),(206,F4lH),(137,F1qH),(77,F43H),(31,F7gH),(22,F2vH),(32,F7cH),(6,F6wH),(125,F8H),(69,FeH),(269,F1jH),(212,F4rH),(146,F1iH),(87,F4kH),(39,F7dH),(24,F21H),(88,F1mH),(40,F4eH),(8,F5dH),(62,F2oH),(247,F69H),(207,F5hH),(208,F1aH),(280,F5nH),(248,F3sH),(194,F12H),(119,F5aH),(244,F2qH),(191,F4gH),(117,F7fH),(245,F65H),(246,F4uH),(192,F4fH),(141,F10H),(193,F1nH),(118,F8oH),(60,F4mH),(61,F4cH),(79,F5mH),(81,F2lH),(210,F33H),(289,F8uH),(265,F8kH),(266,F13H),(267,F23H),(268,F4sH),(209,F86H),(139,F56H),(80,F5lH),(35,F24H),(34,F2nH),(124,F19H),(67,F2hH),(121,F5wH),(120,F3kH),(63,F3uH),(225,F1xH),(224,FkH),(211,F1zH),(277,FtH),(226,F32H),(159,FqH),(104,F2pH),(105,F2iH),(86,F38H),(160,F79H),(140,F2wH),(143,F3xH),(142,F47H),(83,F2jH),(123,F1eH),(165,F2xH),(161,F7vH),(82,F58H),(162,F40H),(164,F4jH),(163,F1cH),(106,FaH),(166,FgH),(228,F2fH),(227,F1gH),(169,FhH),(170,F14H),(167,FdH),(168,FlH),(107,FoH),(108,F35H),(53,F6uH),(66,F37H),(65,F18H),(68,F2zH),(195,F48H),(122,F5H),(64,F1sH),(23,F34H),(249,F5jH),(250,F5uH),(282,F2yH),(94,F0H),(290,F5pH),(283,F8lH),(284,F8gH),(147,F45H),(90,F7nH),(255,F1hH),(256,F6yH),(199,F5iH),(130,F5bH),(253,F39H),(252,F8pH),(281,F3mH),(251,F8vH),(196,F4zH),(126,F5qH),(98,F5oH),(254,F6xH),(197,F3rH),(187,F51H),(233,F2kH),(219,F6bH),(220,F5vH),(189,FyH),(127,F89H),(129,F8bH),(198,F3nH),(128,F7kH),(70,F53H),(131,F8jH),(10132,F4oH),(10131,F7mH),(71,F4tH),(72,F6qH),(201,F7jH),(133,F1vH),(89,F52H),(44,F22H),(270,F70H),(271,F88H),(213,F66H),(214,F4wH),(215,FpH),(216,F1fH),(148,F5tH),(93,FxH),(285,F2dH),(257,F1tH),(171,F30H),(109,F7qH),(258,F3hH),(200,F85H),(132,F4hH),(173,F42H),(111,F15H),(115,F9H),(150,F25H),(43,F5fH),(97,F36H),(174,F6lH),(231,F3bH),(272,F8rH),(218,F3lH),(217,F4bH),(149,F27H),(238,F26H),(180,F3fH),(175,F4aH),(236,F55H),(232,FvH),(176,F2rH),(235,F6fH),(234,F2gH),(177,F17H),(178,F3gH),(181,F29H),(278,F7uH),(10182,F3dH),(237,F4xH),(179,F3jH),(112,FbH),(230,F8qH),(172,F54H),(110,F2bH),(239,FuH),(279,F3qH),(243,F11H),(184,F2eH),(240,F7H),(182,F20H),(241,F1lH),(242,F72H),(10196,F4qH),(183,FmH),(185,F16H),(188,F61H),(10200,F4iH),(186,F2tH),(113,F1dH),(114,F31H),(56,F1bH),(92,F6zH),(42,F1oH),(203,F60H),(95,F3cH),(286,F64H),(10211,F4dH),(10210,F2mH),(259,FfH),(288,F6sH),(287,F41H),(260,F4vH),(96,F5sH),(262,F4yH),(10220,FsH),(10219,F50H),(261,FwH),(10217,F4H),(10216,FrH),(10228,F74H),(10227,F3oH),(10226,F81H),(10225,F68H),(10224,F3wH),(10223,F2uH),(263,F7pH),(10229,F3vH),(202,F6H),(134,F3yH),(204,F78H),(205,F49H),(135,F7rH),(73,F3tH),(25,F5yH),(12,F2cH),(17,F76H),(26,F5rH),(136,FcH),(74,FiH),(276,F1pH),(223,F4nH),(158,F1kH),(101,F46H),(48,F87H),(27,F3aH),(102,F1rH),(49,F3pH),(11,F8xH),(75,FjH),(190,F3zH),(116,F44H),(57,F8iH),(28,F3eH),(58,F4pH),(18,F7aH),(20,F28H),(19,F6rH),(29,F73H),(21,F2aH),(76,F7wH),(30,F5zH),(5,FcjH)]
noncomputable def H:Hints:={extF:=fun f=>J13 extsL f,ty:=fun T=>J13 tysL T,nf:=fun T=>match J13 nfsL T with|some n=>n|none=>0,cell:=fun T=>hasN cellsL T,key:=fun k=>J13 keysL k,mty:=fun T=>J13 mtysL T}
abbrev DRN:=Bool×List (Bool×List DNode)
abbrev DRI:=Bool×List (Bool×List Int)
abbrev DLN:=Bool×List DNode
abbrev DLI:=Bool×List Int
abbrev DLB:=Bool×List Bool
noncomputable def Fz(a:DLN)(left_:Int):Option Int:=(inf H).call 59 (a,left_)
noncomputable def F1u(a:DChange)(left_:Int):Option Int:=(inf H).call 264 (a,left_)
noncomputable def F4l(a:Bool×List DChange)(left_:Int):Option Int:=(inf H).call 206 (a,left_)
theorem F4lK:H.key 206=some F4lH:=by kernel_rfl
noncomputable def Fb8(a:Bool×List DChange)(left_:Int)(i:Int):Option (Int ⊕ Int):=(inf H).loop 206 0 (Jc6 Tryz.f206 0) (a,(left_,i))
noncomputable def F1q(a:DCommand)(left_:Int):Option Int:=(inf H).call 137 (a,left_)
noncomputable def F43(a:Bool×List DCommand)(left_:Int):Option Int:=(inf H).call 77 (a,left_)
theorem F43K:H.key 77=some F43H:=by kernel_rfl
noncomputable def Fan(a:Bool×List DCommand)(left_:Int)(i:Int):Option (Int ⊕ Int):=(inf H).loop 77 0 (Jc6 Tryz.f77 0) (a,(left_,i))
noncomputable def F7g(a:DProgram)(left_:Int):Option Int:=(inf H).call 31 (a,left_)
noncomputable def F2v(a:DRN)(left_:Int):Option Int:=(inf H).call 22 (a,left_)
theorem F2vK:H.key 22=some F2vH:=by kernel_rfl
noncomputable def Faf(a:DRN)(left_:Int)(i:Int):Option (Int ⊕ Int):=(inf H).loop 22 0 (Jc6 Tryz.f22 0) (a,(left_,i))
noncomputable def F7c(a:Bool×List DSaid)(left_:Int):Option Int:=(inf H).call 32 (a,left_)
noncomputable def F6w(a:DQuestion)(left_:Int):Option Int:=(inf H).call 6 (a,left_)
noncomputable def F8(a:DNode):Option DNode:=(inf H).call 125 a
noncomputable def Fe(a:DLN):Option DLN:=(inf H).call 69 a
theorem FeK:H.key 69=some FeH:=by kernel_rfl
noncomputable def Fag(a:DLN)(out:DLN)(i:Int):Option DLN:=(inf H).loop 69 0 (Jc6 Tryz.f69 0) (a,(out,i))
noncomputable def F1j(a:DChange):Option DChange:=(inf H).call 269 a
noncomputable def F4r(a:Bool×List DChange):Option (Bool×List DChange):=(inf H).call 212 a
theorem F4rK:H.key 212=some F4rH:=by kernel_rfl
noncomputable def F9h(a:Bool×List DChange)(out:Bool×List DChange)(i:Int):Option (Bool×List DChange):=(inf H).loop 212 0 (Jc6 Tryz.f212 0) (a,(out,i))
noncomputable def F1i(a:DCommand):Option DCommand:=(inf H).call 146 a
noncomputable def F4k(a:Bool×List DCommand):Option (Bool×List DCommand):=(inf H).call 87 a
theorem F4kK:H.key 87=some F4kH:=by kernel_rfl
noncomputable def F9q(a:Bool×List DCommand)(out:Bool×List DCommand)(i:Int):Option (Bool×List DCommand):=(inf H).loop 87 0 (Jc6 Tryz.f87 0) (a,(out,i))
noncomputable def F7d(a:DProgram):Option DProgram:=(inf H).call 39 a
noncomputable def F21(a:DRN):Option DRN:=(inf H).call 24 a
theorem F21K:H.key 24=some F21H:=by kernel_rfl
noncomputable def Fcl(a:DRN)(out:DRN)(i:Int):Option DRN:=(inf H).loop 24 0 (Jc6 Tryz.f24 0) (a,(out,i))
noncomputable def F1m(a:DSaid):Option DSaid:=(inf H).call 88 a
noncomputable def F4e(a:Bool×List DSaid):Option (Bool×List DSaid):=(inf H).call 40 a
theorem F4eK:H.key 40=some F4eH:=by kernel_rfl
noncomputable def Fb0(a:Bool×List DSaid)(out:Bool×List DSaid)(i:Int):Option (Bool×List DSaid):=(inf H).loop 40 0 (Jc6 Tryz.f40 0) (a,(out,i))
noncomputable def F5d(a:DQuestion):Option (Int×Int×DLN×(Bool×List DCommand)×DRN×Bool×List DSaid):=(inf H).call 8 a
noncomputable def F2o(n:Int)(lo:Int)(hi:Int):Option Bool:=(inf H).call 62 (n,(lo,hi))
noncomputable def F69(wide:Int):Option Bool:=(inf H).call 247 wide
noncomputable def F5h(op:Int):Option DEdge:=(inf H).call 207 op
noncomputable def F1a(wide:Int)(a:Int):Option Int:=(inf H).call 208 (wide,a)
theorem F1aK:H.key 208=some F1aH:=by kernel_rfl
noncomputable def F95(wide:Int)(a:Int)(out:Int)(k_:Int):Option Int:=(inf H).loop 208 0 (Jc6 Tryz.f208 0) (wide,(a,(out,k_)))
noncomputable def F5n(wide:Int)(a:Int):Option Bool:=(inf H).call 280 (wide,a)
noncomputable def F3s(wide:Int)(vars:Int)(n:DNode):Option Bool:=(inf H).call 248 (wide,(vars,n))
noncomputable def F12(wide:Int)(vars:Int)(t:DLN):Option Int:=(inf H).call 194 (wide,(vars,t))
theorem F12K:H.key 194=some F12H:=by kernel_rfl
noncomputable def F9j(wide:Int)(vars:Int)(pile:DLI)(t27:DLN)(t28:Int)(t29:Int):Option (Int ⊕ DLI):=(inf H).loop 194 0 (Jc6 Tryz.f194 0) (wide,(vars,(pile,(t27,(t28,t29)))))
noncomputable def Fbn(wide:Int)(vars:Int)(pile:DLI)(many:Int)(part:Int)(own:Int)(t27:DLN)(t28:Int)(t29:Int):Option (Int ⊕ DLI):=(inf H).loop 194 2 (Jc6 Tryz.f194 2) (wide,(vars,(pile,(many,(part,(own,(t27,(t28,t29))))))))
noncomputable def F5a(p:DProgram)(t:DLN):Option Bool:=(inf H).call 119 (p,t)
noncomputable def F2q(p:DProgram)(c:DCommand):Option Bool:=(inf H).call 244 (p,c)
theorem F2qK:H.key 244=some F2qH:=by kernel_rfl
noncomputable def F7e(p:DProgram)(c:DCommand)(t21:Bool×List DChange)(t22:Int)(t23:Int):Option (Bool ⊕ Unit):=(inf H).loop 244 0 (Jc6 Tryz.f244 0) (p,(c,(t21,(t22,t23))))
noncomputable def F4g(p:DProgram):Option Bool:=(inf H).call 191 p
theorem F4gK:H.key 191=some F4gH:=by kernel_rfl
noncomputable def Fac(p:DProgram)(t18:Bool×List DCommand)(t19:Int)(t20:Int):Option (Bool ⊕ Unit):=(inf H).loop 191 0 (Jc6 Tryz.f191 0) (p,(t18,(t19,t20)))
noncomputable def F7f(p:DProgram):Option Bool:=(inf H).call 117 p
noncomputable def F65(op:Int):Option Int:=(inf H).call 245 op
noncomputable def F4u(n:DSaid):Option Bool:=(inf H).call 246 n
noncomputable def F4f(f:Bool×List DSaid):Option Bool:=(inf H).call 192 f
theorem F4fK:H.key 192=some F4fH:=by kernel_rfl
noncomputable def F9o(pile:Int)(t11:Bool×List DSaid)(t12:Int)(t13:Int):Option (Bool ⊕ Int):=(inf H).loop 192 0 (Jc6 Tryz.f192 0) (pile,(t11,(t12,t13)))
noncomputable def F10(l:DLI)(n:Int):Option DLI:=(inf H).call 141 (l,n)
theorem F10K:H.key 141=some F10H:=by kernel_rfl
noncomputable def Faq(l:DLI)(n:Int)(k_:Int):Option Int:=(inf H).loop 141 0 (Jc6 Tryz.f141 0) (l,(n,k_))
noncomputable def F1n(f:Bool×List DSaid):Option DLI:=(inf H).call 193 f
theorem F1nK:H.key 193=some F1nH:=by kernel_rfl
noncomputable def F59(out:DLI)(t10:Bool×List DSaid)(t11:Int)(t12:Int):Option DLI:=(inf H).loop 193 0 (Jc6 Tryz.f193 0) (out,(t10,(t11,t12)))
noncomputable def F8o(f:Bool×List DSaid):Option Bool:=(inf H).call 118 f
noncomputable def F4m(q:DQuestion):Option Bool:=(inf H).call 60 q
theorem F4mK:H.key 60=some F4mH:=by kernel_rfl
noncomputable def Fbr(q:DQuestion)(t22:DRN)(t23:Int)(t24:Int):Option (Bool ⊕ Unit):=(inf H).loop 60 0 (Jc6 Tryz.f60 0) (q,(t22,(t23,t24)))
noncomputable def F4c(p:DProgram)(preds:DRN):Option Bool:=(inf H).call 61 (p,preds)
theorem F4cK:H.key 61=some F4cH:=by kernel_rfl
noncomputable def F9e(p:DProgram)(t10:DRN)(t11:Int)(t12:Int):Option (Bool ⊕ Unit):=(inf H).loop 61 0 (Jc6 Tryz.f61 0) (p,(t10,(t11,t12)))
noncomputable def F5m(p:DProgram):Option Int:=(inf H).call 79 p
noncomputable def F2l(p:DProgram)(no:Int):Option DLI:=(inf H).call 81 (p,no)
theorem F2lK:H.key 81=some F2lH:=by kernel_rfl
noncomputable def Fb1(no:Int)(p:DProgram)(out:DLI)(v:Int):Option DLI:=(inf H).loop 81 0 (Jc6 Tryz.f81 0) (no,(p,(out,v)))
noncomputable def F33(t:DLN)(k_:Int):Option Int:=(inf H).call 210 (t,k_)
theorem F33K:H.key 210=some F33H:=by kernel_rfl
noncomputable def Fa3(t:DLN)(many:Int)(from_:Int):Option Int:=(inf H).loop 210 0 (Jc6 Tryz.f210 0) (t,(many,from_))
noncomputable def F8u(wide:Int)(a:Int)(b:Int):Option Bool:=(inf H).call 289 (wide,(a,b))
noncomputable def F8k(wide:Int)(a:Int)(b:Int):Option (Int×Int×Bool):=(inf H).call 265 (wide,(a,b))
noncomputable def F13(wide:Int)(a:Int)(by_:Int)(left_:Bool):Option Int:=(inf H).call 266 (wide,(a,(by_,left_)))
theorem F13K:H.key 266=some F13H:=by kernel_rfl
noncomputable def F6v(wide:Int)(a:Int)(by_:Int)(left_:Bool):Option Int:=(inf H).loop 266 0 (Jc6 Tryz.f266 0) (wide,(a,(by_,left_)))
noncomputable def F23(is:Bool):Option Int:=(inf H).call 267 is
noncomputable def F4s(wide:Int)(a:Int):Option Int:=(inf H).call 268 (wide,a)
noncomputable def F86(wide:Int)(op:Int)(a:Int)(b:Int):Option Int:=(inf H).call 209 (wide,(op,(a,b)))
noncomputable def F56(wide:Int)(t:DLN)(k_:Int)(state:DLI):Option Int:=(inf H).call 139 (wide,(t,(k_,state)))
noncomputable def F5l(p:DProgram)(t:DLN)(s:DLI):Option Bool:=(inf H).call 80 (p,(t,s))
noncomputable def F24(p:DProgram)(t:DLN):Option DLI:=(inf H).call 35 (p,t)
theorem F24K:H.key 35=some F24H:=by kernel_rfl
noncomputable def F83(t:DLN)(p:DProgram)(out:DLI)(no:Int):Option DLI:=(inf H).loop 35 0 (Jc6 Tryz.f35 0) (t,(p,(out,no)))
noncomputable def F2n(l:DLI)(n:Int):Option Bool:=(inf H).call 34 (l,n)
theorem F2nK:H.key 34=some F2nH:=by kernel_rfl
noncomputable def Fa5(n:Int)(t7:DLI)(t8:Int)(t9:Int):Option (Bool ⊕ Unit):=(inf H).loop 34 0 (Jc6 Tryz.f34 0) (n,(t7,(t8,t9)))
noncomputable def F19(keys:DLI):Option DLI:=(inf H).call 124 keys
theorem F19K:H.key 124=some F19H:=by kernel_rfl
noncomputable def F77(keys:DLI)(t2:DSight)(out:DLI)(many:Int)(t9:DLI)(t10:Int)(t11:Int):Option DLI:=(inf H).loop 124 0 (Jc6 Tryz.f124 0) (keys,(t2,(out,(many,(t9,(t10,t11))))))
noncomputable def F9z(keys:DLI)(t2:DSight)(out:DSight)(many:Int)(i:Int)(key:Int)(class_:Int)(j:Int)(t9:DLI)(t10:Int)(t11:Int):Option Int:=(inf H).loop 124 2 (Jc6 Tryz.f124 2) (keys,(t2,(out,(many,(i,(key,(class_,(j,(t9,(t10,t11))))))))))
noncomputable def F2h(v:DSight)(some_:DLI):Option DLI:=(inf H).call 67 (v,some_)
theorem F2hK:H.key 67=some F2hH:=by kernel_rfl
noncomputable def F6e(some_:DLI)(t4:DSight)(keys:DLI)(t9:DLI)(t10:Int)(t11:Int):Option DLI:=(inf H).loop 67 0 (Jc6 Tryz.f67 0) (some_,(t4,(keys,(t9,(t10,t11)))))
noncomputable def F5w(p:DProgram)(v:DSight)(t:DLN):Option DLI:=(inf H).call 121 (p,(v,t))
noncomputable def F3k(p:DProgram)(preds:DRN):Option DLI:=(inf H).call 120 (p,preds)
theorem F3kK:H.key 120=some F3kH:=by kernel_rfl
noncomputable def F9d(p:DProgram)(t4:DSight)(v:DLI)(t12:DRN)(t13:Int)(t14:Int):Option DLI:=(inf H).loop 120 0 (Jc6 Tryz.f120 0) (p,(t4,(v,(t12,(t13,t14)))))
noncomputable def F3u(q:DQuestion)(preds:DRN):Option DLI:=(inf H).call 63 (q,preds)
theorem F3uK:H.key 63=some F3uH:=by kernel_rfl
noncomputable def Fcb(q:DQuestion)(t4:DSight)(v:DLI)(t13:DRN)(t14:Int)(t15:Int):Option DLI:=(inf H).loop 63 0 (Jc6 Tryz.f63 0) (q,(t4,(v,(t13,(t14,t15)))))
noncomputable def F1x(Q3:DLI)(guess:Int)(node:Int):Option Bool:=(inf H).call 225 (Q3,(guess,node))
theorem F1xK:H.key 225=some F1xH:=by kernel_rfl
noncomputable def Fat(guess:Int)(node:Int)(t9:DLI)(t10:Int)(t11:Int):Option (Bool ⊕ Unit):=(inf H).loop 225 0 (Jc6 Tryz.f225 0) (guess,(node,(t9,(t10,t11))))
noncomputable def Fk(f:Bool×List DSaid)(Q3:DLI):Option DRI:=(inf H).call 224 (f,Q3)
theorem FkK:H.key 224=some FkH:=by kernel_rfl
noncomputable def F5x(Q3:DLI)(out:DRI)(t12:Bool×List DSaid)(t13:Int)(t14:Int):Option DRI:=(inf H).loop 224 0 (Jc6 Tryz.f224 0) (Q3,(out,(t12,(t13,t14))))
noncomputable def F2s(Q3:DLI)(out:DRI)(i:Int)(n:DSaid)(goal:DLI)(guess:Int)(t12:Bool×List DSaid)(t13:Int)(t14:Int):Option DLI:=(inf H).loop 224 2 (Jc6 Tryz.f224 2) (Q3,(out,(i,(n,(goal,(guess,(t12,(t13,t14))))))))
noncomputable def F1z(f:Bool×List DSaid)(k_:Int):Option Int:=(inf H).call 211 (f,k_)
theorem F1zK:H.key 211=some F1zH:=by kernel_rfl
noncomputable def Fao(f:Bool×List DSaid)(from_:Int)(many:Int):Option Int:=(inf H).loop 211 0 (Jc6 Tryz.f211 0) (f,(from_,many))
noncomputable def Ft(f:Bool×List DSaid)(Q3:DLI)(letter:Int)(next:Int):Option DLB:=(inf H).call 277 (f,(Q3,(letter,next)))
theorem FtK:H.key 277=some FtH:=by kernel_rfl
noncomputable def F1w(f:Bool×List DSaid)(Q3:DLI)(letter:Int)(next:Int)(out:DLB)(t13:Bool×List DSaid)(t14:Int)(t15:Int):Option DLB:=(inf H).loop 277 0 (Jc6 Tryz.f277 0) (f,(Q3,(letter,(next,(out,(t13,(t14,t15)))))))
noncomputable def F32(f:Bool×List DSaid)(Q3:DLI)(letter:Int)(next:Int):Option Int:=(inf H).call 226 (f,(Q3,(letter,next)))
theorem F32K:H.key 226=some F32H:=by kernel_rfl
noncomputable def F6k(now:DLB)(guess:Int)(t18:DLI)(t19:Int)(t20:Int):Option Int:=(inf H).loop 226 0 (Jc6 Tryz.f226 0) (now,(guess,(t18,(t19,t20))))
noncomputable def Fq(f:Bool×List DSaid)(not:Bool):Option DAuto:=(inf H).call 159 (f,not)
theorem FqK:H.key 159=some FqH:=by kernel_rfl
noncomputable def F6c(f:Bool×List DSaid)(not:Bool)(t4:DAuto)(Q3:DLI)(many:Int)(out_0:Int)(out_1:DLI)(out_2:Bool×List DEdge)(out_3:DRI)(guess:Int):Option DAuto:=(inf H).loop 159 0 (Jc6 Tryz.f159 0) (f,(not,(t4,(Q3,(many,(out_0,(out_1,(out_2,(out_3,guess)))))))))
noncomputable def F7z(f:Bool×List DSaid)(not:Bool)(t4:DAuto)(Q3:DLI)(many:Int)(out_0:Int)(out_1:DLI)(out_2:Bool×List DEdge)(out_3:DRI)(guess:Int)(letter:Int):Option DAuto:=(inf H).loop 159 2 (Jc6 Tryz.f159 2) (f,(not,(t4,(Q3,(many,(out_0,(out_1,(out_2,(out_3,(guess,letter))))))))))
noncomputable def F6n(f:Bool×List DSaid)(not:Bool)(t4:DAuto)(Q3:DLI)(many:Int)(out_0:Int)(out_1:DLI)(out_2:Bool×List DEdge)(out_3:DRI)(guess:Int)(letter:Int)(next:Int):Option DAuto:=(inf H).loop 159 4 (Jc6 Tryz.f159 4) (f,(not,(t4,(Q3,(many,(out_0,(out_1,(out_2,(out_3,(guess,(letter,next)))))))))))
noncomputable def F2p(v:DSight):Option Int:=(inf H).call 104 v
theorem F2pK:H.key 104=some F2pH:=by kernel_rfl
noncomputable def F8c(many:Int)(t7:DLI)(t8:Int)(t9:Int):Option Int:=(inf H).loop 104 0 (Jc6 Tryz.f104 0) (many,(t7,(t8,t9)))
noncomputable def F2i(v:DSight)(class_:Int):Option DLI:=(inf H).call 105 (v,class_)
theorem F2iK:H.key 105=some F2iH:=by kernel_rfl
noncomputable def F7b(class_:Int)(out:DLI)(t9:DLI)(t10:Int)(t11:Int):Option DLI:=(inf H).loop 105 0 (Jc6 Tryz.f105 0) (class_,(out,(t9,(t10,t11))))
noncomputable def F38(q:DQuestion)(no:Int):Option Int:=(inf H).call 86 (q,no)
theorem F38K:H.key 86=some F38H:=by kernel_rfl
noncomputable def F6g(no:Int)(q:DQuestion)(out:Int)(t9:DRN)(t10:Int)(t11:Int):Option Int:=(inf H).loop 86 0 (Jc6 Tryz.f86 0) (no,(q,(out,(t9,(t10,t11)))))
noncomputable def F79(q:DQuestion)(v:DSight)(class_:Int):Option Int:=(inf H).call 160 (q,(v,class_))
noncomputable def F2w(p:DProgram)(s:DLI):Option DLI:=(inf H).call 140 (p,s)
theorem F2wK:H.key 140=some F2wH:=by kernel_rfl
noncomputable def F8a(s:DLI)(p:DProgram)(out:DLI)(t9:Bool×List DCommand)(t10:Int)(t11:Int):Option DLI:=(inf H).loop 140 0 (Jc6 Tryz.f140 0) (s,(p,(out,(t9,(t10,t11)))))
noncomputable def F3x(p:DProgram)(s:DLI)(k_:Int):Option DLI:=(inf H).call 143 (p,(s,k_))
theorem F3xK:H.key 143=some F3xH:=by kernel_rfl
noncomputable def Faw(s:DLI)(p:DProgram)(out:DLI)(t18:Bool×List DChange)(t19:Int)(t20:Int):Option DLI:=(inf H).loop 143 0 (Jc6 Tryz.f143 0) (s,(p,(out,(t18,(t19,t20)))))
noncomputable def F47(p:DProgram)(s:DLI):Option Int:=(inf H).call 142 (p,s)
theorem F47K:H.key 142=some F47H:=by kernel_rfl
noncomputable def Faa(s:DLI)(p:DProgram)(n:Int)(v:Int):Option Int:=(inf H).loop 142 0 (Jc6 Tryz.f142 0) (s,(p,(n,v)))
noncomputable def F2j(p:DProgram)(no:Int):Option DLI:=(inf H).call 83 (p,no)
theorem F2jK:H.key 83=some F2jH:=by kernel_rfl
noncomputable def Fck(no:Int)(p:DProgram)(s:DLI)(out:DLI)(t14:DLI)(t15:Int)(t16:Int):Option DLI:=(inf H).loop 83 0 (Jc6 Tryz.f83 0) (no,(p,(s,(out,(t14,(t15,t16))))))
noncomputable def F1e(p:DProgram)(some_:DLI):Option DLI:=(inf H).call 123 (p,some_)
theorem F1eK:H.key 123=some F1eH:=by kernel_rfl
noncomputable def Fa8(p:DProgram)(out:DLI)(t10:DLI)(t11:Int)(t12:Int):Option DLI:=(inf H).loop 123 0 (Jc6 Tryz.f123 0) (p,(out,(t10,(t11,t12))))
noncomputable def F9f(p:DProgram)(out:DLI)(t10:DLI)(t11:Int)(t12:Int)(t18:DLI)(t19:Int)(t20:Int):Option DLI:=(inf H).loop 123 2 (Jc6 Tryz.f123 2) (p,(out,(t10,(t11,(t12,(t18,(t19,t20)))))))
noncomputable def F2x(v:DSight)(states:DLI):Option DLI:=(inf H).call 165 (v,states)
theorem F2xK:H.key 165=some F2xH:=by kernel_rfl
noncomputable def Fbw(v:DSight)(out:DLI)(t8:DLI)(t9:Int)(t10:Int):Option DLI:=(inf H).loop 165 0 (Jc6 Tryz.f165 0) (v,(out,(t8,(t9,t10))))
noncomputable def F7v(p:DProgram)(v:DSight)(class_:Int):Option DLI:=(inf H).call 161 (p,(v,class_))
noncomputable def F58(l:DLI):Option DLI:=(inf H).call 82 l
noncomputable def F40(a:DLI)(b:DLI):Option DLI:=(inf H).call 162 (a,b)
theorem F40K:H.key 162=some F40H:=by kernel_rfl
noncomputable def Fcq(out:DLI)(t10:DLI)(t11:Int)(t12:Int):Option DLI:=(inf H).loop 162 0 (Jc6 Tryz.f162 0) (out,(t10,(t11,t12)))
noncomputable def F4j(n:Int):Option DLI:=(inf H).call 164 n
theorem F4jK:H.key 164=some F4jH:=by kernel_rfl
noncomputable def Fba(n:Int)(out:DLI)(k_:Int):Option DLI:=(inf H).loop 164 0 (Jc6 Tryz.f164 0) (n,(out,k_))
noncomputable def F1c(a:DLI)(b:DLI)(many:Int):Option DLI:=(inf H).call 163 (a,(b,many))
theorem F1cK:H.key 163=some F1cH:=by kernel_rfl
noncomputable def Fb4(b:DLI)(many:Int)(out:DLI)(t12:DLI)(t13:Int)(t14:Int):Option DLI:=(inf H).loop 163 0 (Jc6 Tryz.f163 0) (b,(many,(out,(t12,(t13,t14)))))
noncomputable def Fa4(b:DLI)(many:Int)(out:DLI)(i:Int)(t12:DLI)(t13:Int)(t14:Int)(t18:DLI)(t19:Int)(t20:Int):Option DLI:=(inf H).loop 163 2 (Jc6 Tryz.f163 2) (b,(many,(out,(i,(t12,(t13,(t14,(t18,(t19,t20)))))))))
noncomputable def Fa(q:DQuestion)(v:DSight):Option (DRI×DLI×DRI):=(inf H).call 106 (q,v)
theorem FaK:H.key 106=some FaH:=by kernel_rfl
noncomputable def Fbf(q:DQuestion)(v:DSight)(a:DAuto)(many:Int)(next:DRI)(k_:Int):Option DRI:=(inf H).loop 106 0 (Jc6 Tryz.f106 0) (q,(v,(a,(many,(next,k_)))))
noncomputable def F7h(q:DQuestion)(v:DSight)(a:DAuto)(many:Int)(next:DRI)(k_:Int)(letter:Int)(after:DLI)(t47:Bool×List DEdge)(t48:Int)(t49:Int):Option DRI:=(inf H).loop 106 2 (Jc6 Tryz.f106 2) (q,(v,(a,(many,(next,(k_,(letter,(after,(t47,(t48,t49))))))))))
noncomputable def Fa1(q:DQuestion)(v:DSight)(a:DAuto)(many:Int)(next:DRI)(k_:Int)(letter:Int)(after:DLI)(e:DEdge)(t47:Bool×List DEdge)(t48:Int)(t49:Int)(t57:DLI)(t58:Int)(t59:Int):Option DRI:=(inf H).loop 106 4 (Jc6 Tryz.f106 4) (q,(v,(a,(many,(next,(k_,(letter,(after,(e,(t47,(t48,(t49,(t57,(t58,t59))))))))))))))
noncomputable def Fc6(q:DQuestion)(v:DSight)(many:Int)(next:DRI)(t94:Int)(t95:Int):Option DRI:=(inf H).loop 106 6 (Jc6 Tryz.f106 6) (q,(v,(many,(next,(t94,t95)))))
noncomputable def F8z(q:DQuestion)(v:DSight)(a:DAuto)(many:Int)(next:DRI)(goals:DRI)(t108:DRI)(t109:Int)(t110:Int):Option DRI:=(inf H).loop 106 8 (Jc6 Tryz.f106 8) (q,(v,(a,(many,(next,(goals,(t108,(t109,t110))))))))
noncomputable def Fg(next:DRI)(from_:DLI):Option DLI:=(inf H).call 166 (next,from_)
theorem FgK:H.key 166=some FgH:=by kernel_rfl
noncomputable def Fbz(next:DRI)(from_:DLI)(out:DLI)(t17:Int)(t18:Int):Option DLI:=(inf H).loop 166 0 (Jc6 Tryz.f166 0) (next,(from_,(out,(t17,t18))))
noncomputable def Fcc(next:DRI)(from_:DLI)(out:DLI)(t25:DLI)(t26:Int)(t27:Int):Option DLI:=(inf H).loop 166 2 (Jc6 Tryz.f166 2) (next,(from_,(out,(t25,(t26,t27)))))
noncomputable def Fbx(next:DRI)(out:DLI)(row_:DLI):Option DLI:=(inf H).loop 166 4 (Jc6 Tryz.f166 4) (next,(out,row_))
noncomputable def F7s(next:DRI)(out:DLI)(row_:DLI)(k_:Int)(t48:DLI)(t49:Int)(t50:Int):Option DLasso:=(inf H).loop 166 6 (Jc6 Tryz.f166 6) (next,(out,(row_,(k_,(t48,(t49,t50))))))
noncomputable def F2f(a0_0:DRI)(a0_1:DLB)(a0_2:DLI)(k_:Int):Option Dl11Walk:=(inf H).call 228 (a0_0,(a0_1,(a0_2,k_)))
theorem F2fK:H.key 228=some F2fH:=by kernel_rfl
noncomputable def F9l(w_0:DRI)(w_1:DLB)(w_2:DLI)(k_:Int)(t25:DLI)(t26:Int)(t27:Int):Option Dl11Walk:=(inf H).loop 228 0 (Jc6 Tryz.f228 0) (w_0,(w_1,(w_2,(k_,(t25,(t26,t27))))))
noncomputable def F1g(next:DRI):Option DRI:=(inf H).call 227 next
theorem F1gK:H.key 227=some F1gH:=by kernel_rfl
noncomputable def F9u(out:DRI)(t11:DRI)(t12:Int)(t13:Int):Option DRI:=(inf H).loop 227 0 (Jc6 Tryz.f227 0) (out,(t11,(t12,t13)))
noncomputable def F99(out:DRI)(k_:Int)(t11:DRI)(t12:Int)(t13:Int)(t18:DLI)(t19:Int)(t20:Int):Option DRI:=(inf H).loop 227 2 (Jc6 Tryz.f227 2) (out,(k_,(t11,(t12,(t13,(t18,(t19,t20)))))))
noncomputable def Fh(next:DRI):Option DLI:=(inf H).call 169 next
theorem FhK:H.key 169=some FhH:=by kernel_rfl
noncomputable def Fcg(next:DRI)(w_0:DRI)(w_1:DLB)(w_2:DLI)(t20:Int)(t21:Int):Option Dl11Walk:=(inf H).loop 169 0 (Jc6 Tryz.f169 0) (next,(w_0,(w_1,(w_2,(t20,t21)))))
noncomputable def Fb7(next:DRI)(w:Dl11Walk)(back_0:DRI)(back_1:DLB)(back_2:DLI)(out:DLI)(i:Int):Option (DLI×Dl11Walk):=(inf H).loop 169 2 (Jc6 Tryz.f169 2) (next,(w,(back_0,(back_1,(back_2,(out,i))))))
noncomputable def F6t(next:DRI)(w:Dl11Walk)(back:Dl11Walk)(out:DLI)(i:Int)(least:Int)(t65:DLI)(t66:Int)(t67:Int):Option Int:=(inf H).loop 169 4 (Jc6 Tryz.f169 4) (next,(w,(back,(out,(i,(least,(t65,(t66,t67))))))))
noncomputable def Fae(next:DRI)(w:Dl11Walk)(back:Dl11Walk)(out:DLI)(i:Int)(least:Int)(t79:DLI)(t80:Int)(t81:Int):Option DLI:=(inf H).loop 169 6 (Jc6 Tryz.f169 6) (next,(w,(back,(out,(i,(least,(t79,(t80,t81))))))))
noncomputable def F14(next:DRI)(parts_:DLI):Option DRI:=(inf H).call 170 (next,parts_)
theorem F14K:H.key 170=some F14H:=by kernel_rfl
noncomputable def Fc7(parts_:DLI)(out:DRI)(t13:DRI)(t14:Int)(t15:Int):Option DRI:=(inf H).loop 170 0 (Jc6 Tryz.f170 0) (parts_,(out,(t13,(t14,t15))))
noncomputable def F6j(parts_:DLI)(out:DRI)(k_:Int)(t13:DRI)(t14:Int)(t15:Int)(t20:DLI)(t21:Int)(t22:Int):Option DRI:=(inf H).loop 170 2 (Jc6 Tryz.f170 2) (parts_,(out,(k_,(t13,(t14,(t15,(t20,(t21,t22))))))))
noncomputable def Fd(next:DRI)(goals:DRI):Option DLI:=(inf H).call 167 (next,goals)
theorem FdK:H.key 167=some FdH:=by kernel_rfl
noncomputable def F80(next:DRI)(goals:DRI)(parts_:DLI)(arrow:DLB)(met:DLI)(t28:DRI)(t29:Int)(t30:Int):Option DLB:=(inf H).loop 167 0 (Jc6 Tryz.f167 0) (next,(goals,(parts_,(arrow,(met,(t28,(t29,t30)))))))
noncomputable def Fb3(next:DRI)(goals:DRI)(parts_:DLI)(arrow:DLB)(met:DLI)(t54:DRI)(t55:Int)(t56:Int):Option DLI:=(inf H).loop 167 2 (Jc6 Tryz.f167 2) (next,(goals,(parts_,(arrow,(met,(t54,(t55,t56)))))))
noncomputable def F6h(next:DRI)(goals:DRI)(parts_:DLI)(arrow:DLB)(met:DLI)(j:Int)(t54:DRI)(t55:Int)(t56:Int)(t61:DLI)(t62:Int)(t63:Int):Option DLI:=(inf H).loop 167 4 (Jc6 Tryz.f167 4) (next,(goals,(parts_,(arrow,(met,(j,(t54,(t55,(t56,(t61,(t62,t63)))))))))))
noncomputable def F67(goals:DRI)(parts_:DLI)(arrow:DLB)(met:DLI)(out:DLI)(t87:Int)(t88:Int):Option DLI:=(inf H).loop 167 6 (Jc6 Tryz.f167 6) (goals,(parts_,(arrow,(met,(out,(t87,t88))))))
noncomputable def Fl(next:DRI)(from_:DLI)(to:DLI):Option (DLI×Bool):=(inf H).call 168 (next,(from_,to))
theorem FlK:H.key 168=some FlH:=by kernel_rfl
noncomputable def F5k(next:DRI)(far:DLI)(best:Int)(t19:DLI)(t20:Int)(t21:Int):Option Int:=(inf H).loop 168 0 (Jc6 Tryz.f168 0) (next,(far,(best,(t19,(t20,t21)))))
noncomputable def Fbd(next:DRI)(far:DLI)(best:Int)(out:DLI):Option DLI:=(inf H).loop 168 2 (Jc6 Tryz.f168 2) (next,(far,(best,out)))
noncomputable def F9i(next:DRI)(far:DLI)(best:Int)(out:DLI)(t59:DLI)(t60:Int)(t61:Int):Option Int:=(inf H).loop 168 4 (Jc6 Tryz.f168 4) (next,(far,(best,(out,(t59,(t60,t61))))))
noncomputable def Fo(next:DRI)(from_:DLI)(goals:DRI):Option (DLI×DLI×Bool):=(inf H).call 107 (next,(from_,goals))
theorem FoK:H.key 107=some FoH:=by kernel_rfl
noncomputable def F5e(next:DRI)(from_:DLI)(goals:DRI)(far:DLI)(meet:Int)(t32:DLI)(t33:Int)(t34:Int):Option Int:=(inf H).loop 107 0 (Jc6 Tryz.f107 0) (next,(from_,(goals,(far,(meet,(t32,(t33,t34)))))))
noncomputable def Fai(meet:Int)(stem:DLI)(parts_:DLI)(inner:DRI)(loop:DLI)(t77:DRI)(t78:Int)(t79:Int):Option DLI:=(inf H).loop 107 2 (Jc6 Tryz.f107 2) (meet,(stem,(parts_,(inner,(loop,(t77,(t78,t79)))))))
noncomputable def F82(meet:Int)(stem:DLI)(parts_:DLI)(inner:DRI)(loop:DLI)(in_:DLI)(t77:DRI)(t78:Int)(t79:Int)(t83:DLI)(t84:Int)(t85:Int):Option DLI:=(inf H).loop 107 4 (Jc6 Tryz.f107 4) (meet,(stem,(parts_,(inner,(loop,(in_,(t77,(t78,(t79,(t83,(t84,t85)))))))))))
noncomputable def F35(l:DLI)(many:Int):Option DLI:=(inf H).call 108 (l,many)
theorem F35K:H.key 108=some F35H:=by kernel_rfl
noncomputable def Fav(many:Int)(out:DLI)(t8:DLI)(t9:Int)(t10:Int):Option DLI:=(inf H).loop 108 0 (Jc6 Tryz.f108 0) (many,(out,(t8,(t9,t10))))
noncomputable def F6u(q:DQuestion)(v:DSight):Option (DLI×DLI×Bool):=(inf H).call 53 (q,v)
noncomputable def F37(p:DProgram)(stem:DLI)(loop:DLI):Option DLI:=(inf H).call 66 (p,(stem,loop))
theorem F37K:H.key 66=some F37H:=by kernel_rfl
noncomputable def F9k(loop:DLI)(p:DProgram)(out:DLI)(n:Int):Option DLI:=(inf H).loop 66 0 (Jc6 Tryz.f66 0) (loop,(p,(out,n)))
noncomputable def F18(p:DProgram)(v:DSight)(path:DLI):Option DRI:=(inf H).call 65 (p,(v,path))
theorem F18K:H.key 65=some F18H:=by kernel_rfl
noncomputable def F9b(p:DProgram)(v:DSight)(out:DRI)(some_:DLI)(t18:DLI)(t19:Int)(t20:Int):Option DRI:=(inf H).loop 65 0 (Jc6 Tryz.f65 0) (p,(v,(out,(some_,(t18,(t19,t20))))))
noncomputable def F6i(p:DProgram)(v:DSight)(out:DRI)(class_:Int)(in_:DLI)(t18:DLI)(t19:Int)(t20:Int)(t24:DLI)(t25:Int)(t26:Int):Option DLI:=(inf H).loop 65 2 (Jc6 Tryz.f65 2) (p,(v,(out,(class_,(in_,(t18,(t19,(t20,(t24,(t25,t26))))))))))
noncomputable def F2z(along:DRI):Option Int:=(inf H).call 68 along
theorem F2zK:H.key 68=some F2zH:=by kernel_rfl
noncomputable def Fby(t5:DRI)(t6:Int)(t7:Int):Option (Int ⊕ Unit):=(inf H).loop 68 0 (Jc6 Tryz.f68 0) (t5,(t6,t7))
noncomputable def F48(a:DLI)(b:DLI):Option Bool:=(inf H).call 195 (a,b)
theorem F48K:H.key 195=some F48H:=by kernel_rfl
noncomputable def Fci(b:DLI)(t7:DLI)(t8:Int)(t9:Int):Option (Bool ⊕ Unit):=(inf H).loop 195 0 (Jc6 Tryz.f195 0) (b,(t7,(t8,t9)))
noncomputable def F5(p:DProgram)(along:DRI):Option DLI:=(inf H).call 122 (p,along)
theorem F5K:H.key 122=some F5H:=by kernel_rfl
noncomputable def Fbg(along:DRI)(p:DProgram)(can:DRI)(k_:Int):Option DRI:=(inf H).loop 122 0 (Jc6 Tryz.f122 0) (along,(p,(can,k_)))
noncomputable def F6m(along:DRI)(p:DProgram)(can:DRI)(k_:Int)(in_:DLI)(t27:DLI)(t28:Int)(t29:Int):Option DLI:=(inf H).loop 122 2 (Jc6 Tryz.f122 2) (along,(p,(can,(k_,(in_,(t27,(t28,t29)))))))
noncomputable def F9p(p:DProgram)(can:DRI)(out:DLI)(k_:Int):Option DLI:=(inf H).loop 122 4 (Jc6 Tryz.f122 4) (p,(can,(out,k_)))
noncomputable def Fb5(p:DProgram)(can:DRI)(out:DLI)(k_:Int)(t69:DLI)(t70:Int)(t71:Int):Option DLI:=(inf H).loop 122 6 (Jc6 Tryz.f122 6) (p,(can,(out,(k_,(t69,(t70,t71))))))
noncomputable def F1s(p:DProgram)(v:DSight)(stem:DLI)(loop:DLI):Option (DLI×DLI×Bool):=(inf H).call 64 (p,(v,(stem,loop)))
theorem F1sK:H.key 64=some F1sH:=by kernel_rfl
noncomputable def Fam(stem:DLI)(loop:DLI)(path:DLI)(second:Int):Option ((DLI×DLI×Bool) ⊕ Unit):=(inf H).loop 64 0 (Jc6 Tryz.f64 0) (stem,(loop,(path,second)))
noncomputable def Fch(stem:DLI)(loop:DLI)(path:DLI)(second:Int)(first:Int):Option ((DLI×DLI×Bool) ⊕ Unit):=(inf H).loop 64 2 (Jc6 Tryz.f64 2) (stem,(loop,(path,(second,first))))
noncomputable def F34(q:DQuestion)(preds:DRN)(budget:Int):Option (Int×DLI×DLI×Int×DLI×Bool):=(inf H).call 23 (q,(preds,budget))
theorem F34K:H.key 23=some F34H:=by kernel_rfl
noncomputable def F8e(budget:Int)(q:DQuestion)(t6:DOutcome)(v:DLI)(rounds:Int):Option ((Int×DLI×DLI×Int×DLI×Bool) ⊕ (DOutcome×DLI)):=(inf H).loop 23 0 (Jc6 Tryz.f23 0) (budget,(q,(t6,(v,rounds))))
noncomputable def F5j(n:Int):Option Bool:=(inf H).call 249 n
noncomputable def F5u(n:Int):Option Bool:=(inf H).call 250 n
noncomputable def F2y(op:Int):Option DEdge:=(inf H).call 282 op
noncomputable def F0(wide:Int):Option Int:=(inf H).call 94 wide
noncomputable def F5p(wide:Int)(a:Int):Option Bool:=(inf H).call 290 (wide,a)
noncomputable def F8l(wide:Int)(vars:Int)(x:DNode):Option Bool:=(inf H).call 283 (wide,(vars,x))
noncomputable def F8g(own:Int)(a1:Int):Option Bool:=(inf H).call 284 (own,a1)
noncomputable def F45(s:DLI)(f:Int×Unit):Option Int:=(inf H).call 147 (s,f)
theorem F45K:H.key 147=some F45H:=by kernel_rfl
noncomputable def Fal(s:DLI)(f:Int×Unit)(t7:Int)(t8:Int):Option (Int ⊕ Unit):=(inf H).loop 147 0 (Jc6 Tryz.f147 0) (s,(f,(t7,t8)))
noncomputable def F7n(s:DLI)(f:Int×Unit):Option Bool:=(inf H).call 90 (s,f)
noncomputable def F1h(wide:Int)(vars:Int)(t:DLN):Option Bool:=(inf H).call 255 (wide,(vars,t))
theorem F1hK:H.key 255=some F1hH:=by kernel_rfl
noncomputable def F98(wide:Int)(vars:Int)(stack:DLI)(t33:DLN)(t34:Int)(t35:Int):Option (Bool ⊕ DLI):=(inf H).loop 255 0 (Jc6 Tryz.f255 0) (wide,(vars,(stack,(t33,(t34,t35)))))
noncomputable def F6y(t:DLN):Option Int:=(inf H).call 256 t
noncomputable def F5i(wide:Int)(vars:Int)(t:DLN)(kind:Int):Option Bool:=(inf H).call 199 (wide,(vars,(t,kind)))
noncomputable def F5b(p:DProgram)(t:DLN):Option Bool:=(inf H).call 130 (p,t)
noncomputable def F39(p:DProgram)(c:DCommand):Option Bool:=(inf H).call 253 (p,c)
theorem F39K:H.key 253=some F39H:=by kernel_rfl
noncomputable def F84(p:DProgram)(c:DCommand)(t13:Bool×List DChange)(t14:Int)(t15:Int):Option (Bool ⊕ Unit):=(inf H).loop 253 0 (Jc6 Tryz.f253 0) (p,(c,(t13,(t14,t15))))
noncomputable def F8p(c:DCommand)(a1:DProgram):Option Bool:=(inf H).call 252 (c,a1)
noncomputable def F3m(s:Bool×List DCommand)(f:DProgram×Unit):Option Int:=(inf H).call 281 (s,f)
theorem F3mK:H.key 281=some F3mH:=by kernel_rfl
noncomputable def Fbe(s:Bool×List DCommand)(f:DProgram×Unit)(t7:Int)(t8:Int):Option (Int ⊕ Unit):=(inf H).loop 281 0 (Jc6 Tryz.f281 0) (s,(f,(t7,t8)))
noncomputable def F8v(s:Bool×List DCommand)(f:DProgram×Unit):Option Bool:=(inf H).call 251 (s,f)
noncomputable def F4z(p:DProgram):Option Bool:=(inf H).call 196 p
noncomputable def F5q(p:DProgram):Option Bool:=(inf H).call 126 p
noncomputable def F5o(op:Int):Option Int:=(inf H).call 98 op
noncomputable def F6x(x:DSaid):Option Bool:=(inf H).call 254 x
noncomputable def F3r(f:Bool×List DSaid):Option Bool:=(inf H).call 197 f
theorem F3rK:H.key 197=some F3rH:=by kernel_rfl
noncomputable def F9a(values:Int)(t15:Bool×List DSaid)(t16:Int)(t17:Int):Option (Bool ⊕ Int):=(inf H).loop 197 0 (Jc6 Tryz.f197 0) (values,(t15,(t16,t17)))
noncomputable def F51(s:DLI):Option DLI:=(inf H).call 187 s
noncomputable def F2k(f:Bool×List DSaid):Option DRI:=(inf H).call 233 f
theorem F2kK:H.key 233=some F2kH:=by kernel_rfl
noncomputable def Fa9(out:DRI)(stack:DLI)(t10:Bool×List DSaid)(t11:Int)(t12:Int):Option DRI:=(inf H).loop 233 0 (Jc6 Tryz.f233 0) (out,(stack,(t10,(t11,t12))))
noncomputable def F6b(s:DLI):Option DLI:=(inf H).call 219 s
noncomputable def F5v(s:DLI):Option DLI:=(inf H).call 220 s
noncomputable def Fy(f:Bool×List DSaid):Option DLI:=(inf H).call 189 f
theorem FyK:H.key 189=some FyH:=by kernel_rfl
noncomputable def F57(out:DLI)(operands:DRI)(t13:Bool×List DSaid)(t14:Int)(t15:Int):Option DLI:=(inf H).loop 189 0 (Jc6 Tryz.f189 0) (out,(operands,(t13,(t14,t15))))
noncomputable def F89(f:Bool×List DSaid):Option Bool:=(inf H).call 127 f
noncomputable def F8b(t:DLN)(a1:DQuestion):Option Bool:=(inf H).call 129 (t,a1)
noncomputable def F3n(s:DRN)(f:DQuestion×Unit):Option Int:=(inf H).call 198 (s,f)
theorem F3nK:H.key 198=some F3nH:=by kernel_rfl
noncomputable def Fbl(s:DRN)(f:DQuestion×Unit)(t7:Int)(t8:Int):Option (Int ⊕ Unit):=(inf H).loop 198 0 (Jc6 Tryz.f198 0) (s,(f,(t7,t8)))
noncomputable def F7k(s:DRN)(f:DQuestion×Unit):Option Bool:=(inf H).call 128 (s,f)
noncomputable def F53(q:DQuestion):Option Bool:=(inf H).call 70 q
noncomputable def F8j(t:DLN)(a1:DProgram):Option Bool:=(inf H).call 131 (t,a1)
noncomputable def F4o(s:DRN)(f:DProgram×Unit):Option Int:=(inf H).call 10132 (s,f)
theorem F4oK:H.key 10132=some F4oH:=by kernel_rfl
noncomputable def Fad(s:DRN)(f:DProgram×Unit)(t7:Int)(t8:Int):Option (Int ⊕ Unit):=(inf H).loop 10132 0 (Jc6 Tryz.f198 0) (s,(f,(t7,t8)))
noncomputable def F7m(s:DRN)(f:DProgram×Unit):Option Bool:=(inf H).call 10131 (s,f)
noncomputable def F4t(p:DProgram)(preds:DRN)(least:Int):Option Bool:=(inf H).call 71 (p,(preds,least))
noncomputable def F6q(n:Int):Option Bool:=(inf H).call 72 n
noncomputable def F7j(n:Int):Option DRN:=(inf H).call 201 n
noncomputable def F1v(slices:Bool×List DRN):Option DRN:=(inf H).call 133 slices
theorem F1vK:H.key 133=some F1vH:=by kernel_rfl
noncomputable def F9y(slices:Bool×List DRN)(size_:Int)(t9:Bool×List DRN)(t10:Int)(t11:Int):Option Int:=(inf H).loop 133 0 (Jc6 Tryz.f133 0) (slices,(size_,(t9,(t10,t11))))
noncomputable def F9g(newslice:DRN)(t25:Bool×List DRN)(t26:Int)(t27:Int):Option DRN:=(inf H).loop 133 2 (Jc6 Tryz.f133 2) (newslice,(t25,(t26,t27)))
noncomputable def F52(p:DProgram):Option Int:=(inf H).call 89 p
noncomputable def F22(p:DProgram)(no:Int):Option DLI:=(inf H).call 44 (p,no)
theorem F22K:H.key 44=some F22H:=by kernel_rfl
noncomputable def F9r(no:Int)(p:DProgram)(out:DLI)(t9:Int)(t10:Int):Option DLI:=(inf H).loop 44 0 (Jc6 Tryz.f44 0) (no,(p,(out,(t9,t10))))
noncomputable def F70(wide:Int)(a:Int)(b:Int):Option Bool:=(inf H).call 270 (wide,(a,b))
noncomputable def F88(hi:Int)(lo:Int)(y:Int):Option (Int×Int):=(inf H).call 271 (hi,(lo,y))
noncomputable def F66(wide:Int)(a:Int)(b:Int):Option (Int×Int×Bool):=(inf H).call 213 (wide,(a,b))
noncomputable def F4w(wide:Int)(a:Int)(by_:Int)(left_:Bool):Option Int:=(inf H).call 214 (wide,(a,(by_,left_)))
noncomputable def Fp(holds:Bool):Option Int:=(inf H).call 215 holds
noncomputable def F1f(wide:Int)(a:Int):Option Int:=(inf H).call 216 (wide,a)
noncomputable def F5t(wide:Int)(op:Int)(a:Int)(b:Int):Option Int:=(inf H).call 148 (wide,(op,(a,b)))
noncomputable def Fx(wide:Int)(t:DLN)(state:DLI):Option Int:=(inf H).call 93 (wide,(t,state))
theorem FxK:H.key 93=some FxH:=by kernel_rfl
noncomputable def F3i(wide:Int)(state:DLI)(stack:DLI)(t12:DLN)(t13:Int)(t14:Int):Option DLI:=(inf H).loop 93 0 (Jc6 Tryz.f93 0) (wide,(state,(stack,(t12,(t13,t14)))))
noncomputable def F2d(keys:Bool×List DSaid):Option DLI:=(inf H).call 285 keys
theorem F2dK:H.key 285=some F2dH:=by kernel_rfl
noncomputable def F71(t2:DSight)(known:Bool×List (DSaid×Int))(v:DLI)(t11:Bool×List DSaid)(t12:Int)(t13:Int):Option ((Bool×List (DSaid×Int))×DLI):=(inf H).loop 285 0 (Jc6 Tryz.f285 0) (t2,(known,(v,(t11,(t12,t13)))))
noncomputable def F1t(p:DProgram)(preds:DRN):Option (DLI×Bool):=(inf H).call 257 (p,preds)
theorem F1tK:H.key 257=some F1tH:=by kernel_rfl
noncomputable def Fcn(preds:DRN)(p:DProgram)(t4:DSight)(keys:Bool×List DSaid)(t25:Int)(t26:Int):Option (Bool×List DSaid):=(inf H).loop 257 0 (Jc6 Tryz.f257 0) (preds,(p,(t4,(keys,(t25,t26)))))
noncomputable def F9x(preds:DRN)(p:DProgram)(t4:DSight)(keys:Bool×List DSaid)(no:Int)(s:DLI)(t25:Int)(t26:Int)(t32:DRN)(t33:Int)(t34:Int):Option (Bool×List DSaid):=(inf H).loop 257 2 (Jc6 Tryz.f257 2) (preds,(p,(t4,(keys,(no,(s,(t25,(t26,(t32,(t33,t34))))))))))
noncomputable def F30(v:DSight)(states:Int):Option Bool:=(inf H).call 171 (v,states)
theorem F30K:H.key 171=some F30H:=by kernel_rfl
noncomputable def F7y(states:Int)(v:DSight)(classes:Int)(t9:DLI)(t10:Int)(t11:Int):Option (Bool ⊕ Unit):=(inf H).loop 171 0 (Jc6 Tryz.f171 0) (states,(v,(classes,(t9,(t10,t11)))))
noncomputable def F7q(p:DProgram)(v:DSight):Option Bool:=(inf H).call 109 (p,v)
noncomputable def F3h(a:DSight)(b:DSight):Option DLI:=(inf H).call 258 (a,b)
theorem F3hK:H.key 258=some F3hH:=by kernel_rfl
noncomputable def Fak(b:DSight)(t4:DSight)(keys:Bool×List DSaid)(t10:DLI)(t11:Int)(t12:Int):Option (Bool×List DSaid):=(inf H).loop 258 0 (Jc6 Tryz.f258 0) (b,(t4,(keys,(t10,(t11,t12)))))
noncomputable def F85(p:DProgram)(v:DSight)(t:DLN):Option (DLI×Bool):=(inf H).call 200 (p,(v,t))
noncomputable def F4h(p:DProgram)(preds:DRN):Option DLI:=(inf H).call 132 (p,preds)
theorem F4hK:H.key 132=some F4hH:=by kernel_rfl
noncomputable def Fcf(p:DProgram)(t4:DSight)(v:DLI)(t12:DRN)(t13:Int)(t14:Int):Option DLI:=(inf H).loop 132 0 (Jc6 Tryz.f132 0) (p,(t4,(v,(t12,(t13,t14)))))
noncomputable def F42(x:DLI):Option Int:=(inf H).call 173 x
theorem F42K:H.key 173=some F42H:=by kernel_rfl
noncomputable def Fca(x:DLI)(m:Int)(i:Int):Option Int:=(inf H).loop 173 0 (Jc6 Tryz.f173 0) (x,(m,i))
noncomputable def F15(v:DSight):Option Int:=(inf H).call 111 v
noncomputable def F9(f:Bool×List DSaid):Option Int:=(inf H).call 115 f
noncomputable def F25(s:DLI)(v:Int):Option Int:=(inf H).call 150 (s,v)
theorem F25K:H.key 150=some F25H:=by kernel_rfl
noncomputable def F9t(s:DLI)(v:Int)(t7:Int)(t8:Int):Option (Int ⊕ Unit):=(inf H).loop 150 0 (Jc6 Tryz.f150 0) (s,(v,(t7,t8)))
noncomputable def F5f(p:DProgram)(t:DLN)(s:DLI):Option Bool:=(inf H).call 43 (p,(t,s))
noncomputable def F36(q:DQuestion)(no:Int):Option Int:=(inf H).call 97 (q,no)
theorem F36K:H.key 97=some F36H:=by kernel_rfl
noncomputable def F8t(q:DQuestion)(s:DLI)(letter:Int)(t14:DRN)(t15:Int)(t16:Int):Option Int:=(inf H).loop 97 0 (Jc6 Tryz.f97 0) (q,(s,(letter,(t14,(t15,t16)))))
noncomputable def F6l(q:DQuestion)(v:DSight)(class_:Int):Option Int:=(inf H).call 174 (q,(v,class_))
noncomputable def F3b(v:DSight)(class_:Int):Option DLI:=(inf H).call 231 (v,class_)
theorem F3bK:H.key 231=some F3bH:=by kernel_rfl
noncomputable def F8h(class_:Int)(out:DLI)(t10:DLI)(t11:Int)(t12:Int):Option DLI:=(inf H).loop 231 0 (Jc6 Tryz.f231 0) (class_,(out,(t10,(t11,t12))))
noncomputable def F8r(s:DLI):Option DLI:=(inf H).call 272 s
noncomputable def F3l(p:DProgram)(c:DCommand)(s:DLI):Option DLI:=(inf H).call 218 (p,(c,s))
theorem F3lK:H.key 218=some F3lH:=by kernel_rfl
noncomputable def Fbm(s:DLI)(p:DProgram)(out:DLI)(t13:Bool×List DChange)(t14:Int)(t15:Int):Option DLI:=(inf H).loop 218 0 (Jc6 Tryz.f218 0) (s,(p,(out,(t13,(t14,t15)))))
noncomputable def F4b(p:DProgram)(s:DLI):Option Int:=(inf H).call 217 (p,s)
theorem F4bK:H.key 217=some F4bH:=by kernel_rfl
noncomputable def Fbo(p:DProgram)(no:Int)(t8:DLI)(t9:Int)(t10:Int):Option Int:=(inf H).loop 217 0 (Jc6 Tryz.f217 0) (p,(no,(t8,(t9,t10))))
noncomputable def F27(p:DProgram)(no:Int):Option DLI:=(inf H).call 149 (p,no)
theorem F27K:H.key 149=some F27H:=by kernel_rfl
noncomputable def F7t(no:Int)(p:DProgram)(s:DLI)(out:DLI)(t14:Bool×List DCommand)(t15:Int)(t16:Int):Option DLI:=(inf H).loop 149 0 (Jc6 Tryz.f149 0) (no,(p,(s,(out,(t14,(t15,t16))))))
noncomputable def F26(list:DLB):Option DLI:=(inf H).call 238 list
theorem F26K:H.key 238=some F26H:=by kernel_rfl
noncomputable def F6p(out:DLI)(t7:DLB)(t8:Int)(t9:Int):Option DLI:=(inf H).loop 238 0 (Jc6 Tryz.f238 0) (out,(t7,(t8,t9)))
noncomputable def F3f(v:DSight)(some_:DLI):Option DLI:=(inf H).call 180 (v,some_)
theorem F3fK:H.key 180=some F3fH:=by kernel_rfl
noncomputable def F9c(v:DSight)(in_:DLB)(t11:DLI)(t12:Int)(t13:Int):Option DLB:=(inf H).loop 180 0 (Jc6 Tryz.f180 0) (v,(in_,(t11,(t12,t13))))
noncomputable def F4a(p:DProgram)(v:DSight)(class_:Int):Option DLI:=(inf H).call 175 (p,(v,class_))
theorem F4aK:H.key 175=some F4aH:=by kernel_rfl
noncomputable def F93(p:DProgram)(v:DSight)(next:DLI)(t13:DLI)(t14:Int)(t15:Int):Option DLI:=(inf H).loop 175 0 (Jc6 Tryz.f175 0) (p,(v,(next,(t13,(t14,t15)))))
noncomputable def F55(list:DLI)(guess:Int)(node:Int):Option Bool:=(inf H).call 236 (list,(guess,node))
noncomputable def Fv(f:Bool×List DSaid)(letter:Int)(next:Int):Option DLB:=(inf H).call 232 (f,(letter,next))
theorem FvK:H.key 232=some FvH:=by kernel_rfl
noncomputable def F1y(letter:Int)(next:Int)(out:DLB)(operands:DRI)(list:DLI)(t18:Bool×List DSaid)(t19:Int)(t20:Int):Option DLB:=(inf H).loop 232 0 (Jc6 Tryz.f232 0) (letter,(next,(out,(operands,(list,(t18,(t19,t20)))))))
noncomputable def F2r(f:Bool×List DSaid)(letter:Int)(next:Int):Option Int:=(inf H).call 176 (f,(letter,next))
theorem F2rK:H.key 176=some F2rH:=by kernel_rfl
noncomputable def F75(values:DLB)(guess:Int)(t16:DLI)(t17:Int)(t18:Int):Option Int:=(inf H).loop 176 0 (Jc6 Tryz.f176 0) (values,(guess,(t16,(t17,t18))))
noncomputable def F6f(guess:Int)(a1:DLI)(a2:Int)(a3:DRI)(a4:DSaid):Option Bool:=(inf H).call 235 (guess,(a1,(a2,(a3,a4))))
noncomputable def F2g(f:Bool×List DSaid)(holds:DLI×Int×DRI×DSaid×Unit):Option DLI:=(inf H).call 234 (f,holds)
theorem F2gK:H.key 234=some F2gH:=by kernel_rfl
noncomputable def F7l(holds:DLI×Int×DRI×DSaid×Unit)(out:DLI)(t9:Int)(t10:Int):Option DLI:=(inf H).loop 234 0 (Jc6 Tryz.f234 0) (holds,(out,(t9,t10)))
noncomputable def F17(f:Bool×List DSaid):Option DRI:=(inf H).call 177 f
theorem F17K:H.key 177=some F17H:=by kernel_rfl
noncomputable def F6a(f:Bool×List DSaid)(out:DRI)(operands:DRI)(list:DLI)(t13:Bool×List DSaid)(t14:Int)(t15:Int):Option DRI:=(inf H).loop 177 0 (Jc6 Tryz.f177 0) (f,(out,(operands,(list,(t13,(t14,t15))))))
noncomputable def F3g(list:DLI)(by_:Int):Option DLI:=(inf H).call 178 (list,by_)
theorem F3gK:H.key 178=some F3gH:=by kernel_rfl
noncomputable def Fbs(by_:Int)(out:DLI)(t9:DLI)(t10:Int)(t11:Int):Option DLI:=(inf H).loop 178 0 (Jc6 Tryz.f178 0) (by_,(out,(t9,(t10,t11))))
noncomputable def F29(p:DProgram)(t:DLN):Option DLI:=(inf H).call 181 (p,t)
theorem F29K:H.key 181=some F29H:=by kernel_rfl
noncomputable def F7i(t:DLN)(p:DProgram)(out:DLI)(t9:Int)(t10:Int):Option DLI:=(inf H).loop 181 0 (Jc6 Tryz.f181 0) (t,(p,(out,(t9,t10))))
noncomputable def F7u(guess:Int)(a1:DLI)(a2:Bool×List DSaid)(a3:Bool):Option Bool:=(inf H).call 278 (guess,(a1,(a2,a3)))
noncomputable def F3d(f:Bool×List DSaid)(holds:DLI×(Bool×List DSaid)×Bool×Unit):Option DLI:=(inf H).call 10182 (f,holds)
theorem F3dK:H.key 10182=some F3dH:=by kernel_rfl
noncomputable def F8w(holds:DLI×(Bool×List DSaid)×Bool×Unit)(out:DLI)(t9:Int)(t10:Int):Option DLI:=(inf H).loop 10182 0 (Jc6 Tryz.f234 0) (holds,(out,(t9,t10)))
noncomputable def F4x(f:Bool×List DSaid)(holds:Bool):Option DLI:=(inf H).call 237 (f,holds)
noncomputable def F3j(q:DQuestion)(some_:DLI):Option DLI:=(inf H).call 179 (q,some_)
theorem F3jK:H.key 179=some F3jH:=by kernel_rfl
noncomputable def Fcm(q:DQuestion)(out:DLI)(t9:DLI)(t10:Int)(t11:Int):Option DLI:=(inf H).loop 179 0 (Jc6 Tryz.f179 0) (q,(out,(t9,(t10,t11))))
noncomputable def Fb(q:DQuestion)(v:DSight):Option (DRI×DLI×DRI):=(inf H).call 112 (q,v)
theorem FbK:H.key 112=some FbH:=by kernel_rfl
noncomputable def Fas(q:DQuestion)(v:DSight)(all_:Int)(many:Int)(next:DRI)(goals:DRI)(t31:Int)(t32:Int):Option DRI:=(inf H).loop 112 0 (Jc6 Tryz.f112 0) (q,(v,(all_,(many,(next,(goals,(t31,t32)))))))
noncomputable def F9n(q:DQuestion)(v:DSight)(all_:Int)(many:Int)(next:DRI)(goals:DRI)(class_:Int)(letter:Int)(t31:Int)(t32:Int)(t43:DLI)(t44:Int)(t45:Int):Option DRI:=(inf H).loop 112 2 (Jc6 Tryz.f112 2) (q,(v,(all_,(many,(next,(goals,(class_,(letter,(t31,(t32,(t43,(t44,t45))))))))))))
noncomputable def Fab(q:DQuestion)(v:DSight)(all_:Int)(many:Int)(next:DRI)(goals:DRI)(class_:Int)(letter:Int)(to:Int)(t31:Int)(t32:Int)(t43:DLI)(t44:Int)(t45:Int)(t49:Int)(t50:Int):Option DRI:=(inf H).loop 112 4 (Jc6 Tryz.f112 4) (q,(v,(all_,(many,(next,(goals,(class_,(letter,(to,(t31,(t32,(t43,(t44,(t45,(t49,t50)))))))))))))))
noncomputable def Fbi(q:DQuestion)(v:DSight)(all_:Int)(many:Int)(next:DRI)(goals:DRI)(t81:DRI)(t82:Int)(t83:Int):Option DRI:=(inf H).loop 112 6 (Jc6 Tryz.f112 6) (q,(v,(all_,(many,(next,(goals,(t81,(t82,t83))))))))
noncomputable def Fa6(q:DQuestion)(v:DSight)(all_:Int)(many:Int)(next:DRI)(goals:DRI)(goal:DLI)(own:DLI)(t81:DRI)(t82:Int)(t83:Int)(t88:Int)(t89:Int):Option DLI:=(inf H).loop 112 8 (Jc6 Tryz.f112 8) (q,(v,(all_,(many,(next,(goals,(goal,(own,(t81,(t82,(t83,(t88,t89))))))))))))
noncomputable def F8q(x:Int)(y:Int):Option (Int×Int):=(inf H).call 230 (x,y)
noncomputable def F54(x:Int)(y:Int):Option (Int×Int):=(inf H).call 172 (x,y)
noncomputable def F2b(x:DLI)(count:Int):Option DLI:=(inf H).call 110 (x,count)
theorem F2bK:H.key 110=some F2bH:=by kernel_rfl
noncomputable def Fa0(newslice:DLI)(n:Int):Option DLI:=(inf H).loop 110 0 (Jc6 Tryz.f110 0) (newslice,n)
noncomputable def Fu(g:DRI)(some_:DLI):Option DLI:=(inf H).call 239 (g,some_)
theorem FuK:H.key 239=some FuH:=by kernel_rfl
noncomputable def Fb6(g:DRI)(steps:DLI)(open_:DLI)(t17:DLI)(t18:Int)(t19:Int):Option DLI:=(inf H).loop 239 0 (Jc6 Tryz.f239 0) (g,(steps,(open_,(t17,(t18,t19)))))
noncomputable def Fay(g:DRI)(steps:DLI)(open_:DLI):Option DLI:=(inf H).loop 239 2 (Jc6 Tryz.f239 2) (g,(steps,open_))
noncomputable def F6d(g:DRI)(steps:DLI)(open_:DLI)(t37:DLI)(t38:Int)(t39:Int):Option DLasso:=(inf H).loop 239 4 (Jc6 Tryz.f239 4) (g,(steps,(open_,(t37,(t38,t39)))))
noncomputable def F3q(x:DLI):Option Int:=(inf H).call 279 x
theorem F3qK:H.key 279=some F3qH:=by kernel_rfl
noncomputable def F96(x:DLI)(m:Int)(i:Int):Option Int:=(inf H).loop 279 0 (Jc6 Tryz.f279 0) (x,(m,i))
noncomputable def F11(a0_0:DRI)(a0_1:DLI)(a0_2:DLI)(a0_3:DLI)(a0_4:DLI)(a0_5:Int)(v:Int):Option Dtarjan:=(inf H).call 243 (a0_0,(a0_1,(a0_2,(a0_3,(a0_4,(a0_5,v))))))
theorem F11K:H.key 243=some F11H:=by kernel_rfl
noncomputable def F63(t_0:DRI)(t_1:DLI)(t_2:DLI)(t_3:DLI)(t_4:DLI)(t_5:Int)(v:Int)(t53:DLI)(t54:Int)(t55:Int):Option Dtarjan:=(inf H).loop 243 0 (Jc6 Tryz.f243 0) (t_0,(t_1,(t_2,(t_3,(t_4,(t_5,(v,(t53,(t54,t55)))))))))
noncomputable def Fc1(t_0:DRI)(t_1:DLI)(t_2:DLI)(t_3:DLI)(t_4:DLI)(t_5:Int)(k_:Int)(least:Int)(t154_0:Int)(t154_1:Int)(t155:Int)(t156:Int):Option Dtarjan:=(inf H).loop 243 2 (Jc6 Tryz.f243 2) (t_0,(t_1,(t_2,(t_3,(t_4,(t_5,(k_,(least,(t154_0,(t154_1,(t155,t156)))))))))))
noncomputable def F2e(next:DRI):Option DLI:=(inf H).call 184 next
theorem F2eK:H.key 184=some F2eH:=by kernel_rfl
noncomputable def F6o(t_0:DRI)(t_1:DLI)(t_2:DLI)(t_3:DLI)(t_4:DLI)(t_5:Int)(t19:Int)(t20:Int):Option Dtarjan:=(inf H).loop 184 0 (Jc6 Tryz.f184 0) (t_0,(t_1,(t_2,(t_3,(t_4,(t_5,(t19,t20)))))))
noncomputable def F7(next:DRI)(goals:DRI):Option DLB:=(inf H).call 240 (next,goals)
theorem F7K:H.key 240=some F7H:=by kernel_rfl
noncomputable def Fc0(goals:DRI)(part:DLI)(n:Int)(fair:DLB)(out:DLB)(t28:DRI)(t29:Int)(t30:Int):Option DLB:=(inf H).loop 240 0 (Jc6 Tryz.f240 0) (goals,(part,(n,(fair,(out,(t28,(t29,t30)))))))
noncomputable def F8s(goals:DRI)(part:DLI)(n:Int)(fair:DLB)(out:DLB)(v:Int)(t28:DRI)(t29:Int)(t30:Int)(t35:DLI)(t36:Int)(t37:Int):Option DLB:=(inf H).loop 240 2 (Jc6 Tryz.f240 2) (goals,(part,(n,(fair,(out,(v,(t28,(t29,(t30,(t35,(t36,t37)))))))))))
noncomputable def Fbv(part:DLI)(n:Int)(fair:DLB)(out:DLB)(t67:DRI)(t68:Int)(t69:Int):Option DLB:=(inf H).loop 240 4 (Jc6 Tryz.f240 4) (part,(n,(fair,(out,(t67,(t68,t69))))))
noncomputable def Fco(part:DLI)(n:Int)(fair:DLB)(out:DLB)(has:DLB)(t67:DRI)(t68:Int)(t69:Int)(t75:DLI)(t76:Int)(t77:Int):Option DLB:=(inf H).loop 240 6 (Jc6 Tryz.f240 6) (part,(n,(fair,(out,(has,(t67,(t68,(t69,(t75,(t76,t77))))))))))
noncomputable def F8m(part:DLI)(n:Int)(fair:DLB)(out:DLB)(has:DLB)(t67:DRI)(t68:Int)(t69:Int)(t89:Int)(t90:Int):Option DLB:=(inf H).loop 240 8 (Jc6 Tryz.f240 8) (part,(n,(fair,(out,(has,(t67,(t68,(t69,(t89,t90)))))))))
noncomputable def Fc9(part:DLI)(fair:DLB)(out:DLB)(t109:Int)(t110:Int):Option DLB:=(inf H).loop 240 10 (Jc6 Tryz.f240 10) (part,(fair,(out,(t109,t110))))
noncomputable def F20(next:DRI)(from_:DLI)(goals:DRI):Option Int:=(inf H).call 182 (next,(from_,goals))
theorem F20K:H.key 182=some F20H:=by kernel_rfl
noncomputable def F5c(steps:DLI)(best:Int)(t16:DLB)(t17:Int)(t18:Int):Option Int:=(inf H).loop 182 0 (Jc6 Tryz.f182 0) (steps,(best,(t16,(t17,t18))))
noncomputable def F1l(g:DRI):Option DRI:=(inf H).call 241 g
theorem F1lK:H.key 241=some F1lH:=by kernel_rfl
noncomputable def Fbb(out:DRI)(t11:DRI)(t12:Int)(t13:Int):Option DRI:=(inf H).loop 241 0 (Jc6 Tryz.f241 0) (out,(t11,(t12,t13)))
noncomputable def Fc2(out:DRI)(v:Int)(t11:DRI)(t12:Int)(t13:Int)(t18:DLI)(t19:Int)(t20:Int):Option DRI:=(inf H).loop 241 2 (Jc6 Tryz.f241 2) (out,(v,(t11,(t12,(t13,(t18,(t19,t20)))))))
noncomputable def F72(w:Int)(a1:DLI)(a2:Int):Option Bool:=(inf H).call 242 (w,(a1,a2))
noncomputable def F4q(s:DLI)(f:DLI×Int×Unit):Option Int:=(inf H).call 10196 (s,f)
theorem F4qK:H.key 10196=some F4qH:=by kernel_rfl
noncomputable def Fah(s:DLI)(f:DLI×Int×Unit)(t7:Int)(t8:Int):Option (Int ⊕ Unit):=(inf H).loop 10196 0 (Jc6 Tryz.f147 0) (s,(f,(t7,t8)))
noncomputable def Fm(g:DRI)(from_:DLI)(to:DLI):Option DLI:=(inf H).call 183 (g,(from_,to))
theorem FmK:H.key 183=some FmH:=by kernel_rfl
noncomputable def F5g(g:DRI)(steps:DLI)(best:Int)(t18:DLI)(t19:Int)(t20:Int):Option Int:=(inf H).loop 183 0 (Jc6 Tryz.f183 0) (g,(steps,(best,(t18,(t19,t20)))))
noncomputable def Fce(g:DRI)(steps:DLI)(way:DLI)(v:Int):Option DLI:=(inf H).loop 183 2 (Jc6 Tryz.f183 2) (g,(steps,(way,v)))
noncomputable def F16(next:DRI)(part:DLI)(own:Int):Option DRI:=(inf H).call 185 (next,(part,own))
theorem F16K:H.key 185=some F16H:=by kernel_rfl
noncomputable def Far(part:DLI)(own:Int)(out:DRI)(t15:DRI)(t16:Int)(t17:Int):Option DRI:=(inf H).loop 185 0 (Jc6 Tryz.f185 0) (part,(own,(out,(t15,(t16,t17)))))
noncomputable def F62(part:DLI)(own:Int)(out:DRI)(v:Int)(t15:DRI)(t16:Int)(t17:Int)(t22:DLI)(t23:Int)(t24:Int):Option DRI:=(inf H).loop 185 2 (Jc6 Tryz.f185 2) (part,(own,(out,(v,(t15,(t16,(t17,(t22,(t23,t24)))))))))
noncomputable def F61(v:Int)(a1:DLI)(a2:Int):Option Bool:=(inf H).call 188 (v,(a1,a2))
noncomputable def F4i(s:DLI)(f:DLI×Int×Unit):Option Int:=(inf H).call 10200 (s,f)
theorem F4iK:H.key 10200=some F4iH:=by kernel_rfl
noncomputable def Fc8(s:DLI)(f:DLI×Int×Unit)(t7:Int)(t8:Int):Option (Int ⊕ Unit):=(inf H).loop 10200 0 (Jc6 Tryz.f147 0) (s,(f,(t7,t8)))
noncomputable def F2t(s:DLI)(del:DLI×Int×Unit):Option DLI:=(inf H).call 186 (s,del)
theorem F2tK:H.key 186=some F2tH:=by kernel_rfl
noncomputable def F8n(s:DLI)(del:DLI×Int×Unit)(i:Int)(j:Int):Option (DLI×Int):=(inf H).loop 186 0 (Jc6 Tryz.f186 0) (s,(del,(i,j)))
noncomputable def F1d(next:DRI)(from_:DLI)(goals:DRI):Option (DLI×DLI×Bool):=(inf H).call 113 (next,(from_,goals))
theorem F1dK:H.key 113=some F1dH:=by kernel_rfl
noncomputable def Fbu(meet:Int)(stem:DLI)(part:DLI)(arcs:DRI)(loop:DLI)(t41:DRI)(t42:Int)(t43:Int):Option DLI:=(inf H).loop 113 0 (Jc6 Tryz.f113 0) (meet,(stem,(part,(arcs,(loop,(t41,(t42,t43)))))))
noncomputable def F31(list:DLI)(a1:DQuestion):Option DLI:=(inf H).call 114 (list,a1)
theorem F31K:H.key 114=some F31H:=by kernel_rfl
noncomputable def Fcd(t1:DQuestion)(out:DLI)(t8:DLI)(t9:Int)(t10:Int):Option DLI:=(inf H).loop 114 0 (Jc6 Tryz.f114 0) (t1,(out,(t8,(t9,t10))))
noncomputable def F1b(q:DQuestion)(v:DSight):Option (DLI×DLI×Bool):=(inf H).call 56 (q,v)
noncomputable def F6z(n:Int):Option DLI:=(inf H).call 92 n
noncomputable def F1o(slices:DRI):Option DLI:=(inf H).call 42 slices
theorem F1oK:H.key 42=some F1oH:=by kernel_rfl
noncomputable def Fbh(slices:DRI)(size_:Int)(t9:DRI)(t10:Int)(t11:Int):Option Int:=(inf H).loop 42 0 (Jc6 Tryz.f42 0) (slices,(size_,(t9,(t10,t11))))
noncomputable def Fau(newslice:DLI)(t25:DRI)(t26:Int)(t27:Int):Option DLI:=(inf H).loop 42 2 (Jc6 Tryz.f42 2) (newslice,(t25,(t26,t27)))
noncomputable def F60(p:DProgram)(stem:DLI)(loop:DLI):Option DLI:=(inf H).call 203 (p,(stem,loop))
noncomputable def F3c(p:DProgram):Option DRI:=(inf H).call 95 p
theorem F3cK:H.key 95=some F3cH:=by kernel_rfl
noncomputable def F94(p:DProgram)(out:DRI)(t7:Int)(t8:Int):Option DRI:=(inf H).loop 95 0 (Jc6 Tryz.f95 0) (p,(out,(t7,t8)))
noncomputable def F64(no:Int)(a1:DSight)(a2:Int):Option Bool:=(inf H).call 286 (no,(a1,a2))
noncomputable def F4d(s:DLI)(f:DSight×Int×Unit):Option Int:=(inf H).call 10211 (s,f)
theorem F4dK:H.key 10211=some F4dH:=by kernel_rfl
noncomputable def Fc5(s:DLI)(f:DSight×Int×Unit)(t7:Int)(t8:Int):Option (Int ⊕ Unit):=(inf H).loop 10211 0 (Jc6 Tryz.f147 0) (s,(f,(t7,t8)))
noncomputable def F2m(s:DLI)(del:DSight×Int×Unit):Option DLI:=(inf H).call 10210 (s,del)
theorem F2mK:H.key 10210=some F2mH:=by kernel_rfl
noncomputable def F7x(s:DLI)(del:DSight×Int×Unit)(i:Int)(j:Int):Option (DLI×Int):=(inf H).loop 10210 0 (Jc6 Tryz.f186 0) (s,(del,(i,j)))
noncomputable def Ff(p:DProgram)(v:DSight)(path:DLI):Option DRI:=(inf H).call 259 (p,(v,path))
theorem FfK:H.key 259=some FfH:=by kernel_rfl
noncomputable def F7o(p:DProgram)(v:DSight)(out:DRI)(next:DRI)(now:DLI)(t24:DLI)(t25:Int)(t26:Int):Option DRI:=(inf H).loop 259 0 (Jc6 Tryz.f259 0) (p,(v,(out,(next,(now,(t24,(t25,t26)))))))
noncomputable def Fap(p:DProgram)(v:DSight)(out:DRI)(next:DRI)(class_:Int)(in_:DLB)(t24:DLI)(t25:Int)(t26:Int)(t36:DLI)(t37:Int)(t38:Int):Option DLB:=(inf H).loop 259 2 (Jc6 Tryz.f259 2) (p,(v,(out,(next,(class_,(in_,(t24,(t25,(t26,(t36,(t37,t38)))))))))))
noncomputable def F9w(p:DProgram)(v:DSight)(out:DRI)(next:DRI)(class_:Int)(in_:DLB)(t24:DLI)(t25:Int)(t26:Int)(t36:DLI)(t37:Int)(t38:Int)(t45:DLI)(t46:Int)(t47:Int):Option DLB:=(inf H).loop 259 4 (Jc6 Tryz.f259 4) (p,(v,(out,(next,(class_,(in_,(t24,(t25,(t26,(t36,(t37,(t38,(t45,(t46,t47))))))))))))))
noncomputable def F6s(list:DLI):Option Bool:=(inf H).call 288 list
noncomputable def F41(s:DRI)(f:Unit):Option Int:=(inf H).call 287 (s,f)
theorem F41K:H.key 287=some F41H:=by kernel_rfl
noncomputable def Fbc(s:DRI)(f:Unit)(t7:Int)(t8:Int):Option (Int ⊕ Unit):=(inf H).loop 287 0 (Jc6 Tryz.f287 0) (s,(f,(t7,t8)))
noncomputable def F4v(along:DRI):Option Int:=(inf H).call 260 along
noncomputable def F5s(s:DLI)(v:Int):Option Bool:=(inf H).call 96 (s,v)
noncomputable def F4y(to:Int)(a1:DRI)(a2:Int):Option Bool:=(inf H).call 262 (to,(a1,a2))
noncomputable def Fs(s:DLI)(f:DRI×Int×Unit):Option Int:=(inf H).call 10220 (s,f)
theorem FsK:H.key 10220=some FsH:=by kernel_rfl
noncomputable def F91(s:DLI)(f:DRI×Int×Unit)(t7:Int)(t8:Int):Option (Int ⊕ Unit):=(inf H).loop 10220 0 (Jc6 Tryz.f147 0) (s,(f,(t7,t8)))
noncomputable def F50(s:DLI)(f:DRI×Int×Unit):Option Bool:=(inf H).call 10219 (s,f)
noncomputable def Fw(no:Int)(a1:DRI)(a2:DRI)(a3:Int):Option Bool:=(inf H).call 261 (no,(a1,(a2,a3)))
noncomputable def F4(s:DLI)(f:DRI×DRI×Int×Unit):Option Int:=(inf H).call 10217 (s,f)
theorem F4K:H.key 10217=some F4H:=by kernel_rfl
noncomputable def Fc4(s:DLI)(f:DRI×DRI×Int×Unit)(t7:Int)(t8:Int):Option (Int ⊕ Unit):=(inf H).loop 10217 0 (Jc6 Tryz.f147 0) (s,(f,(t7,t8)))
noncomputable def Fr(s:DLI)(del:DRI×DRI×Int×Unit):Option DLI:=(inf H).call 10216 (s,del)
theorem FrK:H.key 10216=some FrH:=by kernel_rfl
noncomputable def F8d(s:DLI)(del:DRI×DRI×Int×Unit)(i:Int)(j:Int):Option (DLI×Int):=(inf H).loop 10216 0 (Jc6 Tryz.f186 0) (s,(del,(i,j)))
noncomputable def F74(to:Int)(a1:Bool×List (Option DLI))(a2:Int):Option Bool:=(inf H).call 10228 (to,(a1,a2))
noncomputable def F3o(s:DLI)(f:(Bool×List (Option DLI))×Int×Unit):Option Int:=(inf H).call 10227 (s,f)
theorem F3oK:H.key 10227=some F3oH:=by kernel_rfl
noncomputable def Fb2(s:DLI)(f:(Bool×List (Option DLI))×Int×Unit)(t7:Int)(t8:Int):Option (Int ⊕ Unit):=(inf H).loop 10227 0 (Jc6 Tryz.f147 0) (s,(f,(t7,t8)))
noncomputable def F81(s:DLI)(f:(Bool×List (Option DLI))×Int×Unit):Option Bool:=(inf H).call 10226 (s,f)
noncomputable def F68(no:Int)(a1:DRI)(a2:Bool×List (Option DLI))(a3:Int):Option Bool:=(inf H).call 10225 (no,(a1,(a2,a3)))
noncomputable def F3w(s:DLI)(f:DRI×(Bool×List (Option DLI))×Int×Unit):Option Int:=(inf H).call 10224 (s,f)
theorem F3wK:H.key 10224=some F3wH:=by kernel_rfl
noncomputable def Fax(s:DLI)(f:DRI×(Bool×List (Option DLI))×Int×Unit)(t7:Int)(t8:Int):Option (Int ⊕ Unit):=(inf H).loop 10224 0 (Jc6 Tryz.f147 0) (s,(f,(t7,t8)))
noncomputable def F2u(s:DLI)(del:DRI×(Bool×List (Option DLI))×Int×Unit):Option DLI:=(inf H).call 10223 (s,del)
theorem F2uK:H.key 10223=some F2uH:=by kernel_rfl
noncomputable def F8f(s:DLI)(del:DRI×(Bool×List (Option DLI))×Int×Unit)(i:Int)(j:Int):Option (DLI×Int):=(inf H).loop 10223 0 (Jc6 Tryz.f186 0) (s,(del,(i,j)))
noncomputable def F7p(to:Int)(a1:DRI)(a2:DLI)(a3:Int):Option Bool:=(inf H).call 263 (to,(a1,(a2,a3)))
noncomputable def F3v(s:DLI)(f:DRI×DLI×Int×Unit):Option Int:=(inf H).call 10229 (s,f)
theorem F3vK:H.key 10229=some F3vH:=by kernel_rfl
noncomputable def Fbj(s:DLI)(f:DRI×DLI×Int×Unit)(t7:Int)(t8:Int):Option (Int ⊕ Unit):=(inf H).loop 10229 0 (Jc6 Tryz.f147 0) (s,(f,(t7,t8)))
noncomputable def F6(p:DProgram)(v:DSight)(path:DLI):Option DLI:=(inf H).call 202 (p,(v,path))
theorem F6K:H.key 202=some F6H:=by kernel_rfl
noncomputable def Faj(along:DRI)(next:DRI)(last:Int)(k_:Int):Option DRI:=(inf H).loop 202 0 (Jc6 Tryz.f202 0) (along,(next,(last,k_)))
noncomputable def Fbp(along:DRI)(next:DRI)(last:Int)(out:DLI)(k_:Int):Option DLI:=(inf H).loop 202 2 (Jc6 Tryz.f202 2) (along,(next,(last,(out,k_))))
noncomputable def F3y(p:DProgram)(v:DSight)(stem:DLI)(loop:DLI):Option (DLI×DLI×Bool):=(inf H).call 134 (p,(v,(stem,loop)))
theorem F3yK:H.key 134=some F3yH:=by kernel_rfl
noncomputable def F9v(loop:DLI)(path:DLI)(heads:Bool×List DSaid)(at_:Int):Option (((Bool×List DSaid)×DLI×DLI×Bool) ⊕ (Bool×List DSaid)):=(inf H).loop 134 0 (Jc6 Tryz.f134 0) (loop,(path,(heads,at_)))
noncomputable def F78(p:DProgram)(v:DSight)(path:DLI):Option (DLI×Bool):=(inf H).call 204 (p,(v,path))
noncomputable def F49(v:DSight)(some_:DLI):Option DLI:=(inf H).call 205 (v,some_)
theorem F49K:H.key 205=some F49H:=by kernel_rfl
noncomputable def F92(v:DSight)(t4:DSight)(in_:DLI)(t13:DLI)(t14:Int)(t15:Int):Option DLI:=(inf H).loop 205 0 (Jc6 Tryz.f205 0) (v,(t4,(in_,(t13,(t14,t15)))))
noncomputable def F7r(p:DProgram)(v:DSight)(stem:DLI)(loop:DLI):Option (DLI×Bool):=(inf H).call 135 (p,(v,(stem,loop)))
noncomputable def F3t(q:DQuestion)(preds:DRN)(budget:Int):Option (Int×DLI×DLI×Int×DLI):=(inf H).call 73 (q,(preds,budget))
theorem F3tK:H.key 73=some F3tH:=by kernel_rfl
noncomputable def F97(budget:Int)(q:DQuestion)(t6:DOutcome)(out_0:Int)(out_1:DLI)(out_2:DLI)(out_3:Int)(out_4:DLI):Option (Int×DLI×DLI×Int×DLI):=(inf H).loop 73 0 (Jc6 Tryz.f73 0) (budget,(q,(t6,(out_0,(out_1,(out_2,(out_3,out_4)))))))
noncomputable def F5y(q:DQuestion)(preds:DRN)(budget:Int):Option (Int×DLI×DLI×Int×DLI×Bool):=(inf H).call 25 (q,(preds,budget))
noncomputable def F2c(a:DLI)(b:DLI):Option Bool:=(inf H).call 12 (a,b)
theorem F2cK:H.key 12=some F2cH:=by kernel_rfl
noncomputable def Fb9(a:DLI)(b:DLI)(i:Int):Option (Bool ⊕ Unit):=(inf H).loop 12 0 (Jc6 Tryz.f12 0) (a,(b,i))
noncomputable def F76(a:DSight)(b:DSight):Option Bool:=(inf H).call 17 (a,b)
noncomputable def F5r(a:DOutcome)(b:DOutcome):Option Bool:=(inf H).call 26 (a,b)
noncomputable def Fc(a:DNode)(b:DNode):Option Bool:=(inf H).call 136 (a,b)
noncomputable def Fi(a:DLN)(b:DLN):Option Bool:=(inf H).call 74 (a,b)
theorem FiK:H.key 74=some FiH:=by kernel_rfl
noncomputable def F8y(a:DLN)(b:DLN)(i:Int):Option (Bool ⊕ Unit):=(inf H).loop 74 0 (Jc6 Tryz.f74 0) (a,(b,i))
noncomputable def F1p(a:DChange)(b:DChange):Option Bool:=(inf H).call 276 (a,b)
noncomputable def F4n(a:Bool×List DChange)(b:Bool×List DChange):Option Bool:=(inf H).call 223 (a,b)
theorem F4nK:H.key 223=some F4nH:=by kernel_rfl
noncomputable def Fbt(a:Bool×List DChange)(b:Bool×List DChange)(i:Int):Option (Bool ⊕ Unit):=(inf H).loop 223 0 (Jc6 Tryz.f223 0) (a,(b,i))
noncomputable def F1k(a:DCommand)(b:DCommand):Option Bool:=(inf H).call 158 (a,b)
noncomputable def F46(a:Bool×List DCommand)(b:Bool×List DCommand):Option Bool:=(inf H).call 101 (a,b)
theorem F46K:H.key 101=some F46H:=by kernel_rfl
noncomputable def Fc3(a:Bool×List DCommand)(b:Bool×List DCommand)(i:Int):Option (Bool ⊕ Unit):=(inf H).loop 101 0 (Jc6 Tryz.f101 0) (a,(b,i))
noncomputable def F87(a:DProgram)(b:DProgram):Option Bool:=(inf H).call 48 (a,b)
noncomputable def F3a(a:DRN)(b:DRN):Option Bool:=(inf H).call 27 (a,b)
theorem F3aK:H.key 27=some F3aH:=by kernel_rfl
noncomputable def F9s(a:DRN)(b:DRN)(i:Int):Option (Bool ⊕ Unit):=(inf H).loop 27 0 (Jc6 Tryz.f27 0) (a,(b,i))
noncomputable def F1r(a:DSaid)(b:DSaid):Option Bool:=(inf H).call 102 (a,b)
noncomputable def F3p(a:Bool×List DSaid)(b:Bool×List DSaid):Option Bool:=(inf H).call 49 (a,b)
theorem F3pK:H.key 49=some F3pH:=by kernel_rfl
noncomputable def Fa7(a:Bool×List DSaid)(b:Bool×List DSaid)(i:Int):Option (Bool ⊕ Unit):=(inf H).loop 49 0 (Jc6 Tryz.f49 0) (a,(b,i))
noncomputable def F8x(a:DQuestion)(b:DQuestion):Option Bool:=(inf H).call 11 (a,b)
noncomputable def Fj(a:DLN)(k_:Int):Option (DLN×Int):=(inf H).call 75 (a,k_)
theorem FjK:H.key 75=some FjH:=by kernel_rfl
noncomputable def Fbq(a:DLN)(k_:Int)(i:Int):Option (DLN×Int):=(inf H).loop 75 0 (Jc6 Tryz.f75 0) (a,(k_,i))
noncomputable def F3z(a:Bool×List DChange)(k_:Int):Option ((Bool×List DChange)×Int):=(inf H).call 190 (a,k_)
theorem F3zK:H.key 190=some F3zH:=by kernel_rfl
noncomputable def Fbk(a:Bool×List DChange)(k_:Int)(i:Int):Option ((Bool×List DChange)×Int):=(inf H).loop 190 0 (Jc6 Tryz.f190 0) (a,(k_,i))
noncomputable def F44(a:Bool×List DCommand)(k_:Int):Option ((Bool×List DCommand)×Int):=(inf H).call 116 (a,k_)
theorem F44K:H.key 116=some F44H:=by kernel_rfl
noncomputable def Fcp(a:Bool×List DCommand)(k_:Int)(i:Int):Option ((Bool×List DCommand)×Int):=(inf H).loop 116 0 (Jc6 Tryz.f116 0) (a,(k_,i))
noncomputable def F8i(a0_0:Int)(a0_1:Int)(a0_2:DLN)(a0_3:Bool×List DCommand)(k_:Int):Option (DLN×(Bool×List DCommand)×Int):=(inf H).call 57 (a0_0,(a0_1,(a0_2,(a0_3,k_))))
noncomputable def F3e(a:DRN)(k_:Int):Option (DRN×Int):=(inf H).call 28 (a,k_)
theorem F3eK:H.key 28=some F3eH:=by kernel_rfl
noncomputable def F9m(a:DRN)(k_:Int)(i:Int):Option (DRN×Int):=(inf H).loop 28 0 (Jc6 Tryz.f28 0) (a,(k_,i))
noncomputable def F4p(a:Bool×List DSaid)(k_:Int):Option ((Bool×List DSaid)×Int):=(inf H).call 58 (a,k_)
theorem F4pK:H.key 58=some F4pH:=by kernel_rfl
noncomputable def F90(a:Bool×List DSaid)(k_:Int)(i:Int):Option ((Bool×List DSaid)×Int):=(inf H).loop 58 0 (Jc6 Tryz.f58 0) (a,(k_,i))
noncomputable def F7a(a0_0:Int)(a0_1:Int)(a0_2:DLN)(a0_3:Bool×List DCommand)(a0_4:DRN)(a0_5:Bool×List DSaid)(k_:Int):Option (DLN×(Bool×List DCommand)×DRN×(Bool×List DSaid)×Int):=(inf H).call 18 (a0_0,(a0_1,(a0_2,(a0_3,(a0_4,(a0_5,k_))))))
noncomputable def F28(a:DLI)(k_:Int):Option (DLI×Int):=(inf H).call 20 (a,k_)
theorem F28K:H.key 20=some F28H:=by kernel_rfl
noncomputable def Faz(a:DLI)(k_:Int)(i:Int):Option (DLI×Int):=(inf H).loop 20 0 (Jc6 Tryz.f20 0) (a,(k_,i))
noncomputable def F6r(a:DLI)(k_:Int):Option (DLI×Int):=(inf H).call 19 (a,k_)
noncomputable def F73(a0_0:Int)(a0_1:DLI)(a0_2:DLI)(a0_3:Int)(a0_4:DLI)(k_:Int):Option (DLI×DLI×DLI×Int):=(inf H).call 29 (a0_0,(a0_1,(a0_2,(a0_3,(a0_4,k_)))))
noncomputable def F2a(a:DLI)(k_:Int):Option Int:=(inf H).call 21 (a,k_)
theorem F2aK:H.key 21=some F2aH:=by kernel_rfl
noncomputable def Fa2(a:DLI)(k_:Int)(i:Int):Option (Int ⊕ Int):=(inf H).loop 21 0 (Jc6 Tryz.f21 0) (a,(k_,i))
noncomputable def F7w(a:DSight)(k_:Int):Option Int:=(inf H).call 76 (a,k_)
noncomputable def F5z(a:DOutcome)(k_:Int):Option Int:=(inf H).call 30 (a,k_)
noncomputable def Fcj(aQ:DQuestion)(aPreds:DRN)(aBudget:Int):Option Bool:=(inf H).call 5 (aQ,(aPreds,aBudget))
theorem tC{k:Nat}{x:Den (tyOf (aTys H k))}{y}(h:J66 H (inf H) k x=y:=by kernel_rfl):(inf H).call k x=y:=(J6e k x).trans h
theorem tL{k n:Nat}{c:Code}{x:Den (tyOf (hTys (Jd H k n)))}{f:FnH}{y}(hf:H.key k=some f)(h:J2p H k f (inf H) n c x=y:=by kernel_rfl):(inf H).loop k n c x=y:=(J6f k n c x hf).trans h
theorem FzE(a left_):Fz a left_=
 bif i64.wrap (left_-(a.2.length:Int))<0 then
 some (-1)
else 
 some (i64.wrap (left_-(a.2.length:Int))):=tC
theorem F1uE(a left_):F1u a left_=
(Fz a.2 left_).bind fun r=>
 bif r<0 then
 some (-1)
else 
 some r:=tC
theorem Fb8E(a left_ i):Fb8 a left_ i=
 bif i<(a.2.length:Int) then
 bif 0≤i then
 bif i<(a.2.length:Int) then
(F1u (a.2.getD (toNat i) (0,(true,[]))) left_).bind fun r=>
 bif r<0 then
 some (.inl (-1))
else 
(Fb8 a r (i64.wrap (i+1))).bind fun r=>some r
else none
else none
else 
 some (.inr left_):=tL F4lK
theorem F4lE(a left_):F4l a left_=
 bif i64.wrap (left_-(a.2.length:Int))<0 then
 some (-1)
else 
(Fb8 a (i64.wrap (left_-(a.2.length:Int))) 0).bind fun r=>
 match r with
| .inl y=>
 some y
| .inr z=>
 some z:=tC
theorem F1qE(a left_):F1q a left_=
(Fz a.1 left_).bind fun r=>
 bif r<0 then
 some (-1)
else 
(F4l a.2 r).bind fun r1=>
 bif r1<0 then
 some (-1)
else 
 some r1:=tC
theorem FanE(a left_ i):Fan a left_ i=
 bif i<(a.2.length:Int) then
 bif 0≤i then
 bif i<(a.2.length:Int) then
(F1q (a.2.getD (toNat i) ((true,[]),(true,[]))) left_).bind fun r=>
 bif r<0 then
 some (.inl (-1))
else 
(Fan a r (i64.wrap (i+1))).bind fun r=>some r
else none
else none
else 
 some (.inr left_):=tL F43K
theorem F43E(a left_):F43 a left_=
 bif i64.wrap (left_-(a.2.length:Int))<0 then
 some (-1)
else 
(Fan a (i64.wrap (left_-(a.2.length:Int))) 0).bind fun r=>
 match r with
| .inl y=>
 some y
| .inr z=>
 some z:=tC
theorem F7gE(a left_):F7g a left_=
(Fz a.2.2.1 left_).bind fun r=>
 bif r<0 then
 some (-1)
else 
(F43 a.2.2.2 r).bind fun r1=>
 bif r1<0 then
 some (-1)
else 
 some r1:=tC
theorem FafE(a left_ i):Faf a left_ i=
 bif i<(a.2.length:Int) then
 bif 0≤i then
 bif i<(a.2.length:Int) then
(Fz (a.2.getD (toNat i) (true,[])) left_).bind fun r=>
 bif r<0 then
 some (.inl (-1))
else 
(Faf a r (i64.wrap (i+1))).bind fun r=>some r
else none
else none
else 
 some (.inr left_):=tL F2vK
theorem F2vE(a left_):F2v a left_=
 bif i64.wrap (left_-(a.2.length:Int))<0 then
 some (-1)
else 
(Faf a (i64.wrap (left_-(a.2.length:Int))) 0).bind fun r=>
 match r with
| .inl y=>
 some y
| .inr z=>
 some z:=tC
theorem F7cE(a left_):F7c a left_=
 bif i64.wrap (left_-(a.2.length:Int))<0 then
 some (-1)
else 
 some (i64.wrap (left_-(a.2.length:Int))):=tC
theorem F6wE(a left_):F6w a left_=
(F7g a.1 left_).bind fun r=>
 bif r<0 then
 some (-1)
else 
(F2v a.2.1 r).bind fun r1=>
 bif r1<0 then
 some (-1)
else 
(F7c a.2.2 r1).bind fun r2=>
 bif r2<0 then
 some (-1)
else 
 some r2:=tC
theorem F8E(a):F8 a=
 some (a.1,a.2):=tC
theorem FagE(a out i):Fag a out i=
 bif i<(a.2.length:Int) then
 bif 0≤i then
 bif i<(a.2.length:Int) then
(F8 (a.2.getD (toNat i) (0,0))).bind fun r=>
 bif 0≤i then
 bif i<(out.2.length:Int) then
(Fag a (out.1,(out.2.set (toNat i) r)) (i64.wrap (i+1))).bind fun r=>some r
else none
else none
else none
else none
else 
 some (out.1,out.2):=tL FeK
theorem FeE(a):Fe a=
 bif 0≤(a.2.length:Int) then
 bif (a.2.length:Int)≤lim then
 bif (a.2.length:Int)≤(a.2.length:Int) then
 bif (a.2.length:Int)≤lim then
(Fag a (false,(List.replicate (toNat (a.2.length:Int)) ((0,0):DNode))) 0).bind fun r=>
 some (r.1,r.2)
else none
else none
else none
else none:=tC
theorem F1jE(a):F1j a=
(Fe a.2).bind fun r=>
 some (a.1,(r.1,r.2)):=tC
theorem F9hE(a out i):F9h a out i=
 bif i<(a.2.length:Int) then
 bif 0≤i then
 bif i<(a.2.length:Int) then
(F1j (a.2.getD (toNat i) (0,(true,[])))).bind fun r=>
 bif 0≤i then
 bif i<(out.2.length:Int) then
(F9h a (out.1,(out.2.set (toNat i) (r.1,(r.2.1,r.2.2)))) (i64.wrap (i+1))).bind fun r=>some r
else none
else none
else none
else none
else 
 some (out.1,out.2):=tL F4rK
theorem F4rE(a):F4r a=
 bif 0≤(a.2.length:Int) then
 bif (a.2.length:Int)≤lim then
 bif (a.2.length:Int)≤(a.2.length:Int) then
 bif (a.2.length:Int)≤lim then
(F9h a (false,(List.replicate (toNat (a.2.length:Int)) ((0,(true,[])):DChange))) 0).bind fun r=>
 some (r.1,r.2)
else none
else none
else none
else none:=tC
theorem F1iE(a):F1i a=
(Fe a.1).bind fun r=>
(F4r a.2).bind fun r1=>
 some ((r.1,r.2),(r1.1,r1.2)):=tC
theorem F9qE(a out i):F9q a out i=
 bif i<(a.2.length:Int) then
 bif 0≤i then
 bif i<(a.2.length:Int) then
(F1i (a.2.getD (toNat i) ((true,[]),(true,[])))).bind fun r=>
 bif 0≤i then
 bif i<(out.2.length:Int) then
(F9q a (out.1,(out.2.set (toNat i) ((r.1.1,r.1.2),(r.2.1,r.2.2)))) (i64.wrap (i+1))).bind fun r=>some r
else none
else none
else none
else none
else 
 some (out.1,out.2):=tL F4kK
theorem F4kE(a):F4k a=
 bif 0≤(a.2.length:Int) then
 bif (a.2.length:Int)≤lim then
 bif (a.2.length:Int)≤(a.2.length:Int) then
 bif (a.2.length:Int)≤lim then
(F9q a (false,(List.replicate (toNat (a.2.length:Int)) (((true,[]),(true,[])):DCommand))) 0).bind fun r=>
 some (r.1,r.2)
else none
else none
else none
else none:=tC
theorem F7dE(a):F7d a=
(Fe a.2.2.1).bind fun r=>
(F4k a.2.2.2).bind fun r1=>
 some (a.1,(a.2.1,((r.1,r.2),(r1.1,r1.2)))):=tC
theorem FclE(a out i):Fcl a out i=
 bif i<(a.2.length:Int) then
 bif 0≤i then
 bif i<(a.2.length:Int) then
(Fe (a.2.getD (toNat i) (true,[]))).bind fun r=>
 bif 0≤i then
 bif i<(out.2.length:Int) then
(Fcl a (out.1,(out.2.set (toNat i) (r.1,r.2))) (i64.wrap (i+1))).bind fun r=>some r
else none
else none
else none
else none
else 
 some (out.1,out.2):=tL F21K
theorem F21E(a):F21 a=
 bif 0≤(a.2.length:Int) then
 bif (a.2.length:Int)≤lim then
 bif (a.2.length:Int)≤(a.2.length:Int) then
 bif (a.2.length:Int)≤lim then
(Fcl a (false,(List.replicate (toNat (a.2.length:Int)) ((true,[]):Bool×List DNode))) 0).bind fun r=>
 some (r.1,r.2)
else none
else none
else none
else none:=tC
theorem F1mE(a):F1m a=
 some (a.1,a.2):=tC
theorem Fb0E(a out i):Fb0 a out i=
 bif i<(a.2.length:Int) then
 bif 0≤i then
 bif i<(a.2.length:Int) then
(F1m (a.2.getD (toNat i) (0,0))).bind fun r=>
 bif 0≤i then
 bif i<(out.2.length:Int) then
(Fb0 a (out.1,(out.2.set (toNat i) r)) (i64.wrap (i+1))).bind fun r=>some r
else none
else none
else none
else none
else 
 some (out.1,out.2):=tL F4eK
theorem F4eE(a):F4e a=
 bif 0≤(a.2.length:Int) then
 bif (a.2.length:Int)≤lim then
 bif (a.2.length:Int)≤(a.2.length:Int) then
 bif (a.2.length:Int)≤lim then
(Fb0 a (false,(List.replicate (toNat (a.2.length:Int)) ((0,0):DSaid))) 0).bind fun r=>
 some (r.1,r.2)
else none
else none
else none
else none:=tC
theorem F5dE(a):F5d a=
(F7d a.1).bind fun r=>
(F21 a.2.1).bind fun r1=>
(F4e a.2.2).bind fun r2=>
 some (r.1,(r.2.1,((r.2.2.1.1,r.2.2.1.2),((r.2.2.2.1,r.2.2.2.2),((r1.1,r1.2),(r2.1,r2.2)))))):=tC
theorem F2oE(n lo hi):F2o n lo hi=
 bif n≥lo then
 some (decide (n≤hi))
else 
 some false:=tC
theorem F69E(wide):F69 wide=
(F2o wide 1 64).bind fun r=>
 some r:=tC
theorem F5hE(op):F5h op=
 bif (op==1)then
 some (0,(1,1))
else 
 bif (op==2)then
 some (0,(1,1))
else 
 bif (op==20)then
 some (0,(2,2))
else 
 bif (op==13)then
 some (1,(1,1))
else 
 bif (op==19)then
 some (1,(2,2))
else 
(F2o op 3 12).bind fun r=>
 bif r then
 some (2,(1,1))
else 
(F2o op 14 16).bind fun r1=>
 bif r1 then
 some (2,(1,2))
else 
 bif (op==17)then
 some (2,(2,2))
else 
 bif (op==18)then
 some (2,(2,2))
else 
 some (0,(0,0)):=tC
theorem F95E(wide a out k_):F95 wide a out k_=
 bif k_<wide then
 bif u64.wrap k_<0 then
 none
else 
(F95 wide a (bOr .u64 out (bAnd .u64 a (bShl .u64 1 (u64.wrap k_)))) (i64.wrap (k_+1))).bind fun r=>some r
else 
 some out:=tL F1aK
theorem F1aE(wide a):F1a wide a=
(F95 wide a 0 0).bind fun r=>
 some r:=tC
theorem F5nE(wide a):F5n wide a=
(F69 wide).bind fun r=>
 bif r then
(F1a wide a).bind fun r1=>
 some (r1==a)
else 
 some false:=tC
theorem F3sE(wide vars n):F3s wide vars n=
 bif (n.1==1)then
(F5n wide n.2).bind fun r=>
 some r
else 
 bif (n.1==2)then
 some (decide (n.2<(u64.wrap vars)))
else 
 bif (n.1==20)then
 some (decide (n.2<2))
else 
 some (n.2==0):=tC
theorem F9jE(wide vars pile t27 t28 t29):F9j wide vars pile t27 t28 t29=
 bif t29<t28 then
 bif 0≤t29 then
 bif t29<(t27.2.length:Int) then
(F5h ((t27.2.getD (toNat t29) (0,0)).1)).bind fun r=>
 bif (r.2.2==0)then
 some (.inl 0)
else 
(F3s wide vars (t27.2.getD (toNat t29) (0,0))).bind fun r1=>
 bif !r1 then
 some (.inl 0)
else 
 bif (pile.2.length:Int)<r.1 then
 some (.inl 0)
else 
(Fbn wide vars (pile.1,pile.2) r.1 r.2.1 r.2.2 t27 t28 t29).bind fun r2=>
 match r2 with
| .inl y=>
 some (.inl y)
| .inr z=>
 bif z.2.length+[r.2.2].length ≤lim then
(F9j wide vars ((z.1&&false),(z.2++[r.2.2])) t27 t28 (i64.wrap (t29+1))).bind fun r=>some r
else none
else none
else none
else 
 some (.inr (pile.1,pile.2)):=tL F12K
theorem FbnE(wide vars pile many part own t27 t28 t29):Fbn wide vars pile many part own t27 t28 t29=
 bif many>0 then
 bif 0≤i64.wrap ((pile.2.length:Int)-1) then
 bif i64.wrap ((pile.2.length:Int)-1)<(pile.2.length:Int) then
 bif (pile.2.getD (toNat (i64.wrap ((pile.2.length:Int)-1))) 0 !=part)then
 some (.inl 0)
else 
 bif 0≤i64.wrap ((pile.2.length:Int)-1) then
 bif i64.wrap ((pile.2.length:Int)-1)≤(pile.2.length:Int) then
(Fbn wide vars (pile.1,((pile.2.take (toNat (i64.wrap ((pile.2.length:Int)-1)))).drop 0)) (i64.wrap (many-1)) part own t27 t28 t29).bind fun r=>some r
else none
else none
else none
else none
else 
 some (.inr (pile.1,pile.2)):=tL F12K
theorem F12E(wide vars t):F12 wide vars t=
(F69 wide).bind fun r=>
 bif !r then
 some 0
else 
(F2o vars 1 4).bind fun r1=>
 bif !r1 then
 some 0
else 
(F2o (t.2.length:Int) 1 48).bind fun r2=>
 bif !r2 then
 some 0
else 
(F9j wide vars (true,[]) t (t.2.length:Int) 0).bind fun r3=>
 match r3 with
| .inl y=>
 some y
| .inr z=>
 bif ((z.2.length:Int) !=1)then
 some 0
else 
 bif 0<(z.2.length:Int) then
 some (z.2.getD 0 0)
else none:=tC
theorem F5aE(p t):F5a p t=
(F12 p.1 p.2.1 t).bind fun r=>
 some (r==2):=tC
theorem F7eE(p c t21 t22 t23):F7e p c t21 t22 t23=
 bif t23<t22 then
 bif 0≤t23 then
 bif t23<(t21.2.length:Int) then
(F2o ((t21.2.getD (toNat t23) (0,(true,[]))).1) 0 (i64.wrap (p.2.1-1))).bind fun r=>
 bif !r then
 some (.inl false)
else 
 bif t23>0 then
 bif 0≤i64.wrap (t23-1) then
 bif i64.wrap (t23-1)<(c.2.2.length:Int) then
 bif (c.2.2.getD (toNat (i64.wrap (t23-1))) (0,(true,[]))).1≥(t21.2.getD (toNat t23) (0,(true,[]))).1 then
 some (.inl false)
else 
(F12 p.1 p.2.1 ((t21.2.getD (toNat t23) (0,(true,[]))).2)).bind fun r1=>
 bif (r1 !=1)then
 some (.inl false)
else 
(F7e p c t21 t22 (i64.wrap (t23+1))).bind fun r=>some r
else none
else none
else 
(F12 p.1 p.2.1 ((t21.2.getD (toNat t23) (0,(true,[]))).2)).bind fun r2=>
 bif (r2 !=1)then
 some (.inl false)
else 
(F7e p c t21 t22 (i64.wrap (t23+1))).bind fun r=>some r
else none
else none
else 
 some (.inr ()):=tL F2qK
theorem F2qE(p c):F2q p c=
(F5a p c.1).bind fun r=>
 bif !r then
 some false
else 
 bif (c.2.2.length:Int)>p.2.1 then
 some false
else 
(F7e p c c.2 (c.2.2.length:Int) 0).bind fun r1=>
 match r1 with
| .inl y=>
 some y
| .inr z=>
 some true:=tC
theorem FacE(p t18 t19 t20):Fac p t18 t19 t20=
 bif t20<t19 then
 bif 0≤t20 then
 bif t20<(t18.2.length:Int) then
(F2q p (t18.2.getD (toNat t20) ((true,[]),(true,[])))).bind fun r=>
 bif !r then
 some (.inl false)
else 
(Fac p t18 t19 (i64.wrap (t20+1))).bind fun r=>some r
else none
else none
else 
 some (.inr ()):=tL F4gK
theorem F4gE(p):F4g p=
(F5a p p.2.2.1).bind fun r=>
 bif !r then
 some false
else 
(F2o (p.2.2.2.2.length:Int) 1 6).bind fun r1=>
 bif !r1 then
 some false
else 
(Fac p p.2.2.2 (p.2.2.2.2.length:Int) 0).bind fun r2=>
 match r2 with
| .inl y=>
 some y
| .inr z=>
 some true:=tC
theorem F7fE(p):F7f p=
(F4g p).bind fun r=>
 bif r then
 some (decide ((i64.wrap (p.1*p.2.1))≤5))
else 
 some false:=tC
theorem F65E(op):F65 op=
 bif (op==1)then
 bif (op==1)then
 some 0
else 
 bif (op==3)then
 bif (op==3)then
 some 1
else 
 bif (op==5)then
 bif (op==5)then
 some 2
else 
 some (-1)
else 
 bif (op==6)then
 bif (op==6)then
 some 2
else 
 some (-1)
else 
 bif (op==7)then
 bif (op==7)then
 some 2
else 
 some (-1)
else 
 bif (op==8)then
 some 2
else 
 some (-1)
else 
 bif (op==4)then
 some 1
else 
 bif (op==5)then
 bif (op==5)then
 some 2
else 
 some (-1)
else 
 bif (op==6)then
 bif (op==6)then
 some 2
else 
 some (-1)
else 
 bif (op==7)then
 bif (op==7)then
 some 2
else 
 some (-1)
else 
 bif (op==8)then
 some 2
else 
 some (-1)
else 
 bif (op==2)then
 some 0
else 
 bif (op==3)then
 bif (op==3)then
 some 1
else 
 bif (op==5)then
 bif (op==5)then
 some 2
else 
 some (-1)
else 
 bif (op==6)then
 bif (op==6)then
 some 2
else 
 some (-1)
else 
 bif (op==7)then
 bif (op==7)then
 some 2
else 
 some (-1)
else 
 bif (op==8)then
 some 2
else 
 some (-1)
else 
 bif (op==4)then
 some 1
else 
 bif (op==5)then
 bif (op==5)then
 some 2
else 
 some (-1)
else 
 bif (op==6)then
 bif (op==6)then
 some 2
else 
 some (-1)
else 
 bif (op==7)then
 bif (op==7)then
 some 2
else 
 some (-1)
else 
 bif (op==8)then
 some 2
else 
 some (-1):=tC
theorem F4uE(n):F4u n=
 bif (n.1==1)then
(F2o n.2 0 2).bind fun r=>
 some r
else 
 bif (n.1==2)then
(F2o n.2 0 1).bind fun r1=>
 some r1
else 
 some (n.2==0):=tC
theorem F9oE(pile t11 t12 t13):F9o pile t11 t12 t13=
 bif t13<t12 then
 bif 0≤t13 then
 bif t13<(t11.2.length:Int) then
(F65 ((t11.2.getD (toNat t13) (0,0)).1)).bind fun r=>
 bif r<0 then
 some (.inl false)
else 
(F4u (t11.2.getD (toNat t13) (0,0))).bind fun r1=>
 bif !r1 then
 some (.inl false)
else 
 bif pile<r then
 some (.inl false)
else 
(F9o (i64.wrap (pile+(i64.wrap (1-r)))) t11 t12 (i64.wrap (t13+1))).bind fun r=>some r
else none
else none
else 
 some (.inr pile):=tL F4fK
theorem F4fE(f):F4f f=
(F2o (f.2.length:Int) 1 16).bind fun r=>
 bif !r then
 some false
else 
(F9o 0 f (f.2.length:Int) 0).bind fun r1=>
 match r1 with
| .inl y=>
 some y
| .inr z=>
 some (z==1):=tC
theorem FaqE(l n k_):Faq l n k_=
 bif k_<(l.2.length:Int) then
 bif 0≤k_ then
 bif k_<(l.2.length:Int) then
 bif l.2.getD (toNat k_) 0<n then
(Faq l n (i64.wrap (k_+1))).bind fun r=>some r
else 
 some k_
else none
else none
else 
 some k_:=tL F10K
theorem F10E(l n):F10 l n=
(Faq l n 0).bind fun r=>
 bif r<(l.2.length:Int) then
 bif 0≤r then
 bif r<(l.2.length:Int) then
 bif (l.2.getD (toNat r) 0==n)then
 some l
else 
 bif 0≤r then
 bif r≤(l.2.length:Int) then
 bif ([]:List Int).length +((l.2.take (toNat r)).drop 0).length ≤lim then
 bif ([]++((l.2.take (toNat r)).drop 0)).length +[n].length ≤lim then
 bif 0≤r then
 bif r≤(l.2.length:Int) then
 bif (([]++((l.2.take (toNat r)).drop 0))++[n]).length +((l.2.take l.2.length).drop (toNat r)).length ≤lim then
 some (false,((([]++((l.2.take (toNat r)).drop 0))++[n])++((l.2.take l.2.length).drop (toNat r))))
else none
else none
else none
else none
else none
else none
else none
else none
else none
else 
 bif 0≤r then
 bif r≤(l.2.length:Int) then
 bif ([]:List Int).length +((l.2.take (toNat r)).drop 0).length ≤lim then
 bif ([]++((l.2.take (toNat r)).drop 0)).length +[n].length ≤lim then
 bif 0≤r then
 bif r≤(l.2.length:Int) then
 bif (([]++((l.2.take (toNat r)).drop 0))++[n]).length +((l.2.take l.2.length).drop (toNat r)).length ≤lim then
 some (false,((([]++((l.2.take (toNat r)).drop 0))++[n])++((l.2.take l.2.length).drop (toNat r))))
else none
else none
else none
else none
else none
else none
else none:=tC
theorem F59E(out t10 t11 t12):F59 out t10 t11 t12=
 bif t12<t11 then
 bif 0≤t12 then
 bif t12<(t10.2.length:Int) then
 bif ((t10.2.getD (toNat t12) (0,0)).1==7)then
 bif ((t10.2.getD (toNat t12) (0,0)).1==7)then
(F10 out t12).bind fun r=>
(F10 r (i64.wrap (t12-1))).bind fun r1=>
(F59 r1 t10 t11 (i64.wrap (t12+1))).bind fun r=>some r
else 
 bif ((t10.2.getD (toNat t12) (0,0)).1==4)then
(F10 out (i64.wrap (t12-1))).bind fun r2=>
(F59 r2 t10 t11 (i64.wrap (t12+1))).bind fun r=>some r
else 
(F59 out t10 t11 (i64.wrap (t12+1))).bind fun r=>some r
else 
 bif ((t10.2.getD (toNat t12) (0,0)).1==8)then
(F10 out t12).bind fun r3=>
(F10 r3 (i64.wrap (t12-1))).bind fun r4=>
(F59 r4 t10 t11 (i64.wrap (t12+1))).bind fun r=>some r
else 
 bif ((t10.2.getD (toNat t12) (0,0)).1==4)then
(F10 out (i64.wrap (t12-1))).bind fun r5=>
(F59 r5 t10 t11 (i64.wrap (t12+1))).bind fun r=>some r
else 
(F59 out t10 t11 (i64.wrap (t12+1))).bind fun r=>some r
else none
else none
else 
 some out:=tL F1nK
theorem F1nE(f):F1n f=
(F59 (false,[i64.wrap ((f.2.length:Int)-1)]) f (f.2.length:Int) 0).bind fun r=>
 some r:=tC
theorem F8oE(f):F8o f=
(F4f f).bind fun r=>
 bif r then
(F1n f).bind fun r1=>
 some (decide ((r1.2.length:Int)≤5))
else 
 some false:=tC
theorem FbrE(q t22 t23 t24):Fbr q t22 t23 t24=
 bif t24<t23 then
 bif 0≤t24 then
 bif t24<(t22.2.length:Int) then
(F5a q.1 (t22.2.getD (toNat t24) (true,[]))).bind fun r=>
 bif !r then
 some (.inl false)
else 
(Fbr q t22 t23 (i64.wrap (t24+1))).bind fun r=>some r
else none
else none
else 
 some (.inr ()):=tL F4mK
theorem F4mE(q):F4m q=
(F7f q.1).bind fun r=>
 bif !r then
 some false
else 
 bif ((q.2.1.2.length:Int) !=3)then
 some false
else 
(F8o q.2.2).bind fun r1=>
 bif !r1 then
 some false
else 
(Fbr q q.2.1 (q.2.1.2.length:Int) 0).bind fun r2=>
 match r2 with
| .inl y=>
 some y
| .inr z=>
 some true:=tC
theorem F9eE(p t10 t11 t12):F9e p t10 t11 t12=
 bif t12<t11 then
 bif 0≤t12 then
 bif t12<(t10.2.length:Int) then
(F5a p (t10.2.getD (toNat t12) (true,[]))).bind fun r=>
 bif !r then
 some (.inl false)
else 
(F9e p t10 t11 (i64.wrap (t12+1))).bind fun r=>some r
else none
else none
else 
 some (.inr ()):=tL F4cK
theorem F4cE(p preds):F4c p preds=
 bif (preds.2.length:Int)>8 then
 some false
else 
(F9e p preds (preds.2.length:Int) 0).bind fun r=>
 match r with
| .inl y=>
 some y
| .inr z=>
 some true:=tC
theorem F5mE(p):F5m p=
 bif u64.wrap (i64.wrap (p.1*p.2.1))<0 then
 none
else 
 some (bShl .i64 1 (u64.wrap (i64.wrap (p.1*p.2.1)))):=tC
theorem Fb1E(no p out v):Fb1 no p out v=
 bif v<p.2.1 then
 bif u64.wrap (i64.wrap (v*p.1))<0 then
 none
else 
 bif u64.wrap p.1<0 then
 none
else 
 bif out.2.length+[u64.wrap (bAnd .i64 (bShr .i64 no (u64.wrap (i64.wrap (v*p.1)))) (i64.wrap ((bShl .i64 1 (u64.wrap p.1))-1)))].length ≤lim then
(Fb1 no p ((out.1&&false),(out.2++[u64.wrap (bAnd .i64 (bShr .i64 no (u64.wrap (i64.wrap (v*p.1)))) (i64.wrap ((bShl .i64 1 (u64.wrap p.1))-1)))])) (i64.wrap (v+1))).bind fun r=>some r
else none
else 
 some (out.1,out.2):=tL F2lK
theorem F2lE(p no):F2l p no=
(Fb1 no p (true,[]) 0).bind fun r=>
 some (r.1,r.2):=tC
theorem Fa3E(t many from_):Fa3 t many from_=
 bif many>0 then
(F33 t (i64.wrap (from_-1))).bind fun r=>
(Fa3 t (i64.wrap (many-1)) r).bind fun r=>some r
else 
 some from_:=tL F33K
theorem F33E(t k_):F33 t k_=
 bif 0≤k_ then
 bif k_<(t.2.length:Int) then
(F5h ((t.2.getD (toNat k_) (0,0)).1)).bind fun r=>
(Fa3 t r.1 k_).bind fun r1=>
 some r1
else none
else none:=tC
theorem F8uE(wide a b):F8u wide a b=
(F5n wide a).bind fun r=>
 bif r then
(F5n wide b).bind fun r1=>
 some r1
else 
 some false:=tC
theorem F8kE(wide a b):F8k wide a b=
(F8u wide a b).bind fun r=>
 bif !r then
 some (0,(0,false))
else 
 bif (b==0)then
(F1a wide 18446744073709551615).bind fun r1=>
 some (r1,(a,true))
else 
 bif (b==0)then
 none
else 
 bif (b==0)then
 none
else 
 some (u64.wrap (Int.tdiv a b),(Int.tmod a b,true)):=tC
theorem F6vE(wide a by_ left_):F6v wide a by_ left_=
 bif by_>0 then
 bif left_ then
(F1a wide (bShl .u64 a 1)).bind fun r=>
(F6v wide r (u64.wrap (by_-1)) left_).bind fun r=>some r
else 
(F6v wide (bShr .u64 a 1) (u64.wrap (by_-1)) left_).bind fun r=>some r
else 
 some a:=tL F13K
theorem F13E(wide a by_ left_):F13 wide a by_ left_=
 bif by_≥u64.wrap wide then
 some 0
else 
(F6v wide a by_ left_).bind fun r=>
 some r:=tC
theorem F23E(is):F23 is=
 bif is then
 some 1
else 
 some 0:=tC
theorem F4sE(wide a):F4s wide a=
 bif u64.wrap (i64.wrap (wide-1))<0 then
 none
else 
 bif ((bAnd .u64 (bShr .u64 a (u64.wrap (i64.wrap (wide-1)))) 1)==1)then
(F1a wide 18446744073709551615).bind fun r=>
 some (i64.wrap (bOr .u64 a (bXor .u64 18446744073709551615 r)))
else 
 some (i64.wrap a):=tC
theorem F86E(wide op a b):F86 wide op a b=
(F8k wide a b).bind fun r=>
 bif (op==3)then
(F1a wide (u64.wrap (a+b))).bind fun r1=>
 some r1
else 
 bif (op==4)then
(F1a wide (u64.wrap (a-b))).bind fun r2=>
 some r2
else 
 bif (op==5)then
(F1a wide (u64.wrap (a*b))).bind fun r3=>
 some r3
else 
 bif (op==6)then
 some r.1
else 
 bif (op==7)then
 some r.2.1
else 
 bif (op==8)then
 bif (op==8)then
 some (bAnd .u64 a b)
else 
 bif (op==9)then
 bif (op==9)then
 some (bOr .u64 a b)
else 
 bif (op==10)then
 some (bXor .u64 a b)
else 
 bif (op==11)then
(F13 wide a b true).bind fun r4=>
 some r4
else 
 bif (op==12)then
(F13 wide a b false).bind fun r5=>
 some r5
else 
 bif (op==14)then
(F23 (a==b)).bind fun r6=>
 some r6
else 
 bif (op==15)then
(F23 (decide (a<b))).bind fun r7=>
 some r7
else 
 bif (op==16)then
(F4s wide a).bind fun r8=>
(F4s wide b).bind fun r9=>
(F23 (decide (r8<r9))).bind fun r10=>
 some r10
else 
 some 0
else 
 bif (op==18)then
 some (bOr .u64 a b)
else 
 bif (op==10)then
 some (bXor .u64 a b)
else 
 bif (op==11)then
(F13 wide a b true).bind fun r11=>
 some r11
else 
 bif (op==12)then
(F13 wide a b false).bind fun r12=>
 some r12
else 
 bif (op==14)then
(F23 (a==b)).bind fun r13=>
 some r13
else 
 bif (op==15)then
(F23 (decide (a<b))).bind fun r14=>
 some r14
else 
 bif (op==16)then
(F4s wide a).bind fun r15=>
(F4s wide b).bind fun r16=>
(F23 (decide (r15<r16))).bind fun r17=>
 some r17
else 
 some 0
else 
 bif (op==17)then
 some (bAnd .u64 a b)
else 
 bif (op==9)then
 bif (op==9)then
 some (bOr .u64 a b)
else 
 bif (op==10)then
 some (bXor .u64 a b)
else 
 bif (op==11)then
(F13 wide a b true).bind fun r18=>
 some r18
else 
 bif (op==12)then
(F13 wide a b false).bind fun r19=>
 some r19
else 
 bif (op==14)then
(F23 (a==b)).bind fun r20=>
 some r20
else 
 bif (op==15)then
(F23 (decide (a<b))).bind fun r21=>
 some r21
else 
 bif (op==16)then
(F4s wide a).bind fun r22=>
(F4s wide b).bind fun r23=>
(F23 (decide (r22<r23))).bind fun r24=>
 some r24
else 
 some 0
else 
 bif (op==18)then
 some (bOr .u64 a b)
else 
 bif (op==10)then
 some (bXor .u64 a b)
else 
 bif (op==11)then
(F13 wide a b true).bind fun r25=>
 some r25
else 
 bif (op==12)then
(F13 wide a b false).bind fun r26=>
 some r26
else 
 bif (op==14)then
(F23 (a==b)).bind fun r27=>
 some r27
else 
 bif (op==15)then
(F23 (decide (a<b))).bind fun r28=>
 some r28
else 
 bif (op==16)then
(F4s wide a).bind fun r29=>
(F4s wide b).bind fun r30=>
(F23 (decide (r29<r30))).bind fun r31=>
 some r31
else 
 some 0:=tC
theorem F56E(wide t k_ state):F56 wide t k_ state=
 bif 0≤k_ then
 bif k_<(t.2.length:Int) then
(F5h ((t.2.getD (toNat k_) (0,0)).1)).bind fun r=>
 bif ((t.2.getD (toNat k_) (0,0)).1==2)then
 bif 0≤(t.2.getD (toNat k_) (0,0)).2 then
 bif (t.2.getD (toNat k_) (0,0)).2<(state.2.length:Int) then
 some (state.2.getD (toNat ((t.2.getD (toNat k_) (0,0)).2)) 0)
else none
else none
else 
 bif (r.1==0)then
 some ((t.2.getD (toNat k_) (0,0)).2)
else 
 bif ((t.2.getD (toNat k_) (0,0)).1==13)then
(F56 wide t (i64.wrap (k_-1)) state).bind fun r1=>
(F1a wide (bXor .u64 18446744073709551615 r1)).bind fun r2=>
 some r2
else 
 bif ((t.2.getD (toNat k_) (0,0)).1==19)then
(F56 wide t (i64.wrap (k_-1)) state).bind fun r3=>
 some (u64.wrap (1-r3))
else 
(F33 t (i64.wrap (k_-1))).bind fun r4=>
(F56 wide t (i64.wrap (r4-1)) state).bind fun r5=>
(F56 wide t (i64.wrap (k_-1)) state).bind fun r6=>
(F86 wide ((t.2.getD (toNat k_) (0,0)).1) r5 r6).bind fun r7=>
 some r7
else none
else none:=tC
theorem F5lE(p t s):F5l p t s=
(F56 p.1 t (i64.wrap ((t.2.length:Int)-1)) s).bind fun r=>
 some (r==1):=tC
theorem F83E(t p out no):F83 t p out no=
(F5m p).bind fun r=>
 bif no<r then
(F2l p no).bind fun r1=>
(F5l p t (r1.1,r1.2)).bind fun r2=>
 bif r2 then
 bif out.2.length+[no].length ≤lim then
(F83 t p ((out.1&&false),(out.2++[no])) (i64.wrap (no+1))).bind fun r=>some r
else none
else 
(F83 t p (out.1,out.2) (i64.wrap (no+1))).bind fun r=>some r
else 
 some (out.1,out.2):=tL F24K
theorem F24E(p t):F24 p t=
(F83 t p (true,[]) 0).bind fun r=>
 some (r.1,r.2):=tC
theorem Fa5E(n t7 t8 t9):Fa5 n t7 t8 t9=
 bif t9<t8 then
 bif 0≤t9 then
 bif t9<(t7.2.length:Int) then
 bif (t7.2.getD (toNat t9) 0==n)then
 some (.inl true)
else 
(Fa5 n t7 t8 (i64.wrap (t9+1))).bind fun r=>some r
else none
else none
else 
 some (.inr ()):=tL F2nK
theorem F2nE(l n):F2n l n=
(Fa5 n l (l.2.length:Int) 0).bind fun r=>
 match r with
| .inl y=>
 some y
| .inr z=>
 some false:=tC
theorem F77E(keys t2 out many t9 t10 t11):F77 keys t2 out many t9 t10 t11=
 bif t11<t10 then
 bif 0≤t11 then
 bif t11<(t9.2.length:Int) then
(F9z keys t2 (out.1,out.2) many t11 (t9.2.getD (toNat t11) 0) many 0 t9 t10 t11).bind fun r=>
 bif (r==many)then
 bif out.2.length+[r].length ≤lim then
(F77 keys t2 ((out.1&&false),(out.2++[r])) (i64.wrap (many+1)) t9 t10 (i64.wrap (t11+1))).bind fun r=>some r
else none
else 
 bif out.2.length+[r].length ≤lim then
(F77 keys t2 ((out.1&&false),(out.2++[r])) many t9 t10 (i64.wrap (t11+1))).bind fun r=>some r
else none
else none
else none
else 
 some (out.1,out.2):=tL F19K
theorem F9zE(keys t2 out many i key class_ j t9 t10 t11):F9z keys t2 out many i key class_ j t9 t10 t11=
 bif j<i then
 bif 0≤j then
 bif j<(keys.2.length:Int) then
 bif (keys.2.getD (toNat j) 0==key)then
 bif 0≤j then
 bif j<(out.2.length:Int) then
 some (out.2.getD (toNat j) 0)
else none
else none
else 
(F9z keys t2 out many i key class_ (i64.wrap (j+1)) t9 t10 t11).bind fun r=>some r
else none
else none
else 
 some class_:=tL F19K
theorem F19E(keys):F19 keys=
(F77 keys (true,[]) (true,[]) 0 keys (keys.2.length:Int) 0).bind fun r=>
 some (r.1,r.2):=tC
theorem F6eE(some_ t4 keys t9 t10 t11):F6e some_ t4 keys t9 t10 t11=
 bif t11<t10 then
 bif 0≤t11 then
 bif t11<(t9.2.length:Int) then
(F2n some_ t11).bind fun r=>
 bif r then
 bif keys.2.length+[i64.wrap ((i64.wrap (2*(t9.2.getD (toNat t11) 0)))+1)].length ≤lim then
(F6e some_ t4 ((keys.1&&false),(keys.2++[i64.wrap ((i64.wrap (2*(t9.2.getD (toNat t11) 0)))+1)])) t9 t10 (i64.wrap (t11+1))).bind fun r=>some r
else none
else 
 bif keys.2.length+[i64.wrap (2*(t9.2.getD (toNat t11) 0))].length ≤lim then
(F6e some_ t4 ((keys.1&&false),(keys.2++[i64.wrap (2*(t9.2.getD (toNat t11) 0))])) t9 t10 (i64.wrap (t11+1))).bind fun r=>some r
else none
else none
else none
else 
 some (keys.1,keys.2):=tL F2hK
theorem F2hE(v some_):F2h v some_=
(F6e some_ (true,[]) (true,[]) v (v.2.length:Int) 0).bind fun r=>
(F19 (r.1,r.2)).bind fun r1=>
 some (r1.1,r1.2):=tC
theorem F5wE(p v t):F5w p v t=
(F24 p t).bind fun r=>
(F2h v (r.1,r.2)).bind fun r1=>
 some (r1.1,r1.2):=tC
theorem F9dE(p t4 v t12 t13 t14):F9d p t4 v t12 t13 t14=
 bif t14<t13 then
 bif 0≤t14 then
 bif t14<(t12.2.length:Int) then
(F5w p (v.1,v.2) (t12.2.getD (toNat t14) (true,[]))).bind fun r=>
(F9d p t4 (r.1,r.2) t12 t13 (i64.wrap (t14+1))).bind fun r=>some r
else none
else none
else 
 some (v.1,v.2):=tL F3kK
theorem F3kE(p preds):F3k p preds=
(F5m p).bind fun r=>
 bif 0≤r then
 bif r≤lim then
 bif r≤r then
 bif r≤lim then
(F9d p (true,[]) (false,(List.replicate (toNat r) (0:Int))) preds (preds.2.length:Int) 0).bind fun r1=>
 some (r1.1,r1.2)
else none
else none
else none
else none:=tC
theorem FcbE(q t4 v t13 t14 t15):Fcb q t4 v t13 t14 t15=
 bif t15<t14 then
 bif 0≤t15 then
 bif t15<(t13.2.length:Int) then
(F5w q.1 (v.1,v.2) (t13.2.getD (toNat t15) (true,[]))).bind fun r=>
(Fcb q t4 (r.1,r.2) t13 t14 (i64.wrap (t15+1))).bind fun r=>some r
else none
else none
else 
 some (v.1,v.2):=tL F3uK
theorem F3uE(q preds):F3u q preds=
(F3k q.1 q.2.1).bind fun r=>
(Fcb q (true,[]) (r.1,r.2) preds (preds.2.length:Int) 0).bind fun r1=>
 some (r1.1,r1.2):=tC
theorem FatE(guess node t9 t10 t11):Fat guess node t9 t10 t11=
 bif t11<t10 then
 bif 0≤t11 then
 bif t11<(t9.2.length:Int) then
 bif (t9.2.getD (toNat t11) 0==node)then
 bif u64.wrap t11<0 then
 none
else 
 some (.inl ((bAnd .i64 (bShr .i64 guess (u64.wrap t11)) 1)==1))
else 
(Fat guess node t9 t10 (i64.wrap (t11+1))).bind fun r=>some r
else none
else none
else 
 some (.inr ()):=tL F1xK
theorem F1xE(Q3 guess node):F1x Q3 guess node=
(Fat guess node Q3 (Q3.2.length:Int) 0).bind fun r=>
 match r with
| .inl y=>
 some y
| .inr z=>
 some false:=tC
theorem F5xE(Q3 out t12 t13 t14):F5x Q3 out t12 t13 t14=
 bif t14<t13 then
 bif 0≤t14 then
 bif t14<(t12.2.length:Int) then
 bif ((t12.2.getD (toNat t14) (0,0)).1 !=7)then
 bif ((t12.2.getD (toNat t14) (0,0)).1 !=8)then
(F5x Q3 (out.1,out.2) t12 t13 (i64.wrap (t14+1))).bind fun r=>some r
else 
(F2s Q3 (out.1,out.2) t14 (t12.2.getD (toNat t14) (0,0)) (true,[]) 0 t12 t13 t14).bind fun r=>
 bif out.2.length+[(r.1,r.2)].length ≤lim then
(F5x Q3 ((out.1&&false),(out.2++[(r.1,r.2)])) t12 t13 (i64.wrap (t14+1))).bind fun r=>some r
else none
else 
(F2s Q3 (out.1,out.2) t14 (t12.2.getD (toNat t14) (0,0)) (true,[]) 0 t12 t13 t14).bind fun r1=>
 bif out.2.length+[(r1.1,r1.2)].length ≤lim then
(F5x Q3 ((out.1&&false),(out.2++[(r1.1,r1.2)])) t12 t13 (i64.wrap (t14+1))).bind fun r=>some r
else none
else none
else none
else 
 some (out.1,out.2):=tL FkK
theorem F2sE(Q3 out i n goal guess t12 t13 t14):F2s Q3 out i n goal guess t12 t13 t14=
 bif u64.wrap (Q3.2.length:Int)<0 then
 none
else 
 bif guess<(bShl .i64 1 (u64.wrap (Q3.2.length:Int))) then
(F1x Q3 guess i).bind fun r=>
(F1x Q3 guess (i64.wrap (i-1))).bind fun r1=>
 bif (n.1==7)then
 bif !r then
 bif goal.2.length+[guess].length ≤lim then
(F2s Q3 out i n ((goal.1&&false),(goal.2++[guess])) (i64.wrap (guess+1)) t12 t13 t14).bind fun r=>some r
else none
else 
 bif r1 then
 bif goal.2.length+[guess].length ≤lim then
(F2s Q3 out i n ((goal.1&&false),(goal.2++[guess])) (i64.wrap (guess+1)) t12 t13 t14).bind fun r=>some r
else none
else 
 bif (n.1==8)then
 bif r then
 bif goal.2.length+[guess].length ≤lim then
(F2s Q3 out i n ((goal.1&&false),(goal.2++[guess])) (i64.wrap (guess+1)) t12 t13 t14).bind fun r=>some r
else none
else 
 bif !r1 then
 bif goal.2.length+[guess].length ≤lim then
(F2s Q3 out i n ((goal.1&&false),(goal.2++[guess])) (i64.wrap (guess+1)) t12 t13 t14).bind fun r=>some r
else none
else 
(F2s Q3 out i n (goal.1,goal.2) (i64.wrap (guess+1)) t12 t13 t14).bind fun r=>some r
else 
(F2s Q3 out i n (goal.1,goal.2) (i64.wrap (guess+1)) t12 t13 t14).bind fun r=>some r
else 
 bif (n.1==8)then
 bif r then
 bif goal.2.length+[guess].length ≤lim then
(F2s Q3 out i n ((goal.1&&false),(goal.2++[guess])) (i64.wrap (guess+1)) t12 t13 t14).bind fun r=>some r
else none
else 
 bif !r1 then
 bif goal.2.length+[guess].length ≤lim then
(F2s Q3 out i n ((goal.1&&false),(goal.2++[guess])) (i64.wrap (guess+1)) t12 t13 t14).bind fun r=>some r
else none
else 
(F2s Q3 out i n (goal.1,goal.2) (i64.wrap (guess+1)) t12 t13 t14).bind fun r=>some r
else 
(F2s Q3 out i n (goal.1,goal.2) (i64.wrap (guess+1)) t12 t13 t14).bind fun r=>some r
else 
 some (goal.1,goal.2):=tL FkK
theorem FkE(f Q3):Fk f Q3=
(F5x Q3 (true,[]) f (f.2.length:Int) 0).bind fun r=>
 some (r.1,r.2):=tC
theorem FaoE(f from_ many):Fao f from_ many=
 bif many>0 then
(F1z f (i64.wrap (from_-1))).bind fun r=>
(Fao f r (i64.wrap (many-1))).bind fun r=>some r
else 
 some from_:=tL F1zK
theorem F1zE(f k_):F1z f k_=
 bif 0≤k_ then
 bif k_<(f.2.length:Int) then
(F65 ((f.2.getD (toNat k_) (0,0)).1)).bind fun r=>
(Fao f k_ r).bind fun r1=>
 some r1
else none
else none:=tC
theorem F1wE(f Q3 letter next out t13 t14 t15):F1w f Q3 letter next out t13 t14 t15=
 bif t15<t14 then
 bif 0≤t15 then
 bif t15<(t13.2.length:Int) then
 bif ((t13.2.getD (toNat t15) (0,0)).1==1)then
 bif u64.wrap ((t13.2.getD (toNat t15) (0,0)).2)<0 then
 none
else 
 bif out.2.length+[((bAnd .i64 (bShr .i64 letter (u64.wrap ((t13.2.getD (toNat t15) (0,0)).2))) 1)==1)].length ≤lim then
(F1w f Q3 letter next ((out.1&&false),(out.2++[((bAnd .i64 (bShr .i64 letter (u64.wrap ((t13.2.getD (toNat t15) (0,0)).2))) 1)==1)])) t13 t14 (i64.wrap (t15+1))).bind fun r=>some r
else none
else 
 bif ((t13.2.getD (toNat t15) (0,0)).1==2)then
 bif out.2.length+[((t13.2.getD (toNat t15) (0,0)).2==1)].length ≤lim then
(F1w f Q3 letter next ((out.1&&false),(out.2++[(((t13.2.getD (toNat t15) (0,0)).2)==1)])) t13 t14 (i64.wrap (t15+1))).bind fun r=>some r
else none
else 
 bif ((t13.2.getD (toNat t15) (0,0)).1==3)then
 bif 0≤i64.wrap (t15-1) then
 bif i64.wrap (t15-1)<(out.2.length:Int) then
 bif out.2.length+[!(out.2.getD (toNat (i64.wrap (t15-1))) false)].length ≤lim then
(F1w f Q3 letter next ((out.1&&false),(out.2++[!(out.2.getD (toNat (i64.wrap (t15-1))) false)])) t13 t14 (i64.wrap (t15+1))).bind fun r=>some r
else none
else none
else none
else 
 bif ((t13.2.getD (toNat t15) (0,0)).1==4)then
(F1x Q3 next (i64.wrap (t15-1))).bind fun r=>
 bif out.2.length+[r].length ≤lim then
(F1w f Q3 letter next ((out.1&&false),(out.2++[r])) t13 t14 (i64.wrap (t15+1))).bind fun r=>some r
else none
else 
 bif ((t13.2.getD (toNat t15) (0,0)).1==5)then
(F1z f (i64.wrap (t15-1))).bind fun r1=>
 bif 0≤i64.wrap (r1-1) then
 bif i64.wrap (r1-1)<(out.2.length:Int) then
 bif (out.2.getD (toNat (i64.wrap (r1-1))) false)then
 bif 0≤i64.wrap (t15-1) then
 bif i64.wrap (t15-1)<(out.2.length:Int) then
 bif out.2.length+[(out.2.getD (toNat (i64.wrap (t15-1))) false)].length ≤lim then
(F1w f Q3 letter next ((out.1&&false),(out.2++[(out.2.getD (toNat (i64.wrap (t15-1))) false)])) t13 t14 (i64.wrap (t15+1))).bind fun r=>some r
else none
else none
else none
else 
 bif out.2.length+[false].length ≤lim then
(F1w f Q3 letter next ((out.1&&false),(out.2++[false])) t13 t14 (i64.wrap (t15+1))).bind fun r=>some r
else none
else none
else none
else 
 bif ((t13.2.getD (toNat t15) (0,0)).1==6)then
(F1z f (i64.wrap (t15-1))).bind fun r2=>
 bif 0≤i64.wrap (r2-1) then
 bif i64.wrap (r2-1)<(out.2.length:Int) then
 bif (out.2.getD (toNat (i64.wrap (r2-1))) false)then
 bif out.2.length+[true].length ≤lim then
(F1w f Q3 letter next ((out.1&&false),(out.2++[true])) t13 t14 (i64.wrap (t15+1))).bind fun r=>some r
else none
else 
 bif 0≤i64.wrap (t15-1) then
 bif i64.wrap (t15-1)<(out.2.length:Int) then
 bif out.2.length+[(out.2.getD (toNat (i64.wrap (t15-1))) false)].length ≤lim then
(F1w f Q3 letter next ((out.1&&false),(out.2++[(out.2.getD (toNat (i64.wrap (t15-1))) false)])) t13 t14 (i64.wrap (t15+1))).bind fun r=>some r
else none
else none
else none
else none
else none
else 
 bif ((t13.2.getD (toNat t15) (0,0)).1==7)then
 bif 0≤i64.wrap (t15-1) then
 bif i64.wrap (t15-1)<(out.2.length:Int) then
 bif (out.2.getD (toNat (i64.wrap (t15-1))) false)then
 bif out.2.length+[true].length ≤lim then
(F1w f Q3 letter next ((out.1&&false),(out.2++[true])) t13 t14 (i64.wrap (t15+1))).bind fun r=>some r
else none
else 
(F1z f (i64.wrap (t15-1))).bind fun r3=>
 bif 0≤i64.wrap (r3-1) then
 bif i64.wrap (r3-1)<(out.2.length:Int) then
 bif (out.2.getD (toNat (i64.wrap (r3-1))) false)then
(F1x Q3 next t15).bind fun r4=>
 bif out.2.length+[r4].length ≤lim then
(F1w f Q3 letter next ((out.1&&false),(out.2++[r4])) t13 t14 (i64.wrap (t15+1))).bind fun r=>some r
else none
else 
 bif out.2.length+[false].length ≤lim then
(F1w f Q3 letter next ((out.1&&false),(out.2++[false])) t13 t14 (i64.wrap (t15+1))).bind fun r=>some r
else none
else none
else none
else none
else none
else 
 bif ((t13.2.getD (toNat t15) (0,0)).1==8)then
 bif 0≤i64.wrap (t15-1) then
 bif i64.wrap (t15-1)<(out.2.length:Int) then
 bif (out.2.getD (toNat (i64.wrap (t15-1))) false)then
(F1z f (i64.wrap (t15-1))).bind fun r5=>
 bif 0≤i64.wrap (r5-1) then
 bif i64.wrap (r5-1)<(out.2.length:Int) then
 bif (out.2.getD (toNat (i64.wrap (r5-1))) false)then
 bif out.2.length+[true].length ≤lim then
(F1w f Q3 letter next ((out.1&&false),(out.2++[true])) t13 t14 (i64.wrap (t15+1))).bind fun r=>some r
else none
else 
(F1x Q3 next t15).bind fun r6=>
 bif out.2.length+[r6].length ≤lim then
(F1w f Q3 letter next ((out.1&&false),(out.2++[r6])) t13 t14 (i64.wrap (t15+1))).bind fun r=>some r
else none
else none
else none
else 
 bif out.2.length+[false].length ≤lim then
(F1w f Q3 letter next ((out.1&&false),(out.2++[false])) t13 t14 (i64.wrap (t15+1))).bind fun r=>some r
else none
else none
else none
else 
 bif out.2.length+[false].length ≤lim then
(F1w f Q3 letter next ((out.1&&false),(out.2++[false])) t13 t14 (i64.wrap (t15+1))).bind fun r=>some r
else none
else none
else none
else 
 some (out.1,out.2):=tL FtK
theorem FtE(f Q3 letter next):Ft f Q3 letter next=
(F1w f Q3 letter next (true,[]) f (f.2.length:Int) 0).bind fun r=>
 some (r.1,r.2):=tC
theorem F6kE(now guess t18 t19 t20):F6k now guess t18 t19 t20=
 bif t20<t19 then
 bif 0≤t20 then
 bif t20<(t18.2.length:Int) then
 bif 0≤t18.2.getD (toNat t20) 0 then
 bif t18.2.getD (toNat t20) 0<(now.2.length:Int) then
 bif (now.2.getD (toNat (t18.2.getD (toNat t20) 0)) false)then
 bif u64.wrap t20<0 then
 none
else 
(F6k now (bOr .i64 guess (bShl .i64 1 (u64.wrap t20))) t18 t19 (i64.wrap (t20+1))).bind fun r=>some r
else 
(F6k now guess t18 t19 (i64.wrap (t20+1))).bind fun r=>some r
else none
else none
else none
else none
else 
 some guess:=tL F32K
theorem F32E(f Q3 letter next):F32 f Q3 letter next=
(Ft f Q3 letter next).bind fun r=>
(F6k (r.1,r.2) 0 Q3 (Q3.2.length:Int) 0).bind fun r1=>
 some r1:=tC
theorem F6cE(f not t4 Q3 many out_0 out_1 out_2 out_3 guess):F6c f not t4 Q3 many out_0 out_1 out_2 out_3 guess=
 bif guess<many then
(F1x Q3 guess (i64.wrap ((f.2.length:Int)-1))).bind fun r=>
 bif !(r==not)then
 bif out_1.2.length+[guess].length ≤lim then
(F7z f not t4 Q3 many out_0 ((out_1.1&&false),(out_1.2++[guess])) (out_2.1,out_2.2) (out_3.1,out_3.2) guess 0).bind fun r1=>
(F6c f not t4 Q3 many r1.1 (r1.2.1.1,r1.2.1.2) (r1.2.2.1.1,r1.2.2.1.2) (r1.2.2.2.1,r1.2.2.2.2) (i64.wrap (guess+1))).bind fun r=>some r
else none
else 
(F7z f not t4 Q3 many out_0 (out_1.1,out_1.2) (out_2.1,out_2.2) (out_3.1,out_3.2) guess 0).bind fun r2=>
(F6c f not t4 Q3 many r2.1 (r2.2.1.1,r2.2.1.2) (r2.2.2.1.1,r2.2.2.1.2) (r2.2.2.2.1,r2.2.2.2.2) (i64.wrap (guess+1))).bind fun r=>some r
else 
 some (out_0,((out_1.1,out_1.2),((out_2.1,out_2.2),(out_3.1,out_3.2)))):=tL FqK
theorem F7zE(f not t4 Q3 many out_0 out_1 out_2 out_3 guess letter):F7z f not t4 Q3 many out_0 out_1 out_2 out_3 guess letter=
 bif letter<8 then
(F6n f not t4 Q3 many out_0 (out_1.1,out_1.2) (out_2.1,out_2.2) (out_3.1,out_3.2) guess letter 0).bind fun r=>
(F7z f not t4 Q3 many r.1 (r.2.1.1,r.2.1.2) (r.2.2.1.1,r.2.2.1.2) (r.2.2.2.1,r.2.2.2.2) guess (i64.wrap (letter+1))).bind fun r=>some r
else 
 some (out_0,((out_1.1,out_1.2),((out_2.1,out_2.2),(out_3.1,out_3.2)))):=tL FqK
theorem F6nE(f not t4 Q3 many out_0 out_1 out_2 out_3 guess letter next):F6n f not t4 Q3 many out_0 out_1 out_2 out_3 guess letter next=
 bif next<many then
(F32 f Q3 letter next).bind fun r=>
 bif (r==guess)then
 bif out_2.2.length+[(guess,(letter,next))].length ≤lim then
(F6n f not t4 Q3 many out_0 (out_1.1,out_1.2) ((out_2.1&&false),(out_2.2++[(guess,(letter,next))])) (out_3.1,out_3.2) guess letter (i64.wrap (next+1))).bind fun r=>some r
else none
else 
(F6n f not t4 Q3 many out_0 (out_1.1,out_1.2) (out_2.1,out_2.2) (out_3.1,out_3.2) guess letter (i64.wrap (next+1))).bind fun r=>some r
else 
 some (out_0,((out_1.1,out_1.2),((out_2.1,out_2.2),(out_3.1,out_3.2)))):=tL FqK
theorem FqE(f not):Fq f not=
(F1n f).bind fun r=>
 bif u64.wrap (r.2.length:Int)<0 then
 none
else 
(Fk f r).bind fun r1=>
(F6c f not (0,((true,[]),((true,[]),(true,[])))) r (bShl .i64 1 (u64.wrap (r.2.length:Int))) (bShl .i64 1 (u64.wrap (r.2.length:Int))) (true,[]) (true,[]) (r1.1,r1.2) 0).bind fun r2=>
 some (r2.1,((r2.2.1.1,r2.2.1.2),((r2.2.2.1.1,r2.2.2.1.2),(r2.2.2.2.1,r2.2.2.2.2)))):=tC
theorem F8cE(many t7 t8 t9):F8c many t7 t8 t9=
 bif t9<t8 then
 bif 0≤t9 then
 bif t9<(t7.2.length:Int) then
 bif t7.2.getD (toNat t9) 0≥many then
(F8c (i64.wrap ((t7.2.getD (toNat t9) 0)+1)) t7 t8 (i64.wrap (t9+1))).bind fun r=>some r
else 
(F8c many t7 t8 (i64.wrap (t9+1))).bind fun r=>some r
else none
else none
else 
 some many:=tL F2pK
theorem F2pE(v):F2p v=
(F8c 0 v (v.2.length:Int) 0).bind fun r=>
 some r:=tC
theorem F7bE(class_ out t9 t10 t11):F7b class_ out t9 t10 t11=
 bif t11<t10 then
 bif 0≤t11 then
 bif t11<(t9.2.length:Int) then
 bif (t9.2.getD (toNat t11) 0==class_)then
 bif out.2.length+[t11].length ≤lim then
(F7b class_ ((out.1&&false),(out.2++[t11])) t9 t10 (i64.wrap (t11+1))).bind fun r=>some r
else none
else 
(F7b class_ (out.1,out.2) t9 t10 (i64.wrap (t11+1))).bind fun r=>some r
else none
else none
else 
 some (out.1,out.2):=tL F2iK
theorem F2iE(v class_):F2i v class_=
(F7b class_ (true,[]) v (v.2.length:Int) 0).bind fun r=>
 some (r.1,r.2):=tC
theorem F6gE(no q out t9 t10 t11):F6g no q out t9 t10 t11=
 bif t11<t10 then
 bif 0≤t11 then
 bif t11<(t9.2.length:Int) then
(F2l q.1 no).bind fun r=>
(F5l q.1 (t9.2.getD (toNat t11) (true,[])) (r.1,r.2)).bind fun r1=>
 bif r1 then
 bif u64.wrap t11<0 then
 none
else 
(F6g no q (bOr .i64 out (bShl .i64 1 (u64.wrap t11))) t9 t10 (i64.wrap (t11+1))).bind fun r=>some r
else 
(F6g no q out t9 t10 (i64.wrap (t11+1))).bind fun r=>some r
else none
else none
else 
 some out:=tL F38K
theorem F38E(q no):F38 q no=
(F6g no q 0 q.2.1 (q.2.1.2.length:Int) 0).bind fun r=>
 some r:=tC
theorem F79E(q v class_):F79 q v class_=
(F2i v class_).bind fun r=>
 bif 0<(r.2.length:Int) then
(F38 q (r.2.getD 0 0)).bind fun r1=>
 some r1
else none:=tC
theorem F8aE(s p out t9 t10 t11):F8a s p out t9 t10 t11=
 bif t11<t10 then
 bif 0≤t11 then
 bif t11<(t9.2.length:Int) then
(F5l p ((t9.2.getD (toNat t11) ((true,[]),(true,[]))).1) s).bind fun r=>
 bif r then
 bif out.2.length+[t11].length ≤lim then
(F8a s p ((out.1&&false),(out.2++[t11])) t9 t10 (i64.wrap (t11+1))).bind fun r=>some r
else none
else 
(F8a s p (out.1,out.2) t9 t10 (i64.wrap (t11+1))).bind fun r=>some r
else none
else none
else 
 some (out.1,out.2):=tL F2wK
theorem F2wE(p s):F2w p s=
(F8a s p (true,[]) p.2.2.2 (p.2.2.2.2.length:Int) 0).bind fun r=>
 some (r.1,r.2):=tC
theorem FawE(s p out t18 t19 t20):Faw s p out t18 t19 t20=
 bif t20<t19 then
 bif 0≤t20 then
 bif t20<(t18.2.length:Int) then
(F56 p.1 ((t18.2.getD (toNat t20) (0,(true,[]))).2) (i64.wrap (((((t18.2.getD (toNat t20) (0,(true,[]))).2).2).length :Int)-1)) s).bind fun r=>
 bif 0≤(t18.2.getD (toNat t20) (0,(true,[]))).1 then
 bif (t18.2.getD (toNat t20) (0,(true,[]))).1<(out.2.length:Int) then
(Faw s p (out.1,(out.2.set (toNat ((t18.2.getD (toNat t20) (0,(true,[]))).1)) r)) t18 t19 (i64.wrap (t20+1))).bind fun r=>some r
else none
else none
else none
else none
else 
 some (out.1,out.2):=tL F3xK
theorem F3xE(p s k_):F3x p s k_=
 bif ([]:List Int).length +s.2.length≤lim then
 bif 0≤k_ then
 bif k_<(p.2.2.2.2.length:Int) then
(Faw s p (false,([]++s.2)) ((p.2.2.2.2.getD (toNat k_) ((true,[]),(true,[]))).2) ((((p.2.2.2.2.getD (toNat k_) ((true,[]),(true,[]))).2).2).length :Int) 0).bind fun r=>
 some (r.1,r.2)
else none
else none
else none:=tC
theorem FaaE(s p n v):Faa s p n v=
 bif v≥0 then
 bif u64.wrap p.1<0 then
 none
else 
 bif 0≤v then
 bif v<(s.2.length:Int) then
(Faa s p (i64.wrap ((bShl .i64 n (u64.wrap p.1))+(i64.wrap (s.2.getD (toNat v) 0)))) (i64.wrap (v-1))).bind fun r=>some r
else none
else none
else 
 some n:=tL F47K
theorem F47E(p s):F47 p s=
(Faa s p 0 (i64.wrap (p.2.1-1))).bind fun r=>
 some r:=tC
theorem FckE(no p s out t14 t15 t16):Fck no p s out t14 t15 t16=
 bif t16<t15 then
 bif 0≤t16 then
 bif t16<(t14.2.length:Int) then
(F3x p s (t14.2.getD (toNat t16) 0)).bind fun r=>
(F47 p (r.1,r.2)).bind fun r1=>
(F10 out r1).bind fun r2=>
(Fck no p s r2 t14 t15 (i64.wrap (t16+1))).bind fun r=>some r
else none
else none
else 
 some out:=tL F2jK
theorem F2jE(p no):F2j p no=
(F2l p no).bind fun r=>
(F2w p (r.1,r.2)).bind fun r1=>
(Fck no p (r.1,r.2) (true,[]) (r1.1,r1.2) (r1.2.length:Int) 0).bind fun r2=>
 bif ((r2.2.length:Int)==0)then
 some (false,[no])
else 
 some r2:=tC
theorem Fa8E(p out t10 t11 t12):Fa8 p out t10 t11 t12=
 bif t12<t11 then
 bif 0≤t12 then
 bif t12<(t10.2.length:Int) then
(F2j p (t10.2.getD (toNat t12) 0)).bind fun r=>
(F9f p out t10 t11 t12 r (r.2.length:Int) 0).bind fun r1=>
(Fa8 p r1 t10 t11 (i64.wrap (t12+1))).bind fun r=>some r
else none
else none
else 
 some out:=tL F1eK
theorem F9fE(p out t10 t11 t12 t18 t19 t20):F9f p out t10 t11 t12 t18 t19 t20=
 bif t20<t19 then
 bif 0≤t20 then
 bif t20<(t18.2.length:Int) then
(F10 out (t18.2.getD (toNat t20) 0)).bind fun r=>
(F9f p r t10 t11 t12 t18 t19 (i64.wrap (t20+1))).bind fun r=>some r
else none
else none
else 
 some out:=tL F1eK
theorem F1eE(p some_):F1e p some_=
(Fa8 p (true,[]) some_ (some_.2.length:Int) 0).bind fun r=>
 some r:=tC
theorem FbwE(v out t8 t9 t10):Fbw v out t8 t9 t10=
 bif t10<t9 then
 bif 0≤t10 then
 bif t10<(t8.2.length:Int) then
 bif 0≤t8.2.getD (toNat t10) 0 then
 bif t8.2.getD (toNat t10) 0<(v.2.length:Int) then
(F10 out (v.2.getD (toNat (t8.2.getD (toNat t10) 0)) 0)).bind fun r=>
(Fbw v r t8 t9 (i64.wrap (t10+1))).bind fun r=>some r
else none
else none
else none
else none
else 
 some out:=tL F2xK
theorem F2xE(v states):F2x v states=
(Fbw v (true,[]) states (states.2.length:Int) 0).bind fun r=>
 some r:=tC
theorem F7vE(p v class_):F7v p v class_=
(F2i v class_).bind fun r=>
(F1e p (r.1,r.2)).bind fun r1=>
(F2x v r1).bind fun r2=>
 some r2:=tC
theorem F58E(l):F58 l=
 bif ([]:List Int).length +l.2.length≤lim then
 some (false,([]++l.2))
else none:=tC
theorem FcqE(out t10 t11 t12):Fcq out t10 t11 t12=
 bif t12<t11 then
 bif 0≤t12 then
 bif t12<(t10.2.length:Int) then
(F10 out (t10.2.getD (toNat t12) 0)).bind fun r=>
(Fcq r t10 t11 (i64.wrap (t12+1))).bind fun r=>some r
else none
else none
else 
 some out:=tL F40K
theorem F40E(a b):F40 a b=
(F58 a).bind fun r=>
(Fcq (r.1,r.2) b (b.2.length:Int) 0).bind fun r1=>
 some r1:=tC
theorem FbaE(n out k_):Fba n out k_=
 bif k_<n then
 bif out.2.length+[k_].length ≤lim then
(Fba n ((out.1&&false),(out.2++[k_])) (i64.wrap (k_+1))).bind fun r=>some r
else none
else 
 some (out.1,out.2):=tL F4jK
theorem F4jE(n):F4j n=
(Fba n (true,[]) 0).bind fun r=>
 some (r.1,r.2):=tC
theorem Fb4E(b many out t12 t13 t14):Fb4 b many out t12 t13 t14=
 bif t14<t13 then
 bif 0≤t14 then
 bif t14<(t12.2.length:Int) then
(Fa4 b many (out.1,out.2) (t12.2.getD (toNat t14) 0) t12 t13 t14 b (b.2.length:Int) 0).bind fun r=>
(Fb4 b many (r.1,r.2) t12 t13 (i64.wrap (t14+1))).bind fun r=>some r
else none
else none
else 
 some (out.1,out.2):=tL F1cK
theorem Fa4E(b many out i t12 t13 t14 t18 t19 t20):Fa4 b many out i t12 t13 t14 t18 t19 t20=
 bif t20<t19 then
 bif 0≤t20 then
 bif t20<(t18.2.length:Int) then
 bif out.2.length+[i64.wrap ((i64.wrap (i*many))+(t18.2.getD (toNat t20) 0))].length ≤lim then
(Fa4 b many ((out.1&&false),(out.2++[i64.wrap ((i64.wrap (i*many))+(t18.2.getD (toNat t20) 0))])) i t12 t13 t14 t18 t19 (i64.wrap (t20+1))).bind fun r=>some r
else none
else none
else none
else 
 some (out.1,out.2):=tL F1cK
theorem F1cE(a b many):F1c a b many=
(Fb4 b many (true,[]) a (a.2.length:Int) 0).bind fun r=>
 some (r.1,r.2):=tC
theorem FbfE(q v a many next k_):Fbf q v a many next k_=
 bif k_<many then
(F79 q v k_).bind fun r=>
(F7v q.1 v k_).bind fun r1=>
(F7h q v a many (next.1,next.2) k_ r r1 a.2.2.1 (a.2.2.1.2.length:Int) 0).bind fun r2=>
(Fbf q v a many (r2.1,r2.2) (i64.wrap (k_+1))).bind fun r=>some r
else 
 some (next.1,next.2):=tL FaK
theorem F7hE(q v a many next k_ letter after t47 t48 t49):F7h q v a many next k_ letter after t47 t48 t49=
 bif t49<t48 then
 bif 0≤t49 then
 bif t49<(t47.2.length:Int) then
 bif (((t47.2.getD (toNat t49) (0,(0,0))).2).1==letter)then
(Fa1 q v a many (next.1,next.2) k_ letter after (t47.2.getD (toNat t49) (0,(0,0))) t47 t48 t49 after (after.2.length:Int) 0).bind fun r=>
(F7h q v a many (r.1,r.2) k_ letter after t47 t48 (i64.wrap (t49+1))).bind fun r=>some r
else 
(F7h q v a many (next.1,next.2) k_ letter after t47 t48 (i64.wrap (t49+1))).bind fun r=>some r
else none
else none
else 
 some (next.1,next.2):=tL FaK
theorem Fa1E(q v a many next k_ letter after e t47 t48 t49 t57 t58 t59):Fa1 q v a many next k_ letter after e t47 t48 t49 t57 t58 t59=
 bif t59<t58 then
 bif 0≤t59 then
 bif t59<(t57.2.length:Int) then
 bif 0≤i64.wrap ((i64.wrap (k_*a.1))+e.1) then
 bif i64.wrap ((i64.wrap (k_*a.1))+e.1)<(next.2.length:Int) then
 bif ((next.2.getD (toNat (i64.wrap ((i64.wrap (k_*a.1))+e.1))) (true,[])).2).length +[i64.wrap ((i64.wrap ((t57.2.getD (toNat t59) 0)*a.1))+e.2.2)].length ≤lim then
 bif 0≤i64.wrap ((i64.wrap (k_*a.1))+e.1) then
 bif i64.wrap ((i64.wrap (k_*a.1))+e.1)<(next.2.length:Int) then
 bif (toNat (i64.wrap ((i64.wrap (k_*a.1))+e.1))==toNat (i64.wrap ((i64.wrap (k_*a.1))+e.1)))then
(Fa1 q v a many (next.1,(next.2.set (toNat (i64.wrap ((i64.wrap (k_*a.1))+e.1))) ((((next.2.getD (toNat (i64.wrap ((i64.wrap (k_*a.1))+e.1))) (true,[])).1)&&false),(((next.2.getD (toNat (i64.wrap ((i64.wrap (k_*a.1))+e.1))) (true,[])).2)++[i64.wrap ((i64.wrap ((t57.2.getD (toNat t59) 0)*a.1))+e.2.2)])))) k_ letter after e t47 t48 t49 t57 t58 (i64.wrap (t59+1))).bind fun r=>some r
else none
else none
else none
else none
else none
else none
else none
else none
else 
 some (next.1,next.2):=tL FaK
theorem Fc6E(q v many next t94 t95):Fc6 q v many next t94 t95=
 bif t95<t94 then
 bif 0≤t95 then
 bif t95<(next.2.length:Int) then
(F40 (true,[]) (next.2.getD (toNat t95) (true,[]))).bind fun r=>
 bif 0≤t95 then
 bif t95<(next.2.length:Int) then
(Fc6 q v many (next.1,(next.2.set (toNat t95) r)) t94 (i64.wrap (t95+1))).bind fun r=>some r
else none
else none
else none
else none
else 
 some (next.1,next.2):=tL FaK
theorem F8zE(q v a many next goals t108 t109 t110):F8z q v a many next goals t108 t109 t110=
 bif t110<t109 then
 bif 0≤t110 then
 bif t110<(t108.2.length:Int) then
(F4j many).bind fun r=>
(F1c (r.1,r.2) (t108.2.getD (toNat t110) (true,[])) a.1).bind fun r1=>
 bif goals.2.length+[(r1.1,r1.2)].length ≤lim then
(F8z q v a many next ((goals.1&&false),(goals.2++[(r1.1,r1.2)])) t108 t109 (i64.wrap (t110+1))).bind fun r=>some r
else none
else none
else none
else 
 some (goals.1,goals.2):=tL FaK
theorem FaE(q v):Fa q v=
(Fq q.2.2 true).bind fun r=>
(F2p v).bind fun r1=>
 bif 0≤i64.wrap (r1*r.1) then
 bif i64.wrap (r1*r.1)≤lim then
 bif i64.wrap (r1*r.1)≤i64.wrap (r1*r.1) then
 bif i64.wrap (r1*r.1)≤lim then
(Fbf q v (r.1,((r.2.1.1,r.2.1.2),((r.2.2.1.1,r.2.2.1.2),(r.2.2.2.1,r.2.2.2.2)))) r1 (false,(List.replicate (toNat (i64.wrap (r1*r.1))) ((true,[]):Bool×List Int))) 0).bind fun r2=>
(Fc6 q v r1 (r2.1,r2.2) (r2.2.length:Int) 0).bind fun r3=>
(F8z q v (r.1,((r.2.1.1,r.2.1.2),((r.2.2.1.1,r.2.2.1.2),(r.2.2.2.1,r.2.2.2.2)))) r1 (r3.1,r3.2) (true,[]) (r.2.2.2.1,r.2.2.2.2) (r.2.2.2.2.length:Int) 0).bind fun r4=>
(F24 q.1 q.1.2.2.1).bind fun r5=>
(F2x v (r5.1,r5.2)).bind fun r6=>
(F1c r6 (r.2.1.1,r.2.1.2) r.1).bind fun r7=>
 some ((r3.1,r3.2),((r7.1,r7.2),(r4.1,r4.2)))
else none
else none
else none
else none:=tC
theorem FbzE(next from_ out t17 t18):Fbz next from_ out t17 t18=
 bif t18<t17 then
 bif 0≤t18 then
 bif t18<(out.2.length:Int) then
(Fbz next from_ (out.1,(out.2.set (toNat t18) (-1))) t17 (i64.wrap (t18+1))).bind fun r=>some r
else none
else none
else 
 some (out.1,out.2):=tL FgK
theorem FccE(next from_ out t25 t26 t27):Fcc next from_ out t25 t26 t27=
 bif t27<t26 then
 bif 0≤t27 then
 bif t27<(t25.2.length:Int) then
 bif 0≤t25.2.getD (toNat t27) 0 then
 bif t25.2.getD (toNat t27) 0<(out.2.length:Int) then
(Fcc next from_ (out.1,(out.2.set (toNat (t25.2.getD (toNat t27) 0)) 0)) t25 t26 (i64.wrap (t27+1))).bind fun r=>some r
else none
else none
else none
else none
else 
 some (out.1,out.2):=tL FgK
theorem FbxE(next out row_):Fbx next out row_=
 bif (row_.2.length:Int)>0 then
 bif 0<(row_.2.length:Int) then
 bif 1≤(row_.2.length:Int) then
 bif 0≤row_.2.getD 0 0 then
 bif row_.2.getD 0 0<(next.2.length:Int) then
(F7s next (out.1,out.2) (row_.1,((row_.2.take row_.2.length).drop 1)) (row_.2.getD 0 0) (next.2.getD (toNat (row_.2.getD 0 0)) (true,[])) (((next.2.getD (toNat (row_.2.getD 0 0)) (true,[])).2).length :Int) 0).bind fun r=>
(Fbx next (r.1.1,r.1.2) (r.2.1,r.2.2)).bind fun r=>some r
else none
else none
else none
else none
else 
 some (out.1,out.2):=tL FgK
theorem F7sE(next out row_ k_ t48 t49 t50):F7s next out row_ k_ t48 t49 t50=
 bif t50<t49 then
 bif 0≤t50 then
 bif t50<(t48.2.length:Int) then
 bif 0≤t48.2.getD (toNat t50) 0 then
 bif t48.2.getD (toNat t50) 0<(out.2.length:Int) then
 bif out.2.getD (toNat (t48.2.getD (toNat t50) 0)) 0<0 then
 bif 0≤k_ then
 bif k_<(out.2.length:Int) then
 bif 0≤t48.2.getD (toNat t50) 0 then
 bif t48.2.getD (toNat t50) 0<(out.2.length:Int) then
 bif row_.2.length+[(t48.2.getD (toNat t50) 0)].length ≤lim then
(F7s next (out.1,(out.2.set (toNat (t48.2.getD (toNat t50) 0)) (i64.wrap ((out.2.getD (toNat k_) 0)+1)))) ((row_.1&&false),(row_.2++[(t48.2.getD (toNat t50) 0)])) k_ t48 t49 (i64.wrap (t50+1))).bind fun r=>some r
else none
else none
else none
else none
else none
else 
(F7s next (out.1,out.2) (row_.1,row_.2) k_ t48 t49 (i64.wrap (t50+1))).bind fun r=>some r
else none
else none
else none
else none
else 
 some ((out.1,out.2),(row_.1,row_.2)):=tL FgK
theorem FgE(next from_):Fg next from_=
 bif 0≤(next.2.length:Int) then
 bif (next.2.length:Int)≤lim then
 bif (next.2.length:Int)≤(next.2.length:Int) then
 bif (next.2.length:Int)≤lim then
(Fbz next from_ (false,(List.replicate (toNat (next.2.length:Int)) (0:Int))) ((List.replicate (toNat (next.2.length:Int)) (0:Int)).length :Int) 0).bind fun r=>
(Fcc next from_ (r.1,r.2) from_ (from_.2.length:Int) 0).bind fun r1=>
(F58 from_).bind fun r2=>
(Fbx next (r1.1,r1.2) (r2.1,r2.2)).bind fun r3=>
 some (r3.1,r3.2)
else none
else none
else none
else none:=tC
theorem F9lE(w_0 w_1 w_2 k_ t25 t26 t27):F9l w_0 w_1 w_2 k_ t25 t26 t27=
 bif t27<t26 then
 bif 0≤t27 then
 bif t27<(t25.2.length:Int) then
(F2f w_0 (w_1.1,w_1.2) (w_2.1,w_2.2) (t25.2.getD (toNat t27) 0)).bind fun r=>
(F9l r.1 (r.2.1.1,r.2.1.2) (r.2.2.1,r.2.2.2) k_ t25 t26 (i64.wrap (t27+1))).bind fun r=>some r
else none
else none
else 
 some (w_0,((w_1.1,w_1.2),(w_2.1,w_2.2))):=tL F2fK
theorem F2fE(a0_0 a0_1 a0_2 k_):F2f a0_0 a0_1 a0_2 k_=
 bif 0≤k_ then
 bif k_<(a0_1.2.length:Int) then
 bif (a0_1.2.getD (toNat k_) false)then
 some (a0_0,((a0_1.1,a0_1.2),(a0_2.1,a0_2.2)))
else 
 bif 0≤k_ then
 bif k_<(a0_1.2.length:Int) then
 bif 0≤k_ then
 bif k_<(a0_0.2.length:Int) then
(F9l a0_0 (a0_1.1,(a0_1.2.set (toNat k_) true)) (a0_2.1,a0_2.2) k_ (a0_0.2.getD (toNat k_) (true,[])) (((a0_0.2.getD (toNat k_) (true,[])).2).length :Int) 0).bind fun r=>
 bif r.2.2.2.length+[k_].length ≤lim then
 some (r.1,((r.2.1.1,r.2.1.2),((r.2.2.1&&false),(r.2.2.2++[k_]))))
else none
else none
else none
else none
else none
else none
else none:=tC
theorem F9uE(out t11 t12 t13):F9u out t11 t12 t13=
 bif t13<t12 then
 bif 0≤t13 then
 bif t13<(t11.2.length:Int) then
(F99 (out.1,out.2) t13 t11 t12 t13 (t11.2.getD (toNat t13) (true,[])) (((t11.2.getD (toNat t13) (true,[])).2).length :Int) 0).bind fun r=>
(F9u (r.1,r.2) t11 t12 (i64.wrap (t13+1))).bind fun r=>some r
else none
else none
else 
 some (out.1,out.2):=tL F1gK
theorem F99E(out k_ t11 t12 t13 t18 t19 t20):F99 out k_ t11 t12 t13 t18 t19 t20=
 bif t20<t19 then
 bif 0≤t20 then
 bif t20<(t18.2.length:Int) then
 bif 0≤t18.2.getD (toNat t20) 0 then
 bif t18.2.getD (toNat t20) 0<(out.2.length:Int) then
 bif ((out.2.getD (toNat (t18.2.getD (toNat t20) 0)) (true,[])).2).length +[k_].length ≤lim then
 bif 0≤t18.2.getD (toNat t20) 0 then
 bif t18.2.getD (toNat t20) 0<(out.2.length:Int) then
 bif (toNat (t18.2.getD (toNat t20) 0)==toNat (t18.2.getD (toNat t20) 0))then
(F99 (out.1,(out.2.set (toNat (t18.2.getD (toNat t20) 0)) ((((out.2.getD (toNat (t18.2.getD (toNat t20) 0)) (true,[])).1)&&false),(((out.2.getD (toNat (t18.2.getD (toNat t20) 0)) (true,[])).2)++[k_])))) k_ t11 t12 t13 t18 t19 (i64.wrap (t20+1))).bind fun r=>some r
else none
else none
else none
else none
else none
else none
else none
else none
else 
 some (out.1,out.2):=tL F1gK
theorem F1gE(next):F1g next=
 bif 0≤(next.2.length:Int) then
 bif (next.2.length:Int)≤lim then
 bif (next.2.length:Int)≤(next.2.length:Int) then
 bif (next.2.length:Int)≤lim then
(F9u (false,(List.replicate (toNat (next.2.length:Int)) ((true,[]):Bool×List Int))) next (next.2.length:Int) 0).bind fun r=>
 some (r.1,r.2)
else none
else none
else none
else none:=tC
theorem FcgE(next w_0 w_1 w_2 t20 t21):Fcg next w_0 w_1 w_2 t20 t21=
 bif t21<t20 then
(F2f w_0 (w_1.1,w_1.2) (w_2.1,w_2.2) t21).bind fun r=>
(Fcg next r.1 (r.2.1.1,r.2.1.2) (r.2.2.1,r.2.2.2) t20 (i64.wrap (t21+1))).bind fun r=>some r
else 
 some (w_0,((w_1.1,w_1.2),(w_2.1,w_2.2))):=tL FhK
theorem Fb7E(next w back_0 back_1 back_2 out i):Fb7 next w back_0 back_1 back_2 out i=
 bif i≥0 then
 bif 0≤i then
 bif i<(w.2.2.2.length:Int) then
(F2f back_0 (back_1.1,back_1.2) (true,[]) (w.2.2.2.getD (toNat i) 0)).bind fun r=>
(F6t next w (r.1,((r.2.1.1,r.2.1.2),(r.2.2.1,r.2.2.2))) (out.1,out.2) i (next.2.length:Int) (r.2.2.1,r.2.2.2) (r.2.2.2.length:Int) 0).bind fun r1=>
(Fae next w (r.1,((r.2.1.1,r.2.1.2),(r.2.2.1,r.2.2.2))) (out.1,out.2) i r1 (r.2.2.1,r.2.2.2) (r.2.2.2.length:Int) 0).bind fun r2=>
(Fb7 next w r.1 (r.2.1.1,r.2.1.2) (r.2.2.1,r.2.2.2) (r2.1,r2.2) (i64.wrap (i-1))).bind fun r=>some r
else none
else none
else 
 some ((out.1,out.2),(back_0,((back_1.1,back_1.2),(back_2.1,back_2.2)))):=tL FhK
theorem F6tE(next w back out i least t65 t66 t67):F6t next w back out i least t65 t66 t67=
 bif t67<t66 then
 bif 0≤t67 then
 bif t67<(t65.2.length:Int) then
 bif t65.2.getD (toNat t67) 0<least then
(F6t next w back out i (t65.2.getD (toNat t67) 0) t65 t66 (i64.wrap (t67+1))).bind fun r=>some r
else 
(F6t next w back out i least t65 t66 (i64.wrap (t67+1))).bind fun r=>some r
else none
else none
else 
 some least:=tL FhK
theorem FaeE(next w back out i least t79 t80 t81):Fae next w back out i least t79 t80 t81=
 bif t81<t80 then
 bif 0≤t81 then
 bif t81<(t79.2.length:Int) then
 bif 0≤t79.2.getD (toNat t81) 0 then
 bif t79.2.getD (toNat t81) 0<(out.2.length:Int) then
(Fae next w back (out.1,(out.2.set (toNat (t79.2.getD (toNat t81) 0)) least)) i least t79 t80 (i64.wrap (t81+1))).bind fun r=>some r
else none
else none
else none
else none
else 
 some (out.1,out.2):=tL FhK
theorem FhE(next):Fh next=
 bif 0≤(next.2.length:Int) then
 bif (next.2.length:Int)≤lim then
 bif (next.2.length:Int)≤(next.2.length:Int) then
 bif (next.2.length:Int)≤lim then
(Fcg next next (false,(List.replicate (toNat (next.2.length:Int)) (false:Bool))) (true,[]) (next.2.length:Int) 0).bind fun r=>
(F1g next).bind fun r1=>
 bif 0≤(next.2.length:Int) then
 bif (next.2.length:Int)≤lim then
 bif (next.2.length:Int)≤(next.2.length:Int) then
 bif (next.2.length:Int)≤lim then
 bif 0≤(next.2.length:Int) then
 bif (next.2.length:Int)≤lim then
 bif (next.2.length:Int)≤(next.2.length:Int) then
 bif (next.2.length:Int)≤lim then
(Fb7 next (r.1,((r.2.1.1,r.2.1.2),(r.2.2.1,r.2.2.2))) (r1.1,r1.2) (false,(List.replicate (toNat (next.2.length:Int)) (false:Bool))) (true,[]) (false,(List.replicate (toNat (next.2.length:Int)) (0:Int))) (i64.wrap ((r.2.2.2.length:Int)-1))).bind fun r2=>
 some (r2.1.1,r2.1.2)
else none
else none
else none
else none
else none
else none
else none
else none
else none
else none
else none
else none:=tC
theorem Fc7E(parts_ out t13 t14 t15):Fc7 parts_ out t13 t14 t15=
 bif t15<t14 then
 bif 0≤t15 then
 bif t15<(t13.2.length:Int) then
(F6j parts_ (out.1,out.2) t15 t13 t14 t15 (t13.2.getD (toNat t15) (true,[])) (((t13.2.getD (toNat t15) (true,[])).2).length :Int) 0).bind fun r=>
(Fc7 parts_ (r.1,r.2) t13 t14 (i64.wrap (t15+1))).bind fun r=>some r
else none
else none
else 
 some (out.1,out.2):=tL F14K
theorem F6jE(parts_ out k_ t13 t14 t15 t20 t21 t22):F6j parts_ out k_ t13 t14 t15 t20 t21 t22=
 bif t22<t21 then
 bif 0≤t22 then
 bif t22<(t20.2.length:Int) then
 bif 0≤k_ then
 bif k_<(parts_.2.length:Int) then
 bif 0≤t20.2.getD (toNat t22) 0 then
 bif t20.2.getD (toNat t22) 0<(parts_.2.length:Int) then
 bif (parts_.2.getD (toNat k_) 0==parts_.2.getD (toNat (t20.2.getD (toNat t22) 0)) 0)then
 bif 0≤k_ then
 bif k_<(out.2.length:Int) then
 bif ((out.2.getD (toNat k_) (true,[])).2).length +[(t20.2.getD (toNat t22) 0)].length ≤lim then
 bif 0≤k_ then
 bif k_<(out.2.length:Int) then
 bif (toNat k_==toNat k_)then
(F6j parts_ (out.1,(out.2.set (toNat k_) ((((out.2.getD (toNat k_) (true,[])).1)&&false),(((out.2.getD (toNat k_) (true,[])).2)++[(t20.2.getD (toNat t22) 0)])))) k_ t13 t14 t15 t20 t21 (i64.wrap (t22+1))).bind fun r=>some r
else none
else none
else none
else none
else none
else none
else 
(F6j parts_ (out.1,out.2) k_ t13 t14 t15 t20 t21 (i64.wrap (t22+1))).bind fun r=>some r
else none
else none
else none
else none
else none
else none
else 
 some (out.1,out.2):=tL F14K
theorem F14E(next parts_):F14 next parts_=
 bif 0≤(next.2.length:Int) then
 bif (next.2.length:Int)≤lim then
 bif (next.2.length:Int)≤(next.2.length:Int) then
 bif (next.2.length:Int)≤lim then
(Fc7 parts_ (false,(List.replicate (toNat (next.2.length:Int)) ((true,[]):Bool×List Int))) next (next.2.length:Int) 0).bind fun r=>
 some (r.1,r.2)
else none
else none
else none
else none:=tC
theorem F80E(next goals parts_ arrow met t28 t29 t30):F80 next goals parts_ arrow met t28 t29 t30=
 bif t30<t29 then
 bif 0≤t30 then
 bif t30<(t28.2.length:Int) then
 bif 0≤t30 then
 bif t30<(parts_.2.length:Int) then
 bif 0≤t30 then
 bif t30<(parts_.2.length:Int) then
 bif 0≤parts_.2.getD (toNat t30) 0 then
 bif parts_.2.getD (toNat t30) 0<(arrow.2.length:Int) then
 bif (arrow.2.getD (toNat (parts_.2.getD (toNat t30) 0)) false)then
 bif 0≤parts_.2.getD (toNat t30) 0 then
 bif parts_.2.getD (toNat t30) 0<(arrow.2.length:Int) then
(F80 next goals parts_ (arrow.1,(arrow.2.set (toNat (parts_.2.getD (toNat t30) 0)) true)) met t28 t29 (i64.wrap (t30+1))).bind fun r=>some r
else none
else none
else 
 bif 0≤parts_.2.getD (toNat t30) 0 then
 bif parts_.2.getD (toNat t30) 0<(arrow.2.length:Int) then
(F80 next goals parts_ (arrow.1,(arrow.2.set (toNat (parts_.2.getD (toNat t30) 0)) (decide ((((t28.2.getD (toNat t30) (true,[])).2).length :Int)>0)))) met t28 t29 (i64.wrap (t30+1))).bind fun r=>some r
else none
else none
else none
else none
else none
else none
else none
else none
else none
else none
else 
 some (arrow.1,arrow.2):=tL FdK
theorem Fb3E(next goals parts_ arrow met t54 t55 t56):Fb3 next goals parts_ arrow met t54 t55 t56=
 bif t56<t55 then
 bif 0≤t56 then
 bif t56<(t54.2.length:Int) then
(F6h next goals parts_ arrow (met.1,met.2) t56 t54 t55 t56 (t54.2.getD (toNat t56) (true,[])) (((t54.2.getD (toNat t56) (true,[])).2).length :Int) 0).bind fun r=>
(Fb3 next goals parts_ arrow (r.1,r.2) t54 t55 (i64.wrap (t56+1))).bind fun r=>some r
else none
else none
else 
 some (met.1,met.2):=tL FdK
theorem F6hE(next goals parts_ arrow met j t54 t55 t56 t61 t62 t63):F6h next goals parts_ arrow met j t54 t55 t56 t61 t62 t63=
 bif t63<t62 then
 bif 0≤t63 then
 bif t63<(t61.2.length:Int) then
 bif 0≤t61.2.getD (toNat t63) 0 then
 bif t61.2.getD (toNat t63) 0<(parts_.2.length:Int) then
 bif 0≤parts_.2.getD (toNat (t61.2.getD (toNat t63) 0)) 0 then
 bif parts_.2.getD (toNat (t61.2.getD (toNat t63) 0)) 0<(met.2.length:Int) then
 bif (met.2.getD (toNat (parts_.2.getD (toNat (t61.2.getD (toNat t63) 0)) 0)) 0==j)then
 bif 0≤t61.2.getD (toNat t63) 0 then
 bif t61.2.getD (toNat t63) 0<(parts_.2.length:Int) then
 bif 0≤parts_.2.getD (toNat (t61.2.getD (toNat t63) 0)) 0 then
 bif parts_.2.getD (toNat (t61.2.getD (toNat t63) 0)) 0<(met.2.length:Int) then
(F6h next goals parts_ arrow (met.1,(met.2.set (toNat (parts_.2.getD (toNat (t61.2.getD (toNat t63) 0)) 0)) (i64.wrap (j+1)))) j t54 t55 t56 t61 t62 (i64.wrap (t63+1))).bind fun r=>some r
else none
else none
else none
else none
else 
(F6h next goals parts_ arrow (met.1,met.2) j t54 t55 t56 t61 t62 (i64.wrap (t63+1))).bind fun r=>some r
else none
else none
else none
else none
else none
else none
else 
 some (met.1,met.2):=tL FdK
theorem F67E(goals parts_ arrow met out t87 t88):F67 goals parts_ arrow met out t87 t88=
 bif t88<t87 then
 bif 0≤t88 then
 bif t88<(parts_.2.length:Int) then
 bif 0≤parts_.2.getD (toNat t88) 0 then
 bif parts_.2.getD (toNat t88) 0<(arrow.2.length:Int) then
 bif (arrow.2.getD (toNat (parts_.2.getD (toNat t88) 0)) false)then
 bif 0≤t88 then
 bif t88<(parts_.2.length:Int) then
 bif 0≤parts_.2.getD (toNat t88) 0 then
 bif parts_.2.getD (toNat t88) 0<(met.2.length:Int) then
 bif (met.2.getD (toNat (parts_.2.getD (toNat t88) 0)) 0==(goals.2.length:Int))then
 bif out.2.length+[t88].length ≤lim then
(F67 goals parts_ arrow met ((out.1&&false),(out.2++[t88])) t87 (i64.wrap (t88+1))).bind fun r=>some r
else none
else 
(F67 goals parts_ arrow met (out.1,out.2) t87 (i64.wrap (t88+1))).bind fun r=>some r
else none
else none
else none
else none
else 
(F67 goals parts_ arrow met (out.1,out.2) t87 (i64.wrap (t88+1))).bind fun r=>some r
else none
else none
else none
else none
else 
 some (out.1,out.2):=tL FdK
theorem FdE(next goals):Fd next goals=
(Fh next).bind fun r=>
(F14 next (r.1,r.2)).bind fun r1=>
 bif 0≤(next.2.length:Int) then
 bif (next.2.length:Int)≤lim then
 bif (next.2.length:Int)≤(next.2.length:Int) then
 bif (next.2.length:Int)≤lim then
 bif 0≤(next.2.length:Int) then
 bif (next.2.length:Int)≤lim then
 bif (next.2.length:Int)≤(next.2.length:Int) then
 bif (next.2.length:Int)≤lim then
(F80 next goals (r.1,r.2) (false,(List.replicate (toNat (next.2.length:Int)) (false:Bool))) (false,(List.replicate (toNat (next.2.length:Int)) (0:Int))) (r1.1,r1.2) (r1.2.length:Int) 0).bind fun r2=>
(Fb3 next goals (r.1,r.2) (r2.1,r2.2) (false,(List.replicate (toNat (next.2.length:Int)) (0:Int))) goals (goals.2.length:Int) 0).bind fun r3=>
(F67 goals (r.1,r.2) (r2.1,r2.2) (r3.1,r3.2) (true,[]) (next.2.length:Int) 0).bind fun r4=>
 some (r4.1,r4.2)
else none
else none
else none
else none
else none
else none
else none
else none:=tC
theorem F5kE(next far best t19 t20 t21):F5k next far best t19 t20 t21=
 bif t21<t20 then
 bif 0≤t21 then
 bif t21<(t19.2.length:Int) then
 bif 0≤t19.2.getD (toNat t21) 0 then
 bif t19.2.getD (toNat t21) 0<(far.2.length:Int) then
 bif far.2.getD (toNat (t19.2.getD (toNat t21) 0)) 0≥0 then
 bif best<0 then
(F5k next far (t19.2.getD (toNat t21) 0) t19 t20 (i64.wrap (t21+1))).bind fun r=>some r
else 
 bif 0≤t19.2.getD (toNat t21) 0 then
 bif t19.2.getD (toNat t21) 0<(far.2.length:Int) then
 bif 0≤best then
 bif best<(far.2.length:Int) then
 bif far.2.getD (toNat (t19.2.getD (toNat t21) 0)) 0<far.2.getD (toNat best) 0 then
(F5k next far (t19.2.getD (toNat t21) 0) t19 t20 (i64.wrap (t21+1))).bind fun r=>some r
else 
(F5k next far best t19 t20 (i64.wrap (t21+1))).bind fun r=>some r
else none
else none
else none
else none
else 
(F5k next far best t19 t20 (i64.wrap (t21+1))).bind fun r=>some r
else none
else none
else none
else none
else 
 some best:=tL FlK
theorem FbdE(next far best out):Fbd next far best out=
 bif 0≤best then
 bif best<(far.2.length:Int) then
 bif far.2.getD (toNat best) 0>0 then
 bif 0≤best then
 bif best<(next.2.length:Int) then
(F9i next far best (out.1,out.2) (next.2.getD (toNat best) (true,[])) (((next.2.getD (toNat best) (true,[])).2).length :Int) 0).bind fun r=>
 bif out.2.length+[r].length ≤lim then
(Fbd next far r ((out.1&&false),(out.2++[r]))).bind fun r=>some r
else none
else none
else none
else 
 some (out.1,out.2)
else none
else none:=tL FlK
theorem F9iE(next far best out t59 t60 t61):F9i next far best out t59 t60 t61=
 bif t61<t60 then
 bif 0≤t61 then
 bif t61<(t59.2.length:Int) then
 bif 0≤t59.2.getD (toNat t61) 0 then
 bif t59.2.getD (toNat t61) 0<(far.2.length:Int) then
 bif 0≤best then
 bif best<(far.2.length:Int) then
 bif (far.2.getD (toNat (t59.2.getD (toNat t61) 0)) 0==i64.wrap ((far.2.getD (toNat best) 0)-1))then
 some (t59.2.getD (toNat t61) 0)
else 
(F9i next far best out t59 t60 (i64.wrap (t61+1))).bind fun r=>some r
else none
else none
else none
else none
else none
else none
else 
 some best:=tL FlK
theorem FlE(next from_ to):Fl next from_ to=
(F1g next).bind fun r=>
(Fg (r.1,r.2) to).bind fun r1=>
(F5k next (r1.1,r1.2) (-1) from_ (from_.2.length:Int) 0).bind fun r2=>
 bif r2<0 then
 some ((true,[]),false)
else 
(Fbd next (r1.1,r1.2) r2 (false,[r2])).bind fun r3=>
 some ((r3.1,r3.2),true):=tC
theorem F5eE(next from_ goals far meet t32 t33 t34):F5e next from_ goals far meet t32 t33 t34=
 bif t34<t33 then
 bif 0≤t34 then
 bif t34<(t32.2.length:Int) then
 bif 0≤t32.2.getD (toNat t34) 0 then
 bif t32.2.getD (toNat t34) 0<(far.2.length:Int) then
 bif far.2.getD (toNat (t32.2.getD (toNat t34) 0)) 0≥0 then
 bif meet<0 then
(F5e next from_ goals far (t32.2.getD (toNat t34) 0) t32 t33 (i64.wrap (t34+1))).bind fun r=>some r
else 
 bif 0≤t32.2.getD (toNat t34) 0 then
 bif t32.2.getD (toNat t34) 0<(far.2.length:Int) then
 bif 0≤meet then
 bif meet<(far.2.length:Int) then
 bif far.2.getD (toNat (t32.2.getD (toNat t34) 0)) 0<far.2.getD (toNat meet) 0 then
(F5e next from_ goals far (t32.2.getD (toNat t34) 0) t32 t33 (i64.wrap (t34+1))).bind fun r=>some r
else 
(F5e next from_ goals far meet t32 t33 (i64.wrap (t34+1))).bind fun r=>some r
else none
else none
else none
else none
else 
(F5e next from_ goals far meet t32 t33 (i64.wrap (t34+1))).bind fun r=>some r
else none
else none
else none
else none
else 
 some meet:=tL FoK
theorem FaiE(meet stem parts_ inner loop t77 t78 t79):Fai meet stem parts_ inner loop t77 t78 t79=
 bif t79<t78 then
 bif 0≤t79 then
 bif t79<(t77.2.length:Int) then
(F82 meet stem parts_ inner (loop.1,loop.2) (true,[]) t77 t78 t79 (t77.2.getD (toNat t79) (true,[])) (((t77.2.getD (toNat t79) (true,[])).2).length :Int) 0).bind fun r=>
 bif 0≤i64.wrap ((loop.2.length:Int)-1) then
 bif i64.wrap ((loop.2.length:Int)-1)≤(loop.2.length:Int) then
(Fl inner (loop.1,((loop.2.take loop.2.length).drop (toNat (i64.wrap ((loop.2.length:Int)-1))))) (r.1,r.2)).bind fun r1=>
 bif 1≤(r1.1.2.length:Int) then
 bif loop.2.length+((r1.1.2.take r1.1.2.length).drop 1).length ≤lim then
(Fai meet stem parts_ inner ((loop.1&&((r1.1.2.take r1.1.2.length).drop 1).isEmpty),(loop.2++((r1.1.2.take r1.1.2.length).drop 1))) t77 t78 (i64.wrap (t79+1))).bind fun r=>some r
else none
else none
else none
else none
else none
else none
else 
 some (loop.1,loop.2):=tL FoK
theorem F82E(meet stem parts_ inner loop in_ t77 t78 t79 t83 t84 t85):F82 meet stem parts_ inner loop in_ t77 t78 t79 t83 t84 t85=
 bif t85<t84 then
 bif 0≤t85 then
 bif t85<(t83.2.length:Int) then
 bif 0≤t83.2.getD (toNat t85) 0 then
 bif t83.2.getD (toNat t85) 0<(parts_.2.length:Int) then
 bif 0≤meet then
 bif meet<(parts_.2.length:Int) then
 bif (parts_.2.getD (toNat (t83.2.getD (toNat t85) 0)) 0==parts_.2.getD (toNat meet) 0)then
 bif in_.2.length+[(t83.2.getD (toNat t85) 0)].length ≤lim then
(F82 meet stem parts_ inner loop ((in_.1&&false),(in_.2++[(t83.2.getD (toNat t85) 0)])) t77 t78 t79 t83 t84 (i64.wrap (t85+1))).bind fun r=>some r
else none
else 
(F82 meet stem parts_ inner loop (in_.1,in_.2) t77 t78 t79 t83 t84 (i64.wrap (t85+1))).bind fun r=>some r
else none
else none
else none
else none
else none
else none
else 
 some (in_.1,in_.2):=tL FoK
theorem FoE(next from_ goals):Fo next from_ goals=
(Fg next from_).bind fun r=>
(Fd next goals).bind fun r1=>
(F5e next from_ goals (r.1,r.2) (-1) (r1.1,r1.2) (r1.2.length:Int) 0).bind fun r2=>
 bif r2<0 then
 some ((true,[]),((true,[]),false))
else 
(Fl next from_ (false,[r2])).bind fun r3=>
(Fh next).bind fun r4=>
(F14 next (r4.1,r4.2)).bind fun r5=>
(Fai r2 (r3.1.1,r3.1.2) (r4.1,r4.2) (r5.1,r5.2) (false,[r2]) goals (goals.2.length:Int) 0).bind fun r6=>
 bif 0≤i64.wrap ((r6.2.length:Int)-1) then
 bif i64.wrap ((r6.2.length:Int)-1)<(r6.2.length:Int) then
 bif 0≤r6.2.getD (toNat (i64.wrap ((r6.2.length:Int)-1))) 0 then
 bif r6.2.getD (toNat (i64.wrap ((r6.2.length:Int)-1))) 0<(r5.2.length:Int) then
(Fl (r5.1,r5.2) (r5.2.getD (toNat (r6.2.getD (toNat (i64.wrap ((r6.2.length:Int)-1))) 0)) (true,[])) (false,[r2])).bind fun r7=>
 bif 0≤i64.wrap ((r3.1.2.length:Int)-1) then
 bif i64.wrap ((r3.1.2.length:Int)-1)≤(r3.1.2.length:Int) then
 bif 0≤i64.wrap ((r7.1.2.length:Int)-1) then
 bif i64.wrap ((r7.1.2.length:Int)-1)≤(r7.1.2.length:Int) then
 bif r6.2.length+((r7.1.2.take (toNat (i64.wrap ((r7.1.2.length:Int)-1)))).drop 0).length ≤lim then
 some ((r3.1.1,((r3.1.2.take (toNat (i64.wrap ((r3.1.2.length:Int)-1)))).drop 0)),(((r6.1&&((r7.1.2.take (toNat (i64.wrap ((r7.1.2.length:Int)-1)))).drop 0).isEmpty),(r6.2++((r7.1.2.take (toNat (i64.wrap ((r7.1.2.length:Int)-1)))).drop 0))),true))
else none
else none
else none
else none
else none
else none
else none
else none
else none:=tC
theorem FavE(many out t8 t9 t10):Fav many out t8 t9 t10=
 bif t10<t9 then
 bif 0≤t10 then
 bif t10<(t8.2.length:Int) then
 bif (many==0)then
 none
else 
 bif out.2.length+[i64.wrap (Int.tdiv (t8.2.getD (toNat t10) 0) many)].length ≤lim then
(Fav many ((out.1&&false),(out.2++[i64.wrap (Int.tdiv (t8.2.getD (toNat t10) 0) many)])) t8 t9 (i64.wrap (t10+1))).bind fun r=>some r
else none
else none
else none
else 
 some (out.1,out.2):=tL F35K
theorem F35E(l many):F35 l many=
(Fav many (true,[]) l (l.2.length:Int) 0).bind fun r=>
 some (r.1,r.2):=tC
theorem F6uE(q v):F6u q v=
(Fa q v).bind fun r=>
(Fo (r.1.1,r.1.2) (r.2.1.1,r.2.1.2) (r.2.2.1,r.2.2.2)).bind fun r1=>
 bif !r1.2.2 then
 some ((true,[]),((true,[]),false))
else 
(F2p v).bind fun r2=>
 bif (r2==0)then
 none
else 
(F35 (r1.1.1,r1.1.2) (i64.wrap (Int.tdiv (r.1.2.length:Int) r2))).bind fun r3=>
(F35 (r1.2.1.1,r1.2.1.2) (i64.wrap (Int.tdiv (r.1.2.length:Int) r2))).bind fun r4=>
 some ((r3.1,r3.2),((r4.1,r4.2),true)):=tC
theorem F9kE(loop p out n):F9k loop p out n=
(F5m p).bind fun r=>
 bif n≤r then
 bif out.2.length+loop.2.length≤lim then
(F9k loop p ((out.1&&loop.2.isEmpty),(out.2++loop.2)) (i64.wrap (n+1))).bind fun r=>some r
else none
else 
 some (out.1,out.2):=tL F37K
theorem F37E(p stem loop):F37 p stem loop=
(F58 stem).bind fun r=>
(F9k loop p (r.1,r.2) 0).bind fun r1=>
 some (r1.1,r1.2):=tC
theorem F9bE(p v out some_ t18 t19 t20):F9b p v out some_ t18 t19 t20=
 bif t20<t19 then
 bif 0≤t20 then
 bif t20<(t18.2.length:Int) then
(F6i p v (out.1,out.2) (t18.2.getD (toNat t20) 0) (true,[]) t18 t19 t20 some_ (some_.2.length:Int) 0).bind fun r=>
 bif out.2.length+[(r.1,r.2)].length ≤lim then
(F1e p (r.1,r.2)).bind fun r1=>
(F9b p v ((out.1&&false),(out.2++[(r.1,r.2)])) r1 t18 t19 (i64.wrap (t20+1))).bind fun r=>some r
else none
else none
else none
else 
 some (out.1,out.2):=tL F18K
theorem F6iE(p v out class_ in_ t18 t19 t20 t24 t25 t26):F6i p v out class_ in_ t18 t19 t20 t24 t25 t26=
 bif t26<t25 then
 bif 0≤t26 then
 bif t26<(t24.2.length:Int) then
 bif 0≤t24.2.getD (toNat t26) 0 then
 bif t24.2.getD (toNat t26) 0<(v.2.length:Int) then
 bif (v.2.getD (toNat (t24.2.getD (toNat t26) 0)) 0==class_)then
 bif in_.2.length+[(t24.2.getD (toNat t26) 0)].length ≤lim then
(F6i p v out class_ ((in_.1&&false),(in_.2++[(t24.2.getD (toNat t26) 0)])) t18 t19 t20 t24 t25 (i64.wrap (t26+1))).bind fun r=>some r
else none
else 
(F6i p v out class_ (in_.1,in_.2) t18 t19 t20 t24 t25 (i64.wrap (t26+1))).bind fun r=>some r
else none
else none
else none
else none
else 
 some (in_.1,in_.2):=tL F18K
theorem F18E(p v path):F18 p v path=
(F24 p p.2.2.1).bind fun r=>
(F9b p v (true,[]) (r.1,r.2) path (path.2.length:Int) 0).bind fun r1=>
 some (r1.1,r1.2):=tC
theorem FbyE(t5 t6 t7):Fby t5 t6 t7=
 bif t7<t6 then
 bif 0≤t7 then
 bif t7<(t5.2.length:Int) then
 bif ((((t5.2.getD (toNat t7) (true,[])).2).length :Int)==0)then
 some (.inl t7)
else 
(Fby t5 t6 (i64.wrap (t7+1))).bind fun r=>some r
else none
else none
else 
 some (.inr ()):=tL F2zK
theorem F2zE(along):F2z along=
(Fby along (along.2.length:Int) 0).bind fun r=>
 match r with
| .inl y=>
 some y
| .inr z=>
 some (-1):=tC
theorem FciE(b t7 t8 t9):Fci b t7 t8 t9=
 bif t9<t8 then
 bif 0≤t9 then
 bif t9<(t7.2.length:Int) then
(F2n b (t7.2.getD (toNat t9) 0)).bind fun r=>
 bif r then
 some (.inl true)
else 
(Fci b t7 t8 (i64.wrap (t9+1))).bind fun r=>some r
else none
else none
else 
 some (.inr ()):=tL F48K
theorem F48E(a b):F48 a b=
(Fci b a (a.2.length:Int) 0).bind fun r=>
 match r with
| .inl y=>
 some y
| .inr z=>
 some false:=tC
theorem FbgE(along p can k_):Fbg along p can k_=
 bif k_≥0 then
 bif 0≤k_ then
 bif k_<(along.2.length:Int) then
(F6m along p (can.1,can.2) k_ (true,[]) (along.2.getD (toNat k_) (true,[])) (((along.2.getD (toNat k_) (true,[])).2).length :Int) 0).bind fun r=>
 bif 0≤k_ then
 bif k_<(can.2.length:Int) then
(Fbg along p (can.1,(can.2.set (toNat k_) (r.1,r.2))) (i64.wrap (k_-1))).bind fun r=>some r
else none
else none
else none
else none
else 
 some (can.1,can.2):=tL F5K
theorem F6mE(along p can k_ in_ t27 t28 t29):F6m along p can k_ in_ t27 t28 t29=
 bif t29<t28 then
 bif 0≤t29 then
 bif t29<(t27.2.length:Int) then
(F2j p (t27.2.getD (toNat t29) 0)).bind fun r=>
 bif 0≤i64.wrap (k_+1) then
 bif i64.wrap (k_+1)<(can.2.length:Int) then
(F48 r (can.2.getD (toNat (i64.wrap (k_+1))) (true,[]))).bind fun r1=>
 bif r1 then
 bif in_.2.length+[(t27.2.getD (toNat t29) 0)].length ≤lim then
(F6m along p can k_ ((in_.1&&false),(in_.2++[(t27.2.getD (toNat t29) 0)])) t27 t28 (i64.wrap (t29+1))).bind fun r=>some r
else none
else 
(F6m along p can k_ (in_.1,in_.2) t27 t28 (i64.wrap (t29+1))).bind fun r=>some r
else none
else none
else none
else none
else 
 some (in_.1,in_.2):=tL F5K
theorem F9pE(p can out k_):F9p p can out k_=
 bif k_<(can.2.length:Int) then
 bif 0≤i64.wrap (k_-1) then
 bif i64.wrap (k_-1)<(out.2.length:Int) then
(F2j p (out.2.getD (toNat (i64.wrap (k_-1))) 0)).bind fun r=>
(Fb5 p can (out.1,out.2) k_ r (r.2.length:Int) 0).bind fun r1=>
(F9p p can (r1.1,r1.2) (i64.wrap (k_+1))).bind fun r=>some r
else none
else none
else 
 some (out.1,out.2):=tL F5K
theorem Fb5E(p can out k_ t69 t70 t71):Fb5 p can out k_ t69 t70 t71=
 bif t71<t70 then
 bif 0≤t71 then
 bif t71<(t69.2.length:Int) then
 bif 0≤k_ then
 bif k_<(can.2.length:Int) then
(F2n (can.2.getD (toNat k_) (true,[])) (t69.2.getD (toNat t71) 0)).bind fun r=>
 bif r then
 bif out.2.length+[(t69.2.getD (toNat t71) 0)].length ≤lim then
 some ((out.1&&false),(out.2++[(t69.2.getD (toNat t71) 0)]))
else none
else 
(Fb5 p can (out.1,out.2) k_ t69 t70 (i64.wrap (t71+1))).bind fun r=>some r
else none
else none
else none
else none
else 
 some (out.1,out.2):=tL F5K
theorem F5E(p along):F5 p along=
 bif ([]:List (Bool×List Int)).length +along.2.length≤lim then
(Fbg along p (false,([]++along.2)) (i64.wrap ((([]++along.2).length :Int)-2))).bind fun r=>
 bif 0<(r.2.length:Int) then
 bif 0<(((r.2.getD 0 (true,[])).2).length :Int) then
(F9p p (r.1,r.2) (false,[(((r.2.getD 0 (true,[])).2).getD 0 0)]) 1).bind fun r1=>
 some (r1.1,r1.2)
else none
else none
else none:=tC
theorem FamE(stem loop path second):Fam stem loop path second=
 bif second<(path.2.length:Int) then
(Fch stem loop path second (stem.2.length:Int)).bind fun r=>
 match r with
| .inl y=>
 some (.inl ((y.1.1,y.1.2),((y.2.1.1,y.2.1.2),y.2.2)))
| .inr z=>
(Fam stem loop path (i64.wrap (second+(loop.2.length:Int)))).bind fun r=>some r
else 
 some (.inr ()):=tL F1sK
theorem FchE(stem loop path second first):Fch stem loop path second first=
 bif first<second then
 bif 0≤first then
 bif first<(path.2.length:Int) then
 bif 0≤second then
 bif second<(path.2.length:Int) then
 bif (path.2.getD (toNat first) 0==path.2.getD (toNat second) 0)then
 bif 0≤first then
 bif first≤(path.2.length:Int) then
(F58 (path.1,((path.2.take (toNat first)).drop 0))).bind fun r=>
 bif 0≤second then
 bif second≤(path.2.length:Int) then
 bif 0≤first then
 bif first≤second then
(F58 (path.1,((path.2.take (toNat second)).drop (toNat first)))).bind fun r1=>
 some (.inl ((r.1,r.2),((r1.1,r1.2),true)))
else none
else none
else none
else none
else none
else none
else 
(Fch stem loop path second (i64.wrap (first+(loop.2.length:Int)))).bind fun r=>some r
else none
else none
else none
else none
else 
 some (.inr ()):=tL F1sK
theorem F1sE(p v stem loop):F1s p v stem loop=
(F37 p stem loop).bind fun r=>
(F18 p v (r.1,r.2)).bind fun r1=>
(F2z (r1.1,r1.2)).bind fun r2=>
 bif r2≥0 then
 some ((true,[]),((true,[]),false))
else 
(F5 p (r1.1,r1.2)).bind fun r3=>
(Fam stem loop (r3.1,r3.2) (stem.2.length:Int)).bind fun r4=>
 match r4 with
| .inl y=>
 some ((y.1.1,y.1.2),((y.2.1.1,y.2.1.2),y.2.2))
| .inr z=>
 some ((true,[]),((true,[]),false)):=tC
theorem F8eE(budget q t6 v rounds):F8e budget q t6 v rounds=
 bif rounds≤budget then
(F6u q (v.1,v.2)).bind fun r=>
 bif !r.2.2 then
 some (.inl (1,((true,[]),((true,[]),(rounds,((v.1,v.2),true))))))
else 
(F1s q.1 (v.1,v.2) (r.1.1,r.1.2) (r.2.1.1,r.2.1.2)).bind fun r1=>
 bif r1.2.2 then
 some (.inl (2,((r1.1.1,r1.1.2),((r1.2.1.1,r1.2.1.2),(rounds,((v.1,v.2),true))))))
else 
 bif rounds<budget then
(F37 q.1 (r.1.1,r.1.2) (r.2.1.1,r.2.1.2)).bind fun r2=>
(F18 q.1 (v.1,v.2) (r2.1,r2.2)).bind fun r3=>
(F2z (r3.1,r3.2)).bind fun r4=>
 bif 0≤i64.wrap (r4-1) then
 bif i64.wrap (r4-1)<(r3.2.length:Int) then
(F2h (v.1,v.2) (r3.2.getD (toNat (i64.wrap (r4-1))) (true,[]))).bind fun r5=>
(F8e budget q t6 (r5.1,r5.2) (i64.wrap (rounds+1))).bind fun r=>some r
else none
else none
else 
(F8e budget q t6 (v.1,v.2) (i64.wrap (rounds+1))).bind fun r=>some r
else 
 some (.inr (t6,(v.1,v.2))):=tL F34K
theorem F34E(q preds budget):F34 q preds budget=
(F4m q).bind fun r=>
 bif !r then
 some (0,((true,[]),((true,[]),(0,((true,[]),false)))))
else 
(F4c q.1 preds).bind fun r1=>
 bif !r1 then
 some (0,((true,[]),((true,[]),(0,((true,[]),false)))))
else 
(F2o budget 0 40).bind fun r2=>
 bif !r2 then
 some (0,((true,[]),((true,[]),(0,((true,[]),false)))))
else 
(F3u q preds).bind fun r3=>
(F8e budget q (0,((true,[]),((true,[]),(0,(true,[]))))) (r3.1,r3.2) 0).bind fun r4=>
 match r4 with
| .inl y=>
 some (y.1,((y.2.1.1,y.2.1.2),((y.2.2.1.1,y.2.2.1.2),(y.2.2.2.1,((y.2.2.2.2.1.1,y.2.2.2.2.1.2),y.2.2.2.2.2)))))
| .inr z=>
 some (3,((true,[]),((true,[]),(budget,((z.2.1,z.2.2),true))))):=tC
theorem F5jE(n):F5j n=
 bif n≥1 then
 some (decide (n≤64))
else 
 some false:=tC
theorem F5uE(n):F5u n=
 bif n≥1 then
 some (decide (n≤4))
else 
 some false:=tC
theorem F2yE(op):F2y op=
 bif (op==1)then
 some (0,(0,1))
else 
 bif (op==2)then
 some (0,(0,1))
else 
 bif (op==20)then
 some (0,(0,2))
else 
 bif (op==13)then
 some (1,(1,1))
else 
 bif (op==19)then
 some (1,(2,2))
else 
 bif op≥3 then
 bif op≤12 then
 some (2,(1,1))
else 
 bif op≥14 then
 bif op≤16 then
 some (2,(1,2))
else 
 bif (op==17)then
 some (2,(2,2))
else 
 bif (op==18)then
 some (2,(2,2))
else 
 some (0,(0,0))
else 
 bif (op==17)then
 some (2,(2,2))
else 
 bif (op==18)then
 some (2,(2,2))
else 
 some (0,(0,0))
else 
 bif op≥14 then
 bif op≤16 then
 some (2,(1,2))
else 
 bif (op==17)then
 some (2,(2,2))
else 
 bif (op==18)then
 some (2,(2,2))
else 
 some (0,(0,0))
else 
 bif (op==17)then
 some (2,(2,2))
else 
 bif (op==18)then
 some (2,(2,2))
else 
 some (0,(0,0)):=tC
theorem F0E(wide):F0 wide=
 bif i64.wrap (64-wide)<0 then
 none
else 
 some (bShr .u64 18446744073709551615 (i64.wrap (64-wide))):=tC
theorem F5pE(wide a):F5p wide a=
(F5j wide).bind fun r=>
 bif r then
(F0 wide).bind fun r1=>
 some (decide (a≤r1))
else 
 some false:=tC
theorem F8lE(wide vars x):F8l wide vars x=
 bif (x.1==1)then
(F5p wide x.2).bind fun r=>
 some r
else 
 bif (x.1==2)then
 some (decide (x.2<(u64.wrap vars)))
else 
 bif (x.1==20)then
 some (decide (x.2≤1))
else 
 some (x.2==0):=tC
theorem F8gE(own a1):F8g own a1=
 some (own !=a1):=tC
theorem FalE(s f t7 t8):Fal s f t7 t8=
 bif t8<t7 then
 bif 0≤t8 then
 bif t8<(s.2.length:Int) then
(F8g (s.2.getD (toNat t8) 0) f.1).bind fun r=>
 bif r then
 some (.inl t8)
else 
(Fal s f t7 (i64.wrap (t8+1))).bind fun r=>some r
else none
else none
else 
 some (.inr ()):=tL F45K
theorem F45E(s f):F45 s f=
(Fal s f (s.2.length:Int) 0).bind fun r=>
 match r with
| .inl y=>
 some y
| .inr z=>
 some (-1):=tC
theorem F7nE(s f):F7n s f=
(F45 s f).bind fun r=>
 some (decide (r≥0)):=tC
theorem F98E(wide vars stack t33 t34 t35):F98 wide vars stack t33 t34 t35=
 bif t35<t34 then
 bif 0≤t35 then
 bif t35<(t33.2.length:Int) then
(F2y ((t33.2.getD (toNat t35) (0,0)).1)).bind fun r=>
 bif (r.2.2==0)then
 some (.inl false)
else 
(F8l wide vars (t33.2.getD (toNat t35) (0,0))).bind fun r1=>
 bif !r1 then
 some (.inl false)
else 
 bif i64.wrap ((stack.2.length:Int)-r.1)<0 then
 some (.inl false)
else 
 bif 0≤i64.wrap ((stack.2.length:Int)-r.1) then
 bif i64.wrap ((stack.2.length:Int)-r.1)≤(stack.2.length:Int) then
(F7n (stack.1,((stack.2.take stack.2.length).drop (toNat (i64.wrap ((stack.2.length:Int)-r.1))))) (r.2.1,())).bind fun r2=>
 bif r2 then
 some (.inl false)
else 
 bif 0≤i64.wrap ((stack.2.length:Int)-r.1) then
 bif i64.wrap ((stack.2.length:Int)-r.1)≤(stack.2.length:Int) then
 bif ((stack.2.take (toNat (i64.wrap ((stack.2.length:Int)-r.1)))).drop 0).length +[r.2.2].length ≤lim then
(F98 wide vars ((stack.1&&false),(((stack.2.take (toNat (i64.wrap ((stack.2.length:Int)-r.1)))).drop 0)++[r.2.2])) t33 t34 (i64.wrap (t35+1))).bind fun r=>some r
else none
else none
else none
else none
else none
else none
else none
else 
 some (.inr (stack.1,stack.2)):=tL F1hK
theorem F1hE(wide vars t):F1h wide vars t=
(F5j wide).bind fun r=>
 bif !r then
 some false
else 
(F5u vars).bind fun r1=>
 bif !r1 then
 some false
else 
 bif (t.2.length:Int)<1 then
 some false
else 
 bif (t.2.length:Int)>48 then
 some false
else 
(F98 wide vars (false,[]) t (t.2.length:Int) 0).bind fun r2=>
 match r2 with
| .inl y=>
 some y
| .inr z=>
 some ((z.2.length:Int)==1):=tC
theorem F6yE(t):F6y t=
 bif 0≤i64.wrap ((t.2.length:Int)-1) then
 bif i64.wrap ((t.2.length:Int)-1)<(t.2.length:Int) then
(F2y ((t.2.getD (toNat (i64.wrap ((t.2.length:Int)-1))) (0,0)).1)).bind fun r=>
 some r.2.2
else none
else none:=tC
theorem F5iE(wide vars t kind):F5i wide vars t kind=
(F1h wide vars t).bind fun r=>
 bif r then
(F6y t).bind fun r1=>
 some (r1==kind)
else 
 some false:=tC
theorem F5bE(p t):F5b p t=
(F5i p.1 p.2.1 t 2).bind fun r=>
 some r:=tC
theorem F84E(p c t13 t14 t15):F84 p c t13 t14 t15=
 bif t15<t14 then
 bif 0≤t15 then
 bif t15<(t13.2.length:Int) then
 bif (t13.2.getD (toNat t15) (0,(true,[]))).1<0 then
 some (.inl false)
else 
 bif (t13.2.getD (toNat t15) (0,(true,[]))).1≥p.2.1 then
 some (.inl false)
else 
 bif t15>0 then
 bif 0≤i64.wrap (t15-1) then
 bif i64.wrap (t15-1)<(c.2.2.length:Int) then
 bif (c.2.2.getD (toNat (i64.wrap (t15-1))) (0,(true,[]))).1≥(t13.2.getD (toNat t15) (0,(true,[]))).1 then
 some (.inl false)
else 
(F5i p.1 p.2.1 ((t13.2.getD (toNat t15) (0,(true,[]))).2) 1).bind fun r=>
 bif !r then
 some (.inl false)
else 
(F84 p c t13 t14 (i64.wrap (t15+1))).bind fun r=>some r
else none
else none
else 
(F5i p.1 p.2.1 ((t13.2.getD (toNat t15) (0,(true,[]))).2) 1).bind fun r1=>
 bif !r1 then
 some (.inl false)
else 
(F84 p c t13 t14 (i64.wrap (t15+1))).bind fun r=>some r
else none
else none
else 
 some (.inr ()):=tL F39K

end Go.Proofs.YtedfhboklcfanaaGreat.R
