/- Kinds,signatures and loops of the functions that the laws J78,and what each computes. -/
import Derived.Test.YtedfhboklcfanaaGreatRfD
import Derived.Test.YtedfhboklcfanaaGreatProg
import Derived.KernelRfl
import Derived.Test.YtedfhboklcfanaaGreatShelf
set_option linter.unusedVariables false
namespace Go.Proofs.YtedfhboklcfanaaGreat.R
open Go.Rf Go.Proofs
def tySaid:Ty:=(.pair (.int .i64) (.int .i64))
abbrev DSaid:=Int×Int
def tyNode:Ty:=(.pair (.int .i64) (.int .u64))
abbrev DNode:=Int×Int
def tySight:Ty:=(.one (.sl (.int .i64)))
abbrev DSight:=Bool×List Int
def tyLasso:Ty:=(.pair (.sl (.int .i64)) (.sl (.int .i64)))
abbrev DLasso:=(Bool×List Int)×Bool×List Int
def tyEdge:Ty:=(.pair (.int .i64) tySaid)
abbrev DEdge:=Int×DSaid
def tyboundsError:Ty:=(.pair (.int .i64) (.pair (.int .i64) (.pair .bool (.int .u8))))
abbrev DboundsError:=Int×Int×Bool×Int
def tyChange:Ty:=(.pair (.int .i64) (.sl tyNode))
abbrev DChange:=Int×Bool×List DNode
def tyl11Walk:Ty:=(.pair (.sl (.sl (.int .i64))) (.pair (.sl .bool) (.sl (.int .i64))))
abbrev Dl11Walk:=(Bool×List (Bool×List Int))×(Bool×List Bool)×Bool×List Int
def tyCommand:Ty:=(.pair (.sl tyNode) (.sl tyChange))
abbrev DCommand:=(Bool×List DNode)×Bool×List DChange
def tyOutcome:Ty:=(.pair (.int .i64) (.pair (.sl (.int .i64)) (.pair (.sl (.int .i64)) (.pair (.int .i64) tySight))))
abbrev DOutcome:=Int×(Bool×List Int)×(Bool×List Int)×Int×DSight
def tyAuto:Ty:=(.pair (.int .i64) (.pair (.sl (.int .i64)) (.pair (.sl tyEdge) (.sl (.sl (.int .i64))))))
abbrev DAuto:=Int×(Bool×List Int)×(Bool×List DEdge)×Bool×List (Bool×List Int)
def tytarjan:Ty:=(.pair (.sl (.sl (.int .i64))) (.pair (.sl (.int .i64)) (.pair (.sl (.int .i64)) (.pair (.sl (.int .i64)) (.pair (.sl (.int .i64)) (.int .i64))))))
abbrev Dtarjan:=(Bool×List (Bool×List Int))×(Bool×List Int)×(Bool×List Int)×(Bool×List Int)×(Bool×List Int)×Int
def tyProgram:Ty:=(.pair (.int .i64) (.pair (.int .i64) (.pair (.sl tyNode) (.sl tyCommand))))
abbrev DProgram:=Int×Int×(Bool×List DNode)×Bool×List DCommand
def tyQuestion:Ty:=(.pair tyProgram (.pair (.sl (.sl tyNode)) (.sl tySaid)))
abbrev DQuestion:=DProgram×(Bool×List (Bool×List DNode))×Bool×List DSaid
def s0:SS:= .v (.int .i64)
def s1:SS:= .v (.sl (.int .i64))
def s2:SS:= .v (.sl (.sl (.int .i64)))
def s3:SS:= .tup (.v .bool) .unit
def s4:SS:= .tup s0 .unit
def s5:SS:= .tup (.v (.int .u64)) .unit
def s6:SS:= .v (.sl tySaid)
def s7:SS:= .tup (.v tyQuestion) (.tup (.v tySight) .unit)
def s8:SS:= .v (.sl tyNode)
def s9:SS:= .v (.sl (.int .u64))
def sa:SS:= .v (.int .u64)
def sb:SS:= .v tyProgram
def sc:SS:= .tup s1 .unit
def sd:SS:= .v (.sl (.sl tyNode))
def se:SS:= .sp tyQuestion
def sf:SS:= .v (.sl tyCommand)
def sg:SS:= .sp tyProgram
def sh:SS:= .v (.fn 188 (.pair (.sl (.int .i64)) (.pair (.int .i64) .nil)))
def si:SS:= .v (.sl .bool)
def sj:SS:= .v (.sl tyChange)
def sk:SS:= .sp tySight
def sm:SS:= .sp (.sl (.int .i64))
def sn:SS:= .v .bool
def so:SS:= .v tySight
def sq:SS:= .v tyQuestion
def sr:SS:= .tup s6 .unit
def ss:SS:= .v (.fn 235 (.pair (.sl (.int .i64)) (.pair (.int .i64) (.pair (.sl (.sl (.int .i64))) (.pair tySaid .nil)))))
def st:SS:= .tup s0 (.tup sa s5)
def su:SS:= .tup s9 .unit
def sv:SS:= .tup s8 .unit
def sw:SS:= .tup s2 .unit
def sx:SS:= .tup (.v tySaid) .unit
def sy:SS:= .tup (.v tyNode) .unit
noncomputable def FsH:FnH:=⟨59,Tryz.f59,(.tup s8 s4),s4,[],[],[],[],[],none⟩
noncomputable def F1hH:FnH:=⟨264,Tryz.f264,(.tup (.v tyChange) s4),s4,[],[],[],[],[],none⟩
noncomputable def F3pH:FnH:=⟨206,Tryz.f206,(.tup sj s4),s4,[],[],[(0,⟨[(0,sj),(1,s0),(5,s0)],[(.ret,[(4,s0)]),(.exit 0,[(1,s0)])],[]⟩)],[],[],none⟩
noncomputable def F1jH:FnH:=⟨137,Tryz.f137,(.tup (.v tyCommand) s4),s4,[],[],[],[],[],none⟩
noncomputable def F3dH:FnH:=⟨77,Tryz.f77,(.tup sf s4),s4,[],[],[(0,⟨[(0,sf),(1,s0),(5,s0)],[(.ret,[(4,s0)]),(.exit 0,[(1,s0)])],[]⟩)],[],[],none⟩
noncomputable def F67H:FnH:=⟨31,Tryz.f31,(.tup sb s4),s4,[],[],[],[],[],none⟩
noncomputable def F2yH:FnH:=⟨22,Tryz.f22,(.tup sd s4),s4,[],[],[(0,⟨[(0,sd),(1,s0),(5,s0)],[(.ret,[(4,s0)]),(.exit 0,[(1,s0)])],[]⟩)],[],[],none⟩
noncomputable def F5yH:FnH:=⟨32,Tryz.f32,(.tup s6 s4),s4,[],[],[],[],[],none⟩
noncomputable def F71H:FnH:=⟨6,Tryz.f6,(.tup sq s4),s4,[],[],[],[],[],none⟩
noncomputable def F6iH:FnH:=⟨50,Tryz.f50,(.tup s1 s4),s4,[],[],[],[],[],none⟩
noncomputable def F78H:FnH:=⟨13,Tryz.f13,(.tup so s4),s4,[],[],[],[],[],none⟩
noncomputable def F8H:FnH:=⟨125,Tryz.f125,sy,sy,[],[],[],[],[],none⟩
noncomputable def FeH:FnH:=⟨69,Tryz.f69,sv,(.tup (.own 206850 tyNode true) .unit),[],[],[(0,⟨[(0,s8),(3,(.own 206849 tyNode true)),(4,s0)],[(.exit 0,[(1206849,(.own 206849 tyNode true))])],[3]⟩)],[],[],none⟩
noncomputable def F1aH:FnH:=⟨269,Tryz.f269,(.tup (.v tyChange) .unit),(.tup (.pair s0 (.own 206851 tyNode true)) .unit),[],[],[],[],[],none⟩
noncomputable def F3tH:FnH:=⟨212,Tryz.f212,(.tup sj .unit),(.tup (.own 206853 tyChange true) .unit),[],[],[(0,⟨[(0,sj),(3,(.own 206852 tyChange true)),(4,s0)],[(.exit 0,[(1206852,(.own 206852 tyChange true))])],[3]⟩)],[],[],none⟩
noncomputable def F1iH:FnH:=⟨146,Tryz.f146,(.tup (.v tyCommand) .unit),(.tup (.pair (.own 206854 tyNode true) (.own 206855 tyChange true)) .unit),[],[],[],[],[],none⟩
noncomputable def F39H:FnH:=⟨87,Tryz.f87,(.tup sf .unit),(.tup (.own 206857 tyCommand true) .unit),[],[],[(0,⟨[(0,sf),(3,(.own 206856 tyCommand true)),(4,s0)],[(.exit 0,[(1206856,(.own 206856 tyCommand true))])],[3]⟩)],[],[],none⟩
noncomputable def F5cH:FnH:=⟨39,Tryz.f39,(.tup sb .unit),(.tup (.pair s0 (.pair s0 (.pair (.own 206858 tyNode true) (.own 206859 tyCommand true)))) .unit),[],[],[],[],[],none⟩
noncomputable def F3nH:FnH:=⟨24,Tryz.f24,(.tup sd .unit),(.tup (.own 206861 (.sl tyNode) true) .unit),[],[],[(0,⟨[(0,sd),(3,(.own 206860 (.sl tyNode) true)),(4,s0)],[(.exit 0,[(1206860,(.own 206860 (.sl tyNode) true))])],[3]⟩)],[],[],none⟩
noncomputable def F18H:FnH:=⟨88,Tryz.f88,sx,sx,[],[],[],[],[],none⟩
noncomputable def F3hH:FnH:=⟨40,Tryz.f40,sr,(.tup (.own 206863 tySaid true) .unit),[],[],[(0,⟨[(0,s6),(3,(.own 206862 tySaid true)),(4,s0)],[(.exit 0,[(1206862,(.own 206862 tySaid true))])],[3]⟩)],[],[],none⟩
noncomputable def F48H:FnH:=⟨8,Tryz.f8,(.tup sq .unit),(.tup (.pair (.pair s0 (.pair s0 (.pair (.own 206864 tyNode true) (.own 206865 tyCommand true)))) (.pair (.own 206866 (.sl tyNode) true) (.own 206867 tySaid true))) .unit),[],[],[],[],[],none⟩
noncomputable def F32H:FnH:=⟨9,Tryz.f9,sc,(.tup (.own 206869 (.int .i64) true) .unit),[],[],[(0,⟨[(0,s1),(3,(.own 206868 (.int .i64) true)),(4,s0)],[(.exit 0,[(1206868,(.own 206868 (.int .i64) true))])],[3]⟩)],[],[],none⟩
noncomputable def F47H:FnH:=⟨15,Tryz.f15,(.tup so .unit),(.tup (.one (.own 206870 (.int .i64) true)) .unit),[],[],[],[],[],none⟩
noncomputable def F25H:FnH:=⟨62,Tryz.f62,(.tup s0 (.tup s0 s4)),s3,[],[],[],[],[],none⟩
noncomputable def F51H:FnH:=⟨247,Tryz.f247,s4,s3,[],[],[],[],[],none⟩
noncomputable def F4jH:FnH:=⟨207,Tryz.f207,s4,(.tup s0 (.tup s0 s4)),[],[],[],[],[],none⟩
noncomputable def F12H:FnH:=⟨208,Tryz.f208,(.tup s0 s5),s5,[],[],[(0,⟨[(0,s0),(1,sa),(5,sa),(6,s0)],[(.exit 0,[(5,sa)])],[]⟩)],[],[],none⟩
noncomputable def F4bH:FnH:=⟨280,Tryz.f280,(.tup s0 s5),s3,[],[],[],[],[],none⟩
noncomputable def F3aH:FnH:=⟨248,Tryz.f248,(.tup s0 (.tup s0 sy)),s3,[],[],[],[],[],none⟩
noncomputable def FwH:FnH:=⟨194,Tryz.f194,(.tup s0 (.tup s0 sv)),s4,[],[],[(0,⟨[(0,s0),(1,s0),(7,(.own 206871 (.int .i64) true)),(27,s8),(28,s0),(29,s0)],[(.ret,[(6,s0)]),(.exit 0,[(7,(.own 206874 (.int .i64) true))])],[]⟩),(2,⟨[(0,s0),(1,s0),(7,(.own 206872 (.int .i64) true)),(10,s0),(11,s0),(12,s0),(27,s8),(28,s0),(29,s0)],[(.ret,[(6,s0)]),(.exit 2,[(7,(.own 206873 (.int .i64) true))])],[0,1,12,27,28,29]⟩)],[],[],none⟩
noncomputable def F4aH:FnH:=⟨119,Tryz.f119,(.tup sb sv),s3,[],[],[],[],[],none⟩
noncomputable def F2aH:FnH:=⟨244,Tryz.f244,(.tup sb (.tup (.v tyCommand) .unit)),s3,[],[],[(0,⟨[(2,sg),(3,(.sp tyCommand)),(21,sj),(22,s0),(23,s0)],[(.ret,[(4,sn)]),(.exit 0,[])],[]⟩)],[],[],none⟩
noncomputable def F2zH:FnH:=⟨191,Tryz.f191,(.tup sb .unit),s3,[],[],[(0,⟨[(1,sg),(18,sf),(19,s0),(20,s0)],[(.ret,[(2,sn)]),(.exit 0,[])],[]⟩)],[],[],none⟩
noncomputable def F4qH:FnH:=⟨117,Tryz.f117,(.tup sb .unit),s3,[],[],[],[],[],none⟩
noncomputable def F50H:FnH:=⟨245,Tryz.f245,s4,s4,[],[],[],[],[],none⟩
noncomputable def F3xH:FnH:=⟨246,Tryz.f246,sx,s3,[],[],[],[],[],none⟩
noncomputable def F30H:FnH:=⟨192,Tryz.f192,sr,s3,[],[],[(0,⟨[(3,s0),(11,s6),(12,s0),(13,s0)],[(.ret,[(2,sn)]),(.exit 0,[(3,s0)])],[]⟩)],[],[],none⟩
noncomputable def FtH:FnH:=⟨141,Tryz.f141,(.tup s1 s4),sc,[],[],[(0,⟨[(0,s1),(1,s0),(5,s0)],[(.exit 0,[(5,s0)])],[0,1]⟩)],[],[],none⟩
noncomputable def F19H:FnH:=⟨193,Tryz.f193,sr,sc,[],[],[(0,⟨[(3,s1),(10,s6),(11,s0),(12,s0)],[(.exit 0,[(3,s1)])],[]⟩)],[],[],none⟩
noncomputable def F6sH:FnH:=⟨118,Tryz.f118,sr,s3,[],[],[],[],[],none⟩
noncomputable def F3eH:FnH:=⟨60,Tryz.f60,(.tup sq .unit),s3,[],[],[(0,⟨[(1,se),(22,sd),(23,s0),(24,s0)],[(.ret,[(2,sn)]),(.exit 0,[])],[]⟩)],[],[],none⟩
noncomputable def F4tH:FnH:=⟨79,Tryz.f79,(.tup sb .unit),s4,[],[],[],[],[],none⟩
noncomputable def F2bH:FnH:=⟨103,Tryz.f103,(.tup sb (.tup so .unit)),s3,[],[],[(0,⟨[(5,s0),(20,s1),(21,s0),(22,s0)],[(.ret,[(4,sn)]),(.exit 0,[])],[]⟩)],[],[],none⟩
noncomputable def F56H:FnH:=⟨51,Tryz.f51,s7,s3,[],[],[],[],[],none⟩
noncomputable def F1vH:FnH:=⟨104,Tryz.f104,(.tup so .unit),s4,[],[],[(0,⟨[(3,s0),(7,s1),(8,s0),(9,s0)],[(.exit 0,[(3,s0)])],[]⟩)],[],[],none⟩
noncomputable def F1uH:FnH:=⟨105,Tryz.f105,(.tup so s4),(.tup (.own 206879 (.int .i64) true) .unit),[],[],[(0,⟨[(1,s0),(5,(.own 206877 (.int .i64) true)),(9,s1),(10,s0),(11,s0)],[(.exit 0,[(5,(.own 206878 (.int .i64) true))])],[]⟩)],[],[],none⟩
noncomputable def F1wH:FnH:=⟨81,Tryz.f81,(.tup sb s4),(.tup (.own 206882 (.int .u64) true) .unit),[],[],[(0,⟨[(1,s0),(2,sg),(5,(.own 206880 (.int .u64) true)),(6,s0)],[(.exit 0,[(5,(.own 206881 (.int .u64) true))])],[]⟩)],[],[],none⟩
noncomputable def F2cH:FnH:=⟨210,Tryz.f210,(.tup s8 s4),s4,[],[],[(0,⟨[(0,s8),(5,s0),(8,s0)],[(.exit 0,[(8,s0)])],[]⟩)],[],[],none⟩
noncomputable def F6pH:FnH:=⟨289,Tryz.f289,st,s3,[],[],[],[],[],none⟩
noncomputable def F6rH:FnH:=⟨265,Tryz.f265,st,(.tup sa (.tup sa s3)),[],[],[],[],[],none⟩
noncomputable def FxH:FnH:=⟨266,Tryz.f266,(.tup s0 (.tup sa (.tup sa s3))),s5,[],[],[(0,⟨[(0,s0),(1,sa),(2,sa),(3,sn)],[(.exit 0,[(1,sa)])],[]⟩)],[],[],none⟩
noncomputable def F1tH:FnH:=⟨267,Tryz.f267,s3,s5,[],[],[],[],[],none⟩
noncomputable def F3vH:FnH:=⟨268,Tryz.f268,(.tup s0 s5),s4,[],[],[],[],[],none⟩
noncomputable def F5mH:FnH:=⟨209,Tryz.f209,(.tup s0 st),s5,[],[],[],[],[],none⟩
noncomputable def F43H:FnH:=⟨139,Tryz.f139,(.tup s0 (.tup s8 (.tup s0 su))),s5,[],[],[],[],[],none⟩
noncomputable def F4lH:FnH:=⟨80,Tryz.f80,(.tup sb (.tup s8 su)),s3,[],[],[],[],[],none⟩
noncomputable def F1rH:FnH:=⟨86,Tryz.f86,(.tup sq s4),s4,[],[],[(0,⟨[(1,s0),(2,se),(5,s0),(9,sd),(10,s0),(11,s0)],[(.exit 0,[(5,s0)])],[]⟩)],[],[],none⟩
noncomputable def F1fH:FnH:=⟨52,Tryz.f52,s7,s3,[],[],[(0,⟨[(2,se),(3,sk),(5,s0)],[(.ret,[(4,sn)]),(.exit 0,[])],[]⟩),(2,⟨[(2,se),(3,sk),(5,s0),(6,s1),(18,s1),(19,s0),(20,s0)],[(.ret,[(4,sn)]),(.exit 2,[])],[2,3,5]⟩)],[],[],none⟩
noncomputable def F1mH:FnH:=⟨225,Tryz.f225,(.tup s1 (.tup s0 s4)),s3,[],[],[(0,⟨[(1,s0),(2,s0),(9,s1),(10,s0),(11,s0)],[(.ret,[(6,sn)]),(.exit 0,[])],[]⟩)],[],[],none⟩
noncomputable def FdH:FnH:=⟨224,Tryz.f224,(.tup s6 sc),(.tup (.own 206887 (.sl (.int .i64)) true) .unit),[],[],[(0,⟨[(1,s1),(5,(.own 206883 (.sl (.int .i64)) true)),(12,s6),(13,s0),(14,s0)],[(.exit 0,[(5,(.own 206886 (.sl (.int .i64)) true))])],[]⟩),(2,⟨[(1,s1),(5,s2),(6,s0),(7,(.sp tySaid)),(8,(.own 206884 (.int .i64) true)),(9,s0),(12,s6),(13,s0),(14,s0)],[(.exit 2,[(8,(.own 206885 (.int .i64) true))])],[1,5,12,13,14]⟩)],[],[],none⟩
noncomputable def F1qH:FnH:=⟨211,Tryz.f211,(.tup s6 s4),s4,[],[],[(0,⟨[(0,s6),(5,s0),(6,s0)],[(.exit 0,[(5,s0)])],[]⟩)],[],[],none⟩
noncomputable def FoH:FnH:=⟨277,Tryz.f277,(.tup s6 (.tup s1 (.tup s0 s4))),(.tup (.own 206892 .bool true) .unit),[],[],[(0,⟨[(0,s6),(1,s1),(2,s0),(3,s0),(9,(.own 206890 .bool true)),(13,s6),(14,s0),(15,s0)],[(.exit 0,[(9,(.own 206891 .bool true))])],[]⟩)],[],[],none⟩
noncomputable def F2jH:FnH:=⟨226,Tryz.f226,(.tup s6 (.tup s1 (.tup s0 s4))),s4,[],[],[(0,⟨[(9,si),(10,s0),(18,s1),(19,s0),(20,s0)],[(.exit 0,[(10,s0)])],[]⟩)],[],[],none⟩
noncomputable def FkH:FnH:=⟨159,Tryz.f159,(.tup s6 s3),(.tup (.pair s0 (.pair (.own 206917 (.int .i64) true) (.pair (.own 206918 tyEdge true) (.own 206919 (.sl (.int .i64)) true)))) .unit),[],[],[(0,⟨[(0,s6),(1,sn),(4,(.sp tyAuto)),(5,s1),(6,s0),(7,(.box 206888 (.pair s0 (.pair (.own 206889 (.int .i64) true) (.pair (.own 206897 tyEdge true) (.own 206907 (.sl (.int .i64)) true)))))),(8,s0)],[(.exit 0,[(2206888,(.box 206888 (.pair s0 (.pair (.own 206914 (.int .i64) true) (.pair (.own 206915 tyEdge true) (.own 206916 (.sl (.int .i64)) true))))))])],[4,7]⟩),(2,⟨[(0,s6),(1,sn),(4,(.sp tyAuto)),(5,s1),(6,s0),(7,(.box 206895 (.pair s0 (.pair (.own 206900 (.int .i64) true) (.pair (.own 206896 tyEdge true) (.own 206908 (.sl (.int .i64)) true)))))),(8,s0),(9,s0)],[(.exit 2,[(2206895,(.box 206895 (.pair s0 (.pair (.own 206911 (.int .i64) true) (.pair (.own 206912 tyEdge true) (.own 206913 (.sl (.int .i64)) true))))))])],[0,1,4,5,6,7,8]⟩),(4,⟨[(0,s6),(1,sn),(4,(.sp tyAuto)),(5,s1),(6,s0),(7,(.box 206893 (.pair s0 (.pair (.own 206901 (.int .i64) true) (.pair (.own 206894 tyEdge true) (.own 206909 (.sl (.int .i64)) true)))))),(8,s0),(9,s0),(10,s0)],[(.exit 4,[(2206893,(.box 206893 (.pair s0 (.pair (.own 206902 (.int .i64) true) (.pair (.own 206898 tyEdge true) (.own 206910 (.sl (.int .i64)) true))))))])],[0,1,4,5,6,7,8,9]⟩)],[],[],none⟩
noncomputable def F59H:FnH:=⟨160,Tryz.f160,(.tup sq (.tup so s4)),s4,[],[],[],[],[],none⟩
noncomputable def F2iH:FnH:=⟨140,Tryz.f140,(.tup sb su),(.tup (.own 206923 (.int .i64) true) .unit),[],[],[(0,⟨[(1,s9),(2,sg),(5,(.own 206921 (.int .i64) true)),(9,sf),(10,s0),(11,s0)],[(.exit 0,[(5,(.own 206922 (.int .i64) true))])],[]⟩)],[],[],none⟩
noncomputable def F37H:FnH:=⟨143,Tryz.f143,(.tup sb (.tup s9 s4)),(.tup (.own 206926 (.int .u64) true) .unit),[],[],[(0,⟨[(1,s9),(3,sg),(7,(.own 206925 (.int .u64) true)),(18,sj),(19,s0),(20,s0)],[(.exit 0,[(1206925,(.own 206925 (.int .u64) true))])],[7]⟩)],[],[],none⟩
noncomputable def F3rH:FnH:=⟨142,Tryz.f142,(.tup sb su),s4,[],[],[(0,⟨[(1,s9),(2,sg),(5,s0),(6,s0)],[(.exit 0,[(5,s0)])],[]⟩)],[],[],none⟩
noncomputable def F31H:FnH:=⟨83,Tryz.f83,(.tup sb s4),sc,[],[],[(0,⟨[(1,s0),(2,sg),(5,s9),(6,s1),(14,s1),(15,s0),(16,s0)],[(.exit 0,[(6,s1)])],[1]⟩)],[],[],none⟩
noncomputable def F1gH:FnH:=⟨123,Tryz.f123,(.tup sb sc),sc,[],[],[(0,⟨[(2,sg),(5,s1),(10,s1),(11,s0),(12,s0)],[(.exit 0,[(5,s1)])],[]⟩),(2,⟨[(2,sg),(5,s1),(10,s1),(11,s0),(12,s0),(18,s1),(19,s0),(20,s0)],[(.exit 2,[(5,s1)])],[2,10,11,12]⟩)],[],[],none⟩
noncomputable def F2oH:FnH:=⟨165,Tryz.f165,(.tup so sc),sc,[],[],[(0,⟨[(2,sk),(5,s1),(8,s1),(9,s0),(10,s0)],[(.exit 0,[(5,s1)])],[]⟩)],[],[],none⟩
noncomputable def F6jH:FnH:=⟨161,Tryz.f161,(.tup sb (.tup so s4)),sc,[],[],[],[],[],none⟩
noncomputable def F4wH:FnH:=⟨82,Tryz.f82,sc,(.tup (.own 206933 (.int .i64) true) .unit),[],[],[],[],[],none⟩
noncomputable def F34H:FnH:=⟨162,Tryz.f162,(.tup s1 sc),sc,[],[],[(0,⟨[(5,s1),(10,s1),(11,s0),(12,s0)],[(.exit 0,[(5,s1)])],[]⟩)],[],[],none⟩
noncomputable def F3fH:FnH:=⟨164,Tryz.f164,s4,(.tup (.own 206939 (.int .i64) true) .unit),[],[],[(0,⟨[(0,s0),(3,(.own 206937 (.int .i64) true)),(4,s0)],[(.exit 0,[(3,(.own 206938 (.int .i64) true))])],[]⟩)],[],[],none⟩
noncomputable def F14H:FnH:=⟨163,Tryz.f163,(.tup s1 (.tup s1 s4)),(.tup (.own 206944 (.int .i64) true) .unit),[],[],[(0,⟨[(1,s1),(2,s0),(7,(.own 206940 (.int .i64) true)),(12,s1),(13,s0),(14,s0)],[(.exit 0,[(7,(.own 206943 (.int .i64) true))])],[]⟩),(2,⟨[(1,s1),(2,s0),(7,(.own 206941 (.int .i64) true)),(9,s0),(12,s1),(13,s0),(14,s0),(18,s1),(19,s0),(20,s0)],[(.exit 2,[(7,(.own 206942 (.int .i64) true))])],[1,2,12,13,14]⟩)],[],[],none⟩
noncomputable def F2rH:FnH:=⟨35,Tryz.f35,(.tup sb sv),(.tup (.own 206948 (.int .i64) true) .unit),[],[],[(0,⟨[(1,s8),(2,sg),(5,(.own 206946 (.int .i64) true)),(6,s0)],[(.exit 0,[(5,(.own 206947 (.int .i64) true))])],[]⟩)],[],[],none⟩
noncomputable def F6H:FnH:=⟨106,Tryz.f106,s7,(.tup (.own 206949 (.sl (.int .i64)) false) (.tup (.own 206950 (.int .i64) true) (.tup (.own 206951 (.sl (.int .i64)) true) .unit))),[],[],[(0,⟨[(2,se),(3,sk),(7,(.sp tyAuto)),(8,s0),(9,(.own 206932 (.sl (.int .i64)) true)),(10,s0)],[(.exit 0,[(1206932,(.own 206932 (.sl (.int .i64)) true))])],[2,3,7,8,9]⟩),(2,⟨[(2,se),(3,sk),(7,(.sp tyAuto)),(8,s0),(9,(.own 206931 (.sl (.int .i64)) true)),(10,s0),(11,s0),(12,s1),(47,(.v (.sl tyEdge))),(48,s0),(49,s0)],[(.exit 2,[(1206931,(.own 206931 (.sl (.int .i64)) true))])],[2,3,7,8,9,10]⟩),(4,⟨[(2,se),(3,sk),(7,(.sp tyAuto)),(8,s0),(9,(.own 206930 (.sl (.int .i64)) true)),(10,s0),(11,s0),(12,s1),(14,(.sp tyEdge)),(47,(.v (.sl tyEdge))),(48,s0),(49,s0),(57,s1),(58,s0),(59,s0)],[(.exit 4,[(1206930,(.own 206930 (.sl (.int .i64)) true))])],[2,3,7,8,9,10,11,12,47,48,49]⟩),(6,⟨[(2,se),(3,sk),(8,s0),(9,(.own 206935 (.sl (.int .i64)) false)),(94,s0),(95,s0)],[(.exit 6,[(1206935,(.own 206935 (.sl (.int .i64)) false))])],[2,3,7,8,9]⟩),(8,⟨[(2,se),(3,sk),(7,(.sp tyAuto)),(8,s0),(9,s2),(18,(.own 206936 (.sl (.int .i64)) true)),(108,s2),(109,s0),(110,s0)],[(.exit 8,[(18,(.own 206945 (.sl (.int .i64)) true))])],[2,3,7,9]⟩)],[],[],none⟩
noncomputable def FcH:FnH:=⟨166,Tryz.f166,(.tup s2 sc),(.tup (.own 206959 (.int .i64) true) .unit),[],[],[(0,⟨[(0,s2),(1,s1),(5,(.own 206952 (.int .i64) true)),(17,s0),(18,s0)],[(.exit 0,[(1206952,(.own 206952 (.int .i64) true))])],[0,1,5]⟩),(2,⟨[(0,s2),(1,s1),(5,(.own 206953 (.int .i64) true)),(25,s1),(26,s0),(27,s0)],[(.exit 2,[(1206953,(.own 206953 (.int .i64) true))])],[0,1,5]⟩),(4,⟨[(0,s2),(5,(.own 206957 (.int .i64) true)),(9,(.own 206954 (.int .i64) true))],[(.exit 4,[(1206957,(.own 206957 (.int .i64) true))])],[5]⟩),(6,⟨[(0,s2),(5,(.own 206956 (.int .i64) true)),(9,(.own 206955 (.int .i64) true)),(10,s0),(48,s1),(49,s0),(50,s0)],[(.exit 6,[(1206956,(.own 206956 (.int .i64) true)),(9,(.own 206958 (.int .i64) true))])],[0,5]⟩)],[],[],none⟩
noncomputable def F1zH:FnH:=⟨228,Tryz.f228,(.tup (.box 206960 (.pair s2 (.pair (.own 206961 .bool true) (.own 206968 (.int .i64) true)))) s4),(.tup (.box 206960 (.pair s2 (.pair (.own 206962 .bool true) (.own 206969 (.int .i64) true)))) .unit),[206960],[],[(0,⟨[(0,(.box 206963 (.pair s2 (.pair (.own 206964 .bool true) (.own 206967 (.int .i64) true))))),(1,s0),(25,s1),(26,s0),(27,s0)],[(.exit 0,[(2206963,(.box 206963 (.pair s2 (.pair (.own 206970 .bool true) (.own 206971 (.int .i64) true)))))])],[0,1]⟩)],[],[],none⟩
noncomputable def F13H:FnH:=⟨227,Tryz.f227,sw,(.tup (.own 206979 (.sl (.int .i64)) true) .unit),[],[],[(0,⟨[(3,(.own 206978 (.sl (.int .i64)) true)),(11,s2),(12,s0),(13,s0)],[(.exit 0,[(1206978,(.own 206978 (.sl (.int .i64)) true))])],[3]⟩),(2,⟨[(3,(.own 206977 (.sl (.int .i64)) true)),(4,s0),(11,s2),(12,s0),(13,s0),(18,s1),(19,s0),(20,s0)],[(.exit 2,[(1206977,(.own 206977 (.sl (.int .i64)) true))])],[3,11,12,13]⟩)],[],[],none⟩
noncomputable def FbH:FnH:=⟨169,Tryz.f169,sw,(.tup (.own 206988 (.int .i64) true) .unit),[],[],[(0,⟨[(0,s2),(3,(.box 206972 (.pair s2 (.pair (.own 206973 .bool true) (.own 206974 (.int .i64) true))))),(20,s0),(21,s0)],[(.exit 0,[(2206972,(.box 206972 (.pair s2 (.pair (.own 206975 .bool true) (.own 206976 (.int .i64) true)))))])],[0,3]⟩),(2,⟨[(0,s2),(3,(.sp tyl11Walk)),(5,(.box 206980 (.pair s2 (.pair (.own 206981 .bool true) (.own 206984 (.int .i64) true))))),(6,(.own 206983 (.int .i64) true)),(7,s0)],[(.exit 2,[(1206983,(.own 206983 (.int .i64) true)),(2206980,(.box 206980 (.pair s2 (.pair (.own 206985 .bool true) (.own 206986 (.int .i64) true)))))])],[6]⟩),(4,⟨[(0,s2),(3,(.sp tyl11Walk)),(5,(.sp tyl11Walk)),(6,s1),(7,s0),(8,s0),(65,s1),(66,s0),(67,s0)],[(.exit 4,[(8,s0)])],[0,3,5,6,7]⟩),(6,⟨[(0,s2),(3,(.sp tyl11Walk)),(5,(.sp tyl11Walk)),(6,(.own 206982 (.int .i64) true)),(7,s0),(8,s0),(79,s1),(80,s0),(81,s0)],[(.exit 6,[(1206982,(.own 206982 (.int .i64) true))])],[0,3,5,6,7]⟩)],[],[],none⟩
noncomputable def FyH:FnH:=⟨170,Tryz.f170,(.tup s2 sc),(.tup (.own 206991 (.sl (.int .i64)) false) .unit),[],[],[(0,⟨[(1,s1),(5,(.own 206990 (.sl (.int .i64)) true)),(13,s2),(14,s0),(15,s0)],[(.exit 0,[(1206990,(.own 206990 (.sl (.int .i64)) true))])],[5]⟩),(2,⟨[(1,s1),(5,(.own 206989 (.sl (.int .i64)) true)),(6,s0),(13,s2),(14,s0),(15,s0),(20,s1),(21,s0),(22,s0)],[(.exit 2,[(1206989,(.own 206989 (.sl (.int .i64)) true))])],[1,5,13,14,15]⟩)],[],[],none⟩
noncomputable def FaH:FnH:=⟨167,Tryz.f167,(.tup s2 sw),(.tup (.own 206997 (.int .i64) true) .unit),[],[],[(0,⟨[(0,s2),(1,s2),(5,s1),(7,(.own 206992 .bool true)),(8,s1),(28,s2),(29,s0),(30,s0)],[(.exit 0,[(1206992,(.own 206992 .bool true))])],[0,1,5,7,8]⟩),(2,⟨[(0,s2),(1,s2),(5,s1),(7,si),(8,(.own 206994 (.int .i64) true)),(54,s2),(55,s0),(56,s0)],[(.exit 2,[(1206994,(.own 206994 (.int .i64) true))])],[0,1,5,7,8]⟩),(4,⟨[(0,s2),(1,s2),(5,s1),(7,si),(8,(.own 206993 (.int .i64) true)),(11,s0),(54,s2),(55,s0),(56,s0),(61,s1),(62,s0),(63,s0)],[(.exit 4,[(1206993,(.own 206993 (.int .i64) true))])],[0,1,5,7,8,54,55,56]⟩),(6,⟨[(1,s2),(5,s1),(7,si),(8,s1),(15,(.own 206995 (.int .i64) true)),(87,s0),(88,s0)],[(.exit 6,[(15,(.own 206996 (.int .i64) true))])],[]⟩)],[],[],none⟩
noncomputable def FgH:FnH:=⟨168,Tryz.f168,(.tup s2 (.tup s1 sc)),(.tup (.own 207000 (.int .i64) true) s3),[],[],[(0,⟨[(0,s2),(8,s1),(9,s0),(19,s1),(20,s0),(21,s0)],[(.exit 0,[(9,s0)])],[0,8]⟩),(2,⟨[(0,s2),(8,s1),(9,s0),(12,(.own 206998 (.int .i64) true))],[(.exit 2,[(12,(.own 206999 (.int .i64) true))])],[]⟩),(4,⟨[(0,s2),(8,s1),(9,s0),(12,s1),(59,s1),(60,s0),(61,s0)],[(.exit 4,[(9,s0)])],[0,8,12]⟩)],[],[],none⟩
noncomputable def FjH:FnH:=⟨107,Tryz.f107,(.tup s2 (.tup s1 sw)),(.tup (.own 207005 (.int .i64) true) (.tup (.own 207006 (.int .i64) true) s3)),[],[],[(0,⟨[(0,s2),(1,s1),(2,s2),(9,s1),(10,s0),(32,s1),(33,s0),(34,s0)],[(.exit 0,[(10,s0)])],[0,1,2]⟩),(2,⟨[(10,s0),(13,s1),(15,s1),(16,s2),(17,(.own 207001 (.int .i64) true)),(77,s2),(78,s0),(79,s0)],[(.exit 2,[(17,(.own 207004 (.int .i64) true))])],[10,13,16]⟩),(4,⟨[(10,s0),(13,s1),(15,s1),(16,s2),(17,s1),(20,(.own 207002 (.int .i64) true)),(77,s2),(78,s0),(79,s0),(83,s1),(84,s0),(85,s0)],[(.exit 4,[(20,(.own 207003 (.int .i64) true))])],[10,13,15,16,17,77,78,79]⟩)],[],[],none⟩
noncomputable def F2gH:FnH:=⟨108,Tryz.f108,(.tup s1 s4),(.tup (.own 207009 (.int .i64) true) .unit),[],[],[(0,⟨[(1,s0),(5,(.own 207007 (.int .i64) true)),(8,s1),(9,s0),(10,s0)],[(.exit 0,[(5,(.own 207008 (.int .i64) true))])],[]⟩)],[],[],none⟩
noncomputable def F66H:FnH:=⟨53,Tryz.f53,s7,(.tup (.own 207010 (.int .i64) true) (.tup (.own 207011 (.int .i64) true) s3)),[],[],[],[],[],none⟩
noncomputable def F57H:FnH:=⟨14,Tryz.f14,s7,(.tup (.own 207012 (.int .i64) true) (.tup (.own 207013 (.int .i64) true) s3)),[],[],[],[],[],none⟩
noncomputable def F4kH:FnH:=⟨249,Tryz.f249,s4,s3,[],[],[],[],[],none⟩
noncomputable def F52H:FnH:=⟨250,Tryz.f250,s4,s3,[],[],[],[],[],none⟩
noncomputable def F27H:FnH:=⟨282,Tryz.f282,s4,(.tup s0 (.tup s0 s4)),[],[],[],[],[],none⟩
noncomputable def F0H:FnH:=⟨94,Tryz.f94,s4,s5,[],[],[],[],[],none⟩
noncomputable def F4fH:FnH:=⟨290,Tryz.f290,(.tup s0 s5),s3,[],[],[],[],[],none⟩
noncomputable def F5hH:FnH:=⟨283,Tryz.f283,(.tup s0 (.tup s0 sy)),s3,[],[],[],[],[],none⟩
noncomputable def F5xH:FnH:=⟨284,Tryz.f284,(.tup s0 (.tup (.sp (.int .i64)) .unit)),s3,[],[],[],[],[],none⟩
noncomputable def F3qH:FnH:=⟨147,Tryz.f147,(.tup s1 (.tup (.v (.fn 284 (.pair (.int .i64) .nil))) .unit)),s4,[],[],[(0,⟨[(0,s1),(1,(.v (.fn 284 (.pair (.int .i64) .nil)))),(7,s0),(8,s0)],[(.ret,[(4,s0)]),(.exit 0,[])],[]⟩)],[],[],none⟩
noncomputable def F74H:FnH:=⟨90,Tryz.f90,(.tup s1 (.tup (.v (.fn 284 (.pair (.int .i64) .nil))) .unit)),s3,[],[],[],[],[],none⟩
noncomputable def F1cH:FnH:=⟨255,Tryz.f255,(.tup s0 (.tup s0 sv)),s3,[],[],[(0,⟨[(0,s0),(1,s0),(7,(.own 207014 (.int .i64) true)),(33,s8),(34,s0),(35,s0)],[(.ret,[(6,sn)]),(.exit 0,[(7,(.own 207015 (.int .i64) true))])],[]⟩)],[],[],none⟩
noncomputable def F6eH:FnH:=⟨256,Tryz.f256,sv,s4,[],[],[],[],[],none⟩
noncomputable def F49H:FnH:=⟨199,Tryz.f199,(.tup s0 (.tup s0 (.tup s8 s4))),s3,[],[],[],[],[],none⟩
noncomputable def F4iH:FnH:=⟨130,Tryz.f130,(.tup sb sv),s3,[],[],[],[],[],none⟩
noncomputable def F2nH:FnH:=⟨253,Tryz.f253,(.tup sb (.tup (.v tyCommand) .unit)),s3,[],[],[(0,⟨[(2,sg),(3,(.sp tyCommand)),(13,sj),(14,s0),(15,s0)],[(.ret,[(4,sn)]),(.exit 0,[])],[]⟩)],[],[],none⟩
noncomputable def F5qH:FnH:=⟨252,Tryz.f252,(.tup (.v tyCommand) (.tup sg .unit)),s3,[],[],[],[],[],none⟩
noncomputable def F38H:FnH:=⟨281,Tryz.f281,(.tup sf (.tup (.v (.fn 252 (.pair tyProgram .nil))) .unit)),s4,[],[],[(0,⟨[(0,sf),(1,(.v (.fn 252 (.pair tyProgram .nil)))),(7,s0),(8,s0)],[(.ret,[(4,s0)]),(.exit 0,[])],[]⟩)],[],[],none⟩
noncomputable def F5tH:FnH:=⟨251,Tryz.f251,(.tup sf (.tup (.v (.fn 252 (.pair tyProgram .nil))) .unit)),s3,[],[],[],[],[],none⟩
noncomputable def F41H:FnH:=⟨196,Tryz.f196,(.tup sb .unit),s3,[],[],[],[],[],none⟩
noncomputable def F4sH:FnH:=⟨126,Tryz.f126,(.tup sb .unit),s3,[],[],[],[],[],none⟩
noncomputable def F4dH:FnH:=⟨98,Tryz.f98,s4,s4,[],[],[],[],[],none⟩
noncomputable def F77H:FnH:=⟨254,Tryz.f254,sx,s3,[],[],[],[],[],none⟩
noncomputable def F2tH:FnH:=⟨197,Tryz.f197,sr,s3,[],[],[(0,⟨[(3,s0),(15,s6),(16,s0),(17,s0)],[(.ret,[(2,sn)]),(.exit 0,[(3,s0)])],[]⟩)],[],[],none⟩
noncomputable def F4mH:FnH:=⟨187,Tryz.f187,sc,(.tup (.own 207018 (.int .i64) true) .unit),[],[],[],[],[],none⟩
noncomputable def F23H:FnH:=⟨233,Tryz.f233,sr,(.tup (.own 207020 (.sl (.int .i64)) true) .unit),[],[],[(0,⟨[(3,(.own 207016 (.sl (.int .i64)) true)),(4,(.own 207017 (.int .i64) true)),(10,s6),(11,s0),(12,s0)],[(.exit 0,[(3,(.own 207019 (.sl (.int .i64)) true))])],[]⟩)],[],[],none⟩
noncomputable def F4nH:FnH:=Jex 219 Tryz.f219 207023
noncomputable def F4oH:FnH:=J4a 220 Tryz.f220 207024 207025
noncomputable def FrH:FnH:=⟨189,Tryz.f189,sr,(.tup (.own 207026 (.int .i64) true) .unit),[],[],[(0,⟨[(3,(.own 207021 (.int .i64) true)),(4,s2),(13,s6),(14,s0),(15,s0)],[(.exit 0,[(3,(.own 207022 (.int .i64) true))])],[]⟩)],[],[],none⟩
noncomputable def F6tH:FnH:=⟨127,Tryz.f127,sr,s3,[],[],[],[],[],none⟩
noncomputable def F64H:FnH:=⟨129,Tryz.f129,(.tup s8 (.tup se .unit)),s3,[],[],[],[],[],none⟩
noncomputable def F3uH:FnH:=⟨198,Tryz.f198,(.tup sd (.tup (.v (.fn 129 (.pair tyQuestion .nil))) .unit)),s4,[],[],[(0,⟨[(0,sd),(1,(.v (.fn 129 (.pair tyQuestion .nil)))),(7,s0),(8,s0)],[(.ret,[(4,s0)]),(.exit 0,[])],[]⟩)],[],[],none⟩
noncomputable def F65H:FnH:=⟨128,Tryz.f128,(.tup sd (.tup (.v (.fn 129 (.pair tyQuestion .nil))) .unit)),s3,[],[],[],[],[],none⟩
noncomputable def F3yH:FnH:=⟨70,Tryz.f70,(.tup sq .unit),s3,[],[],[],[],[],none⟩
noncomputable def F55H:FnH:=⟨89,Tryz.f89,(.tup sb .unit),s4,[],[],[],[],[],none⟩
noncomputable def F16H:FnH:=⟨171,Tryz.f171,(.tup so s4),s3,[],[],[(0,⟨[(1,s0),(2,sk),(5,s0),(9,s1),(10,s0),(11,s0)],[(.ret,[(4,sn)]),(.exit 0,[])],[1,2]⟩)],[],[],none⟩
noncomputable def F6dH:FnH:=⟨109,Tryz.f109,(.tup sb (.tup so .unit)),s3,[],[],[],[],[],none⟩
noncomputable def F5oH:FnH:=⟨54,Tryz.f54,s7,s3,[],[],[],[],[],none⟩
noncomputable def F3mH:FnH:=⟨173,Tryz.f173,sc,s4,[],[],[(0,⟨[(0,s1),(3,s0),(4,s0)],[(.exit 0,[(3,s0)])],[]⟩)],[],[],none⟩
noncomputable def FvH:FnH:=⟨111,Tryz.f111,(.tup so .unit),s4,[],[],[],[],[],none⟩
noncomputable def F6lH:FnH:=⟨230,Tryz.f230,(.tup sa s5),(.tup sa s5),[],[],[],[],[],none⟩
noncomputable def F3zH:FnH:=⟨172,Tryz.f172,(.tup sa s5),(.tup sa s5),[],[],[],[],[],none⟩
noncomputable def F1xH:FnH:=⟨110,Tryz.f110,(.tup s1 s4),(.tup (.own 207028 (.int .i64) true) .unit),[],[],[(0,⟨[(7,(.own 207027 (.int .i64) true)),(8,s0)],[(.exit 0,[(1207027,(.own 207027 (.int .i64) true))])],[7]⟩)],[],[],none⟩
noncomputable def F1yH:FnH:=⟨44,Tryz.f44,(.tup sb s4),(.tup (.own 207031 (.int .u64) true) .unit),[],[],[(0,⟨[(1,s0),(2,sg),(5,(.own 207029 (.int .u64) true)),(9,s0),(10,s0)],[(.exit 0,[(5,(.own 207030 (.int .u64) true))])],[]⟩)],[],[],none⟩
noncomputable def F6qH:FnH:=⟨270,Tryz.f270,st,s3,[],[],[],[],[],none⟩
noncomputable def F5eH:FnH:=⟨271,Tryz.f271,(.tup sa (.tup sa s5)),(.tup sa s5),[],[],[],[],[],none⟩
noncomputable def F4uH:FnH:=⟨213,Tryz.f213,st,(.tup sa (.tup sa s3)),[],[],[],[],[],none⟩
noncomputable def F3wH:FnH:=⟨214,Tryz.f214,(.tup s0 (.tup sa (.tup sa s3))),s5,[],[],[],[],[],none⟩
noncomputable def FlH:FnH:=⟨215,Tryz.f215,s3,s5,[],[],[],[],[],none⟩
noncomputable def F11H:FnH:=⟨216,Tryz.f216,(.tup s0 s5),s4,[],[],[],[],[],none⟩
noncomputable def F54H:FnH:=⟨148,Tryz.f148,(.tup s0 st),s5,[],[],[],[],[],none⟩
noncomputable def FqH:FnH:=⟨93,Tryz.f93,(.tup s0 (.tup s8 su)),s5,[],[],[(0,⟨[(0,s0),(2,s9),(7,(.own 207032 (.int .u64) true)),(12,s8),(13,s0),(14,s0)],[(.exit 0,[(7,(.own 207033 (.int .u64) true))])],[]⟩)],[],[],none⟩
noncomputable def F4gH:FnH:=⟨43,Tryz.f43,(.tup sb (.tup s8 su)),s3,[],[],[],[],[],none⟩
noncomputable def F24H:FnH:=⟨97,Tryz.f97,(.tup sq s4),s4,[],[],[(0,⟨[(2,se),(5,s9),(6,s0),(14,sd),(15,s0),(16,s0)],[(.exit 0,[(6,s0)])],[]⟩)],[],[],none⟩
noncomputable def F2kH:FnH:=⟨55,Tryz.f55,s7,s3,[],[],[(0,⟨[(2,se),(5,(.own 207034 (.int .i64) true)),(14,s1),(15,s0),(16,s0)],[(.ret,[(1207034,(.own 207034 (.int .i64) true)),(4,sn)]),(.exit 0,[(1207034,(.own 207034 (.int .i64) true))])],[]⟩)],[],[],none⟩
noncomputable def F5H:FnH:=⟨115,Tryz.f115,sr,s4,[],[],[],[],[],none⟩
noncomputable def F22H:FnH:=⟨150,Tryz.f150,(.tup s1 s4),s4,[],[],[(0,⟨[(0,s1),(1,s0),(7,s0),(8,s0)],[(.ret,[(4,s0)]),(.exit 0,[])],[]⟩)],[],[],none⟩
noncomputable def F6fH:FnH:=⟨174,Tryz.f174,(.tup sq (.tup so s4)),s4,[],[],[],[],[],none⟩
noncomputable def F2dH:FnH:=⟨231,Tryz.f231,(.tup so s4),(.tup (.own 207037 (.int .i64) true) .unit),[],[],[(0,⟨[(1,s0),(5,(.own 207035 (.int .i64) true)),(10,s1),(11,s0),(12,s0)],[(.exit 0,[(5,(.own 207036 (.int .i64) true))])],[]⟩)],[],[],none⟩
noncomputable def F6yH:FnH:=⟨272,Tryz.f272,su,(.tup (.own 207040 (.int .u64) true) .unit),[],[],[],[],[],none⟩
noncomputable def F33H:FnH:=⟨218,Tryz.f218,(.tup sb (.tup (.v tyCommand) su)),(.tup (.own 207042 (.int .u64) true) .unit),[],[],[(0,⟨[(2,s9),(3,sg),(7,(.own 207041 (.int .u64) true)),(13,sj),(14,s0),(15,s0)],[(.exit 0,[(1207041,(.own 207041 (.int .u64) true))])],[7]⟩)],[],[],none⟩
noncomputable def F3gH:FnH:=⟨217,Tryz.f217,(.tup sb su),s4,[],[],[(0,⟨[(2,sg),(5,s0),(8,s9),(9,s0),(10,s0)],[(.exit 0,[(5,s0)])],[]⟩)],[],[],none⟩
noncomputable def F2hH:FnH:=⟨149,Tryz.f149,(.tup sb s4),(.tup (.own 207044 (.int .i64) true) .unit),[],[],[(0,⟨[(1,s0),(2,sg),(5,s9),(6,(.own 207039 (.int .i64) true)),(14,sf),(15,s0),(16,s0)],[(.exit 0,[(6,(.own 207043 (.int .i64) true))])],[1]⟩)],[],[],none⟩
noncomputable def F2eH:FnH:=⟨238,Tryz.f238,(.tup si .unit),(.tup (.own 207049 (.int .i64) true) .unit),[],[],[(0,⟨[(3,(.own 207047 (.int .i64) true)),(7,si),(8,s0),(9,s0)],[(.exit 0,[(3,(.own 207048 (.int .i64) true))])],[]⟩)],[],[],none⟩
noncomputable def F29H:FnH:=⟨180,Tryz.f180,(.tup so sc),(.tup (.own 207050 (.int .i64) true) .unit),[],[],[(0,⟨[(2,sk),(5,(.own 207046 .bool true)),(11,s1),(12,s0),(13,s0)],[(.exit 0,[(1207046,(.own 207046 .bool true))])],[5]⟩)],[],[],none⟩
noncomputable def F3sH:FnH:=⟨175,Tryz.f175,(.tup sb (.tup so s4)),(.tup (.own 207051 (.int .i64) true) .unit),[],[],[(0,⟨[(3,sg),(4,sk),(7,(.own 207038 (.int .i64) true)),(13,s1),(14,s0),(15,s0)],[(.exit 0,[(7,(.own 207045 (.int .i64) true))])],[4]⟩)],[],[],none⟩
noncomputable def F42H:FnH:=⟨236,Tryz.f236,(.tup s1 (.tup s0 s4)),s3,[],[],[],[],[],none⟩
noncomputable def FpH:FnH:=⟨232,Tryz.f232,(.tup s6 (.tup s0 s4)),(.tup (.own 207054 .bool true) .unit),[],[],[(0,⟨[(1,s0),(2,s0),(7,(.own 207052 .bool true)),(8,s2),(9,s1),(18,s6),(19,s0),(20,s0)],[(.exit 0,[(7,(.own 207053 .bool true))])],[]⟩)],[],[],none⟩
noncomputable def F2qH:FnH:=⟨176,Tryz.f176,(.tup s6 (.tup s0 s4)),s4,[],[],[(0,⟨[(7,si),(8,s0),(16,s1),(17,s0),(18,s0)],[(.exit 0,[(8,s0)])],[]⟩)],[],[],none⟩
noncomputable def F5bH:FnH:=⟨235,Tryz.f235,(.tup s0 (.tup sm (.tup (.sp (.int .i64)) (.tup (.sp (.sl (.sl (.int .i64)))) (.tup (.sp tySaid) .unit))))),s3,[],[],[],[],[],none⟩
noncomputable def F21H:FnH:=⟨234,Tryz.f234,(.tup s6 (.tup ss .unit)),(.tup (.own 207061 (.int .i64) true) .unit),[],[],[(0,⟨[(1,ss),(5,(.own 207059 (.int .i64) true)),(9,s0),(10,s0)],[(.exit 0,[(5,(.own 207060 (.int .i64) true))])],[]⟩)],[],[],none⟩
noncomputable def F10H:FnH:=⟨177,Tryz.f177,sr,(.tup (.own 207063 (.sl (.int .i64)) true) .unit),[],[],[(0,⟨[(0,s6),(3,(.own 207058 (.sl (.int .i64)) true)),(4,(.sp (.sl (.sl (.int .i64))))),(5,sm),(13,s6),(14,s0),(15,s0)],[(.exit 0,[(3,(.own 207062 (.sl (.int .i64)) true))])],[]⟩)],[],[],none⟩
noncomputable def F2sH:FnH:=⟨178,Tryz.f178,(.tup s1 s4),(.tup (.own 207068 (.int .i64) true) .unit),[],[],[(0,⟨[(1,s0),(5,(.own 207066 (.int .i64) true)),(9,s1),(10,s0),(11,s0)],[(.exit 0,[(5,(.own 207067 (.int .i64) true))])],[]⟩)],[],[],none⟩
noncomputable def F2fH:FnH:=⟨181,Tryz.f181,(.tup sb sv),(.tup (.own 207073 (.int .i64) true) .unit),[],[],[(0,⟨[(1,s8),(2,sg),(5,(.own 207071 (.int .i64) true)),(9,s0),(10,s0)],[(.exit 0,[(5,(.own 207072 (.int .i64) true))])],[]⟩)],[],[],none⟩
noncomputable def F6xH:FnH:=⟨278,Tryz.f278,(.tup s0 (.tup sm (.tup (.sp (.sl tySaid)) (.tup (.sp .bool) .unit)))),s3,[],[],[],[],[],none⟩
noncomputable def F2pH:FnH:=⟨234,Tryz.f234,(.tup s6 (.tup (.v (.fn 278 (.pair (.sl (.int .i64)) (.pair (.sl tySaid) (.pair .bool .nil))))) .unit)),(.tup (.own 207077 (.int .i64) true) .unit),[],[],[(0,⟨[(1,(.v (.fn 278 (.pair (.sl (.int .i64)) (.pair (.sl tySaid) (.pair .bool .nil)))))),(5,(.own 207075 (.int .i64) true)),(9,s0),(10,s0)],[(.exit 0,[(5,(.own 207076 (.int .i64) true))])],[]⟩)],[],[],none⟩
noncomputable def F40H:FnH:=⟨237,Tryz.f237,(.tup s6 s3),(.tup (.own 207078 (.int .i64) true) .unit),[],[(10,10168)],[],[],[],none⟩
noncomputable def F35H:FnH:=⟨179,Tryz.f179,(.tup sq sc),(.tup (.own 207080 (.int .i64) true) .unit),[],[],[(0,⟨[(2,se),(5,(.own 207074 (.int .i64) true)),(9,s1),(10,s0),(11,s0)],[(.exit 0,[(5,(.own 207079 (.int .i64) true))])],[]⟩)],[],[],none⟩
noncomputable def F7H:FnH:=⟨112,Tryz.f112,s7,(.tup (.own 207081 (.sl (.int .i64)) true) (.tup (.own 207082 (.int .i64) true) (.tup (.own 207083 (.sl (.int .i64)) true) .unit))),[],[],[(0,⟨[(2,se),(3,sk),(7,s0),(8,s0),(9,(.own 207057 (.sl (.int .i64)) true)),(10,s2),(31,s0),(32,s0)],[(.exit 0,[(1207057,(.own 207057 (.sl (.int .i64)) true))])],[2,3,7,8,9,10]⟩),(2,⟨[(2,se),(3,sk),(7,s0),(8,s0),(9,(.own 207056 (.sl (.int .i64)) true)),(10,s2),(11,s0),(12,s0),(31,s0),(32,s0),(43,s1),(44,s0),(45,s0)],[(.exit 2,[(1207056,(.own 207056 (.sl (.int .i64)) true))])],[2,3,7,8,9,10,31,32]⟩),(4,⟨[(2,se),(3,sk),(7,s0),(8,s0),(9,(.own 207055 (.sl (.int .i64)) true)),(10,s2),(11,s0),(12,s0),(14,s0),(31,s0),(32,s0),(43,s1),(44,s0),(45,s0),(49,s0),(50,s0)],[(.exit 4,[(1207055,(.own 207055 (.sl (.int .i64)) true))])],[2,3,7,8,9,10,11,12,31,32,43,44,45]⟩),(6,⟨[(2,se),(3,sk),(7,s0),(8,s0),(9,s2),(10,(.own 207064 (.sl (.int .i64)) true)),(81,s2),(82,s0),(83,s0)],[(.exit 6,[(10,(.own 207070 (.sl (.int .i64)) true))])],[2,3,9]⟩),(8,⟨[(2,se),(3,sk),(7,s0),(8,s0),(9,s2),(10,s2),(18,s1),(19,(.own 207065 (.int .i64) true)),(81,s2),(82,s0),(83,s0),(88,s0),(89,s0)],[(.exit 8,[(19,(.own 207069 (.int .i64) true))])],[2,3,7,8,9,10,81,82,83]⟩)],[],[],none⟩
noncomputable def FmH:FnH:=⟨239,Tryz.f239,(.tup s2 sc),(.tup (.own 207090 (.int .i64) true) .unit),[],[],[(0,⟨[(0,s2),(5,(.own 207084 (.int .i64) true)),(6,s1),(17,s1),(18,s0),(19,s0)],[(.exit 0,[(1207084,(.own 207084 (.int .i64) true))])],[0,5,6]⟩),(2,⟨[(0,s2),(5,(.own 207088 (.int .i64) true)),(6,(.own 207085 (.int .i64) true))],[(.exit 2,[(1207088,(.own 207088 (.int .i64) true))])],[5]⟩),(4,⟨[(0,s2),(5,(.own 207087 (.int .i64) true)),(6,(.own 207086 (.int .i64) true)),(37,s1),(38,s0),(39,s0)],[(.exit 4,[(1207087,(.own 207087 (.int .i64) true)),(6,(.own 207089 (.int .i64) true))])],[0,5]⟩)],[],[],none⟩
noncomputable def F36H:FnH:=⟨279,Tryz.f279,sc,s4,[],[],[(0,⟨[(0,s1),(3,s0),(4,s0)],[(.exit 0,[(3,s0)])],[]⟩)],[],[],none⟩
noncomputable def FuH:FnH:=⟨243,Tryz.f243,(.tup (.box 207091 (.pair s2 (.pair (.own 207092 (.int .i64) true) (.pair (.own 207093 (.int .i64) true) (.pair (.own 207109 (.int .i64) true) (.pair (.own 207094 (.int .i64) true) s0)))))) s4),(.tup (.box 207091 (.pair s2 (.pair (.own 207099 (.int .i64) true) (.pair (.own 207100 (.int .i64) true) (.pair (.own 207110 (.int .i64) true) (.pair (.own 207101 (.int .i64) true) s0)))))) .unit),[207091],[],[(0,⟨[(0,(.box 207095 (.pair s2 (.pair (.own 207096 (.int .i64) true) (.pair (.own 207097 (.int .i64) true) (.pair (.own 207108 (.int .i64) true) (.pair (.own 207098 (.int .i64) true) s0))))))),(1,s0),(53,s1),(54,s0),(55,s0)],[(.exit 0,[(2207095,(.box 207095 (.pair s2 (.pair (.own 207111 (.int .i64) true) (.pair (.own 207112 (.int .i64) true) (.pair (.own 207113 (.int .i64) true) (.pair (.own 207114 (.int .i64) true) s0)))))))])],[0,1]⟩),(2,⟨[(0,(.box 207105 (.pair s2 (.pair (.own 207115 (.int .i64) true) (.pair (.own 207117 (.int .i64) true) (.pair (.own 207106 (.int .i64) true) (.pair (.own 207120 (.int .i64) true) s0))))))),(6,s0),(7,s0),(154,(.subr 207120 (.int .i64))),(155,s0),(156,s0)],[(.exit 2,[(2207105,(.box 207105 (.pair s2 (.pair (.own 207116 (.int .i64) true) (.pair (.own 207118 (.int .i64) true) (.pair (.own 207106 (.int .i64) true) (.pair (.own 207119 (.int .i64) true) s0)))))))])],[0,6]⟩)],[],[],none⟩
noncomputable def F26H:FnH:=⟨184,Tryz.f184,sw,(.tup (.own 207130 (.int .i64) true) .unit),[],[],[(0,⟨[(4,(.box 207121 (.pair s2 (.pair (.own 207122 (.int .i64) true) (.pair (.own 207123 (.int .i64) true) (.pair (.own 207124 (.int .i64) true) (.pair (.own 207125 (.int .i64) true) s0))))))),(19,s0),(20,s0)],[(.exit 0,[(2207121,(.box 207121 (.pair s2 (.pair (.own 207126 (.int .i64) true) (.pair (.own 207127 (.int .i64) true) (.pair (.own 207128 (.int .i64) true) (.pair (.own 207129 (.int .i64) true) s0)))))))])],[4]⟩)],[],[],none⟩
noncomputable def F4H:FnH:=⟨240,Tryz.f240,(.tup s2 sw),(.tup (.own 207137 .bool true) .unit),[],[],[(0,⟨[(1,s2),(5,s1),(6,s0),(7,(.own 207132 .bool true)),(8,si),(28,s2),(29,s0),(30,s0)],[(.exit 0,[(1207132,(.own 207132 .bool true))])],[1,5,6,7,8]⟩),(2,⟨[(1,s2),(5,s1),(6,s0),(7,(.own 207131 .bool true)),(8,si),(9,s0),(28,s2),(29,s0),(30,s0),(35,s1),(36,s0),(37,s0)],[(.exit 2,[(1207131,(.own 207131 .bool true))])],[1,5,6,7,8,28,29,30]⟩),(4,⟨[(5,s1),(6,s0),(7,(.own 207135 .bool true)),(8,si),(67,s2),(68,s0),(69,s0)],[(.exit 4,[(1207135,(.own 207135 .bool true))])],[5,7,8]⟩),(6,⟨[(5,s1),(6,s0),(7,si),(8,si),(15,(.own 207133 .bool true)),(67,s2),(68,s0),(69,s0),(75,s1),(76,s0),(77,s0)],[(.exit 6,[(1207133,(.own 207133 .bool true))])],[5,6,7,8,15,67,68,69]⟩),(8,⟨[(5,s1),(6,s0),(7,(.own 207134 .bool true)),(8,si),(15,si),(67,s2),(68,s0),(69,s0),(89,s0),(90,s0)],[(.exit 8,[(1207134,(.own 207134 .bool true))])],[5,6,7,8,67,68,69]⟩),(10,⟨[(5,s1),(7,si),(8,(.own 207136 .bool true)),(109,s0),(110,s0)],[(.exit 10,[(1207136,(.own 207136 .bool true))])],[8]⟩)],[],[],none⟩
noncomputable def F1pH:FnH:=⟨182,Tryz.f182,(.tup s2 (.tup s1 sw)),s4,[],[],[(0,⟨[(7,s1),(8,s0),(16,si),(17,s0),(18,s0)],[(.exit 0,[(8,s0)])],[]⟩)],[],[],none⟩
noncomputable def F1lH:FnH:=⟨241,Tryz.f241,sw,(.tup (.own 207140 (.sl (.int .i64)) true) .unit),[],[],[(0,⟨[(3,(.own 207139 (.sl (.int .i64)) true)),(11,s2),(12,s0),(13,s0)],[(.exit 0,[(1207139,(.own 207139 (.sl (.int .i64)) true))])],[3]⟩),(2,⟨[(3,(.own 207138 (.sl (.int .i64)) true)),(4,s0),(11,s2),(12,s0),(13,s0),(18,s1),(19,s0),(20,s0)],[(.exit 2,[(1207138,(.own 207138 (.sl (.int .i64)) true))])],[3,11,12,13]⟩)],[],[],none⟩
noncomputable def F76H:FnH:=⟨242,Tryz.f242,(.tup s0 (.tup sm (.tup (.sp (.int .i64)) .unit))),s3,[],[],[],[],[],none⟩
noncomputable def F2wH:FnH:=⟨147,Tryz.f147,(.tup s1 (.tup (.v (.fn 242 (.pair (.sl (.int .i64)) (.pair (.int .i64) .nil)))) .unit)),s4,[],[],[(0,⟨[(0,s1),(1,(.v (.fn 242 (.pair (.sl (.int .i64)) (.pair (.int .i64) .nil))))),(7,s0),(8,s0)],[(.ret,[(4,s0)]),(.exit 0,[])],[]⟩)],[],[],none⟩
noncomputable def FiH:FnH:=⟨183,Tryz.f183,(.tup s2 (.tup s1 sc)),(.tup (.own 207144 (.int .i64) true) .unit),[],[(61,10179)],[(0,⟨[(0,s2),(7,sm),(8,s0),(18,s1),(19,s0),(20,s0)],[(.exit 0,[(8,s0)])],[0,7]⟩),(2,⟨[(0,s2),(7,sm),(11,(.own 207141 (.int .i64) true)),(12,(.box 207142 s0))],[(.exit 2,[(11,(.own 207143 (.int .i64) true))])],[]⟩)],[],[],none⟩
noncomputable def FzH:FnH:=⟨185,Tryz.f185,(.tup s2 (.tup s1 s4)),(.tup (.own 207147 (.sl (.int .i64)) false) .unit),[],[],[(0,⟨[(1,s1),(2,s0),(7,(.own 207146 (.sl (.int .i64)) true)),(15,s2),(16,s0),(17,s0)],[(.exit 0,[(1207146,(.own 207146 (.sl (.int .i64)) true))])],[7]⟩),(2,⟨[(1,s1),(2,s0),(7,(.own 207145 (.sl (.int .i64)) true)),(8,s0),(15,s2),(16,s0),(17,s0),(22,s1),(23,s0),(24,s0)],[(.exit 2,[(1207145,(.own 207145 (.sl (.int .i64)) true))])],[1,2,7,15,16,17]⟩)],[],[],none⟩
noncomputable def F53H:FnH:=⟨188,Tryz.f188,(.tup s0 (.tup sm (.tup (.sp (.int .i64)) .unit))),s3,[],[],[],[],[],none⟩
noncomputable def F2vH:FnH:=⟨147,Tryz.f147,(.tup s1 (.tup sh .unit)),s4,[],[],[(0,⟨[(0,s1),(1,sh),(7,s0),(8,s0)],[(.ret,[(4,s0)]),(.exit 0,[])],[]⟩)],[],[],none⟩
noncomputable def F2lH:FnH:=⟨186,Tryz.f186,(.tup (.own 207150 (.int .i64) true) (.tup sh .unit)),(.tup .any (.tup (.own 207151 (.int .i64) true) .unit)),[207150],[(10,10183)],[(0,⟨[(0,(.own 207149 (.int .i64) true)),(1,sh),(5,s0),(6,s0)],[(.exit 0,[(1207149,(.own 207149 (.int .i64) true)),(5,s0)])],[0]⟩)],[],[],none⟩
noncomputable def F17H:FnH:=⟨113,Tryz.f113,(.tup s2 (.tup s1 sw)),(.tup (.own 207153 (.int .i64) true) (.tup (.own 207154 (.int .i64) true) s3)),[],[],[(0,⟨[(9,(.sp (.int .i64))),(10,s1),(11,sm),(12,s2),(13,(.own 207148 (.int .i64) true)),(41,s2),(42,s0),(43,s0)],[(.exit 0,[(13,(.own 207152 (.int .i64) true))])],[9,10,12]⟩)],[],[],none⟩
noncomputable def F2mH:FnH:=⟨114,Tryz.f114,(.tup s1 (.tup se .unit)),(.tup (.own 207157 (.int .i64) true) .unit),[],[],[(0,⟨[(1,se),(4,(.own 207155 (.int .i64) true)),(8,s1),(9,s0),(10,s0)],[(.exit 0,[(4,(.own 207156 (.int .i64) true))])],[]⟩)],[],[],none⟩
noncomputable def F15H:FnH:=⟨56,Tryz.f56,s7,(.tup (.own 207158 (.int .i64) true) (.tup (.own 207159 (.int .i64) true) s3)),[],[],[],[],[],none⟩
noncomputable def F4xH:FnH:=⟨16,Tryz.f16,s7,(.tup (.own 207160 (.int .i64) true) (.tup (.own 207161 (.int .i64) true) s3)),[],[],[],[],[],none⟩
noncomputable def F1dH:FnH:=⟨12,Tryz.f12,(.tup s1 sc),s3,[],[],[(0,⟨[(0,s1),(1,s1),(5,s0)],[(.ret,[(4,sn)]),(.exit 0,[])],[]⟩)],[],[],none⟩
noncomputable def F9H:FnH:=⟨136,Tryz.f136,(.tup (.v tyNode) sy),s3,[],[],[],[],[],none⟩
noncomputable def FhH:FnH:=⟨74,Tryz.f74,(.tup s8 sv),s3,[],[],[(0,⟨[(0,s8),(1,s8),(5,s0)],[(.ret,[(4,sn)]),(.exit 0,[])],[]⟩)],[],[],none⟩
noncomputable def F1bH:FnH:=⟨276,Tryz.f276,(.tup (.v tyChange) (.tup (.v tyChange) .unit)),s3,[],[],[],[],[],none⟩
noncomputable def F3cH:FnH:=⟨223,Tryz.f223,(.tup sj (.tup sj .unit)),s3,[],[],[(0,⟨[(0,sj),(1,sj),(5,s0)],[(.ret,[(4,sn)]),(.exit 0,[])],[]⟩)],[],[],none⟩
noncomputable def F1eH:FnH:=⟨158,Tryz.f158,(.tup (.v tyCommand) (.tup (.v tyCommand) .unit)),s3,[],[],[],[],[],none⟩
noncomputable def F3kH:FnH:=⟨101,Tryz.f101,(.tup sf (.tup sf .unit)),s3,[],[],[(0,⟨[(0,sf),(1,sf),(5,s0)],[(.ret,[(4,sn)]),(.exit 0,[])],[]⟩)],[],[],none⟩
noncomputable def F5pH:FnH:=⟨48,Tryz.f48,(.tup sb (.tup sb .unit)),s3,[],[],[],[],[],none⟩
noncomputable def F3bH:FnH:=⟨27,Tryz.f27,(.tup sd (.tup sd .unit)),s3,[],[],[(0,⟨[(0,sd),(1,sd),(5,s0)],[(.ret,[(4,sn)]),(.exit 0,[])],[]⟩)],[],[],none⟩
noncomputable def F1kH:FnH:=⟨102,Tryz.f102,(.tup (.v tySaid) sx),s3,[],[],[],[],[],none⟩
noncomputable def F3jH:FnH:=⟨49,Tryz.f49,(.tup s6 sr),s3,[],[],[(0,⟨[(0,s6),(1,s6),(5,s0)],[(.ret,[(4,sn)]),(.exit 0,[])],[]⟩)],[],[],none⟩
noncomputable def F5nH:FnH:=⟨11,Tryz.f11,(.tup sq (.tup sq .unit)),s3,[],[],[],[],[],none⟩
noncomputable def F5dH:FnH:=⟨17,Tryz.f17,(.tup so (.tup so .unit)),s3,[],[],[],[],[],none⟩
noncomputable def FfH:FnH:=⟨75,Tryz.f75,(.tup (.own 207163 tyNode true) s4),(.tup (.own 207163 tyNode true) s4),[207163],[],[(0,⟨[(0,(.own 207162 tyNode true)),(1,s0),(5,s0)],[(.exit 0,[(1207162,(.own 207162 tyNode true)),(1,s0)])],[]⟩)],[],[],none⟩
noncomputable def F3lH:FnH:=⟨190,Tryz.f190,(.tup (.own 207168 tyChange true) s4),(.tup (.own 207168 tyChange true) s4),[207168],[],[(0,⟨[(0,(.own 207167 tyChange true)),(1,s0),(5,s0)],[(.exit 0,[(1207167,(.own 207167 tyChange true)),(1,s0)])],[]⟩)],[],[],none⟩
noncomputable def F3oH:FnH:=⟨116,Tryz.f116,(.tup (.own 207166 tyCommand true) s4),(.tup (.own 207166 tyCommand true) s4),[207166],[],[(0,⟨[(0,(.own 207165 tyCommand true)),(1,s0),(5,s0)],[(.exit 0,[(1207165,(.own 207165 tyCommand true)),(1,s0)])],[]⟩)],[],[],none⟩
noncomputable def F5wH:FnH:=⟨57,Tryz.f57,(.tup (.pair s0 (.pair s0 (.pair (.own 207164 tyNode true) (.own 207169 tyCommand true)))) s4),(.tup (.own 207164 tyNode true) (.tup (.own 207169 tyCommand true) s4)),[207164,207169],[],[],[],[],none⟩
noncomputable def F2xH:FnH:=⟨28,Tryz.f28,(.tup (.own 207173 (.sl tyNode) true) s4),(.tup (.own 207173 (.sl tyNode) true) s4),[207173],[],[(0,⟨[(0,(.own 207172 (.sl tyNode) true)),(1,s0),(5,s0)],[(.exit 0,[(1207172,(.own 207172 (.sl tyNode) true)),(1,s0)])],[]⟩)],[],[],none⟩
noncomputable def F2uH:FnH:=⟨58,Tryz.f58,(.tup (.own 207176 tySaid true) s4),(.tup (.own 207176 tySaid true) s4),[207176],[],[(0,⟨[(0,(.own 207175 tySaid true)),(1,s0),(5,s0)],[(.exit 0,[(1207175,(.own 207175 tySaid true)),(1,s0)])],[]⟩)],[],[],none⟩
noncomputable def F68H:FnH:=⟨18,Tryz.f18,(.tup (.pair (.pair s0 (.pair s0 (.pair (.own 207170 tyNode true) (.own 207171 tyCommand true)))) (.pair (.own 207174 (.sl tyNode) true) (.own 207177 tySaid true))) s4),(.tup (.own 207170 tyNode true) (.tup (.own 207171 tyCommand true) (.tup (.own 207174 (.sl tyNode) true) (.tup (.own 207177 tySaid true) s4)))),[207170,207171,207174,207177],[],[],[],[],none⟩
noncomputable def F20H:FnH:=⟨20,Tryz.f20,(.tup (.own 207179 (.int .i64) true) s4),(.tup (.own 207179 (.int .i64) true) s4),[207179],[],[(0,⟨[(0,(.own 207178 (.int .i64) true)),(1,s0),(5,s0)],[(.exit 0,[(1207178,(.own 207178 (.int .i64) true)),(1,s0)])],[]⟩)],[],[],none⟩
noncomputable def F5jH:FnH:=⟨19,Tryz.f19,(.tup (.one (.own 207180 (.int .i64) true)) s4),(.tup (.own 207180 (.int .i64) true) s4),[207180],[],[],[],[],none⟩
noncomputable def F1sH:FnH:=⟨21,Tryz.f21,(.tup s1 s4),s4,[],[],[(0,⟨[(0,s1),(1,s0),(5,s0)],[(.ret,[(4,s0)]),(.exit 0,[(1,s0)])],[]⟩)],[],[],none⟩
noncomputable def F8kH:FnH:=⟨4,Tryz.f4,s7,s3,[],[],[],[],[],none⟩
def extsL:List (Nat×ExtF):=[]
def tysL:List (Nat×Ty):=[(2,(.int .i64)),(3,(.int .i64)),(4,.bool),(22,(.sl tyNode)),(23,(.sl tyCommand)),(25,tyProgram),(26,(.sl (.sl tyNode))),(27,(.sl tySaid)),(29,tyQuestion),(30,(.sl (.int .i64))),(34,(.sl tyNode)),(35,(.sl tyCommand)),(37,tyProgram),(38,(.sl (.sl tyNode))),(39,(.sl tySaid)),(41,tyQuestion),(48,tySight),(52,tySight),(83,(.sl (.int .u64))),(85,(.sl .bool)),(98,(.sl (.sl (.int .i64)))),(120,tySaid),(122,tySaid),(126,(.int .u64)),(152,tyNode),(154,tyNode),(162,(.sl tyChange)),(164,tyCommand),(166,(.int .u64)),(172,(.sl tyChange)),(174,tyCommand),(182,(.sl tyEdge)),(184,tyAuto),(189,tyEdge),(226,tyChange),(246,tyl11Walk),(260,tytarjan),(272,tyChange)]
def nfsL:List (Nat×Nat):=[(25,4),(29,3),(37,4),(41,3),(48,1),(52,1),(120,2),(122,2),(152,2),(154,2),(164,2),(174,2),(184,4),(189,3),(226,2),(246,3),(260,6),(272,2)]
def cellsL:List Nat:=[]
def mtysL:List (Nat×(Nat×Nat)):=[]
noncomputable def keysL:List (Nat×FnH):=[(59,FsH),(264,F1hH),(206,F3pH),(137,F1jH),(77,F3dH),(31,F67H),(22,F2yH),(32,F5yH),(6,F71H),(50,F6iH),(13,F78H),(125,F8H),(69,FeH),(269,F1aH),(212,F3tH),(146,F1iH),(87,F39H),(39,F5cH),(24,F3nH),(88,F18H),(40,F3hH),(8,F48H),(9,F32H),(15,F47H),(62,F25H),(247,F51H),(207,F4jH),(208,F12H),(280,F4bH),(248,F3aH),(194,FwH),(119,F4aH),(244,F2aH),(191,F2zH),(117,F4qH),(245,F50H),(246,F3xH),(192,F30H),(141,FtH),(193,F19H),(118,F6sH),(60,F3eH),(79,F4tH),(103,F2bH),(51,F56H),(104,F1vH),(105,F1uH),(81,F1wH),(210,F2cH),(289,F6pH),(265,F6rH),(266,FxH),(267,F1tH),(268,F3vH),(209,F5mH),(139,F43H),(80,F4lH),(86,F1rH),(52,F1fH),(225,F1mH),(224,FdH),(211,F1qH),(277,FoH),(226,F2jH),(159,FkH),(160,F59H),(140,F2iH),(143,F37H),(142,F3rH),(83,F31H),(123,F1gH),(165,F2oH),(161,F6jH),(82,F4wH),(162,F34H),(164,F3fH),(163,F14H),(35,F2rH),(106,F6H),(166,FcH),(228,F1zH),(227,F13H),(169,FbH),(170,FyH),(167,FaH),(168,FgH),(107,FjH),(108,F2gH),(53,F66H),(14,F57H),(249,F4kH),(250,F52H),(282,F27H),(94,F0H),(290,F4fH),(283,F5hH),(284,F5xH),(147,F3qH),(90,F74H),(255,F1cH),(256,F6eH),(199,F49H),(130,F4iH),(253,F2nH),(252,F5qH),(281,F38H),(251,F5tH),(196,F41H),(126,F4sH),(98,F4dH),(254,F77H),(197,F2tH),(187,F4mH),(233,F23H),(219,F4nH),(220,F4oH),(189,FrH),(127,F6tH),(129,F64H),(198,F3uH),(128,F65H),(70,F3yH),(89,F55H),(171,F16H),(109,F6dH),(54,F5oH),(173,F3mH),(111,FvH),(230,F6lH),(172,F3zH),(110,F1xH),(44,F1yH),(270,F6qH),(271,F5eH),(213,F4uH),(214,F3wH),(215,FlH),(216,F11H),(148,F54H),(93,FqH),(43,F4gH),(97,F24H),(55,F2kH),(115,F5H),(150,F22H),(174,F6fH),(231,F2dH),(272,F6yH),(218,F33H),(217,F3gH),(149,F2hH),(238,F2eH),(180,F29H),(175,F3sH),(236,F42H),(232,FpH),(176,F2qH),(235,F5bH),(234,F21H),(177,F10H),(178,F2sH),(181,F2fH),(278,F6xH),(10168,F2pH),(237,F40H),(179,F35H),(112,F7H),(239,FmH),(279,F36H),(243,FuH),(184,F26H),(240,F4H),(182,F1pH),(241,F1lH),(242,F76H),(10179,F2wH),(183,FiH),(185,FzH),(188,F53H),(10183,F2vH),(186,F2lH),(113,F17H),(114,F2mH),(56,F15H),(16,F4xH),(12,F1dH),(136,F9H),(74,FhH),(276,F1bH),(223,F3cH),(158,F1eH),(101,F3kH),(48,F5pH),(27,F3bH),(102,F1kH),(49,F3jH),(11,F5nH),(17,F5dH),(75,FfH),(190,F3lH),(116,F3oH),(57,F5wH),(28,F2xH),(58,F2uH),(18,F68H),(20,F20H),(19,F5jH),(21,F1sH),(4,F8kH)]
noncomputable def H:Hints:={extF:=fun f=>J13 extsL f,ty:=fun T=>J13 tysL T,nf:=fun T=>match J13 nfsL T with|some n=>n|none=>0,cell:=fun T=>hasN cellsL T,key:=fun k=>J13 keysL k,mty:=fun T=>J13 mtysL T}
abbrev DRN:=Bool×List (Bool×List DNode)
abbrev DRI:=Bool×List (Bool×List Int)
abbrev DLN:=Bool×List DNode
abbrev DLI:=Bool×List Int
abbrev DLB:=Bool×List Bool
noncomputable def Fs(a:DLN)(left_:Int):Option Int:=(inf H).call 59 (a,left_)
noncomputable def F1h(a:DChange)(left_:Int):Option Int:=(inf H).call 264 (a,left_)
noncomputable def F3p(a:Bool×List DChange)(left_:Int):Option Int:=(inf H).call 206 (a,left_)
theorem F3pK:H.key 206=some F3pH:=by kernel_rfl
noncomputable def F99(a:Bool×List DChange)(left_:Int)(i:Int):Option (Int ⊕ Int):=(inf H).loop 206 0 (Jc6 Tryz.f206 0) (a,(left_,i))
noncomputable def F1j(a:DCommand)(left_:Int):Option Int:=(inf H).call 137 (a,left_)
noncomputable def F3d(a:Bool×List DCommand)(left_:Int):Option Int:=(inf H).call 77 (a,left_)
theorem F3dK:H.key 77=some F3dH:=by kernel_rfl
noncomputable def F7z(a:Bool×List DCommand)(left_:Int)(i:Int):Option (Int ⊕ Int):=(inf H).loop 77 0 (Jc6 Tryz.f77 0) (a,(left_,i))
noncomputable def F67(a:DProgram)(left_:Int):Option Int:=(inf H).call 31 (a,left_)
noncomputable def F2y(a:DRN)(left_:Int):Option Int:=(inf H).call 22 (a,left_)
theorem F2yK:H.key 22=some F2yH:=by kernel_rfl
noncomputable def F8o(a:DRN)(left_:Int)(i:Int):Option (Int ⊕ Int):=(inf H).loop 22 0 (Jc6 Tryz.f22 0) (a,(left_,i))
noncomputable def F5y(a:Bool×List DSaid)(left_:Int):Option Int:=(inf H).call 32 (a,left_)
noncomputable def F71(a:DQuestion)(left_:Int):Option Int:=(inf H).call 6 (a,left_)
noncomputable def F6i(a:DLI)(left_:Int):Option Int:=(inf H).call 50 (a,left_)
noncomputable def F78(a:DSight)(left_:Int):Option Int:=(inf H).call 13 (a,left_)
noncomputable def F8(a:DNode):Option DNode:=(inf H).call 125 a
noncomputable def Fe(a:DLN):Option DLN:=(inf H).call 69 a
theorem FeK:H.key 69=some FeH:=by kernel_rfl
noncomputable def F89(a:DLN)(out:DLN)(i:Int):Option DLN:=(inf H).loop 69 0 (Jc6 Tryz.f69 0) (a,(out,i))
noncomputable def F1a(a:DChange):Option DChange:=(inf H).call 269 a
noncomputable def F3t(a:Bool×List DChange):Option (Bool×List DChange):=(inf H).call 212 a
theorem F3tK:H.key 212=some F3tH:=by kernel_rfl
noncomputable def F8u(a:Bool×List DChange)(out:Bool×List DChange)(i:Int):Option (Bool×List DChange):=(inf H).loop 212 0 (Jc6 Tryz.f212 0) (a,(out,i))
noncomputable def F1i(a:DCommand):Option DCommand:=(inf H).call 146 a
noncomputable def F39(a:Bool×List DCommand):Option (Bool×List DCommand):=(inf H).call 87 a
theorem F39K:H.key 87=some F39H:=by kernel_rfl
noncomputable def F8s(a:Bool×List DCommand)(out:Bool×List DCommand)(i:Int):Option (Bool×List DCommand):=(inf H).loop 87 0 (Jc6 Tryz.f87 0) (a,(out,i))
noncomputable def F5c(a:DProgram):Option DProgram:=(inf H).call 39 a
noncomputable def F3n(a:DRN):Option DRN:=(inf H).call 24 a
theorem F3nK:H.key 24=some F3nH:=by kernel_rfl
noncomputable def F7j(a:DRN)(out:DRN)(i:Int):Option DRN:=(inf H).loop 24 0 (Jc6 Tryz.f24 0) (a,(out,i))
noncomputable def F18(a:DSaid):Option DSaid:=(inf H).call 88 a
noncomputable def F3h(a:Bool×List DSaid):Option (Bool×List DSaid):=(inf H).call 40 a
theorem F3hK:H.key 40=some F3hH:=by kernel_rfl
noncomputable def F9b(a:Bool×List DSaid)(out:Bool×List DSaid)(i:Int):Option (Bool×List DSaid):=(inf H).loop 40 0 (Jc6 Tryz.f40 0) (a,(out,i))
noncomputable def F48(a:DQuestion):Option (Int×Int×DLN×(Bool×List DCommand)×DRN×Bool×List DSaid):=(inf H).call 8 a
noncomputable def F32(a:DLI):Option DLI:=(inf H).call 9 a
theorem F32K:H.key 9=some F32H:=by kernel_rfl
noncomputable def F92(a:DLI)(out:DLI)(i:Int):Option DLI:=(inf H).loop 9 0 (Jc6 Tryz.f9 0) (a,(out,i))
noncomputable def F47(a:DSight):Option DLI:=(inf H).call 15 a
noncomputable def F25(n:Int)(lo:Int)(hi:Int):Option Bool:=(inf H).call 62 (n,(lo,hi))
noncomputable def F51(wide:Int):Option Bool:=(inf H).call 247 wide
noncomputable def F4j(op:Int):Option DEdge:=(inf H).call 207 op
noncomputable def F12(wide:Int)(a:Int):Option Int:=(inf H).call 208 (wide,a)
theorem F12K:H.key 208=some F12H:=by kernel_rfl
noncomputable def F7m(wide:Int)(a:Int)(out:Int)(k_:Int):Option Int:=(inf H).loop 208 0 (Jc6 Tryz.f208 0) (wide,(a,(out,k_)))
noncomputable def F4b(wide:Int)(a:Int):Option Bool:=(inf H).call 280 (wide,a)
noncomputable def F3a(wide:Int)(vars:Int)(n:DNode):Option Bool:=(inf H).call 248 (wide,(vars,n))
noncomputable def Fw(wide:Int)(vars:Int)(t:DLN):Option Int:=(inf H).call 194 (wide,(vars,t))
theorem FwK:H.key 194=some FwH:=by kernel_rfl
noncomputable def F9u(wide:Int)(vars:Int)(pile:DLI)(t27:DLN)(t28:Int)(t29:Int):Option (Int ⊕ DLI):=(inf H).loop 194 0 (Jc6 Tryz.f194 0) (wide,(vars,(pile,(t27,(t28,t29)))))
noncomputable def F90(wide:Int)(vars:Int)(pile:DLI)(many:Int)(part:Int)(own:Int)(t27:DLN)(t28:Int)(t29:Int):Option (Int ⊕ DLI):=(inf H).loop 194 2 (Jc6 Tryz.f194 2) (wide,(vars,(pile,(many,(part,(own,(t27,(t28,t29))))))))
noncomputable def F4a(p:DProgram)(t:DLN):Option Bool:=(inf H).call 119 (p,t)
noncomputable def F2a(p:DProgram)(c:DCommand):Option Bool:=(inf H).call 244 (p,c)
theorem F2aK:H.key 244=some F2aH:=by kernel_rfl
noncomputable def F5v(p:DProgram)(c:DCommand)(t21:Bool×List DChange)(t22:Int)(t23:Int):Option (Bool ⊕ Unit):=(inf H).loop 244 0 (Jc6 Tryz.f244 0) (p,(c,(t21,(t22,t23))))
noncomputable def F2z(p:DProgram):Option Bool:=(inf H).call 191 p
theorem F2zK:H.key 191=some F2zH:=by kernel_rfl
noncomputable def F8m(p:DProgram)(t18:Bool×List DCommand)(t19:Int)(t20:Int):Option (Bool ⊕ Unit):=(inf H).loop 191 0 (Jc6 Tryz.f191 0) (p,(t18,(t19,t20)))
noncomputable def F4q(p:DProgram):Option Bool:=(inf H).call 117 p
noncomputable def F50(op:Int):Option Int:=(inf H).call 245 op
noncomputable def F3x(n:DSaid):Option Bool:=(inf H).call 246 n
noncomputable def F30(f:Bool×List DSaid):Option Bool:=(inf H).call 192 f
theorem F30K:H.key 192=some F30H:=by kernel_rfl
noncomputable def F8d(pile:Int)(t11:Bool×List DSaid)(t12:Int)(t13:Int):Option (Bool ⊕ Int):=(inf H).loop 192 0 (Jc6 Tryz.f192 0) (pile,(t11,(t12,t13)))
noncomputable def Ft(l:DLI)(n:Int):Option DLI:=(inf H).call 141 (l,n)
theorem FtK:H.key 141=some FtH:=by kernel_rfl
noncomputable def F84(l:DLI)(n:Int)(k_:Int):Option Int:=(inf H).loop 141 0 (Jc6 Tryz.f141 0) (l,(n,k_))
noncomputable def F19(f:Bool×List DSaid):Option DLI:=(inf H).call 193 f
theorem F19K:H.key 193=some F19H:=by kernel_rfl
noncomputable def F44(out:DLI)(t10:Bool×List DSaid)(t11:Int)(t12:Int):Option DLI:=(inf H).loop 193 0 (Jc6 Tryz.f193 0) (out,(t10,(t11,t12)))
noncomputable def F6s(f:Bool×List DSaid):Option Bool:=(inf H).call 118 f
noncomputable def F3e(q:DQuestion):Option Bool:=(inf H).call 60 q
theorem F3eK:H.key 60=some F3eH:=by kernel_rfl
noncomputable def F9k(q:DQuestion)(t22:DRN)(t23:Int)(t24:Int):Option (Bool ⊕ Unit):=(inf H).loop 60 0 (Jc6 Tryz.f60 0) (q,(t22,(t23,t24)))
noncomputable def F4t(p:DProgram):Option Int:=(inf H).call 79 p
noncomputable def F2b(p:DProgram)(v:DSight):Option Bool:=(inf H).call 103 (p,v)
theorem F2bK:H.key 103=some F2bH:=by kernel_rfl
noncomputable def F62(many:Int)(t20:DLI)(t21:Int)(t22:Int):Option (Bool ⊕ Unit):=(inf H).loop 103 0 (Jc6 Tryz.f103 0) (many,(t20,(t21,t22)))
noncomputable def F56(q:DQuestion)(v:DSight):Option Bool:=(inf H).call 51 (q,v)
noncomputable def F1v(v:DSight):Option Int:=(inf H).call 104 v
theorem F1vK:H.key 104=some F1vH:=by kernel_rfl
noncomputable def F61(many:Int)(t7:DLI)(t8:Int)(t9:Int):Option Int:=(inf H).loop 104 0 (Jc6 Tryz.f104 0) (many,(t7,(t8,t9)))
noncomputable def F1u(v:DSight)(class_:Int):Option DLI:=(inf H).call 105 (v,class_)
theorem F1uK:H.key 105=some F1uH:=by kernel_rfl
noncomputable def F6g(class_:Int)(out:DLI)(t9:DLI)(t10:Int)(t11:Int):Option DLI:=(inf H).loop 105 0 (Jc6 Tryz.f105 0) (class_,(out,(t9,(t10,t11))))
noncomputable def F1w(p:DProgram)(no:Int):Option DLI:=(inf H).call 81 (p,no)
theorem F1wK:H.key 81=some F1wH:=by kernel_rfl
noncomputable def F9h(no:Int)(p:DProgram)(out:DLI)(v:Int):Option DLI:=(inf H).loop 81 0 (Jc6 Tryz.f81 0) (no,(p,(out,v)))
noncomputable def F2c(t:DLN)(k_:Int):Option Int:=(inf H).call 210 (t,k_)
theorem F2cK:H.key 210=some F2cH:=by kernel_rfl
noncomputable def F7l(t:DLN)(many:Int)(from_:Int):Option Int:=(inf H).loop 210 0 (Jc6 Tryz.f210 0) (t,(many,from_))
noncomputable def F6p(wide:Int)(a:Int)(b:Int):Option Bool:=(inf H).call 289 (wide,(a,b))
noncomputable def F6r(wide:Int)(a:Int)(b:Int):Option (Int×Int×Bool):=(inf H).call 265 (wide,(a,b))
noncomputable def Fx(wide:Int)(a:Int)(by_:Int)(left_:Bool):Option Int:=(inf H).call 266 (wide,(a,(by_,left_)))
theorem FxK:H.key 266=some FxH:=by kernel_rfl
noncomputable def F60(wide:Int)(a:Int)(by_:Int)(left_:Bool):Option Int:=(inf H).loop 266 0 (Jc6 Tryz.f266 0) (wide,(a,(by_,left_)))
noncomputable def F1t(is:Bool):Option Int:=(inf H).call 267 is
noncomputable def F3v(wide:Int)(a:Int):Option Int:=(inf H).call 268 (wide,a)
noncomputable def F5m(wide:Int)(op:Int)(a:Int)(b:Int):Option Int:=(inf H).call 209 (wide,(op,(a,b)))
noncomputable def F43(wide:Int)(t:DLN)(k_:Int)(state:DLI):Option Int:=(inf H).call 139 (wide,(t,(k_,state)))
noncomputable def F4l(p:DProgram)(t:DLN)(s:DLI):Option Bool:=(inf H).call 80 (p,(t,s))
noncomputable def F1r(q:DQuestion)(no:Int):Option Int:=(inf H).call 86 (q,no)
theorem F1rK:H.key 86=some F1rH:=by kernel_rfl
noncomputable def F6a(no:Int)(q:DQuestion)(out:Int)(t9:DRN)(t10:Int)(t11:Int):Option Int:=(inf H).loop 86 0 (Jc6 Tryz.f86 0) (no,(q,(out,(t9,(t10,t11)))))
noncomputable def F1f(q:DQuestion)(v:DSight):Option Bool:=(inf H).call 52 (q,v)
theorem F1fK:H.key 52=some F1fH:=by kernel_rfl
noncomputable def F9o(q:DQuestion)(v:DSight)(class_:Int):Option (Bool ⊕ Unit):=(inf H).loop 52 0 (Jc6 Tryz.f52 0) (q,(v,class_))
noncomputable def F7x(q:DQuestion)(v:DSight)(class_:Int)(in_:DLI)(t18:DLI)(t19:Int)(t20:Int):Option (Bool ⊕ Unit):=(inf H).loop 52 2 (Jc6 Tryz.f52 2) (q,(v,(class_,(in_,(t18,(t19,t20))))))
noncomputable def F1m(Q0:DLI)(guess:Int)(node:Int):Option Bool:=(inf H).call 225 (Q0,(guess,node))
theorem F1mK:H.key 225=some F1mH:=by kernel_rfl
noncomputable def F8v(guess:Int)(node:Int)(t9:DLI)(t10:Int)(t11:Int):Option (Bool ⊕ Unit):=(inf H).loop 225 0 (Jc6 Tryz.f225 0) (guess,(node,(t9,(t10,t11))))
noncomputable def Fd(f:Bool×List DSaid)(Q0:DLI):Option DRI:=(inf H).call 224 (f,Q0)
theorem FdK:H.key 224=some FdH:=by kernel_rfl
noncomputable def F4r(Q0:DLI)(out:DRI)(t12:Bool×List DSaid)(t13:Int)(t14:Int):Option DRI:=(inf H).loop 224 0 (Jc6 Tryz.f224 0) (Q0,(out,(t12,(t13,t14))))
noncomputable def F28(Q0:DLI)(out:DRI)(i:Int)(n:DSaid)(goal:DLI)(guess:Int)(t12:Bool×List DSaid)(t13:Int)(t14:Int):Option DLI:=(inf H).loop 224 2 (Jc6 Tryz.f224 2) (Q0,(out,(i,(n,(goal,(guess,(t12,(t13,t14))))))))
noncomputable def F1q(f:Bool×List DSaid)(k_:Int):Option Int:=(inf H).call 211 (f,k_)
theorem F1qK:H.key 211=some F1qH:=by kernel_rfl
noncomputable def F9c(f:Bool×List DSaid)(from_:Int)(many:Int):Option Int:=(inf H).loop 211 0 (Jc6 Tryz.f211 0) (f,(from_,many))
noncomputable def Fo(f:Bool×List DSaid)(Q0:DLI)(letter:Int)(next:Int):Option DLB:=(inf H).call 277 (f,(Q0,(letter,next)))
theorem FoK:H.key 277=some FoH:=by kernel_rfl
noncomputable def F1n(f:Bool×List DSaid)(Q0:DLI)(letter:Int)(next:Int)(out:DLB)(t13:Bool×List DSaid)(t14:Int)(t15:Int):Option DLB:=(inf H).loop 277 0 (Jc6 Tryz.f277 0) (f,(Q0,(letter,(next,(out,(t13,(t14,t15)))))))
noncomputable def F2j(f:Bool×List DSaid)(Q0:DLI)(letter:Int)(next:Int):Option Int:=(inf H).call 226 (f,(Q0,(letter,next)))
theorem F2jK:H.key 226=some F2jH:=by kernel_rfl
noncomputable def F6k(now:DLB)(guess:Int)(t18:DLI)(t19:Int)(t20:Int):Option Int:=(inf H).loop 226 0 (Jc6 Tryz.f226 0) (now,(guess,(t18,(t19,t20))))
noncomputable def Fk(f:Bool×List DSaid)(not:Bool):Option DAuto:=(inf H).call 159 (f,not)
theorem FkK:H.key 159=some FkH:=by kernel_rfl
noncomputable def F5a(f:Bool×List DSaid)(not:Bool)(t4:DAuto)(Q0:DLI)(many:Int)(out_0:Int)(out_1:DLI)(out_2:Bool×List DEdge)(out_3:DRI)(guess:Int):Option DAuto:=(inf H).loop 159 0 (Jc6 Tryz.f159 0) (f,(not,(t4,(Q0,(many,(out_0,(out_1,(out_2,(out_3,guess)))))))))
noncomputable def F5k(f:Bool×List DSaid)(not:Bool)(t4:DAuto)(Q0:DLI)(many:Int)(out_0:Int)(out_1:DLI)(out_2:Bool×List DEdge)(out_3:DRI)(guess:Int)(letter:Int):Option DAuto:=(inf H).loop 159 2 (Jc6 Tryz.f159 2) (f,(not,(t4,(Q0,(many,(out_0,(out_1,(out_2,(out_3,(guess,letter))))))))))
noncomputable def F72(f:Bool×List DSaid)(not:Bool)(t4:DAuto)(Q0:DLI)(many:Int)(out_0:Int)(out_1:DLI)(out_2:Bool×List DEdge)(out_3:DRI)(guess:Int)(letter:Int)(next:Int):Option DAuto:=(inf H).loop 159 4 (Jc6 Tryz.f159 4) (f,(not,(t4,(Q0,(many,(out_0,(out_1,(out_2,(out_3,(guess,(letter,next)))))))))))
noncomputable def F59(q:DQuestion)(v:DSight)(class_:Int):Option Int:=(inf H).call 160 (q,(v,class_))
noncomputable def F2i(p:DProgram)(s:DLI):Option DLI:=(inf H).call 140 (p,s)
theorem F2iK:H.key 140=some F2iH:=by kernel_rfl
noncomputable def F5g(s:DLI)(p:DProgram)(out:DLI)(t9:Bool×List DCommand)(t10:Int)(t11:Int):Option DLI:=(inf H).loop 140 0 (Jc6 Tryz.f140 0) (s,(p,(out,(t9,(t10,t11)))))
noncomputable def F37(p:DProgram)(s:DLI)(k_:Int):Option DLI:=(inf H).call 143 (p,(s,k_))
theorem F37K:H.key 143=some F37H:=by kernel_rfl
noncomputable def F9z(s:DLI)(p:DProgram)(out:DLI)(t18:Bool×List DChange)(t19:Int)(t20:Int):Option DLI:=(inf H).loop 143 0 (Jc6 Tryz.f143 0) (s,(p,(out,(t18,(t19,t20)))))
noncomputable def F3r(p:DProgram)(s:DLI):Option Int:=(inf H).call 142 (p,s)
theorem F3rK:H.key 142=some F3rH:=by kernel_rfl
noncomputable def F7d(s:DLI)(p:DProgram)(n:Int)(v:Int):Option Int:=(inf H).loop 142 0 (Jc6 Tryz.f142 0) (s,(p,(n,v)))
noncomputable def F31(p:DProgram)(no:Int):Option DLI:=(inf H).call 83 (p,no)
theorem F31K:H.key 83=some F31H:=by kernel_rfl
noncomputable def F9d(no:Int)(p:DProgram)(s:DLI)(out:DLI)(t14:DLI)(t15:Int)(t16:Int):Option DLI:=(inf H).loop 83 0 (Jc6 Tryz.f83 0) (no,(p,(s,(out,(t14,(t15,t16))))))
noncomputable def F1g(p:DProgram)(some_:DLI):Option DLI:=(inf H).call 123 (p,some_)
theorem F1gK:H.key 123=some F1gH:=by kernel_rfl
noncomputable def F95(p:DProgram)(out:DLI)(t10:DLI)(t11:Int)(t12:Int):Option DLI:=(inf H).loop 123 0 (Jc6 Tryz.f123 0) (p,(out,(t10,(t11,t12))))
noncomputable def Fa1(p:DProgram)(out:DLI)(t10:DLI)(t11:Int)(t12:Int)(t18:DLI)(t19:Int)(t20:Int):Option DLI:=(inf H).loop 123 2 (Jc6 Tryz.f123 2) (p,(out,(t10,(t11,(t12,(t18,(t19,t20)))))))
noncomputable def F2o(v:DSight)(states:DLI):Option DLI:=(inf H).call 165 (v,states)
theorem F2oK:H.key 165=some F2oH:=by kernel_rfl
noncomputable def F9f(v:DSight)(out:DLI)(t8:DLI)(t9:Int)(t10:Int):Option DLI:=(inf H).loop 165 0 (Jc6 Tryz.f165 0) (v,(out,(t8,(t9,t10))))
noncomputable def F6j(p:DProgram)(v:DSight)(class_:Int):Option DLI:=(inf H).call 161 (p,(v,class_))
noncomputable def F4w(l:DLI):Option DLI:=(inf H).call 82 l
noncomputable def F34(a:DLI)(b:DLI):Option DLI:=(inf H).call 162 (a,b)
theorem F34K:H.key 162=some F34H:=by kernel_rfl
noncomputable def F7r(out:DLI)(t10:DLI)(t11:Int)(t12:Int):Option DLI:=(inf H).loop 162 0 (Jc6 Tryz.f162 0) (out,(t10,(t11,t12)))
noncomputable def F3f(n:Int):Option DLI:=(inf H).call 164 n
theorem F3fK:H.key 164=some F3fH:=by kernel_rfl
noncomputable def F7p(n:Int)(out:DLI)(k_:Int):Option DLI:=(inf H).loop 164 0 (Jc6 Tryz.f164 0) (n,(out,k_))
noncomputable def F14(a:DLI)(b:DLI)(many:Int):Option DLI:=(inf H).call 163 (a,(b,many))
theorem F14K:H.key 163=some F14H:=by kernel_rfl
noncomputable def Fa2(b:DLI)(many:Int)(out:DLI)(t12:DLI)(t13:Int)(t14:Int):Option DLI:=(inf H).loop 163 0 (Jc6 Tryz.f163 0) (b,(many,(out,(t12,(t13,t14)))))
noncomputable def F9j(b:DLI)(many:Int)(out:DLI)(i:Int)(t12:DLI)(t13:Int)(t14:Int)(t18:DLI)(t19:Int)(t20:Int):Option DLI:=(inf H).loop 163 2 (Jc6 Tryz.f163 2) (b,(many,(out,(i,(t12,(t13,(t14,(t18,(t19,t20)))))))))
noncomputable def F2r(p:DProgram)(t:DLN):Option DLI:=(inf H).call 35 (p,t)
theorem F2rK:H.key 35=some F2rH:=by kernel_rfl
noncomputable def F63(t:DLN)(p:DProgram)(out:DLI)(no:Int):Option DLI:=(inf H).loop 35 0 (Jc6 Tryz.f35 0) (t,(p,(out,no)))
noncomputable def F6(q:DQuestion)(v:DSight):Option (DRI×DLI×DRI):=(inf H).call 106 (q,v)
theorem F6K:H.key 106=some F6H:=by kernel_rfl
noncomputable def F7e(q:DQuestion)(v:DSight)(a:DAuto)(many:Int)(next:DRI)(k_:Int):Option DRI:=(inf H).loop 106 0 (Jc6 Tryz.f106 0) (q,(v,(a,(many,(next,k_)))))
noncomputable def F5r(q:DQuestion)(v:DSight)(a:DAuto)(many:Int)(next:DRI)(k_:Int)(letter:Int)(after:DLI)(t47:Bool×List DEdge)(t48:Int)(t49:Int):Option DRI:=(inf H).loop 106 2 (Jc6 Tryz.f106 2) (q,(v,(a,(many,(next,(k_,(letter,(after,(t47,(t48,t49))))))))))
noncomputable def F83(q:DQuestion)(v:DSight)(a:DAuto)(many:Int)(next:DRI)(k_:Int)(letter:Int)(after:DLI)(e:DEdge)(t47:Bool×List DEdge)(t48:Int)(t49:Int)(t57:DLI)(t58:Int)(t59:Int):Option DRI:=(inf H).loop 106 4 (Jc6 Tryz.f106 4) (q,(v,(a,(many,(next,(k_,(letter,(after,(e,(t47,(t48,(t49,(t57,(t58,t59))))))))))))))
noncomputable def F9g(q:DQuestion)(v:DSight)(many:Int)(next:DRI)(t94:Int)(t95:Int):Option DRI:=(inf H).loop 106 6 (Jc6 Tryz.f106 6) (q,(v,(many,(next,(t94,t95)))))
noncomputable def F87(q:DQuestion)(v:DSight)(a:DAuto)(many:Int)(next:DRI)(goals:DRI)(t108:DRI)(t109:Int)(t110:Int):Option DRI:=(inf H).loop 106 8 (Jc6 Tryz.f106 8) (q,(v,(a,(many,(next,(goals,(t108,(t109,t110))))))))
noncomputable def Fc(next:DRI)(from_:DLI):Option DLI:=(inf H).call 166 (next,from_)
theorem FcK:H.key 166=some FcH:=by kernel_rfl
noncomputable def F88(next:DRI)(from_:DLI)(out:DLI)(t17:Int)(t18:Int):Option DLI:=(inf H).loop 166 0 (Jc6 Tryz.f166 0) (next,(from_,(out,(t17,t18))))
noncomputable def F80(next:DRI)(from_:DLI)(out:DLI)(t25:DLI)(t26:Int)(t27:Int):Option DLI:=(inf H).loop 166 2 (Jc6 Tryz.f166 2) (next,(from_,(out,(t25,(t26,t27)))))
noncomputable def F96(next:DRI)(out:DLI)(row_:DLI):Option DLI:=(inf H).loop 166 4 (Jc6 Tryz.f166 4) (next,(out,row_))
noncomputable def F5z(next:DRI)(out:DLI)(row_:DLI)(k_:Int)(t48:DLI)(t49:Int)(t50:Int):Option DLasso:=(inf H).loop 166 6 (Jc6 Tryz.f166 6) (next,(out,(row_,(k_,(t48,(t49,t50))))))
noncomputable def F1z(a0_0:DRI)(a0_1:DLB)(a0_2:DLI)(k_:Int):Option Dl11Walk:=(inf H).call 228 (a0_0,(a0_1,(a0_2,k_)))
theorem F1zK:H.key 228=some F1zH:=by kernel_rfl
noncomputable def F7t(w_0:DRI)(w_1:DLB)(w_2:DLI)(k_:Int)(t25:DLI)(t26:Int)(t27:Int):Option Dl11Walk:=(inf H).loop 228 0 (Jc6 Tryz.f228 0) (w_0,(w_1,(w_2,(k_,(t25,(t26,t27))))))
noncomputable def F13(next:DRI):Option DRI:=(inf H).call 227 next
theorem F13K:H.key 227=some F13H:=by kernel_rfl
noncomputable def F8c(out:DRI)(t11:DRI)(t12:Int)(t13:Int):Option DRI:=(inf H).loop 227 0 (Jc6 Tryz.f227 0) (out,(t11,(t12,t13)))
noncomputable def F7u(out:DRI)(k_:Int)(t11:DRI)(t12:Int)(t13:Int)(t18:DLI)(t19:Int)(t20:Int):Option DRI:=(inf H).loop 227 2 (Jc6 Tryz.f227 2) (out,(k_,(t11,(t12,(t13,(t18,(t19,t20)))))))
noncomputable def Fb(next:DRI):Option DLI:=(inf H).call 169 next
theorem FbK:H.key 169=some FbH:=by kernel_rfl
noncomputable def F7o(next:DRI)(w_0:DRI)(w_1:DLB)(w_2:DLI)(t20:Int)(t21:Int):Option Dl11Walk:=(inf H).loop 169 0 (Jc6 Tryz.f169 0) (next,(w_0,(w_1,(w_2,(t20,t21)))))
noncomputable def F8w(next:DRI)(w:Dl11Walk)(back_0:DRI)(back_1:DLB)(back_2:DLI)(out:DLI)(i:Int):Option (DLI×Dl11Walk):=(inf H).loop 169 2 (Jc6 Tryz.f169 2) (next,(w,(back_0,(back_1,(back_2,(out,i))))))
noncomputable def F73(next:DRI)(w:Dl11Walk)(back:Dl11Walk)(out:DLI)(i:Int)(least:Int)(t65:DLI)(t66:Int)(t67:Int):Option Int:=(inf H).loop 169 4 (Jc6 Tryz.f169 4) (next,(w,(back,(out,(i,(least,(t65,(t66,t67))))))))
noncomputable def F9y(next:DRI)(w:Dl11Walk)(back:Dl11Walk)(out:DLI)(i:Int)(least:Int)(t79:DLI)(t80:Int)(t81:Int):Option DLI:=(inf H).loop 169 6 (Jc6 Tryz.f169 6) (next,(w,(back,(out,(i,(least,(t79,(t80,t81))))))))
noncomputable def Fy(next:DRI)(parts_:DLI):Option DRI:=(inf H).call 170 (next,parts_)
theorem FyK:H.key 170=some FyH:=by kernel_rfl
noncomputable def F9s(parts_:DLI)(out:DRI)(t13:DRI)(t14:Int)(t15:Int):Option DRI:=(inf H).loop 170 0 (Jc6 Tryz.f170 0) (parts_,(out,(t13,(t14,t15))))
noncomputable def F5s(parts_:DLI)(out:DRI)(k_:Int)(t13:DRI)(t14:Int)(t15:Int)(t20:DLI)(t21:Int)(t22:Int):Option DRI:=(inf H).loop 170 2 (Jc6 Tryz.f170 2) (parts_,(out,(k_,(t13,(t14,(t15,(t20,(t21,t22))))))))
noncomputable def Fa(next:DRI)(goals:DRI):Option DLI:=(inf H).call 167 (next,goals)
theorem FaK:H.key 167=some FaH:=by kernel_rfl
noncomputable def F5l(next:DRI)(goals:DRI)(parts_:DLI)(arrow:DLB)(met:DLI)(t28:DRI)(t29:Int)(t30:Int):Option DLB:=(inf H).loop 167 0 (Jc6 Tryz.f167 0) (next,(goals,(parts_,(arrow,(met,(t28,(t29,t30)))))))
noncomputable def F9e(next:DRI)(goals:DRI)(parts_:DLI)(arrow:DLB)(met:DLI)(t54:DRI)(t55:Int)(t56:Int):Option DLI:=(inf H).loop 167 2 (Jc6 Tryz.f167 2) (next,(goals,(parts_,(arrow,(met,(t54,(t55,t56)))))))
noncomputable def F6h(next:DRI)(goals:DRI)(parts_:DLI)(arrow:DLB)(met:DLI)(j:Int)(t54:DRI)(t55:Int)(t56:Int)(t61:DLI)(t62:Int)(t63:Int):Option DLI:=(inf H).loop 167 4 (Jc6 Tryz.f167 4) (next,(goals,(parts_,(arrow,(met,(j,(t54,(t55,(t56,(t61,(t62,t63)))))))))))
noncomputable def F4v(goals:DRI)(parts_:DLI)(arrow:DLB)(met:DLI)(out:DLI)(t87:Int)(t88:Int):Option DLI:=(inf H).loop 167 6 (Jc6 Tryz.f167 6) (goals,(parts_,(arrow,(met,(out,(t87,t88))))))
noncomputable def Fg(next:DRI)(from_:DLI)(to:DLI):Option (DLI×Bool):=(inf H).call 168 (next,(from_,to))
theorem FgK:H.key 168=some FgH:=by kernel_rfl
noncomputable def F4c(next:DRI)(far:DLI)(best:Int)(t19:DLI)(t20:Int)(t21:Int):Option Int:=(inf H).loop 168 0 (Jc6 Tryz.f168 0) (next,(far,(best,(t19,(t20,t21)))))
noncomputable def F93(next:DRI)(far:DLI)(best:Int)(out:DLI):Option DLI:=(inf H).loop 168 2 (Jc6 Tryz.f168 2) (next,(far,(best,out)))
noncomputable def F9m(next:DRI)(far:DLI)(best:Int)(out:DLI)(t59:DLI)(t60:Int)(t61:Int):Option Int:=(inf H).loop 168 4 (Jc6 Tryz.f168 4) (next,(far,(best,(out,(t59,(t60,t61))))))
noncomputable def Fj(next:DRI)(from_:DLI)(goals:DRI):Option (DLI×DLI×Bool):=(inf H).call 107 (next,(from_,goals))
theorem FjK:H.key 107=some FjH:=by kernel_rfl
noncomputable def F4e(next:DRI)(from_:DLI)(goals:DRI)(far:DLI)(meet:Int)(t32:DLI)(t33:Int)(t34:Int):Option Int:=(inf H).loop 107 0 (Jc6 Tryz.f107 0) (next,(from_,(goals,(far,(meet,(t32,(t33,t34)))))))
noncomputable def F8b(meet:Int)(stem:DLI)(parts_:DLI)(inner:DRI)(loop:DLI)(t77:DRI)(t78:Int)(t79:Int):Option DLI:=(inf H).loop 107 2 (Jc6 Tryz.f107 2) (meet,(stem,(parts_,(inner,(loop,(t77,(t78,t79)))))))
noncomputable def F5i(meet:Int)(stem:DLI)(parts_:DLI)(inner:DRI)(loop:DLI)(in_:DLI)(t77:DRI)(t78:Int)(t79:Int)(t83:DLI)(t84:Int)(t85:Int):Option DLI:=(inf H).loop 107 4 (Jc6 Tryz.f107 4) (meet,(stem,(parts_,(inner,(loop,(in_,(t77,(t78,(t79,(t83,(t84,t85)))))))))))
noncomputable def F2g(l:DLI)(many:Int):Option DLI:=(inf H).call 108 (l,many)
theorem F2gK:H.key 108=some F2gH:=by kernel_rfl
noncomputable def F8r(many:Int)(out:DLI)(t8:DLI)(t9:Int)(t10:Int):Option DLI:=(inf H).loop 108 0 (Jc6 Tryz.f108 0) (many,(out,(t8,(t9,t10))))
noncomputable def F66(q:DQuestion)(v:DSight):Option (DLI×DLI×Bool):=(inf H).call 53 (q,v)
noncomputable def F57(q:DQuestion)(v:DSight):Option (DLI×DLI×Bool):=(inf H).call 14 (q,v)
noncomputable def F4k(n:Int):Option Bool:=(inf H).call 249 n
noncomputable def F52(n:Int):Option Bool:=(inf H).call 250 n
noncomputable def F27(op:Int):Option DEdge:=(inf H).call 282 op
noncomputable def F0(wide:Int):Option Int:=(inf H).call 94 wide
noncomputable def F4f(wide:Int)(a:Int):Option Bool:=(inf H).call 290 (wide,a)
noncomputable def F5h(wide:Int)(vars:Int)(x:DNode):Option Bool:=(inf H).call 283 (wide,(vars,x))
noncomputable def F5x(own:Int)(a1:Int):Option Bool:=(inf H).call 284 (own,a1)
noncomputable def F3q(s:DLI)(f:Int×Unit):Option Int:=(inf H).call 147 (s,f)
theorem F3qK:H.key 147=some F3qH:=by kernel_rfl
noncomputable def F8p(s:DLI)(f:Int×Unit)(t7:Int)(t8:Int):Option (Int ⊕ Unit):=(inf H).loop 147 0 (Jc6 Tryz.f147 0) (s,(f,(t7,t8)))
noncomputable def F74(s:DLI)(f:Int×Unit):Option Bool:=(inf H).call 90 (s,f)
noncomputable def F1c(wide:Int)(vars:Int)(t:DLN):Option Bool:=(inf H).call 255 (wide,(vars,t))
theorem F1cK:H.key 255=some F1cH:=by kernel_rfl
noncomputable def F8i(wide:Int)(vars:Int)(stack:DLI)(t33:DLN)(t34:Int)(t35:Int):Option (Bool ⊕ DLI):=(inf H).loop 255 0 (Jc6 Tryz.f255 0) (wide,(vars,(stack,(t33,(t34,t35)))))
noncomputable def F6e(t:DLN):Option Int:=(inf H).call 256 t
noncomputable def F49(wide:Int)(vars:Int)(t:DLN)(kind:Int):Option Bool:=(inf H).call 199 (wide,(vars,(t,kind)))
noncomputable def F4i(p:DProgram)(t:DLN):Option Bool:=(inf H).call 130 (p,t)
noncomputable def F2n(p:DProgram)(c:DCommand):Option Bool:=(inf H).call 253 (p,c)
theorem F2nK:H.key 253=some F2nH:=by kernel_rfl
noncomputable def F6w(p:DProgram)(c:DCommand)(t13:Bool×List DChange)(t14:Int)(t15:Int):Option (Bool ⊕ Unit):=(inf H).loop 253 0 (Jc6 Tryz.f253 0) (p,(c,(t13,(t14,t15))))
noncomputable def F5q(c:DCommand)(a1:DProgram):Option Bool:=(inf H).call 252 (c,a1)
noncomputable def F38(s:Bool×List DCommand)(f:DProgram×Unit):Option Int:=(inf H).call 281 (s,f)
theorem F38K:H.key 281=some F38H:=by kernel_rfl
noncomputable def F9t(s:Bool×List DCommand)(f:DProgram×Unit)(t7:Int)(t8:Int):Option (Int ⊕ Unit):=(inf H).loop 281 0 (Jc6 Tryz.f281 0) (s,(f,(t7,t8)))
noncomputable def F5t(s:Bool×List DCommand)(f:DProgram×Unit):Option Bool:=(inf H).call 251 (s,f)
noncomputable def F41(p:DProgram):Option Bool:=(inf H).call 196 p
noncomputable def F4s(p:DProgram):Option Bool:=(inf H).call 126 p
noncomputable def F4d(op:Int):Option Int:=(inf H).call 98 op
noncomputable def F77(x:DSaid):Option Bool:=(inf H).call 254 x
noncomputable def F2t(f:Bool×List DSaid):Option Bool:=(inf H).call 197 f
theorem F2tK:H.key 197=some F2tH:=by kernel_rfl
noncomputable def F8g(values:Int)(t15:Bool×List DSaid)(t16:Int)(t17:Int):Option (Bool ⊕ Int):=(inf H).loop 197 0 (Jc6 Tryz.f197 0) (values,(t15,(t16,t17)))
noncomputable def F4m(s:DLI):Option DLI:=(inf H).call 187 s
noncomputable def F23(f:Bool×List DSaid):Option DRI:=(inf H).call 233 f
theorem F23K:H.key 233=some F23H:=by kernel_rfl
noncomputable def F98(out:DRI)(stack:DLI)(t10:Bool×List DSaid)(t11:Int)(t12:Int):Option DRI:=(inf H).loop 233 0 (Jc6 Tryz.f233 0) (out,(stack,(t10,(t11,t12))))
noncomputable def F4n(s:DLI):Option DLI:=(inf H).call 219 s
noncomputable def F4o(s:DLI):Option DLI:=(inf H).call 220 s
noncomputable def Fr(f:Bool×List DSaid):Option DLI:=(inf H).call 189 f
theorem FrK:H.key 189=some FrH:=by kernel_rfl
noncomputable def F45(out:DLI)(operands:DRI)(t13:Bool×List DSaid)(t14:Int)(t15:Int):Option DLI:=(inf H).loop 189 0 (Jc6 Tryz.f189 0) (out,(operands,(t13,(t14,t15))))
noncomputable def F6t(f:Bool×List DSaid):Option Bool:=(inf H).call 127 f
noncomputable def F64(t:DLN)(a1:DQuestion):Option Bool:=(inf H).call 129 (t,a1)
noncomputable def F3u(s:DRN)(f:DQuestion×Unit):Option Int:=(inf H).call 198 (s,f)
theorem F3uK:H.key 198=some F3uH:=by kernel_rfl
noncomputable def F7w(s:DRN)(f:DQuestion×Unit)(t7:Int)(t8:Int):Option (Int ⊕ Unit):=(inf H).loop 198 0 (Jc6 Tryz.f198 0) (s,(f,(t7,t8)))
noncomputable def F65(s:DRN)(f:DQuestion×Unit):Option Bool:=(inf H).call 128 (s,f)
noncomputable def F3y(q:DQuestion):Option Bool:=(inf H).call 70 q
noncomputable def F55(p:DProgram):Option Int:=(inf H).call 89 p
noncomputable def F16(v:DSight)(states:Int):Option Bool:=(inf H).call 171 (v,states)
theorem F16K:H.key 171=some F16H:=by kernel_rfl
noncomputable def F6u(states:Int)(v:DSight)(classes:Int)(t9:DLI)(t10:Int)(t11:Int):Option (Bool ⊕ Unit):=(inf H).loop 171 0 (Jc6 Tryz.f171 0) (states,(v,(classes,(t9,(t10,t11)))))
noncomputable def F6d(p:DProgram)(v:DSight):Option Bool:=(inf H).call 109 (p,v)
noncomputable def F5o(q:DQuestion)(v:DSight):Option Bool:=(inf H).call 54 (q,v)
noncomputable def F3m(x:DLI):Option Int:=(inf H).call 173 x
theorem F3mK:H.key 173=some F3mH:=by kernel_rfl
noncomputable def F9q(x:DLI)(m:Int)(i:Int):Option Int:=(inf H).loop 173 0 (Jc6 Tryz.f173 0) (x,(m,i))
noncomputable def Fv(v:DSight):Option Int:=(inf H).call 111 v
noncomputable def F6l(x:Int)(y:Int):Option (Int×Int):=(inf H).call 230 (x,y)
noncomputable def F3z(x:Int)(y:Int):Option (Int×Int):=(inf H).call 172 (x,y)
noncomputable def F1x(x:DLI)(count:Int):Option DLI:=(inf H).call 110 (x,count)
theorem F1xK:H.key 110=some F1xH:=by kernel_rfl
noncomputable def F7h(newslice:DLI)(n:Int):Option DLI:=(inf H).loop 110 0 (Jc6 Tryz.f110 0) (newslice,n)
noncomputable def F1y(p:DProgram)(no:Int):Option DLI:=(inf H).call 44 (p,no)
theorem F1yK:H.key 44=some F1yH:=by kernel_rfl
noncomputable def F7b(no:Int)(p:DProgram)(out:DLI)(t9:Int)(t10:Int):Option DLI:=(inf H).loop 44 0 (Jc6 Tryz.f44 0) (no,(p,(out,(t9,t10))))
noncomputable def F6q(wide:Int)(a:Int)(b:Int):Option Bool:=(inf H).call 270 (wide,(a,b))
noncomputable def F5e(hi:Int)(lo:Int)(y:Int):Option (Int×Int):=(inf H).call 271 (hi,(lo,y))
noncomputable def F4u(wide:Int)(a:Int)(b:Int):Option (Int×Int×Bool):=(inf H).call 213 (wide,(a,b))
noncomputable def F3w(wide:Int)(a:Int)(by_:Int)(left_:Bool):Option Int:=(inf H).call 214 (wide,(a,(by_,left_)))
noncomputable def Fl(holds:Bool):Option Int:=(inf H).call 215 holds
noncomputable def F11(wide:Int)(a:Int):Option Int:=(inf H).call 216 (wide,a)
noncomputable def F54(wide:Int)(op:Int)(a:Int)(b:Int):Option Int:=(inf H).call 148 (wide,(op,(a,b)))
noncomputable def Fq(wide:Int)(t:DLN)(state:DLI):Option Int:=(inf H).call 93 (wide,(t,state))
theorem FqK:H.key 93=some FqH:=by kernel_rfl
noncomputable def F3i(wide:Int)(state:DLI)(stack:DLI)(t12:DLN)(t13:Int)(t14:Int):Option DLI:=(inf H).loop 93 0 (Jc6 Tryz.f93 0) (wide,(state,(stack,(t12,(t13,t14)))))
noncomputable def F4g(p:DProgram)(t:DLN)(s:DLI):Option Bool:=(inf H).call 43 (p,(t,s))
noncomputable def F24(q:DQuestion)(no:Int):Option Int:=(inf H).call 97 (q,no)
theorem F24K:H.key 97=some F24H:=by kernel_rfl
noncomputable def F6m(q:DQuestion)(s:DLI)(letter:Int)(t14:DRN)(t15:Int)(t16:Int):Option Int:=(inf H).loop 97 0 (Jc6 Tryz.f97 0) (q,(s,(letter,(t14,(t15,t16)))))
noncomputable def F2k(q:DQuestion)(v:DSight):Option Bool:=(inf H).call 55 (q,v)
theorem F2kK:H.key 55=some F2kH:=by kernel_rfl
noncomputable def F79(q:DQuestion)(letters:DLI)(t14:DLI)(t15:Int)(t16:Int):Option ((DLI×Bool) ⊕ DLI):=(inf H).loop 55 0 (Jc6 Tryz.f55 0) (q,(letters,(t14,(t15,t16))))
noncomputable def F5(f:Bool×List DSaid):Option Int:=(inf H).call 115 f
noncomputable def F22(s:DLI)(v:Int):Option Int:=(inf H).call 150 (s,v)
theorem F22K:H.key 150=some F22H:=by kernel_rfl
noncomputable def F9l(s:DLI)(v:Int)(t7:Int)(t8:Int):Option (Int ⊕ Unit):=(inf H).loop 150 0 (Jc6 Tryz.f150 0) (s,(v,(t7,t8)))
noncomputable def F6f(q:DQuestion)(v:DSight)(class_:Int):Option Int:=(inf H).call 174 (q,(v,class_))
noncomputable def F2d(v:DSight)(class_:Int):Option DLI:=(inf H).call 231 (v,class_)
theorem F2dK:H.key 231=some F2dH:=by kernel_rfl
noncomputable def F58(class_:Int)(out:DLI)(t10:DLI)(t11:Int)(t12:Int):Option DLI:=(inf H).loop 231 0 (Jc6 Tryz.f231 0) (class_,(out,(t10,(t11,t12))))
noncomputable def F6y(s:DLI):Option DLI:=(inf H).call 272 s
noncomputable def F33(p:DProgram)(c:DCommand)(s:DLI):Option DLI:=(inf H).call 218 (p,(c,s))
theorem F33K:H.key 218=some F33H:=by kernel_rfl
noncomputable def F8a(s:DLI)(p:DProgram)(out:DLI)(t13:Bool×List DChange)(t14:Int)(t15:Int):Option DLI:=(inf H).loop 218 0 (Jc6 Tryz.f218 0) (s,(p,(out,(t13,(t14,t15)))))
noncomputable def F3g(p:DProgram)(s:DLI):Option Int:=(inf H).call 217 (p,s)
theorem F3gK:H.key 217=some F3gH:=by kernel_rfl
noncomputable def F9x(p:DProgram)(no:Int)(t8:DLI)(t9:Int)(t10:Int):Option Int:=(inf H).loop 217 0 (Jc6 Tryz.f217 0) (p,(no,(t8,(t9,t10))))
noncomputable def F2h(p:DProgram)(no:Int):Option DLI:=(inf H).call 149 (p,no)
theorem F2hK:H.key 149=some F2hH:=by kernel_rfl
noncomputable def F6o(no:Int)(p:DProgram)(s:DLI)(out:DLI)(t14:Bool×List DCommand)(t15:Int)(t16:Int):Option DLI:=(inf H).loop 149 0 (Jc6 Tryz.f149 0) (no,(p,(s,(out,(t14,(t15,t16))))))
noncomputable def F2e(list:DLB):Option DLI:=(inf H).call 238 list
theorem F2eK:H.key 238=some F2eH:=by kernel_rfl
noncomputable def F5u(out:DLI)(t7:DLB)(t8:Int)(t9:Int):Option DLI:=(inf H).loop 238 0 (Jc6 Tryz.f238 0) (out,(t7,(t8,t9)))
noncomputable def F29(v:DSight)(some_:DLI):Option DLI:=(inf H).call 180 (v,some_)
theorem F29K:H.key 180=some F29H:=by kernel_rfl
noncomputable def F8t(v:DSight)(in_:DLB)(t11:DLI)(t12:Int)(t13:Int):Option DLB:=(inf H).loop 180 0 (Jc6 Tryz.f180 0) (v,(in_,(t11,(t12,t13))))
noncomputable def F3s(p:DProgram)(v:DSight)(class_:Int):Option DLI:=(inf H).call 175 (p,(v,class_))
theorem F3sK:H.key 175=some F3sH:=by kernel_rfl
noncomputable def F7s(p:DProgram)(v:DSight)(next:DLI)(t13:DLI)(t14:Int)(t15:Int):Option DLI:=(inf H).loop 175 0 (Jc6 Tryz.f175 0) (p,(v,(next,(t13,(t14,t15)))))
noncomputable def F42(list:DLI)(guess:Int)(node:Int):Option Bool:=(inf H).call 236 (list,(guess,node))
noncomputable def Fp(f:Bool×List DSaid)(letter:Int)(next:Int):Option DLB:=(inf H).call 232 (f,(letter,next))
theorem FpK:H.key 232=some FpH:=by kernel_rfl
noncomputable def F1o(letter:Int)(next:Int)(out:DLB)(operands:DRI)(list:DLI)(t18:Bool×List DSaid)(t19:Int)(t20:Int):Option DLB:=(inf H).loop 232 0 (Jc6 Tryz.f232 0) (letter,(next,(out,(operands,(list,(t18,(t19,t20)))))))
noncomputable def F2q(f:Bool×List DSaid)(letter:Int)(next:Int):Option Int:=(inf H).call 176 (f,(letter,next))
theorem F2qK:H.key 176=some F2qH:=by kernel_rfl
noncomputable def F6v(values:DLB)(guess:Int)(t16:DLI)(t17:Int)(t18:Int):Option Int:=(inf H).loop 176 0 (Jc6 Tryz.f176 0) (values,(guess,(t16,(t17,t18))))
noncomputable def F5b(guess:Int)(a1:DLI)(a2:Int)(a3:DRI)(a4:DSaid):Option Bool:=(inf H).call 235 (guess,(a1,(a2,(a3,a4))))
noncomputable def F21(f:Bool×List DSaid)(holds:DLI×Int×DRI×DSaid×Unit):Option DLI:=(inf H).call 234 (f,holds)
theorem F21K:H.key 234=some F21H:=by kernel_rfl
noncomputable def F75(holds:DLI×Int×DRI×DSaid×Unit)(out:DLI)(t9:Int)(t10:Int):Option DLI:=(inf H).loop 234 0 (Jc6 Tryz.f234 0) (holds,(out,(t9,t10)))
noncomputable def F10(f:Bool×List DSaid):Option DRI:=(inf H).call 177 f
theorem F10K:H.key 177=some F10H:=by kernel_rfl
noncomputable def F4y(f:Bool×List DSaid)(out:DRI)(operands:DRI)(list:DLI)(t13:Bool×List DSaid)(t14:Int)(t15:Int):Option DRI:=(inf H).loop 177 0 (Jc6 Tryz.f177 0) (f,(out,(operands,(list,(t13,(t14,t15))))))
noncomputable def F2s(list:DLI)(by_:Int):Option DLI:=(inf H).call 178 (list,by_)
theorem F2sK:H.key 178=some F2sH:=by kernel_rfl
noncomputable def F8y(by_:Int)(out:DLI)(t9:DLI)(t10:Int)(t11:Int):Option DLI:=(inf H).loop 178 0 (Jc6 Tryz.f178 0) (by_,(out,(t9,(t10,t11))))
noncomputable def F2f(p:DProgram)(t:DLN):Option DLI:=(inf H).call 181 (p,t)
theorem F2fK:H.key 181=some F2fH:=by kernel_rfl
noncomputable def F5f(t:DLN)(p:DProgram)(out:DLI)(t9:Int)(t10:Int):Option DLI:=(inf H).loop 181 0 (Jc6 Tryz.f181 0) (t,(p,(out,(t9,t10))))
noncomputable def F6x(guess:Int)(a1:DLI)(a2:Bool×List DSaid)(a3:Bool):Option Bool:=(inf H).call 278 (guess,(a1,(a2,a3)))
noncomputable def F2p(f:Bool×List DSaid)(holds:DLI×(Bool×List DSaid)×Bool×Unit):Option DLI:=(inf H).call 10168 (f,holds)
theorem F2pK:H.key 10168=some F2pH:=by kernel_rfl
noncomputable def F69(holds:DLI×(Bool×List DSaid)×Bool×Unit)(out:DLI)(t9:Int)(t10:Int):Option DLI:=(inf H).loop 10168 0 (Jc6 Tryz.f234 0) (holds,(out,(t9,t10)))
noncomputable def F40(f:Bool×List DSaid)(holds:Bool):Option DLI:=(inf H).call 237 (f,holds)
noncomputable def F35(q:DQuestion)(some_:DLI):Option DLI:=(inf H).call 179 (q,some_)
theorem F35K:H.key 179=some F35H:=by kernel_rfl
noncomputable def F8n(q:DQuestion)(out:DLI)(t9:DLI)(t10:Int)(t11:Int):Option DLI:=(inf H).loop 179 0 (Jc6 Tryz.f179 0) (q,(out,(t9,(t10,t11))))
noncomputable def F7(q:DQuestion)(v:DSight):Option (DRI×DLI×DRI):=(inf H).call 112 (q,v)
theorem F7K:H.key 112=some F7H:=by kernel_rfl
noncomputable def F7k(q:DQuestion)(v:DSight)(all_:Int)(many:Int)(next:DRI)(goals:DRI)(t31:Int)(t32:Int):Option DRI:=(inf H).loop 112 0 (Jc6 Tryz.f112 0) (q,(v,(all_,(many,(next,(goals,(t31,t32)))))))
noncomputable def F86(q:DQuestion)(v:DSight)(all_:Int)(many:Int)(next:DRI)(goals:DRI)(class_:Int)(letter:Int)(t31:Int)(t32:Int)(t43:DLI)(t44:Int)(t45:Int):Option DRI:=(inf H).loop 112 2 (Jc6 Tryz.f112 2) (q,(v,(all_,(many,(next,(goals,(class_,(letter,(t31,(t32,(t43,(t44,t45))))))))))))
noncomputable def F8z(q:DQuestion)(v:DSight)(all_:Int)(many:Int)(next:DRI)(goals:DRI)(class_:Int)(letter:Int)(to:Int)(t31:Int)(t32:Int)(t43:DLI)(t44:Int)(t45:Int)(t49:Int)(t50:Int):Option DRI:=(inf H).loop 112 4 (Jc6 Tryz.f112 4) (q,(v,(all_,(many,(next,(goals,(class_,(letter,(to,(t31,(t32,(t43,(t44,(t45,(t49,t50)))))))))))))))
noncomputable def F9i(q:DQuestion)(v:DSight)(all_:Int)(many:Int)(next:DRI)(goals:DRI)(t81:DRI)(t82:Int)(t83:Int):Option DRI:=(inf H).loop 112 6 (Jc6 Tryz.f112 6) (q,(v,(all_,(many,(next,(goals,(t81,(t82,t83))))))))
noncomputable def F8x(q:DQuestion)(v:DSight)(all_:Int)(many:Int)(next:DRI)(goals:DRI)(goal:DLI)(own:DLI)(t81:DRI)(t82:Int)(t83:Int)(t88:Int)(t89:Int):Option DLI:=(inf H).loop 112 8 (Jc6 Tryz.f112 8) (q,(v,(all_,(many,(next,(goals,(goal,(own,(t81,(t82,(t83,(t88,t89))))))))))))
noncomputable def Fm(g:DRI)(some_:DLI):Option DLI:=(inf H).call 239 (g,some_)
theorem FmK:H.key 239=some FmH:=by kernel_rfl
noncomputable def F85(g:DRI)(steps:DLI)(open_:DLI)(t17:DLI)(t18:Int)(t19:Int):Option DLI:=(inf H).loop 239 0 (Jc6 Tryz.f239 0) (g,(steps,(open_,(t17,(t18,t19)))))
noncomputable def Fa3(g:DRI)(steps:DLI)(open_:DLI):Option DLI:=(inf H).loop 239 2 (Jc6 Tryz.f239 2) (g,(steps,open_))
noncomputable def F70(g:DRI)(steps:DLI)(open_:DLI)(t37:DLI)(t38:Int)(t39:Int):Option DLasso:=(inf H).loop 239 4 (Jc6 Tryz.f239 4) (g,(steps,(open_,(t37,(t38,t39)))))
noncomputable def F36(x:DLI):Option Int:=(inf H).call 279 x
theorem F36K:H.key 279=some F36H:=by kernel_rfl
noncomputable def F7a(x:DLI)(m:Int)(i:Int):Option Int:=(inf H).loop 279 0 (Jc6 Tryz.f279 0) (x,(m,i))
noncomputable def Fu(a0_0:DRI)(a0_1:DLI)(a0_2:DLI)(a0_3:DLI)(a0_4:DLI)(a0_5:Int)(v:Int):Option Dtarjan:=(inf H).call 243 (a0_0,(a0_1,(a0_2,(a0_3,(a0_4,(a0_5,v))))))
theorem FuK:H.key 243=some FuH:=by kernel_rfl
noncomputable def F4p(t_0:DRI)(t_1:DLI)(t_2:DLI)(t_3:DLI)(t_4:DLI)(t_5:Int)(v:Int)(t53:DLI)(t54:Int)(t55:Int):Option Dtarjan:=(inf H).loop 243 0 (Jc6 Tryz.f243 0) (t_0,(t_1,(t_2,(t_3,(t_4,(t_5,(v,(t53,(t54,t55)))))))))
noncomputable def F7g(t_0:DRI)(t_1:DLI)(t_2:DLI)(t_3:DLI)(t_4:DLI)(t_5:Int)(k_:Int)(least:Int)(t154_0:Int)(t154_1:Int)(t155:Int)(t156:Int):Option Dtarjan:=(inf H).loop 243 2 (Jc6 Tryz.f243 2) (t_0,(t_1,(t_2,(t_3,(t_4,(t_5,(k_,(least,(t154_0,(t154_1,(t155,t156)))))))))))
noncomputable def F26(next:DRI):Option DLI:=(inf H).call 184 next
theorem F26K:H.key 184=some F26H:=by kernel_rfl
noncomputable def F6c(t_0:DRI)(t_1:DLI)(t_2:DLI)(t_3:DLI)(t_4:DLI)(t_5:Int)(t19:Int)(t20:Int):Option Dtarjan:=(inf H).loop 184 0 (Jc6 Tryz.f184 0) (t_0,(t_1,(t_2,(t_3,(t_4,(t_5,(t19,t20)))))))
noncomputable def F4(next:DRI)(goals:DRI):Option DLB:=(inf H).call 240 (next,goals)
theorem F4K:H.key 240=some F4H:=by kernel_rfl
noncomputable def F8h(goals:DRI)(part:DLI)(n:Int)(fair:DLB)(out:DLB)(t28:DRI)(t29:Int)(t30:Int):Option DLB:=(inf H).loop 240 0 (Jc6 Tryz.f240 0) (goals,(part,(n,(fair,(out,(t28,(t29,t30)))))))
noncomputable def F6b(goals:DRI)(part:DLI)(n:Int)(fair:DLB)(out:DLB)(v:Int)(t28:DRI)(t29:Int)(t30:Int)(t35:DLI)(t36:Int)(t37:Int):Option DLB:=(inf H).loop 240 2 (Jc6 Tryz.f240 2) (goals,(part,(n,(fair,(out,(v,(t28,(t29,(t30,(t35,(t36,t37)))))))))))
noncomputable def F8j(part:DLI)(n:Int)(fair:DLB)(out:DLB)(t67:DRI)(t68:Int)(t69:Int):Option DLB:=(inf H).loop 240 4 (Jc6 Tryz.f240 4) (part,(n,(fair,(out,(t67,(t68,t69))))))
noncomputable def F9w(part:DLI)(n:Int)(fair:DLB)(out:DLB)(has:DLB)(t67:DRI)(t68:Int)(t69:Int)(t75:DLI)(t76:Int)(t77:Int):Option DLB:=(inf H).loop 240 6 (Jc6 Tryz.f240 6) (part,(n,(fair,(out,(has,(t67,(t68,(t69,(t75,(t76,t77))))))))))
noncomputable def F6n(part:DLI)(n:Int)(fair:DLB)(out:DLB)(has:DLB)(t67:DRI)(t68:Int)(t69:Int)(t89:Int)(t90:Int):Option DLB:=(inf H).loop 240 8 (Jc6 Tryz.f240 8) (part,(n,(fair,(out,(has,(t67,(t68,(t69,(t89,t90)))))))))
noncomputable def F9v(part:DLI)(fair:DLB)(out:DLB)(t109:Int)(t110:Int):Option DLB:=(inf H).loop 240 10 (Jc6 Tryz.f240 10) (part,(fair,(out,(t109,t110))))
noncomputable def F1p(next:DRI)(from_:DLI)(goals:DRI):Option Int:=(inf H).call 182 (next,(from_,goals))
theorem F1pK:H.key 182=some F1pH:=by kernel_rfl
noncomputable def F46(steps:DLI)(best:Int)(t16:DLB)(t17:Int)(t18:Int):Option Int:=(inf H).loop 182 0 (Jc6 Tryz.f182 0) (steps,(best,(t16,(t17,t18))))
noncomputable def F1l(g:DRI):Option DRI:=(inf H).call 241 g
theorem F1lK:H.key 241=some F1lH:=by kernel_rfl
noncomputable def F7q(out:DRI)(t11:DRI)(t12:Int)(t13:Int):Option DRI:=(inf H).loop 241 0 (Jc6 Tryz.f241 0) (out,(t11,(t12,t13)))
noncomputable def F9r(out:DRI)(v:Int)(t11:DRI)(t12:Int)(t13:Int)(t18:DLI)(t19:Int)(t20:Int):Option DRI:=(inf H).loop 241 2 (Jc6 Tryz.f241 2) (out,(v,(t11,(t12,(t13,(t18,(t19,t20)))))))
noncomputable def F76(w:Int)(a1:DLI)(a2:Int):Option Bool:=(inf H).call 242 (w,(a1,a2))
noncomputable def F2w(s:DLI)(f:DLI×Int×Unit):Option Int:=(inf H).call 10179 (s,f)
theorem F2wK:H.key 10179=some F2wH:=by kernel_rfl
noncomputable def F7v(s:DLI)(f:DLI×Int×Unit)(t7:Int)(t8:Int):Option (Int ⊕ Unit):=(inf H).loop 10179 0 (Jc6 Tryz.f147 0) (s,(f,(t7,t8)))
noncomputable def Fi(g:DRI)(from_:DLI)(to:DLI):Option DLI:=(inf H).call 183 (g,(from_,to))
theorem FiK:H.key 183=some FiH:=by kernel_rfl
noncomputable def F4h(g:DRI)(steps:DLI)(best:Int)(t18:DLI)(t19:Int)(t20:Int):Option Int:=(inf H).loop 183 0 (Jc6 Tryz.f183 0) (g,(steps,(best,(t18,(t19,t20)))))
noncomputable def F81(g:DRI)(steps:DLI)(way:DLI)(v:Int):Option DLI:=(inf H).loop 183 2 (Jc6 Tryz.f183 2) (g,(steps,(way,v)))
noncomputable def Fz(next:DRI)(part:DLI)(own:Int):Option DRI:=(inf H).call 185 (next,(part,own))
theorem FzK:H.key 185=some FzH:=by kernel_rfl
noncomputable def F9a(part:DLI)(own:Int)(out:DRI)(t15:DRI)(t16:Int)(t17:Int):Option DRI:=(inf H).loop 185 0 (Jc6 Tryz.f185 0) (part,(own,(out,(t15,(t16,t17)))))
noncomputable def F4z(part:DLI)(own:Int)(out:DRI)(v:Int)(t15:DRI)(t16:Int)(t17:Int)(t22:DLI)(t23:Int)(t24:Int):Option DRI:=(inf H).loop 185 2 (Jc6 Tryz.f185 2) (part,(own,(out,(v,(t15,(t16,(t17,(t22,(t23,t24)))))))))
noncomputable def F53(v:Int)(a1:DLI)(a2:Int):Option Bool:=(inf H).call 188 (v,(a1,a2))
noncomputable def F2v(s:DLI)(f:DLI×Int×Unit):Option Int:=(inf H).call 10183 (s,f)
theorem F2vK:H.key 10183=some F2vH:=by kernel_rfl
noncomputable def F9p(s:DLI)(f:DLI×Int×Unit)(t7:Int)(t8:Int):Option (Int ⊕ Unit):=(inf H).loop 10183 0 (Jc6 Tryz.f147 0) (s,(f,(t7,t8)))
noncomputable def F2l(s:DLI)(del:DLI×Int×Unit):Option DLI:=(inf H).call 186 (s,del)
theorem F2lK:H.key 186=some F2lH:=by kernel_rfl
noncomputable def F6z(s:DLI)(del:DLI×Int×Unit)(i:Int)(j:Int):Option (DLI×Int):=(inf H).loop 186 0 (Jc6 Tryz.f186 0) (s,(del,(i,j)))
noncomputable def F17(next:DRI)(from_:DLI)(goals:DRI):Option (DLI×DLI×Bool):=(inf H).call 113 (next,(from_,goals))
theorem F17K:H.key 113=some F17H:=by kernel_rfl
noncomputable def F7f(meet:Int)(stem:DLI)(part:DLI)(arcs:DRI)(loop:DLI)(t41:DRI)(t42:Int)(t43:Int):Option DLI:=(inf H).loop 113 0 (Jc6 Tryz.f113 0) (meet,(stem,(part,(arcs,(loop,(t41,(t42,t43)))))))
noncomputable def F2m(list:DLI)(a1:DQuestion):Option DLI:=(inf H).call 114 (list,a1)
theorem F2mK:H.key 114=some F2mH:=by kernel_rfl
noncomputable def F97(t1:DQuestion)(out:DLI)(t8:DLI)(t9:Int)(t10:Int):Option DLI:=(inf H).loop 114 0 (Jc6 Tryz.f114 0) (t1,(out,(t8,(t9,t10))))
noncomputable def F15(q:DQuestion)(v:DSight):Option (DLI×DLI×Bool):=(inf H).call 56 (q,v)
noncomputable def F4x(q:DQuestion)(v:DSight):Option (DLI×DLI×Bool):=(inf H).call 16 (q,v)
noncomputable def F1d(a:DLI)(b:DLI):Option Bool:=(inf H).call 12 (a,b)
theorem F1dK:H.key 12=some F1dH:=by kernel_rfl
noncomputable def F8f(a:DLI)(b:DLI)(i:Int):Option (Bool ⊕ Unit):=(inf H).loop 12 0 (Jc6 Tryz.f12 0) (a,(b,i))
noncomputable def F9(a:DNode)(b:DNode):Option Bool:=(inf H).call 136 (a,b)
noncomputable def Fh(a:DLN)(b:DLN):Option Bool:=(inf H).call 74 (a,b)
theorem FhK:H.key 74=some FhH:=by kernel_rfl
noncomputable def Fa0(a:DLN)(b:DLN)(i:Int):Option (Bool ⊕ Unit):=(inf H).loop 74 0 (Jc6 Tryz.f74 0) (a,(b,i))
noncomputable def F1b(a:DChange)(b:DChange):Option Bool:=(inf H).call 276 (a,b)
noncomputable def F3c(a:Bool×List DChange)(b:Bool×List DChange):Option Bool:=(inf H).call 223 (a,b)
theorem F3cK:H.key 223=some F3cH:=by kernel_rfl
noncomputable def F82(a:Bool×List DChange)(b:Bool×List DChange)(i:Int):Option (Bool ⊕ Unit):=(inf H).loop 223 0 (Jc6 Tryz.f223 0) (a,(b,i))
noncomputable def F1e(a:DCommand)(b:DCommand):Option Bool:=(inf H).call 158 (a,b)
noncomputable def F3k(a:Bool×List DCommand)(b:Bool×List DCommand):Option Bool:=(inf H).call 101 (a,b)
theorem F3kK:H.key 101=some F3kH:=by kernel_rfl
noncomputable def F8l(a:Bool×List DCommand)(b:Bool×List DCommand)(i:Int):Option (Bool ⊕ Unit):=(inf H).loop 101 0 (Jc6 Tryz.f101 0) (a,(b,i))
noncomputable def F5p(a:DProgram)(b:DProgram):Option Bool:=(inf H).call 48 (a,b)
noncomputable def F3b(a:DRN)(b:DRN):Option Bool:=(inf H).call 27 (a,b)
theorem F3bK:H.key 27=some F3bH:=by kernel_rfl
noncomputable def F7y(a:DRN)(b:DRN)(i:Int):Option (Bool ⊕ Unit):=(inf H).loop 27 0 (Jc6 Tryz.f27 0) (a,(b,i))
noncomputable def F1k(a:DSaid)(b:DSaid):Option Bool:=(inf H).call 102 (a,b)
noncomputable def F3j(a:Bool×List DSaid)(b:Bool×List DSaid):Option Bool:=(inf H).call 49 (a,b)
theorem F3jK:H.key 49=some F3jH:=by kernel_rfl
noncomputable def F9n(a:Bool×List DSaid)(b:Bool×List DSaid)(i:Int):Option (Bool ⊕ Unit):=(inf H).loop 49 0 (Jc6 Tryz.f49 0) (a,(b,i))
noncomputable def F5n(a:DQuestion)(b:DQuestion):Option Bool:=(inf H).call 11 (a,b)
noncomputable def F5d(a:DSight)(b:DSight):Option Bool:=(inf H).call 17 (a,b)
noncomputable def Ff(a:DLN)(k_:Int):Option (DLN×Int):=(inf H).call 75 (a,k_)
theorem FfK:H.key 75=some FfH:=by kernel_rfl
noncomputable def F8q(a:DLN)(k_:Int)(i:Int):Option (DLN×Int):=(inf H).loop 75 0 (Jc6 Tryz.f75 0) (a,(k_,i))
noncomputable def F3l(a:Bool×List DChange)(k_:Int):Option ((Bool×List DChange)×Int):=(inf H).call 190 (a,k_)
theorem F3lK:H.key 190=some F3lH:=by kernel_rfl
noncomputable def F91(a:Bool×List DChange)(k_:Int)(i:Int):Option ((Bool×List DChange)×Int):=(inf H).loop 190 0 (Jc6 Tryz.f190 0) (a,(k_,i))
noncomputable def F3o(a:Bool×List DCommand)(k_:Int):Option ((Bool×List DCommand)×Int):=(inf H).call 116 (a,k_)
theorem F3oK:H.key 116=some F3oH:=by kernel_rfl
noncomputable def F7i(a:Bool×List DCommand)(k_:Int)(i:Int):Option ((Bool×List DCommand)×Int):=(inf H).loop 116 0 (Jc6 Tryz.f116 0) (a,(k_,i))
noncomputable def F5w(a0_0:Int)(a0_1:Int)(a0_2:DLN)(a0_3:Bool×List DCommand)(k_:Int):Option (DLN×(Bool×List DCommand)×Int):=(inf H).call 57 (a0_0,(a0_1,(a0_2,(a0_3,k_))))
noncomputable def F2x(a:DRN)(k_:Int):Option (DRN×Int):=(inf H).call 28 (a,k_)
theorem F2xK:H.key 28=some F2xH:=by kernel_rfl
noncomputable def F94(a:DRN)(k_:Int)(i:Int):Option (DRN×Int):=(inf H).loop 28 0 (Jc6 Tryz.f28 0) (a,(k_,i))
noncomputable def F2u(a:Bool×List DSaid)(k_:Int):Option ((Bool×List DSaid)×Int):=(inf H).call 58 (a,k_)
theorem F2uK:H.key 58=some F2uH:=by kernel_rfl
noncomputable def F8e(a:Bool×List DSaid)(k_:Int)(i:Int):Option ((Bool×List DSaid)×Int):=(inf H).loop 58 0 (Jc6 Tryz.f58 0) (a,(k_,i))
noncomputable def F68(a0_0:Int)(a0_1:Int)(a0_2:DLN)(a0_3:Bool×List DCommand)(a0_4:DRN)(a0_5:Bool×List DSaid)(k_:Int):Option (DLN×(Bool×List DCommand)×DRN×(Bool×List DSaid)×Int):=(inf H).call 18 (a0_0,(a0_1,(a0_2,(a0_3,(a0_4,(a0_5,k_))))))
noncomputable def F20(a:DLI)(k_:Int):Option (DLI×Int):=(inf H).call 20 (a,k_)
theorem F20K:H.key 20=some F20H:=by kernel_rfl
noncomputable def F7c(a:DLI)(k_:Int)(i:Int):Option (DLI×Int):=(inf H).loop 20 0 (Jc6 Tryz.f20 0) (a,(k_,i))
noncomputable def F5j(a:DLI)(k_:Int):Option (DLI×Int):=(inf H).call 19 (a,k_)
noncomputable def F1s(a:DLI)(k_:Int):Option Int:=(inf H).call 21 (a,k_)
theorem F1sK:H.key 21=some F1sH:=by kernel_rfl
noncomputable def F7n(a:DLI)(k_:Int)(i:Int):Option (Int ⊕ Int):=(inf H).loop 21 0 (Jc6 Tryz.f21 0) (a,(k_,i))
noncomputable def F8k(aQ:DQuestion)(aV:DSight):Option Bool:=(inf H).call 4 (aQ,aV)
theorem tC{k:Nat}{x:Den (tyOf (aTys H k))}{y}(h:J66 H (inf H) k x=y:=by kernel_rfl):(inf H).call k x=y:=(J6e k x).trans h
theorem tL{k n:Nat}{c:Code}{x:Den (tyOf (hTys (Jd H k n)))}{f:FnH}{y}(hf:H.key k=some f)(h:J2p H k f (inf H) n c x=y:=by kernel_rfl):(inf H).loop k n c x=y:=(J6f k n c x hf).trans h
theorem FsE(a left_):Fs a left_=
 bif decide ((IntKind.i64.wrap (left_-(a.2.length:Int)))<0)then
 some (-1)
else 
 some (IntKind.i64.wrap (left_-(a.2.length:Int))):=tC
theorem F1hE(a left_):F1h a left_=
(Fs a.2 left_).bind fun r=>
 bif decide (r<0)then
 some (-1)
else 
 some r:=tC
theorem F99E(a left_ i):F99 a left_ i=
 bif decide (i<(a.2.length:Int))then
 bif decide (0≤i)then
 bif decide (i<(a.2.length:Int))then
(F1h (a.2.getD (Int.toNat i) (0,(true,[]))) left_).bind fun r=>
 bif decide (r<0)then
 some (.inl (-1))
else 
(F99 a r (IntKind.i64.wrap (i+1))).bind fun r=>some r
else none
else none
else 
 some (.inr left_):=tL F3pK
theorem F3pE(a left_):F3p a left_=
 bif decide ((IntKind.i64.wrap (left_-(a.2.length:Int)))<0)then
 some (-1)
else 
(F99 a (IntKind.i64.wrap (left_-(a.2.length:Int))) 0).bind fun r=>
 match r with
| .inl y=>
 some y
| .inr z=>
 some z:=tC
theorem F1jE(a left_):F1j a left_=
(Fs a.1 left_).bind fun r=>
 bif decide (r<0)then
 some (-1)
else 
(F3p a.2 r).bind fun r1=>
 bif decide (r1<0)then
 some (-1)
else 
 some r1:=tC
theorem F7zE(a left_ i):F7z a left_ i=
 bif decide (i<(a.2.length:Int))then
 bif decide (0≤i)then
 bif decide (i<(a.2.length:Int))then
(F1j (a.2.getD (Int.toNat i) ((true,[]),(true,[]))) left_).bind fun r=>
 bif decide (r<0)then
 some (.inl (-1))
else 
(F7z a r (IntKind.i64.wrap (i+1))).bind fun r=>some r
else none
else none
else 
 some (.inr left_):=tL F3dK
theorem F3dE(a left_):F3d a left_=
 bif decide ((IntKind.i64.wrap (left_-(a.2.length:Int)))<0)then
 some (-1)
else 
(F7z a (IntKind.i64.wrap (left_-(a.2.length:Int))) 0).bind fun r=>
 match r with
| .inl y=>
 some y
| .inr z=>
 some z:=tC
theorem F67E(a left_):F67 a left_=
(Fs a.2.2.1 left_).bind fun r=>
 bif decide (r<0)then
 some (-1)
else 
(F3d a.2.2.2 r).bind fun r1=>
 bif decide (r1<0)then
 some (-1)
else 
 some r1:=tC
theorem F8oE(a left_ i):F8o a left_ i=
 bif decide (i<(a.2.length:Int))then
 bif decide (0≤i)then
 bif decide (i<(a.2.length:Int))then
(Fs (a.2.getD (Int.toNat i) (true,[])) left_).bind fun r=>
 bif decide (r<0)then
 some (.inl (-1))
else 
(F8o a r (IntKind.i64.wrap (i+1))).bind fun r=>some r
else none
else none
else 
 some (.inr left_):=tL F2yK
theorem F2yE(a left_):F2y a left_=
 bif decide ((IntKind.i64.wrap (left_-(a.2.length:Int)))<0)then
 some (-1)
else 
(F8o a (IntKind.i64.wrap (left_-(a.2.length:Int))) 0).bind fun r=>
 match r with
| .inl y=>
 some y
| .inr z=>
 some z:=tC
theorem F5yE(a left_):F5y a left_=
 bif decide ((IntKind.i64.wrap (left_-(a.2.length:Int)))<0)then
 some (-1)
else 
 some (IntKind.i64.wrap (left_-(a.2.length:Int))):=tC
theorem F71E(a left_):F71 a left_=
(F67 a.1 left_).bind fun r=>
 bif decide (r<0)then
 some (-1)
else 
(F2y a.2.1 r).bind fun r1=>
 bif decide (r1<0)then
 some (-1)
else 
(F5y a.2.2 r1).bind fun r2=>
 bif decide (r2<0)then
 some (-1)
else 
 some r2:=tC
theorem F6iE(a left_):F6i a left_=
 bif decide ((IntKind.i64.wrap (left_-(a.2.length:Int)))<0)then
 some (-1)
else 
 some (IntKind.i64.wrap (left_-(a.2.length:Int))):=tC
theorem F78E(a left_):F78 a left_=
(F6i a left_).bind fun r=>
 bif decide (r<0)then
 some (-1)
else 
 some r:=tC
theorem F8E(a):F8 a=
 some (a.1,a.2):=tC
theorem F89E(a out i):F89 a out i=
 bif decide (i<(a.2.length:Int))then
 bif decide (0≤i)then
 bif decide (i<(a.2.length:Int))then
(F8 (a.2.getD (Int.toNat i) (0,0))).bind fun r=>
 bif decide (0≤i)then
 bif decide (i<(out.2.length:Int))then
(F89 a (out.1,(out.2.set (Int.toNat i) r)) (IntKind.i64.wrap (i+1))).bind fun r=>some r
else none
else none
else none
else none
else 
 some (out.1,out.2):=tL FeK
theorem FeE(a):Fe a=
 bif decide (0≤(a.2.length:Int))then
 bif decide ((a.2.length:Int)≤lim)then
 bif decide ((a.2.length:Int)≤(a.2.length:Int))then
 bif decide ((a.2.length:Int)≤lim)then
(F89 a (false,(List.replicate (Int.toNat (a.2.length:Int)) ((0,0):DNode))) 0).bind fun r=>
 some (r.1,r.2)
else none
else none
else none
else none:=tC
theorem F1aE(a):F1a a=
(Fe a.2).bind fun r=>
 some (a.1,(r.1,r.2)):=tC
theorem F8uE(a out i):F8u a out i=
 bif decide (i<(a.2.length:Int))then
 bif decide (0≤i)then
 bif decide (i<(a.2.length:Int))then
(F1a (a.2.getD (Int.toNat i) (0,(true,[])))).bind fun r=>
 bif decide (0≤i)then
 bif decide (i<(out.2.length:Int))then
(F8u a (out.1,(out.2.set (Int.toNat i) (r.1,(r.2.1,r.2.2)))) (IntKind.i64.wrap (i+1))).bind fun r=>some r
else none
else none
else none
else none
else 
 some (out.1,out.2):=tL F3tK
theorem F3tE(a):F3t a=
 bif decide (0≤(a.2.length:Int))then
 bif decide ((a.2.length:Int)≤lim)then
 bif decide ((a.2.length:Int)≤(a.2.length:Int))then
 bif decide ((a.2.length:Int)≤lim)then
(F8u a (false,(List.replicate (Int.toNat (a.2.length:Int)) ((0,(true,[])):DChange))) 0).bind fun r=>
 some (r.1,r.2)
else none
else none
else none
else none:=tC
theorem F1iE(a):F1i a=
(Fe a.1).bind fun r=>
(F3t a.2).bind fun r1=>
 some ((r.1,r.2),(r1.1,r1.2)):=tC
theorem F8sE(a out i):F8s a out i=
 bif decide (i<(a.2.length:Int))then
 bif decide (0≤i)then
 bif decide (i<(a.2.length:Int))then
(F1i (a.2.getD (Int.toNat i) ((true,[]),(true,[])))).bind fun r=>
 bif decide (0≤i)then
 bif decide (i<(out.2.length:Int))then
(F8s a (out.1,(out.2.set (Int.toNat i) ((r.1.1,r.1.2),(r.2.1,r.2.2)))) (IntKind.i64.wrap (i+1))).bind fun r=>some r
else none
else none
else none
else none
else 
 some (out.1,out.2):=tL F39K
theorem F39E(a):F39 a=
 bif decide (0≤(a.2.length:Int))then
 bif decide ((a.2.length:Int)≤lim)then
 bif decide ((a.2.length:Int)≤(a.2.length:Int))then
 bif decide ((a.2.length:Int)≤lim)then
(F8s a (false,(List.replicate (Int.toNat (a.2.length:Int)) (((true,[]),(true,[])):DCommand))) 0).bind fun r=>
 some (r.1,r.2)
else none
else none
else none
else none:=tC
theorem F5cE(a):F5c a=
(Fe a.2.2.1).bind fun r=>
(F39 a.2.2.2).bind fun r1=>
 some (a.1,(a.2.1,((r.1,r.2),(r1.1,r1.2)))):=tC
theorem F7jE(a out i):F7j a out i=
 bif decide (i<(a.2.length:Int))then
 bif decide (0≤i)then
 bif decide (i<(a.2.length:Int))then
(Fe (a.2.getD (Int.toNat i) (true,[]))).bind fun r=>
 bif decide (0≤i)then
 bif decide (i<(out.2.length:Int))then
(F7j a (out.1,(out.2.set (Int.toNat i) (r.1,r.2))) (IntKind.i64.wrap (i+1))).bind fun r=>some r
else none
else none
else none
else none
else 
 some (out.1,out.2):=tL F3nK
theorem F3nE(a):F3n a=
 bif decide (0≤(a.2.length:Int))then
 bif decide ((a.2.length:Int)≤lim)then
 bif decide ((a.2.length:Int)≤(a.2.length:Int))then
 bif decide ((a.2.length:Int)≤lim)then
(F7j a (false,(List.replicate (Int.toNat (a.2.length:Int)) ((true,[]):Bool×List DNode))) 0).bind fun r=>
 some (r.1,r.2)
else none
else none
else none
else none:=tC
theorem F18E(a):F18 a=
 some (a.1,a.2):=tC
theorem F9bE(a out i):F9b a out i=
 bif decide (i<(a.2.length:Int))then
 bif decide (0≤i)then
 bif decide (i<(a.2.length:Int))then
(F18 (a.2.getD (Int.toNat i) (0,0))).bind fun r=>
 bif decide (0≤i)then
 bif decide (i<(out.2.length:Int))then
(F9b a (out.1,(out.2.set (Int.toNat i) r)) (IntKind.i64.wrap (i+1))).bind fun r=>some r
else none
else none
else none
else none
else 
 some (out.1,out.2):=tL F3hK
theorem F3hE(a):F3h a=
 bif decide (0≤(a.2.length:Int))then
 bif decide ((a.2.length:Int)≤lim)then
 bif decide ((a.2.length:Int)≤(a.2.length:Int))then
 bif decide ((a.2.length:Int)≤lim)then
(F9b a (false,(List.replicate (Int.toNat (a.2.length:Int)) ((0,0):DSaid))) 0).bind fun r=>
 some (r.1,r.2)
else none
else none
else none
else none:=tC
theorem F48E(a):F48 a=
(F5c a.1).bind fun r=>
(F3n a.2.1).bind fun r1=>
(F3h a.2.2).bind fun r2=>
 some (r.1,(r.2.1,((r.2.2.1.1,r.2.2.1.2),((r.2.2.2.1,r.2.2.2.2),((r1.1,r1.2),(r2.1,r2.2)))))):=tC
theorem F92E(a out i):F92 a out i=
 bif decide (i<(a.2.length:Int))then
 bif decide (0≤i)then
 bif decide (i<(a.2.length:Int))then
 bif decide (0≤i)then
 bif decide (i<(out.2.length:Int))then
(F92 a (out.1,(out.2.set (Int.toNat i) (a.2.getD (Int.toNat i) 0))) (IntKind.i64.wrap (i+1))).bind fun r=>some r
else none
else none
else none
else none
else 
 some (out.1,out.2):=tL F32K
theorem F32E(a):F32 a=
 bif decide (0≤(a.2.length:Int))then
 bif decide ((a.2.length:Int)≤lim)then
 bif decide ((a.2.length:Int)≤(a.2.length:Int))then
 bif decide ((a.2.length:Int)≤lim)then
(F92 a (false,(List.replicate (Int.toNat (a.2.length:Int)) (0:Int))) 0).bind fun r=>
 some (r.1,r.2)
else none
else none
else none
else none:=tC
theorem F47E(a):F47 a=
(F32 a).bind fun r=>
 some (r.1,r.2):=tC
theorem F25E(n lo hi):F25 n lo hi=
 bif decide (n≥lo)then
 some (decide (n≤hi))
else 
 some false:=tC
theorem F51E(wide):F51 wide=
(F25 wide 1 64).bind fun r=>
 some r:=tC
theorem F4jE(op):F4j op=
 bif (op==1)then
 some (0,(1,1))
else 
 bif (op==2)then
 some (0,(1,1))
else 
 bif (op==20)then
 some (0,(2,2))
else 
 bif (op==13)then
 some (1,(1,1))
else 
 bif (op==19)then
 some (1,(2,2))
else 
(F25 op 3 12).bind fun r=>
 bif r then
 some (2,(1,1))
else 
(F25 op 14 16).bind fun r1=>
 bif r1 then
 some (2,(1,2))
else 
 bif (op==17)then
 some (2,(2,2))
else 
 bif (op==18)then
 some (2,(2,2))
else 
 some (0,(0,0)):=tC
theorem F7mE(wide a out k_):F7m wide a out k_=
 bif decide (k_<wide)then
 bif decide ((IntKind.u64.wrap k_)<0)then
 none
else 
(F7m wide a (bOr .u64 out (bAnd .u64 a (bShl .u64 1 (IntKind.u64.wrap k_)))) (IntKind.i64.wrap (k_+1))).bind fun r=>some r
else 
 some out:=tL F12K
theorem F12E(wide a):F12 wide a=
(F7m wide a 0 0).bind fun r=>
 some r:=tC
theorem F4bE(wide a):F4b wide a=
(F51 wide).bind fun r=>
 bif r then
(F12 wide a).bind fun r1=>
 some (r1==a)
else 
 some false:=tC
theorem F3aE(wide vars n):F3a wide vars n=
 bif (n.1==1)then
(F4b wide n.2).bind fun r=>
 some r
else 
 bif (n.1==2)then
 some (decide (n.2<(IntKind.u64.wrap vars)))
else 
 bif (n.1==20)then
 some (decide (n.2<2))
else 
 some (n.2==0):=tC
theorem F9uE(wide vars pile t27 t28 t29):F9u wide vars pile t27 t28 t29=
 bif decide (t29<t28)then
 bif decide (0≤t29)then
 bif decide (t29<(t27.2.length:Int))then
(F4j ((t27.2.getD (Int.toNat t29) (0,0)).1)).bind fun r=>
 bif (r.2.2==0)then
 some (.inl 0)
else 
(F3a wide vars (t27.2.getD (Int.toNat t29) (0,0))).bind fun r1=>
 bif !r1 then
 some (.inl 0)
else 
 bif decide ((pile.2.length:Int)<r.1)then
 some (.inl 0)
else 
(F90 wide vars (pile.1,pile.2) r.1 r.2.1 r.2.2 t27 t28 t29).bind fun r2=>
 match r2 with
| .inl y=>
 some (.inl y)
| .inr z=>
 bif decide (z.2.length+[r.2.2].length ≤lim)then
(F9u wide vars ((z.1&&false),(z.2++[r.2.2])) t27 t28 (IntKind.i64.wrap (t29+1))).bind fun r=>some r
else none
else none
else none
else 
 some (.inr (pile.1,pile.2)):=tL FwK
theorem F90E(wide vars pile many part own t27 t28 t29):F90 wide vars pile many part own t27 t28 t29=
 bif decide (many>0)then
 bif decide (0≤(IntKind.i64.wrap ((pile.2.length:Int)-1)))then
 bif decide ((IntKind.i64.wrap ((pile.2.length:Int)-1))<(pile.2.length:Int))then
 bif ((pile.2.getD (Int.toNat (IntKind.i64.wrap ((pile.2.length:Int)-1))) 0) !=part)then
 some (.inl 0)
else 
 bif decide (0≤(IntKind.i64.wrap ((pile.2.length:Int)-1)))then
 bif decide ((IntKind.i64.wrap ((pile.2.length:Int)-1))≤(pile.2.length:Int))then
(F90 wide vars (pile.1,((pile.2.take (Int.toNat (IntKind.i64.wrap ((pile.2.length:Int)-1)))).drop 0)) (IntKind.i64.wrap (many-1)) part own t27 t28 t29).bind fun r=>some r
else none
else none
else none
else none
else 
 some (.inr (pile.1,pile.2)):=tL FwK
theorem FwE(wide vars t):Fw wide vars t=
(F51 wide).bind fun r=>
 bif !r then
 some 0
else 
(F25 vars 1 4).bind fun r1=>
 bif !r1 then
 some 0
else 
(F25 (t.2.length:Int) 1 48).bind fun r2=>
 bif !r2 then
 some 0
else 
(F9u wide vars (true,[]) t (t.2.length:Int) 0).bind fun r3=>
 match r3 with
| .inl y=>
 some y
| .inr z=>
 bif ((z.2.length:Int) !=1)then
 some 0
else 
 bif decide (0<(z.2.length:Int))then
 some (z.2.getD 0 0)
else none:=tC
theorem F4aE(p t):F4a p t=
(Fw p.1 p.2.1 t).bind fun r=>
 some (r==2):=tC
theorem F5vE(p c t21 t22 t23):F5v p c t21 t22 t23=
 bif decide (t23<t22)then
 bif decide (0≤t23)then
 bif decide (t23<(t21.2.length:Int))then
(F25 ((t21.2.getD (Int.toNat t23) (0,(true,[]))).1) 0 (IntKind.i64.wrap (p.2.1-1))).bind fun r=>
 bif !r then
 some (.inl false)
else 
 bif decide (t23>0)then
 bif decide (0≤(IntKind.i64.wrap (t23-1)))then
 bif decide ((IntKind.i64.wrap (t23-1))<(c.2.2.length:Int))then
 bif decide (((c.2.2.getD (Int.toNat (IntKind.i64.wrap (t23-1))) (0,(true,[]))).1)≥((t21.2.getD (Int.toNat t23) (0,(true,[]))).1))then
 some (.inl false)
else 
(Fw p.1 p.2.1 ((t21.2.getD (Int.toNat t23) (0,(true,[]))).2)).bind fun r1=>
 bif (r1 !=1)then
 some (.inl false)
else 
(F5v p c t21 t22 (IntKind.i64.wrap (t23+1))).bind fun r=>some r
else none
else none
else 
(Fw p.1 p.2.1 ((t21.2.getD (Int.toNat t23) (0,(true,[]))).2)).bind fun r2=>
 bif (r2 !=1)then
 some (.inl false)
else 
(F5v p c t21 t22 (IntKind.i64.wrap (t23+1))).bind fun r=>some r
else none
else none
else 
 some (.inr ()):=tL F2aK
theorem F2aE(p c):F2a p c=
(F4a p c.1).bind fun r=>
 bif !r then
 some false
else 
 bif decide ((c.2.2.length:Int)>p.2.1)then
 some false
else 
(F5v p c c.2 (c.2.2.length:Int) 0).bind fun r1=>
 match r1 with
| .inl y=>
 some y
| .inr z=>
 some true:=tC
theorem F8mE(p t18 t19 t20):F8m p t18 t19 t20=
 bif decide (t20<t19)then
 bif decide (0≤t20)then
 bif decide (t20<(t18.2.length:Int))then
(F2a p (t18.2.getD (Int.toNat t20) ((true,[]),(true,[])))).bind fun r=>
 bif !r then
 some (.inl false)
else 
(F8m p t18 t19 (IntKind.i64.wrap (t20+1))).bind fun r=>some r
else none
else none
else 
 some (.inr ()):=tL F2zK
theorem F2zE(p):F2z p=
(F4a p p.2.2.1).bind fun r=>
 bif !r then
 some false
else 
(F25 (p.2.2.2.2.length:Int) 1 6).bind fun r1=>
 bif !r1 then
 some false
else 
(F8m p p.2.2.2 (p.2.2.2.2.length:Int) 0).bind fun r2=>
 match r2 with
| .inl y=>
 some y
| .inr z=>
 some true:=tC
theorem F4qE(p):F4q p=
(F2z p).bind fun r=>
 bif r then
 some (decide ((IntKind.i64.wrap (p.1*p.2.1))≤5))
else 
 some false:=tC
theorem F50E(op):F50 op=
 bif (op==1)then
 bif (op==1)then
 some 0
else 
 bif (op==3)then
 bif (op==3)then
 some 1
else 
 bif (op==5)then
 bif (op==5)then
 some 2
else 
 some (-1)
else 
 bif (op==6)then
 bif (op==6)then
 some 2
else 
 some (-1)
else 
 bif (op==7)then
 bif (op==7)then
 some 2
else 
 some (-1)
else 
 bif (op==8)then
 some 2
else 
 some (-1)
else 
 bif (op==4)then
 some 1
else 
 bif (op==5)then
 bif (op==5)then
 some 2
else 
 some (-1)
else 
 bif (op==6)then
 bif (op==6)then
 some 2
else 
 some (-1)
else 
 bif (op==7)then
 bif (op==7)then
 some 2
else 
 some (-1)
else 
 bif (op==8)then
 some 2
else 
 some (-1)
else 
 bif (op==2)then
 some 0
else 
 bif (op==3)then
 bif (op==3)then
 some 1
else 
 bif (op==5)then
 bif (op==5)then
 some 2
else 
 some (-1)
else 
 bif (op==6)then
 bif (op==6)then
 some 2
else 
 some (-1)
else 
 bif (op==7)then
 bif (op==7)then
 some 2
else 
 some (-1)
else 
 bif (op==8)then
 some 2
else 
 some (-1)
else 
 bif (op==4)then
 some 1
else 
 bif (op==5)then
 bif (op==5)then
 some 2
else 
 some (-1)
else 
 bif (op==6)then
 bif (op==6)then
 some 2
else 
 some (-1)
else 
 bif (op==7)then
 bif (op==7)then
 some 2
else 
 some (-1)
else 
 bif (op==8)then
 some 2
else 
 some (-1):=tC
theorem F3xE(n):F3x n=
 bif (n.1==1)then
(F25 n.2 0 2).bind fun r=>
 some r
else 
 bif (n.1==2)then
(F25 n.2 0 1).bind fun r1=>
 some r1
else 
 some (n.2==0):=tC
theorem F8dE(pile t11 t12 t13):F8d pile t11 t12 t13=
 bif decide (t13<t12)then
 bif decide (0≤t13)then
 bif decide (t13<(t11.2.length:Int))then
(F50 ((t11.2.getD (Int.toNat t13) (0,0)).1)).bind fun r=>
 bif decide (r<0)then
 some (.inl false)
else 
(F3x (t11.2.getD (Int.toNat t13) (0,0))).bind fun r1=>
 bif !r1 then
 some (.inl false)
else 
 bif decide (pile<r)then
 some (.inl false)
else 
(F8d (IntKind.i64.wrap (pile+(IntKind.i64.wrap (1-r)))) t11 t12 (IntKind.i64.wrap (t13+1))).bind fun r=>some r
else none
else none
else 
 some (.inr pile):=tL F30K
theorem F30E(f):F30 f=
(F25 (f.2.length:Int) 1 16).bind fun r=>
 bif !r then
 some false
else 
(F8d 0 f (f.2.length:Int) 0).bind fun r1=>
 match r1 with
| .inl y=>
 some y
| .inr z=>
 some (z==1):=tC
theorem F84E(l n k_):F84 l n k_=
 bif decide (k_<(l.2.length:Int))then
 bif decide (0≤k_)then
 bif decide (k_<(l.2.length:Int))then
 bif decide ((l.2.getD (Int.toNat k_) 0)<n)then
(F84 l n (IntKind.i64.wrap (k_+1))).bind fun r=>some r
else 
 some k_
else none
else none
else 
 some k_:=tL FtK
theorem FtE(l n):Ft l n=
(F84 l n 0).bind fun r=>
 bif decide (r<(l.2.length:Int))then
 bif decide (0≤r)then
 bif decide (r<(l.2.length:Int))then
 bif ((l.2.getD (Int.toNat r) 0)==n)then
 some l
else 
 bif decide (0≤r)then
 bif decide (r≤(l.2.length:Int))then
 bif decide (([]:List Int).length +((l.2.take (Int.toNat r)).drop 0).length ≤lim)then
 bif decide (([]++((l.2.take (Int.toNat r)).drop 0)).length +[n].length ≤lim)then
 bif decide (0≤r)then
 bif decide (r≤(l.2.length:Int))then
 bif decide ((([]++((l.2.take (Int.toNat r)).drop 0))++[n]).length +((l.2.take l.2.length).drop (Int.toNat r)).length ≤lim)then
 some (false,((([]++((l.2.take (Int.toNat r)).drop 0))++[n])++((l.2.take l.2.length).drop (Int.toNat r))))
else none
else none
else none
else none
else none
else none
else none
else none
else none
else 
 bif decide (0≤r)then
 bif decide (r≤(l.2.length:Int))then
 bif decide (([]:List Int).length +((l.2.take (Int.toNat r)).drop 0).length ≤lim)then
 bif decide (([]++((l.2.take (Int.toNat r)).drop 0)).length +[n].length ≤lim)then
 bif decide (0≤r)then
 bif decide (r≤(l.2.length:Int))then
 bif decide ((([]++((l.2.take (Int.toNat r)).drop 0))++[n]).length +((l.2.take l.2.length).drop (Int.toNat r)).length ≤lim)then
 some (false,((([]++((l.2.take (Int.toNat r)).drop 0))++[n])++((l.2.take l.2.length).drop (Int.toNat r))))
else none
else none
else none
else none
else none
else none
else none:=tC
theorem F44E(out t10 t11 t12):F44 out t10 t11 t12=
 bif decide (t12<t11)then
 bif decide (0≤t12)then
 bif decide (t12<(t10.2.length:Int))then
 bif (((t10.2.getD (Int.toNat t12) (0,0)).1)==7)then
 bif (((t10.2.getD (Int.toNat t12) (0,0)).1)==7)then
(Ft out t12).bind fun r=>
(Ft r (IntKind.i64.wrap (t12-1))).bind fun r1=>
(F44 r1 t10 t11 (IntKind.i64.wrap (t12+1))).bind fun r=>some r
else 
 bif (((t10.2.getD (Int.toNat t12) (0,0)).1)==4)then
(Ft out (IntKind.i64.wrap (t12-1))).bind fun r2=>
(F44 r2 t10 t11 (IntKind.i64.wrap (t12+1))).bind fun r=>some r
else 
(F44 out t10 t11 (IntKind.i64.wrap (t12+1))).bind fun r=>some r
else 
 bif (((t10.2.getD (Int.toNat t12) (0,0)).1)==8)then
(Ft out t12).bind fun r3=>
(Ft r3 (IntKind.i64.wrap (t12-1))).bind fun r4=>
(F44 r4 t10 t11 (IntKind.i64.wrap (t12+1))).bind fun r=>some r
else 
 bif (((t10.2.getD (Int.toNat t12) (0,0)).1)==4)then
(Ft out (IntKind.i64.wrap (t12-1))).bind fun r5=>
(F44 r5 t10 t11 (IntKind.i64.wrap (t12+1))).bind fun r=>some r
else 
(F44 out t10 t11 (IntKind.i64.wrap (t12+1))).bind fun r=>some r
else none
else none
else 
 some out:=tL F19K
theorem F19E(f):F19 f=
(F44 (false,[IntKind.i64.wrap ((f.2.length:Int)-1)]) f (f.2.length:Int) 0).bind fun r=>
 some r:=tC
theorem F6sE(f):F6s f=
(F30 f).bind fun r=>
 bif r then
(F19 f).bind fun r1=>
 some (decide ((r1.2.length:Int)≤5))
else 
 some false:=tC
theorem F9kE(q t22 t23 t24):F9k q t22 t23 t24=
 bif decide (t24<t23)then
 bif decide (0≤t24)then
 bif decide (t24<(t22.2.length:Int))then
(F4a q.1 (t22.2.getD (Int.toNat t24) (true,[]))).bind fun r=>
 bif !r then
 some (.inl false)
else 
(F9k q t22 t23 (IntKind.i64.wrap (t24+1))).bind fun r=>some r
else none
else none
else 
 some (.inr ()):=tL F3eK
theorem F3eE(q):F3e q=
(F4q q.1).bind fun r=>
 bif !r then
 some false
else 
 bif ((q.2.1.2.length:Int) !=3)then
 some false
else 
(F6s q.2.2).bind fun r1=>
 bif !r1 then
 some false
else 
(F9k q q.2.1 (q.2.1.2.length:Int) 0).bind fun r2=>
 match r2 with
| .inl y=>
 some y
| .inr z=>
 some true:=tC
theorem F4tE(p):F4t p=
 bif decide ((IntKind.u64.wrap (IntKind.i64.wrap (p.1*p.2.1)))<0)then
 none
else 
 some (bShl .i64 1 (IntKind.u64.wrap (IntKind.i64.wrap (p.1*p.2.1)))):=tC
theorem F62E(many t20 t21 t22):F62 many t20 t21 t22=
 bif decide (t22<t21)then
 bif decide (0≤t22)then
 bif decide (t22<(t20.2.length:Int))then
(F25 (t20.2.getD (Int.toNat t22) 0) 0 many).bind fun r=>
 bif !r then
 some (.inl false)
else 
 bif ((t20.2.getD (Int.toNat t22) 0)==many)then
(F62 (IntKind.i64.wrap (many+1)) t20 t21 (IntKind.i64.wrap (t22+1))).bind fun r=>some r
else 
(F62 many t20 t21 (IntKind.i64.wrap (t22+1))).bind fun r=>some r
else none
else none
else 
 some (.inr ()):=tL F2bK
theorem F2bE(p v):F2b p v=
(F4q p).bind fun r=>
 bif !r then
 some false
else 
(F4t p).bind fun r1=>
 bif ((v.2.length:Int) !=r1)then
 some false
else 
(F62 0 v (v.2.length:Int) 0).bind fun r2=>
 match r2 with
| .inl y=>
 some y
| .inr z=>
 some true:=tC
theorem F56E(q v):F56 q v=
(F3e q).bind fun r=>
 bif r then
(F2b q.1 v).bind fun r1=>
 some r1
else 
 some false:=tC
theorem F61E(many t7 t8 t9):F61 many t7 t8 t9=
 bif decide (t9<t8)then
 bif decide (0≤t9)then
 bif decide (t9<(t7.2.length:Int))then
 bif decide ((t7.2.getD (Int.toNat t9) 0)≥many)then
(F61 (IntKind.i64.wrap ((t7.2.getD (Int.toNat t9) 0)+1)) t7 t8 (IntKind.i64.wrap (t9+1))).bind fun r=>some r
else 
(F61 many t7 t8 (IntKind.i64.wrap (t9+1))).bind fun r=>some r
else none
else none
else 
 some many:=tL F1vK
theorem F1vE(v):F1v v=
(F61 0 v (v.2.length:Int) 0).bind fun r=>
 some r:=tC
theorem F6gE(class_ out t9 t10 t11):F6g class_ out t9 t10 t11=
 bif decide (t11<t10)then
 bif decide (0≤t11)then
 bif decide (t11<(t9.2.length:Int))then
 bif ((t9.2.getD (Int.toNat t11) 0)==class_)then
 bif decide (out.2.length+[t11].length ≤lim)then
(F6g class_ ((out.1&&false),(out.2++[t11])) t9 t10 (IntKind.i64.wrap (t11+1))).bind fun r=>some r
else none
else 
(F6g class_ (out.1,out.2) t9 t10 (IntKind.i64.wrap (t11+1))).bind fun r=>some r
else none
else none
else 
 some (out.1,out.2):=tL F1uK
theorem F1uE(v class_):F1u v class_=
(F6g class_ (true,[]) v (v.2.length:Int) 0).bind fun r=>
 some (r.1,r.2):=tC
theorem F9hE(no p out v):F9h no p out v=
 bif decide (v<p.2.1)then
 bif decide ((IntKind.u64.wrap (IntKind.i64.wrap (v*p.1)))<0)then
 none
else 
 bif decide ((IntKind.u64.wrap p.1)<0)then
 none
else 
 bif decide (out.2.length+[IntKind.u64.wrap (bAnd .i64 (bShr .i64 no (IntKind.u64.wrap (IntKind.i64.wrap (v*p.1)))) (IntKind.i64.wrap ((bShl .i64 1 (IntKind.u64.wrap p.1))-1)))].length ≤lim)then
(F9h no p ((out.1&&false),(out.2++[IntKind.u64.wrap (bAnd .i64 (bShr .i64 no (IntKind.u64.wrap (IntKind.i64.wrap (v*p.1)))) (IntKind.i64.wrap ((bShl .i64 1 (IntKind.u64.wrap p.1))-1)))])) (IntKind.i64.wrap (v+1))).bind fun r=>some r
else none
else 
 some (out.1,out.2):=tL F1wK
theorem F1wE(p no):F1w p no=
(F9h no p (true,[]) 0).bind fun r=>
 some (r.1,r.2):=tC
theorem F7lE(t many from_):F7l t many from_=
 bif decide (many>0)then
(F2c t (IntKind.i64.wrap (from_-1))).bind fun r=>
(F7l t (IntKind.i64.wrap (many-1)) r).bind fun r=>some r
else 
 some from_:=tL F2cK
theorem F2cE(t k_):F2c t k_=
 bif decide (0≤k_)then
 bif decide (k_<(t.2.length:Int))then
(F4j ((t.2.getD (Int.toNat k_) (0,0)).1)).bind fun r=>
(F7l t r.1 k_).bind fun r1=>
 some r1
else none
else none:=tC
theorem F6pE(wide a b):F6p wide a b=
(F4b wide a).bind fun r=>
 bif r then
(F4b wide b).bind fun r1=>
 some r1
else 
 some false:=tC
theorem F6rE(wide a b):F6r wide a b=
(F6p wide a b).bind fun r=>
 bif !r then
 some (0,(0,false))
else 
 bif (b==0)then
(F12 wide 18446744073709551615).bind fun r1=>
 some (r1,(a,true))
else 
 bif (b==0)then
 none
else 
 bif (b==0)then
 none
else 
 some (IntKind.u64.wrap (Int.tdiv a b),(Int.tmod a b,true)):=tC
theorem F60E(wide a by_ left_):F60 wide a by_ left_=
 bif decide (by_>0)then
 bif left_ then
(F12 wide (bShl .u64 a 1)).bind fun r=>
(F60 wide r (IntKind.u64.wrap (by_-1)) left_).bind fun r=>some r
else 
(F60 wide (bShr .u64 a 1) (IntKind.u64.wrap (by_-1)) left_).bind fun r=>some r
else 
 some a:=tL FxK
theorem FxE(wide a by_ left_):Fx wide a by_ left_=
 bif decide (by_≥(IntKind.u64.wrap wide))then
 some 0
else 
(F60 wide a by_ left_).bind fun r=>
 some r:=tC
theorem F1tE(is):F1t is=
 bif is then
 some 1
else 
 some 0:=tC
theorem F3vE(wide a):F3v wide a=
 bif decide ((IntKind.u64.wrap (IntKind.i64.wrap (wide-1)))<0)then
 none
else 
 bif ((bAnd .u64 (bShr .u64 a (IntKind.u64.wrap (IntKind.i64.wrap (wide-1)))) 1)==1)then
(F12 wide 18446744073709551615).bind fun r=>
 some (IntKind.i64.wrap (bOr .u64 a (bXor .u64 18446744073709551615 r)))
else 
 some (IntKind.i64.wrap a):=tC
theorem F5mE(wide op a b):F5m wide op a b=
(F6r wide a b).bind fun r=>
 bif (op==3)then
(F12 wide (IntKind.u64.wrap (a+b))).bind fun r1=>
 some r1
else 
 bif (op==4)then
(F12 wide (IntKind.u64.wrap (a-b))).bind fun r2=>
 some r2
else 
 bif (op==5)then
(F12 wide (IntKind.u64.wrap (a*b))).bind fun r3=>
 some r3
else 
 bif (op==6)then
 some r.1
else 
 bif (op==7)then
 some r.2.1
else 
 bif (op==8)then
 bif (op==8)then
 some (bAnd .u64 a b)
else 
 bif (op==9)then
 bif (op==9)then
 some (bOr .u64 a b)
else 
 bif (op==10)then
 some (bXor .u64 a b)
else 
 bif (op==11)then
(Fx wide a b true).bind fun r4=>
 some r4
else 
 bif (op==12)then
(Fx wide a b false).bind fun r5=>
 some r5
else 
 bif (op==14)then
(F1t (a==b)).bind fun r6=>
 some r6
else 
 bif (op==15)then
(F1t (decide (a<b))).bind fun r7=>
 some r7
else 
 bif (op==16)then
(F3v wide a).bind fun r8=>
(F3v wide b).bind fun r9=>
(F1t (decide (r8<r9))).bind fun r10=>
 some r10
else 
 some 0
else 
 bif (op==18)then
 some (bOr .u64 a b)
else 
 bif (op==10)then
 some (bXor .u64 a b)
else 
 bif (op==11)then
(Fx wide a b true).bind fun r11=>
 some r11
else 
 bif (op==12)then
(Fx wide a b false).bind fun r12=>
 some r12
else 
 bif (op==14)then
(F1t (a==b)).bind fun r13=>
 some r13
else 
 bif (op==15)then
(F1t (decide (a<b))).bind fun r14=>
 some r14
else 
 bif (op==16)then
(F3v wide a).bind fun r15=>
(F3v wide b).bind fun r16=>
(F1t (decide (r15<r16))).bind fun r17=>
 some r17
else 
 some 0
else 
 bif (op==17)then
 some (bAnd .u64 a b)
else 
 bif (op==9)then
 bif (op==9)then
 some (bOr .u64 a b)
else 
 bif (op==10)then
 some (bXor .u64 a b)
else 
 bif (op==11)then
(Fx wide a b true).bind fun r18=>
 some r18
else 
 bif (op==12)then
(Fx wide a b false).bind fun r19=>
 some r19
else 
 bif (op==14)then
(F1t (a==b)).bind fun r20=>
 some r20
else 
 bif (op==15)then
(F1t (decide (a<b))).bind fun r21=>
 some r21
else 
 bif (op==16)then
(F3v wide a).bind fun r22=>
(F3v wide b).bind fun r23=>
(F1t (decide (r22<r23))).bind fun r24=>
 some r24
else 
 some 0
else 
 bif (op==18)then
 some (bOr .u64 a b)
else 
 bif (op==10)then
 some (bXor .u64 a b)
else 
 bif (op==11)then
(Fx wide a b true).bind fun r25=>
 some r25
else 
 bif (op==12)then
(Fx wide a b false).bind fun r26=>
 some r26
else 
 bif (op==14)then
(F1t (a==b)).bind fun r27=>
 some r27
else 
 bif (op==15)then
(F1t (decide (a<b))).bind fun r28=>
 some r28
else 
 bif (op==16)then
(F3v wide a).bind fun r29=>
(F3v wide b).bind fun r30=>
(F1t (decide (r29<r30))).bind fun r31=>
 some r31
else 
 some 0:=tC
theorem F43E(wide t k_ state):F43 wide t k_ state=
 bif decide (0≤k_)then
 bif decide (k_<(t.2.length:Int))then
(F4j ((t.2.getD (Int.toNat k_) (0,0)).1)).bind fun r=>
 bif (((t.2.getD (Int.toNat k_) (0,0)).1)==2)then
 bif decide (0≤((t.2.getD (Int.toNat k_) (0,0)).2))then
 bif decide (((t.2.getD (Int.toNat k_) (0,0)).2)<(state.2.length:Int))then
 some (state.2.getD (Int.toNat ((t.2.getD (Int.toNat k_) (0,0)).2)) 0)
else none
else none
else 
 bif (r.1==0)then
 some ((t.2.getD (Int.toNat k_) (0,0)).2)
else 
 bif (((t.2.getD (Int.toNat k_) (0,0)).1)==13)then
(F43 wide t (IntKind.i64.wrap (k_-1)) state).bind fun r1=>
(F12 wide (bXor .u64 18446744073709551615 r1)).bind fun r2=>
 some r2
else 
 bif (((t.2.getD (Int.toNat k_) (0,0)).1)==19)then
(F43 wide t (IntKind.i64.wrap (k_-1)) state).bind fun r3=>
 some (IntKind.u64.wrap (1-r3))
else 
(F2c t (IntKind.i64.wrap (k_-1))).bind fun r4=>
(F43 wide t (IntKind.i64.wrap (r4-1)) state).bind fun r5=>
(F43 wide t (IntKind.i64.wrap (k_-1)) state).bind fun r6=>
(F5m wide ((t.2.getD (Int.toNat k_) (0,0)).1) r5 r6).bind fun r7=>
 some r7
else none
else none:=tC
theorem F4lE(p t s):F4l p t s=
(F43 p.1 t (IntKind.i64.wrap ((t.2.length:Int)-1)) s).bind fun r=>
 some (r==1):=tC
theorem F6aE(no q out t9 t10 t11):F6a no q out t9 t10 t11=
 bif decide (t11<t10)then
 bif decide (0≤t11)then
 bif decide (t11<(t9.2.length:Int))then
(F1w q.1 no).bind fun r=>
(F4l q.1 (t9.2.getD (Int.toNat t11) (true,[])) (r.1,r.2)).bind fun r1=>
 bif r1 then
 bif decide ((IntKind.u64.wrap t11)<0)then
 none
else 
(F6a no q (bOr .i64 out (bShl .i64 1 (IntKind.u64.wrap t11))) t9 t10 (IntKind.i64.wrap (t11+1))).bind fun r=>some r
else 
(F6a no q out t9 t10 (IntKind.i64.wrap (t11+1))).bind fun r=>some r
else none
else none
else 
 some out:=tL F1rK
theorem F1rE(q no):F1r q no=
(F6a no q 0 q.2.1 (q.2.1.2.length:Int) 0).bind fun r=>
 some r:=tC
theorem F9oE(q v class_):F9o q v class_=
(F1v v).bind fun r=>
 bif decide (class_<r)then
(F1u v class_).bind fun r1=>
(F7x q v class_ (r1.1,r1.2) (r1.1,r1.2) (r1.2.length:Int) 0).bind fun r2=>
 match r2 with
| .inl y=>
 some (.inl y)
| .inr z=>
(F9o q v (IntKind.i64.wrap (class_+1))).bind fun r=>some r
else 
 some (.inr ()):=tL F1fK
theorem F7xE(q v class_ in_ t18 t19 t20):F7x q v class_ in_ t18 t19 t20=
 bif decide (t20<t19)then
 bif decide (0≤t20)then
 bif decide (t20<(t18.2.length:Int))then
(F1r q (t18.2.getD (Int.toNat t20) 0)).bind fun r=>
 bif decide (0<(in_.2.length:Int))then
(F1r q (in_.2.getD 0 0)).bind fun r1=>
 bif (r !=r1)then
 some (.inl false)
else 
(F7x q v class_ in_ t18 t19 (IntKind.i64.wrap (t20+1))).bind fun r=>some r
else none
else none
else none
else 
 some (.inr ()):=tL F1fK
theorem F1fE(q v):F1f q v=
(F9o q v 0).bind fun r=>
 match r with
| .inl y=>
 some y
| .inr z=>
 some true:=tC
theorem F8vE(guess node t9 t10 t11):F8v guess node t9 t10 t11=
 bif decide (t11<t10)then
 bif decide (0≤t11)then
 bif decide (t11<(t9.2.length:Int))then
 bif ((t9.2.getD (Int.toNat t11) 0)==node)then
 bif decide ((IntKind.u64.wrap t11)<0)then
 none
else 
 some (.inl ((bAnd .i64 (bShr .i64 guess (IntKind.u64.wrap t11)) 1)==1))
else 
(F8v guess node t9 t10 (IntKind.i64.wrap (t11+1))).bind fun r=>some r
else none
else none
else 
 some (.inr ()):=tL F1mK
theorem F1mE(Q0 guess node):F1m Q0 guess node=
(F8v guess node Q0 (Q0.2.length:Int) 0).bind fun r=>
 match r with
| .inl y=>
 some y
| .inr z=>
 some false:=tC
theorem F4rE(Q0 out t12 t13 t14):F4r Q0 out t12 t13 t14=
 bif decide (t14<t13)then
 bif decide (0≤t14)then
 bif decide (t14<(t12.2.length:Int))then
 bif (((t12.2.getD (Int.toNat t14) (0,0)).1) !=7)then
 bif (((t12.2.getD (Int.toNat t14) (0,0)).1) !=8)then
(F4r Q0 (out.1,out.2) t12 t13 (IntKind.i64.wrap (t14+1))).bind fun r=>some r
else 
(F28 Q0 (out.1,out.2) t14 (t12.2.getD (Int.toNat t14) (0,0)) (true,[]) 0 t12 t13 t14).bind fun r=>
 bif decide (out.2.length+[(r.1,r.2)].length ≤lim)then
(F4r Q0 ((out.1&&false),(out.2++[(r.1,r.2)])) t12 t13 (IntKind.i64.wrap (t14+1))).bind fun r=>some r
else none
else 
(F28 Q0 (out.1,out.2) t14 (t12.2.getD (Int.toNat t14) (0,0)) (true,[]) 0 t12 t13 t14).bind fun r1=>
 bif decide (out.2.length+[(r1.1,r1.2)].length ≤lim)then
(F4r Q0 ((out.1&&false),(out.2++[(r1.1,r1.2)])) t12 t13 (IntKind.i64.wrap (t14+1))).bind fun r=>some r
else none
else none
else none
else 
 some (out.1,out.2):=tL FdK
theorem F28E(Q0 out i n goal guess t12 t13 t14):F28 Q0 out i n goal guess t12 t13 t14=
 bif decide ((IntKind.u64.wrap (Q0.2.length:Int))<0)then
 none
else 
 bif decide (guess<(bShl .i64 1 (IntKind.u64.wrap (Q0.2.length:Int))))then
(F1m Q0 guess i).bind fun r=>
(F1m Q0 guess (IntKind.i64.wrap (i-1))).bind fun r1=>
 bif (n.1==7)then
 bif !r then
 bif decide (goal.2.length+[guess].length ≤lim)then
(F28 Q0 out i n ((goal.1&&false),(goal.2++[guess])) (IntKind.i64.wrap (guess+1)) t12 t13 t14).bind fun r=>some r
else none
else 
 bif r1 then
 bif decide (goal.2.length+[guess].length ≤lim)then
(F28 Q0 out i n ((goal.1&&false),(goal.2++[guess])) (IntKind.i64.wrap (guess+1)) t12 t13 t14).bind fun r=>some r
else none
else 
 bif (n.1==8)then
 bif r then
 bif decide (goal.2.length+[guess].length ≤lim)then
(F28 Q0 out i n ((goal.1&&false),(goal.2++[guess])) (IntKind.i64.wrap (guess+1)) t12 t13 t14).bind fun r=>some r
else none
else 
 bif !r1 then
 bif decide (goal.2.length+[guess].length ≤lim)then
(F28 Q0 out i n ((goal.1&&false),(goal.2++[guess])) (IntKind.i64.wrap (guess+1)) t12 t13 t14).bind fun r=>some r
else none
else 
(F28 Q0 out i n (goal.1,goal.2) (IntKind.i64.wrap (guess+1)) t12 t13 t14).bind fun r=>some r
else 
(F28 Q0 out i n (goal.1,goal.2) (IntKind.i64.wrap (guess+1)) t12 t13 t14).bind fun r=>some r
else 
 bif (n.1==8)then
 bif r then
 bif decide (goal.2.length+[guess].length ≤lim)then
(F28 Q0 out i n ((goal.1&&false),(goal.2++[guess])) (IntKind.i64.wrap (guess+1)) t12 t13 t14).bind fun r=>some r
else none
else 
 bif !r1 then
 bif decide (goal.2.length+[guess].length ≤lim)then
(F28 Q0 out i n ((goal.1&&false),(goal.2++[guess])) (IntKind.i64.wrap (guess+1)) t12 t13 t14).bind fun r=>some r
else none
else 
(F28 Q0 out i n (goal.1,goal.2) (IntKind.i64.wrap (guess+1)) t12 t13 t14).bind fun r=>some r
else 
(F28 Q0 out i n (goal.1,goal.2) (IntKind.i64.wrap (guess+1)) t12 t13 t14).bind fun r=>some r
else 
 some (goal.1,goal.2):=tL FdK
theorem FdE(f Q0):Fd f Q0=
(F4r Q0 (true,[]) f (f.2.length:Int) 0).bind fun r=>
 some (r.1,r.2):=tC
theorem F9cE(f from_ many):F9c f from_ many=
 bif decide (many>0)then
(F1q f (IntKind.i64.wrap (from_-1))).bind fun r=>
(F9c f r (IntKind.i64.wrap (many-1))).bind fun r=>some r
else 
 some from_:=tL F1qK
theorem F1qE(f k_):F1q f k_=
 bif decide (0≤k_)then
 bif decide (k_<(f.2.length:Int))then
(F50 ((f.2.getD (Int.toNat k_) (0,0)).1)).bind fun r=>
(F9c f k_ r).bind fun r1=>
 some r1
else none
else none:=tC
theorem F1nE(f Q0 letter next out t13 t14 t15):F1n f Q0 letter next out t13 t14 t15=
 bif decide (t15<t14)then
 bif decide (0≤t15)then
 bif decide (t15<(t13.2.length:Int))then
 bif (((t13.2.getD (Int.toNat t15) (0,0)).1)==1)then
 bif decide ((IntKind.u64.wrap ((t13.2.getD (Int.toNat t15) (0,0)).2))<0)then
 none
else 
 bif decide (out.2.length+[((bAnd .i64 (bShr .i64 letter (IntKind.u64.wrap ((t13.2.getD (Int.toNat t15) (0,0)).2))) 1)==1)].length ≤lim)then
(F1n f Q0 letter next ((out.1&&false),(out.2++[((bAnd .i64 (bShr .i64 letter (IntKind.u64.wrap ((t13.2.getD (Int.toNat t15) (0,0)).2))) 1)==1)])) t13 t14 (IntKind.i64.wrap (t15+1))).bind fun r=>some r
else none
else 
 bif (((t13.2.getD (Int.toNat t15) (0,0)).1)==2)then
 bif decide (out.2.length+[(((t13.2.getD (Int.toNat t15) (0,0)).2)==1)].length ≤lim)then
(F1n f Q0 letter next ((out.1&&false),(out.2++[(((t13.2.getD (Int.toNat t15) (0,0)).2)==1)])) t13 t14 (IntKind.i64.wrap (t15+1))).bind fun r=>some r
else none
else 
 bif (((t13.2.getD (Int.toNat t15) (0,0)).1)==3)then
 bif decide (0≤(IntKind.i64.wrap (t15-1)))then
 bif decide ((IntKind.i64.wrap (t15-1))<(out.2.length:Int))then
 bif decide (out.2.length+[!(out.2.getD (Int.toNat (IntKind.i64.wrap (t15-1))) false)].length ≤lim)then
(F1n f Q0 letter next ((out.1&&false),(out.2++[!(out.2.getD (Int.toNat (IntKind.i64.wrap (t15-1))) false)])) t13 t14 (IntKind.i64.wrap (t15+1))).bind fun r=>some r
else none
else none
else none
else 
 bif (((t13.2.getD (Int.toNat t15) (0,0)).1)==4)then
(F1m Q0 next (IntKind.i64.wrap (t15-1))).bind fun r=>
 bif decide (out.2.length+[r].length ≤lim)then
(F1n f Q0 letter next ((out.1&&false),(out.2++[r])) t13 t14 (IntKind.i64.wrap (t15+1))).bind fun r=>some r
else none
else 
 bif (((t13.2.getD (Int.toNat t15) (0,0)).1)==5)then
(F1q f (IntKind.i64.wrap (t15-1))).bind fun r1=>
 bif decide (0≤(IntKind.i64.wrap (r1-1)))then
 bif decide ((IntKind.i64.wrap (r1-1))<(out.2.length:Int))then
 bif (out.2.getD (Int.toNat (IntKind.i64.wrap (r1-1))) false)then
 bif decide (0≤(IntKind.i64.wrap (t15-1)))then
 bif decide ((IntKind.i64.wrap (t15-1))<(out.2.length:Int))then
 bif decide (out.2.length+[(out.2.getD (Int.toNat (IntKind.i64.wrap (t15-1))) false)].length ≤lim)then
(F1n f Q0 letter next ((out.1&&false),(out.2++[(out.2.getD (Int.toNat (IntKind.i64.wrap (t15-1))) false)])) t13 t14 (IntKind.i64.wrap (t15+1))).bind fun r=>some r
else none
else none
else none
else 
 bif decide (out.2.length+[false].length ≤lim)then
(F1n f Q0 letter next ((out.1&&false),(out.2++[false])) t13 t14 (IntKind.i64.wrap (t15+1))).bind fun r=>some r
else none
else none
else none
else 
 bif (((t13.2.getD (Int.toNat t15) (0,0)).1)==6)then
(F1q f (IntKind.i64.wrap (t15-1))).bind fun r2=>
 bif decide (0≤(IntKind.i64.wrap (r2-1)))then
 bif decide ((IntKind.i64.wrap (r2-1))<(out.2.length:Int))then
 bif (out.2.getD (Int.toNat (IntKind.i64.wrap (r2-1))) false)then
 bif decide (out.2.length+[true].length ≤lim)then
(F1n f Q0 letter next ((out.1&&false),(out.2++[true])) t13 t14 (IntKind.i64.wrap (t15+1))).bind fun r=>some r
else none
else 
 bif decide (0≤(IntKind.i64.wrap (t15-1)))then
 bif decide ((IntKind.i64.wrap (t15-1))<(out.2.length:Int))then
 bif decide (out.2.length+[(out.2.getD (Int.toNat (IntKind.i64.wrap (t15-1))) false)].length ≤lim)then
(F1n f Q0 letter next ((out.1&&false),(out.2++[(out.2.getD (Int.toNat (IntKind.i64.wrap (t15-1))) false)])) t13 t14 (IntKind.i64.wrap (t15+1))).bind fun r=>some r
else none
else none
else none
else none
else none
else 
 bif (((t13.2.getD (Int.toNat t15) (0,0)).1)==7)then
 bif decide (0≤(IntKind.i64.wrap (t15-1)))then
 bif decide ((IntKind.i64.wrap (t15-1))<(out.2.length:Int))then
 bif (out.2.getD (Int.toNat (IntKind.i64.wrap (t15-1))) false)then
 bif decide (out.2.length+[true].length ≤lim)then
(F1n f Q0 letter next ((out.1&&false),(out.2++[true])) t13 t14 (IntKind.i64.wrap (t15+1))).bind fun r=>some r
else none
else 
(F1q f (IntKind.i64.wrap (t15-1))).bind fun r3=>
 bif decide (0≤(IntKind.i64.wrap (r3-1)))then
 bif decide ((IntKind.i64.wrap (r3-1))<(out.2.length:Int))then
 bif (out.2.getD (Int.toNat (IntKind.i64.wrap (r3-1))) false)then
(F1m Q0 next t15).bind fun r4=>
 bif decide (out.2.length+[r4].length ≤lim)then
(F1n f Q0 letter next ((out.1&&false),(out.2++[r4])) t13 t14 (IntKind.i64.wrap (t15+1))).bind fun r=>some r
else none
else 
 bif decide (out.2.length+[false].length ≤lim)then
(F1n f Q0 letter next ((out.1&&false),(out.2++[false])) t13 t14 (IntKind.i64.wrap (t15+1))).bind fun r=>some r
else none
else none
else none
else none
else none
else 
 bif (((t13.2.getD (Int.toNat t15) (0,0)).1)==8)then
 bif decide (0≤(IntKind.i64.wrap (t15-1)))then
 bif decide ((IntKind.i64.wrap (t15-1))<(out.2.length:Int))then
 bif (out.2.getD (Int.toNat (IntKind.i64.wrap (t15-1))) false)then
(F1q f (IntKind.i64.wrap (t15-1))).bind fun r5=>
 bif decide (0≤(IntKind.i64.wrap (r5-1)))then
 bif decide ((IntKind.i64.wrap (r5-1))<(out.2.length:Int))then
 bif (out.2.getD (Int.toNat (IntKind.i64.wrap (r5-1))) false)then
 bif decide (out.2.length+[true].length ≤lim)then
(F1n f Q0 letter next ((out.1&&false),(out.2++[true])) t13 t14 (IntKind.i64.wrap (t15+1))).bind fun r=>some r
else none
else 
(F1m Q0 next t15).bind fun r6=>
 bif decide (out.2.length+[r6].length ≤lim)then
(F1n f Q0 letter next ((out.1&&false),(out.2++[r6])) t13 t14 (IntKind.i64.wrap (t15+1))).bind fun r=>some r
else none
else none
else none
else 
 bif decide (out.2.length+[false].length ≤lim)then
(F1n f Q0 letter next ((out.1&&false),(out.2++[false])) t13 t14 (IntKind.i64.wrap (t15+1))).bind fun r=>some r
else none
else none
else none
else 
 bif decide (out.2.length+[false].length ≤lim)then
(F1n f Q0 letter next ((out.1&&false),(out.2++[false])) t13 t14 (IntKind.i64.wrap (t15+1))).bind fun r=>some r
else none
else none
else none
else 
 some (out.1,out.2):=tL FoK
theorem FoE(f Q0 letter next):Fo f Q0 letter next=
(F1n f Q0 letter next (true,[]) f (f.2.length:Int) 0).bind fun r=>
 some (r.1,r.2):=tC
theorem F6kE(now guess t18 t19 t20):F6k now guess t18 t19 t20=
 bif decide (t20<t19)then
 bif decide (0≤t20)then
 bif decide (t20<(t18.2.length:Int))then
 bif decide (0≤(t18.2.getD (Int.toNat t20) 0))then
 bif decide ((t18.2.getD (Int.toNat t20) 0)<(now.2.length:Int))then
 bif (now.2.getD (Int.toNat (t18.2.getD (Int.toNat t20) 0)) false)then
 bif decide ((IntKind.u64.wrap t20)<0)then
 none
else 
(F6k now (bOr .i64 guess (bShl .i64 1 (IntKind.u64.wrap t20))) t18 t19 (IntKind.i64.wrap (t20+1))).bind fun r=>some r
else 
(F6k now guess t18 t19 (IntKind.i64.wrap (t20+1))).bind fun r=>some r
else none
else none
else none
else none
else 
 some guess:=tL F2jK
theorem F2jE(f Q0 letter next):F2j f Q0 letter next=
(Fo f Q0 letter next).bind fun r=>
(F6k (r.1,r.2) 0 Q0 (Q0.2.length:Int) 0).bind fun r1=>
 some r1:=tC
theorem F5aE(f not t4 Q0 many out_0 out_1 out_2 out_3 guess):F5a f not t4 Q0 many out_0 out_1 out_2 out_3 guess=
 bif decide (guess<many)then
(F1m Q0 guess (IntKind.i64.wrap ((f.2.length:Int)-1))).bind fun r=>
 bif !(r==not)then
 bif decide (out_1.2.length+[guess].length ≤lim)then
(F5k f not t4 Q0 many out_0 ((out_1.1&&false),(out_1.2++[guess])) (out_2.1,out_2.2) (out_3.1,out_3.2) guess 0).bind fun r1=>
(F5a f not t4 Q0 many r1.1 (r1.2.1.1,r1.2.1.2) (r1.2.2.1.1,r1.2.2.1.2) (r1.2.2.2.1,r1.2.2.2.2) (IntKind.i64.wrap (guess+1))).bind fun r=>some r
else none
else 
(F5k f not t4 Q0 many out_0 (out_1.1,out_1.2) (out_2.1,out_2.2) (out_3.1,out_3.2) guess 0).bind fun r2=>
(F5a f not t4 Q0 many r2.1 (r2.2.1.1,r2.2.1.2) (r2.2.2.1.1,r2.2.2.1.2) (r2.2.2.2.1,r2.2.2.2.2) (IntKind.i64.wrap (guess+1))).bind fun r=>some r
else 
 some (out_0,((out_1.1,out_1.2),((out_2.1,out_2.2),(out_3.1,out_3.2)))):=tL FkK
theorem F5kE(f not t4 Q0 many out_0 out_1 out_2 out_3 guess letter):F5k f not t4 Q0 many out_0 out_1 out_2 out_3 guess letter=
 bif decide (letter<8)then
(F72 f not t4 Q0 many out_0 (out_1.1,out_1.2) (out_2.1,out_2.2) (out_3.1,out_3.2) guess letter 0).bind fun r=>
(F5k f not t4 Q0 many r.1 (r.2.1.1,r.2.1.2) (r.2.2.1.1,r.2.2.1.2) (r.2.2.2.1,r.2.2.2.2) guess (IntKind.i64.wrap (letter+1))).bind fun r=>some r
else 
 some (out_0,((out_1.1,out_1.2),((out_2.1,out_2.2),(out_3.1,out_3.2)))):=tL FkK
theorem F72E(f not t4 Q0 many out_0 out_1 out_2 out_3 guess letter next):F72 f not t4 Q0 many out_0 out_1 out_2 out_3 guess letter next=
 bif decide (next<many)then
(F2j f Q0 letter next).bind fun r=>
 bif (r==guess)then
 bif decide (out_2.2.length+[(guess,(letter,next))].length ≤lim)then
(F72 f not t4 Q0 many out_0 (out_1.1,out_1.2) ((out_2.1&&false),(out_2.2++[(guess,(letter,next))])) (out_3.1,out_3.2) guess letter (IntKind.i64.wrap (next+1))).bind fun r=>some r
else none
else 
(F72 f not t4 Q0 many out_0 (out_1.1,out_1.2) (out_2.1,out_2.2) (out_3.1,out_3.2) guess letter (IntKind.i64.wrap (next+1))).bind fun r=>some r
else 
 some (out_0,((out_1.1,out_1.2),((out_2.1,out_2.2),(out_3.1,out_3.2)))):=tL FkK
theorem FkE(f not):Fk f not=
(F19 f).bind fun r=>
 bif decide ((IntKind.u64.wrap (r.2.length:Int))<0)then
 none
else 
(Fd f r).bind fun r1=>
(F5a f not (0,((true,[]),((true,[]),(true,[])))) r (bShl .i64 1 (IntKind.u64.wrap (r.2.length:Int))) (bShl .i64 1 (IntKind.u64.wrap (r.2.length:Int))) (true,[]) (true,[]) (r1.1,r1.2) 0).bind fun r2=>
 some (r2.1,((r2.2.1.1,r2.2.1.2),((r2.2.2.1.1,r2.2.2.1.2),(r2.2.2.2.1,r2.2.2.2.2)))):=tC
theorem F59E(q v class_):F59 q v class_=
(F1u v class_).bind fun r=>
 bif decide (0<(r.2.length:Int))then
(F1r q (r.2.getD 0 0)).bind fun r1=>
 some r1
else none:=tC
theorem F5gE(s p out t9 t10 t11):F5g s p out t9 t10 t11=
 bif decide (t11<t10)then
 bif decide (0≤t11)then
 bif decide (t11<(t9.2.length:Int))then
(F4l p ((t9.2.getD (Int.toNat t11) ((true,[]),(true,[]))).1) s).bind fun r=>
 bif r then
 bif decide (out.2.length+[t11].length ≤lim)then
(F5g s p ((out.1&&false),(out.2++[t11])) t9 t10 (IntKind.i64.wrap (t11+1))).bind fun r=>some r
else none
else 
(F5g s p (out.1,out.2) t9 t10 (IntKind.i64.wrap (t11+1))).bind fun r=>some r
else none
else none
else 
 some (out.1,out.2):=tL F2iK
theorem F2iE(p s):F2i p s=
(F5g s p (true,[]) p.2.2.2 (p.2.2.2.2.length:Int) 0).bind fun r=>
 some (r.1,r.2):=tC
theorem F9zE(s p out t18 t19 t20):F9z s p out t18 t19 t20=
 bif decide (t20<t19)then
 bif decide (0≤t20)then
 bif decide (t20<(t18.2.length:Int))then
(F43 p.1 ((t18.2.getD (Int.toNat t20) (0,(true,[]))).2) (IntKind.i64.wrap (((((t18.2.getD (Int.toNat t20) (0,(true,[]))).2).2).length :Int)-1)) s).bind fun r=>
 bif decide (0≤((t18.2.getD (Int.toNat t20) (0,(true,[]))).1))then
 bif decide (((t18.2.getD (Int.toNat t20) (0,(true,[]))).1)<(out.2.length:Int))then
(F9z s p (out.1,(out.2.set (Int.toNat ((t18.2.getD (Int.toNat t20) (0,(true,[]))).1)) r)) t18 t19 (IntKind.i64.wrap (t20+1))).bind fun r=>some r
else none
else none
else none
else none
else 
 some (out.1,out.2):=tL F37K
theorem F37E(p s k_):F37 p s k_=
 bif decide (([]:List Int).length +s.2.length≤lim)then
 bif decide (0≤k_)then
 bif decide (k_<(p.2.2.2.2.length:Int))then
(F9z s p (false,([]++s.2)) ((p.2.2.2.2.getD (Int.toNat k_) ((true,[]),(true,[]))).2) ((((p.2.2.2.2.getD (Int.toNat k_) ((true,[]),(true,[]))).2).2).length :Int) 0).bind fun r=>
 some (r.1,r.2)
else none
else none
else none:=tC
theorem F7dE(s p n v):F7d s p n v=
 bif decide (v≥0)then
 bif decide ((IntKind.u64.wrap p.1)<0)then
 none
else 
 bif decide (0≤v)then
 bif decide (v<(s.2.length:Int))then
(F7d s p (IntKind.i64.wrap ((bShl .i64 n (IntKind.u64.wrap p.1))+(IntKind.i64.wrap (s.2.getD (Int.toNat v) 0)))) (IntKind.i64.wrap (v-1))).bind fun r=>some r
else none
else none
else 
 some n:=tL F3rK
theorem F3rE(p s):F3r p s=
(F7d s p 0 (IntKind.i64.wrap (p.2.1-1))).bind fun r=>
 some r:=tC
theorem F9dE(no p s out t14 t15 t16):F9d no p s out t14 t15 t16=
 bif decide (t16<t15)then
 bif decide (0≤t16)then
 bif decide (t16<(t14.2.length:Int))then
(F37 p s (t14.2.getD (Int.toNat t16) 0)).bind fun r=>
(F3r p (r.1,r.2)).bind fun r1=>
(Ft out r1).bind fun r2=>
(F9d no p s r2 t14 t15 (IntKind.i64.wrap (t16+1))).bind fun r=>some r
else none
else none
else 
 some out:=tL F31K
theorem F31E(p no):F31 p no=
(F1w p no).bind fun r=>
(F2i p (r.1,r.2)).bind fun r1=>
(F9d no p (r.1,r.2) (true,[]) (r1.1,r1.2) (r1.2.length:Int) 0).bind fun r2=>
 bif ((r2.2.length:Int)==0)then
 some (false,[no])
else 
 some r2:=tC
theorem F95E(p out t10 t11 t12):F95 p out t10 t11 t12=
 bif decide (t12<t11)then
 bif decide (0≤t12)then
 bif decide (t12<(t10.2.length:Int))then
(F31 p (t10.2.getD (Int.toNat t12) 0)).bind fun r=>
(Fa1 p out t10 t11 t12 r (r.2.length:Int) 0).bind fun r1=>
(F95 p r1 t10 t11 (IntKind.i64.wrap (t12+1))).bind fun r=>some r
else none
else none
else 
 some out:=tL F1gK
theorem Fa1E(p out t10 t11 t12 t18 t19 t20):Fa1 p out t10 t11 t12 t18 t19 t20=
 bif decide (t20<t19)then
 bif decide (0≤t20)then
 bif decide (t20<(t18.2.length:Int))then
(Ft out (t18.2.getD (Int.toNat t20) 0)).bind fun r=>
(Fa1 p r t10 t11 t12 t18 t19 (IntKind.i64.wrap (t20+1))).bind fun r=>some r
else none
else none
else 
 some out:=tL F1gK
theorem F1gE(p some_):F1g p some_=
(F95 p (true,[]) some_ (some_.2.length:Int) 0).bind fun r=>
 some r:=tC
theorem F9fE(v out t8 t9 t10):F9f v out t8 t9 t10=
 bif decide (t10<t9)then
 bif decide (0≤t10)then
 bif decide (t10<(t8.2.length:Int))then
 bif decide (0≤(t8.2.getD (Int.toNat t10) 0))then
 bif decide ((t8.2.getD (Int.toNat t10) 0)<(v.2.length:Int))then
(Ft out (v.2.getD (Int.toNat (t8.2.getD (Int.toNat t10) 0)) 0)).bind fun r=>
(F9f v r t8 t9 (IntKind.i64.wrap (t10+1))).bind fun r=>some r
else none
else none
else none
else none
else 
 some out:=tL F2oK
theorem F2oE(v states):F2o v states=
(F9f v (true,[]) states (states.2.length:Int) 0).bind fun r=>
 some r:=tC
theorem F6jE(p v class_):F6j p v class_=
(F1u v class_).bind fun r=>
(F1g p (r.1,r.2)).bind fun r1=>
(F2o v r1).bind fun r2=>
 some r2:=tC
theorem F4wE(l):F4w l=
 bif decide (([]:List Int).length +l.2.length≤lim)then
 some (false,([]++l.2))
else none:=tC
theorem F7rE(out t10 t11 t12):F7r out t10 t11 t12=
 bif decide (t12<t11)then
 bif decide (0≤t12)then
 bif decide (t12<(t10.2.length:Int))then
(Ft out (t10.2.getD (Int.toNat t12) 0)).bind fun r=>
(F7r r t10 t11 (IntKind.i64.wrap (t12+1))).bind fun r=>some r
else none
else none
else 
 some out:=tL F34K
theorem F34E(a b):F34 a b=
(F4w a).bind fun r=>
(F7r (r.1,r.2) b (b.2.length:Int) 0).bind fun r1=>
 some r1:=tC
theorem F7pE(n out k_):F7p n out k_=
 bif decide (k_<n)then
 bif decide (out.2.length+[k_].length ≤lim)then
(F7p n ((out.1&&false),(out.2++[k_])) (IntKind.i64.wrap (k_+1))).bind fun r=>some r
else none
else 
 some (out.1,out.2):=tL F3fK
theorem F3fE(n):F3f n=
(F7p n (true,[]) 0).bind fun r=>
 some (r.1,r.2):=tC
theorem Fa2E(b many out t12 t13 t14):Fa2 b many out t12 t13 t14=
 bif decide (t14<t13)then
 bif decide (0≤t14)then
 bif decide (t14<(t12.2.length:Int))then
(F9j b many (out.1,out.2) (t12.2.getD (Int.toNat t14) 0) t12 t13 t14 b (b.2.length:Int) 0).bind fun r=>
(Fa2 b many (r.1,r.2) t12 t13 (IntKind.i64.wrap (t14+1))).bind fun r=>some r
else none
else none
else 
 some (out.1,out.2):=tL F14K
theorem F9jE(b many out i t12 t13 t14 t18 t19 t20):F9j b many out i t12 t13 t14 t18 t19 t20=
 bif decide (t20<t19)then
 bif decide (0≤t20)then
 bif decide (t20<(t18.2.length:Int))then
 bif decide (out.2.length+[IntKind.i64.wrap ((IntKind.i64.wrap (i*many))+(t18.2.getD (Int.toNat t20) 0))].length ≤lim)then
(F9j b many ((out.1&&false),(out.2++[IntKind.i64.wrap ((IntKind.i64.wrap (i*many))+(t18.2.getD (Int.toNat t20) 0))])) i t12 t13 t14 t18 t19 (IntKind.i64.wrap (t20+1))).bind fun r=>some r
else none
else none
else none
else 
 some (out.1,out.2):=tL F14K
theorem F14E(a b many):F14 a b many=
(Fa2 b many (true,[]) a (a.2.length:Int) 0).bind fun r=>
 some (r.1,r.2):=tC
theorem F63E(t p out no):F63 t p out no=
(F4t p).bind fun r=>
 bif decide (no<r)then
(F1w p no).bind fun r1=>
(F4l p t (r1.1,r1.2)).bind fun r2=>
 bif r2 then
 bif decide (out.2.length+[no].length ≤lim)then
(F63 t p ((out.1&&false),(out.2++[no])) (IntKind.i64.wrap (no+1))).bind fun r=>some r
else none
else 
(F63 t p (out.1,out.2) (IntKind.i64.wrap (no+1))).bind fun r=>some r
else 
 some (out.1,out.2):=tL F2rK
theorem F2rE(p t):F2r p t=
(F63 t p (true,[]) 0).bind fun r=>
 some (r.1,r.2):=tC
theorem F7eE(q v a many next k_):F7e q v a many next k_=
 bif decide (k_<many)then
(F59 q v k_).bind fun r=>
(F6j q.1 v k_).bind fun r1=>
(F5r q v a many (next.1,next.2) k_ r r1 a.2.2.1 (a.2.2.1.2.length:Int) 0).bind fun r2=>
(F7e q v a many (r2.1,r2.2) (IntKind.i64.wrap (k_+1))).bind fun r=>some r
else 
 some (next.1,next.2):=tL F6K
theorem F5rE(q v a many next k_ letter after t47 t48 t49):F5r q v a many next k_ letter after t47 t48 t49=
 bif decide (t49<t48)then
 bif decide (0≤t49)then
 bif decide (t49<(t47.2.length:Int))then
 bif ((((t47.2.getD (Int.toNat t49) (0,(0,0))).2).1)==letter)then
(F83 q v a many (next.1,next.2) k_ letter after (t47.2.getD (Int.toNat t49) (0,(0,0))) t47 t48 t49 after (after.2.length:Int) 0).bind fun r=>
(F5r q v a many (r.1,r.2) k_ letter after t47 t48 (IntKind.i64.wrap (t49+1))).bind fun r=>some r
else 
(F5r q v a many (next.1,next.2) k_ letter after t47 t48 (IntKind.i64.wrap (t49+1))).bind fun r=>some r
else none
else none
else 
 some (next.1,next.2):=tL F6K
theorem F83E(q v a many next k_ letter after e t47 t48 t49 t57 t58 t59):F83 q v a many next k_ letter after e t47 t48 t49 t57 t58 t59=
 bif decide (t59<t58)then
 bif decide (0≤t59)then
 bif decide (t59<(t57.2.length:Int))then
 bif decide (0≤(IntKind.i64.wrap ((IntKind.i64.wrap (k_*a.1))+e.1)))then
 bif decide ((IntKind.i64.wrap ((IntKind.i64.wrap (k_*a.1))+e.1))<(next.2.length:Int))then
 bif decide (((next.2.getD (Int.toNat (IntKind.i64.wrap ((IntKind.i64.wrap (k_*a.1))+e.1))) (true,[])).2).length +[IntKind.i64.wrap ((IntKind.i64.wrap ((t57.2.getD (Int.toNat t59) 0)*a.1))+e.2.2)].length ≤lim)then
 bif decide (0≤(IntKind.i64.wrap ((IntKind.i64.wrap (k_*a.1))+e.1)))then
 bif decide ((IntKind.i64.wrap ((IntKind.i64.wrap (k_*a.1))+e.1))<(next.2.length:Int))then
 bif ((Int.toNat (IntKind.i64.wrap ((IntKind.i64.wrap (k_*a.1))+e.1)))==(Int.toNat (IntKind.i64.wrap ((IntKind.i64.wrap (k_*a.1))+e.1))))then
(F83 q v a many (next.1,(next.2.set (Int.toNat (IntKind.i64.wrap ((IntKind.i64.wrap (k_*a.1))+e.1))) ((((next.2.getD (Int.toNat (IntKind.i64.wrap ((IntKind.i64.wrap (k_*a.1))+e.1))) (true,[])).1)&&false),(((next.2.getD (Int.toNat (IntKind.i64.wrap ((IntKind.i64.wrap (k_*a.1))+e.1))) (true,[])).2)++[IntKind.i64.wrap ((IntKind.i64.wrap ((t57.2.getD (Int.toNat t59) 0)*a.1))+e.2.2)])))) k_ letter after e t47 t48 t49 t57 t58 (IntKind.i64.wrap (t59+1))).bind fun r=>some r
else none
else none
else none
else none
else none
else none
else none
else none
else 
 some (next.1,next.2):=tL F6K
theorem F9gE(q v many next t94 t95):F9g q v many next t94 t95=
 bif decide (t95<t94)then
 bif decide (0≤t95)then
 bif decide (t95<(next.2.length:Int))then
(F34 (true,[]) (next.2.getD (Int.toNat t95) (true,[]))).bind fun r=>
 bif decide (0≤t95)then
 bif decide (t95<(next.2.length:Int))then
(F9g q v many (next.1,(next.2.set (Int.toNat t95) r)) t94 (IntKind.i64.wrap (t95+1))).bind fun r=>some r
else none
else none
else none
else none
else 
 some (next.1,next.2):=tL F6K
theorem F87E(q v a many next goals t108 t109 t110):F87 q v a many next goals t108 t109 t110=
 bif decide (t110<t109)then
 bif decide (0≤t110)then
 bif decide (t110<(t108.2.length:Int))then
(F3f many).bind fun r=>
(F14 (r.1,r.2) (t108.2.getD (Int.toNat t110) (true,[])) a.1).bind fun r1=>
 bif decide (goals.2.length+[(r1.1,r1.2)].length ≤lim)then
(F87 q v a many next ((goals.1&&false),(goals.2++[(r1.1,r1.2)])) t108 t109 (IntKind.i64.wrap (t110+1))).bind fun r=>some r
else none
else none
else none
else 
 some (goals.1,goals.2):=tL F6K
theorem F6E(q v):F6 q v=
(Fk q.2.2 true).bind fun r=>
(F1v v).bind fun r1=>
 bif decide (0≤(IntKind.i64.wrap (r1*r.1)))then
 bif decide ((IntKind.i64.wrap (r1*r.1))≤lim)then
 bif decide ((IntKind.i64.wrap (r1*r.1))≤(IntKind.i64.wrap (r1*r.1)))then
 bif decide ((IntKind.i64.wrap (r1*r.1))≤lim)then
(F7e q v (r.1,((r.2.1.1,r.2.1.2),((r.2.2.1.1,r.2.2.1.2),(r.2.2.2.1,r.2.2.2.2)))) r1 (false,(List.replicate (Int.toNat (IntKind.i64.wrap (r1*r.1))) ((true,[]):Bool×List Int))) 0).bind fun r2=>
(F9g q v r1 (r2.1,r2.2) (r2.2.length:Int) 0).bind fun r3=>
(F87 q v (r.1,((r.2.1.1,r.2.1.2),((r.2.2.1.1,r.2.2.1.2),(r.2.2.2.1,r.2.2.2.2)))) r1 (r3.1,r3.2) (true,[]) (r.2.2.2.1,r.2.2.2.2) (r.2.2.2.2.length:Int) 0).bind fun r4=>
(F2r q.1 q.1.2.2.1).bind fun r5=>
(F2o v (r5.1,r5.2)).bind fun r6=>
(F14 r6 (r.2.1.1,r.2.1.2) r.1).bind fun r7=>
 some ((r3.1,r3.2),((r7.1,r7.2),(r4.1,r4.2)))
else none
else none
else none
else none:=tC
theorem F88E(next from_ out t17 t18):F88 next from_ out t17 t18=
 bif decide (t18<t17)then
 bif decide (0≤t18)then
 bif decide (t18<(out.2.length:Int))then
(F88 next from_ (out.1,(out.2.set (Int.toNat t18) (-1))) t17 (IntKind.i64.wrap (t18+1))).bind fun r=>some r
else none
else none
else 
 some (out.1,out.2):=tL FcK
theorem F80E(next from_ out t25 t26 t27):F80 next from_ out t25 t26 t27=
 bif decide (t27<t26)then
 bif decide (0≤t27)then
 bif decide (t27<(t25.2.length:Int))then
 bif decide (0≤(t25.2.getD (Int.toNat t27) 0))then
 bif decide ((t25.2.getD (Int.toNat t27) 0)<(out.2.length:Int))then
(F80 next from_ (out.1,(out.2.set (Int.toNat (t25.2.getD (Int.toNat t27) 0)) 0)) t25 t26 (IntKind.i64.wrap (t27+1))).bind fun r=>some r
else none
else none
else none
else none
else 
 some (out.1,out.2):=tL FcK
theorem F96E(next out row_):F96 next out row_=
 bif decide ((row_.2.length:Int)>0)then
 bif decide (0<(row_.2.length:Int))then
 bif decide (1≤(row_.2.length:Int))then
 bif decide (0≤(row_.2.getD 0 0))then
 bif decide ((row_.2.getD 0 0)<(next.2.length:Int))then
(F5z next (out.1,out.2) (row_.1,((row_.2.take row_.2.length).drop 1)) (row_.2.getD 0 0) (next.2.getD (Int.toNat (row_.2.getD 0 0)) (true,[])) (((next.2.getD (Int.toNat (row_.2.getD 0 0)) (true,[])).2).length :Int) 0).bind fun r=>
(F96 next (r.1.1,r.1.2) (r.2.1,r.2.2)).bind fun r=>some r
else none
else none
else none
else none
else 
 some (out.1,out.2):=tL FcK
theorem F5zE(next out row_ k_ t48 t49 t50):F5z next out row_ k_ t48 t49 t50=
 bif decide (t50<t49)then
 bif decide (0≤t50)then
 bif decide (t50<(t48.2.length:Int))then
 bif decide (0≤(t48.2.getD (Int.toNat t50) 0))then
 bif decide ((t48.2.getD (Int.toNat t50) 0)<(out.2.length:Int))then
 bif decide ((out.2.getD (Int.toNat (t48.2.getD (Int.toNat t50) 0)) 0)<0)then
 bif decide (0≤k_)then
 bif decide (k_<(out.2.length:Int))then
 bif decide (0≤(t48.2.getD (Int.toNat t50) 0))then
 bif decide ((t48.2.getD (Int.toNat t50) 0)<(out.2.length:Int))then
 bif decide (row_.2.length+[(t48.2.getD (Int.toNat t50) 0)].length ≤lim)then
(F5z next (out.1,(out.2.set (Int.toNat (t48.2.getD (Int.toNat t50) 0)) (IntKind.i64.wrap ((out.2.getD (Int.toNat k_) 0)+1)))) ((row_.1&&false),(row_.2++[(t48.2.getD (Int.toNat t50) 0)])) k_ t48 t49 (IntKind.i64.wrap (t50+1))).bind fun r=>some r
else none
else none
else none
else none
else none
else 
(F5z next (out.1,out.2) (row_.1,row_.2) k_ t48 t49 (IntKind.i64.wrap (t50+1))).bind fun r=>some r
else none
else none
else none
else none
else 
 some ((out.1,out.2),(row_.1,row_.2)):=tL FcK
theorem FcE(next from_):Fc next from_=
 bif decide (0≤(next.2.length:Int))then
 bif decide ((next.2.length:Int)≤lim)then
 bif decide ((next.2.length:Int)≤(next.2.length:Int))then
 bif decide ((next.2.length:Int)≤lim)then
(F88 next from_ (false,(List.replicate (Int.toNat (next.2.length:Int)) (0:Int))) ((List.replicate (Int.toNat (next.2.length:Int)) (0:Int)).length :Int) 0).bind fun r=>
(F80 next from_ (r.1,r.2) from_ (from_.2.length:Int) 0).bind fun r1=>
(F4w from_).bind fun r2=>
(F96 next (r1.1,r1.2) (r2.1,r2.2)).bind fun r3=>
 some (r3.1,r3.2)
else none
else none
else none
else none:=tC
theorem F7tE(w_0 w_1 w_2 k_ t25 t26 t27):F7t w_0 w_1 w_2 k_ t25 t26 t27=
 bif decide (t27<t26)then
 bif decide (0≤t27)then
 bif decide (t27<(t25.2.length:Int))then
(F1z w_0 (w_1.1,w_1.2) (w_2.1,w_2.2) (t25.2.getD (Int.toNat t27) 0)).bind fun r=>
(F7t r.1 (r.2.1.1,r.2.1.2) (r.2.2.1,r.2.2.2) k_ t25 t26 (IntKind.i64.wrap (t27+1))).bind fun r=>some r
else none
else none
else 
 some (w_0,((w_1.1,w_1.2),(w_2.1,w_2.2))):=tL F1zK
theorem F1zE(a0_0 a0_1 a0_2 k_):F1z a0_0 a0_1 a0_2 k_=
 bif decide (0≤k_)then
 bif decide (k_<(a0_1.2.length:Int))then
 bif (a0_1.2.getD (Int.toNat k_) false)then
 some (a0_0,((a0_1.1,a0_1.2),(a0_2.1,a0_2.2)))
else 
 bif decide (0≤k_)then
 bif decide (k_<(a0_1.2.length:Int))then
 bif decide (0≤k_)then
 bif decide (k_<(a0_0.2.length:Int))then
(F7t a0_0 (a0_1.1,(a0_1.2.set (Int.toNat k_) true)) (a0_2.1,a0_2.2) k_ (a0_0.2.getD (Int.toNat k_) (true,[])) (((a0_0.2.getD (Int.toNat k_) (true,[])).2).length :Int) 0).bind fun r=>
 bif decide (r.2.2.2.length+[k_].length ≤lim)then
 some (r.1,((r.2.1.1,r.2.1.2),((r.2.2.1&&false),(r.2.2.2++[k_]))))
else none
else none
else none
else none
else none
else none
else none:=tC
theorem F8cE(out t11 t12 t13):F8c out t11 t12 t13=
 bif decide (t13<t12)then
 bif decide (0≤t13)then
 bif decide (t13<(t11.2.length:Int))then
(F7u (out.1,out.2) t13 t11 t12 t13 (t11.2.getD (Int.toNat t13) (true,[])) (((t11.2.getD (Int.toNat t13) (true,[])).2).length :Int) 0).bind fun r=>
(F8c (r.1,r.2) t11 t12 (IntKind.i64.wrap (t13+1))).bind fun r=>some r
else none
else none
else 
 some (out.1,out.2):=tL F13K
theorem F7uE(out k_ t11 t12 t13 t18 t19 t20):F7u out k_ t11 t12 t13 t18 t19 t20=
 bif decide (t20<t19)then
 bif decide (0≤t20)then
 bif decide (t20<(t18.2.length:Int))then
 bif decide (0≤(t18.2.getD (Int.toNat t20) 0))then
 bif decide ((t18.2.getD (Int.toNat t20) 0)<(out.2.length:Int))then
 bif decide (((out.2.getD (Int.toNat (t18.2.getD (Int.toNat t20) 0)) (true,[])).2).length +[k_].length ≤lim)then
 bif decide (0≤(t18.2.getD (Int.toNat t20) 0))then
 bif decide ((t18.2.getD (Int.toNat t20) 0)<(out.2.length:Int))then
 bif ((Int.toNat (t18.2.getD (Int.toNat t20) 0))==(Int.toNat (t18.2.getD (Int.toNat t20) 0)))then
(F7u (out.1,(out.2.set (Int.toNat (t18.2.getD (Int.toNat t20) 0)) ((((out.2.getD (Int.toNat (t18.2.getD (Int.toNat t20) 0)) (true,[])).1)&&false),(((out.2.getD (Int.toNat (t18.2.getD (Int.toNat t20) 0)) (true,[])).2)++[k_])))) k_ t11 t12 t13 t18 t19 (IntKind.i64.wrap (t20+1))).bind fun r=>some r
else none
else none
else none
else none
else none
else none
else none
else none
else 
 some (out.1,out.2):=tL F13K
theorem F13E(next):F13 next=
 bif decide (0≤(next.2.length:Int))then
 bif decide ((next.2.length:Int)≤lim)then
 bif decide ((next.2.length:Int)≤(next.2.length:Int))then
 bif decide ((next.2.length:Int)≤lim)then
(F8c (false,(List.replicate (Int.toNat (next.2.length:Int)) ((true,[]):Bool×List Int))) next (next.2.length:Int) 0).bind fun r=>
 some (r.1,r.2)
else none
else none
else none
else none:=tC
theorem F7oE(next w_0 w_1 w_2 t20 t21):F7o next w_0 w_1 w_2 t20 t21=
 bif decide (t21<t20)then
(F1z w_0 (w_1.1,w_1.2) (w_2.1,w_2.2) t21).bind fun r=>
(F7o next r.1 (r.2.1.1,r.2.1.2) (r.2.2.1,r.2.2.2) t20 (IntKind.i64.wrap (t21+1))).bind fun r=>some r
else 
 some (w_0,((w_1.1,w_1.2),(w_2.1,w_2.2))):=tL FbK
theorem F8wE(next w back_0 back_1 back_2 out i):F8w next w back_0 back_1 back_2 out i=
 bif decide (i≥0)then
 bif decide (0≤i)then
 bif decide (i<(w.2.2.2.length:Int))then
(F1z back_0 (back_1.1,back_1.2) (true,[]) (w.2.2.2.getD (Int.toNat i) 0)).bind fun r=>
(F73 next w (r.1,((r.2.1.1,r.2.1.2),(r.2.2.1,r.2.2.2))) (out.1,out.2) i (next.2.length:Int) (r.2.2.1,r.2.2.2) (r.2.2.2.length:Int) 0).bind fun r1=>
(F9y next w (r.1,((r.2.1.1,r.2.1.2),(r.2.2.1,r.2.2.2))) (out.1,out.2) i r1 (r.2.2.1,r.2.2.2) (r.2.2.2.length:Int) 0).bind fun r2=>
(F8w next w r.1 (r.2.1.1,r.2.1.2) (r.2.2.1,r.2.2.2) (r2.1,r2.2) (IntKind.i64.wrap (i-1))).bind fun r=>some r
else none
else none
else 
 some ((out.1,out.2),(back_0,((back_1.1,back_1.2),(back_2.1,back_2.2)))):=tL FbK
theorem F73E(next w back out i least t65 t66 t67):F73 next w back out i least t65 t66 t67=
 bif decide (t67<t66)then
 bif decide (0≤t67)then
 bif decide (t67<(t65.2.length:Int))then
 bif decide ((t65.2.getD (Int.toNat t67) 0)<least)then
(F73 next w back out i (t65.2.getD (Int.toNat t67) 0) t65 t66 (IntKind.i64.wrap (t67+1))).bind fun r=>some r
else 
(F73 next w back out i least t65 t66 (IntKind.i64.wrap (t67+1))).bind fun r=>some r
else none
else none
else 
 some least:=tL FbK
theorem F9yE(next w back out i least t79 t80 t81):F9y next w back out i least t79 t80 t81=
 bif decide (t81<t80)then
 bif decide (0≤t81)then
 bif decide (t81<(t79.2.length:Int))then
 bif decide (0≤(t79.2.getD (Int.toNat t81) 0))then
 bif decide ((t79.2.getD (Int.toNat t81) 0)<(out.2.length:Int))then
(F9y next w back (out.1,(out.2.set (Int.toNat (t79.2.getD (Int.toNat t81) 0)) least)) i least t79 t80 (IntKind.i64.wrap (t81+1))).bind fun r=>some r
else none
else none
else none
else none
else 
 some (out.1,out.2):=tL FbK
theorem FbE(next):Fb next=
 bif decide (0≤(next.2.length:Int))then
 bif decide ((next.2.length:Int)≤lim)then
 bif decide ((next.2.length:Int)≤(next.2.length:Int))then
 bif decide ((next.2.length:Int)≤lim)then
(F7o next next (false,(List.replicate (Int.toNat (next.2.length:Int)) (false:Bool))) (true,[]) (next.2.length:Int) 0).bind fun r=>
(F13 next).bind fun r1=>
 bif decide (0≤(next.2.length:Int))then
 bif decide ((next.2.length:Int)≤lim)then
 bif decide ((next.2.length:Int)≤(next.2.length:Int))then
 bif decide ((next.2.length:Int)≤lim)then
 bif decide (0≤(next.2.length:Int))then
 bif decide ((next.2.length:Int)≤lim)then
 bif decide ((next.2.length:Int)≤(next.2.length:Int))then
 bif decide ((next.2.length:Int)≤lim)then
(F8w next (r.1,((r.2.1.1,r.2.1.2),(r.2.2.1,r.2.2.2))) (r1.1,r1.2) (false,(List.replicate (Int.toNat (next.2.length:Int)) (false:Bool))) (true,[]) (false,(List.replicate (Int.toNat (next.2.length:Int)) (0:Int))) (IntKind.i64.wrap ((r.2.2.2.length:Int)-1))).bind fun r2=>
 some (r2.1.1,r2.1.2)
else none
else none
else none
else none
else none
else none
else none
else none
else none
else none
else none
else none:=tC
theorem F9sE(parts_ out t13 t14 t15):F9s parts_ out t13 t14 t15=
 bif decide (t15<t14)then
 bif decide (0≤t15)then
 bif decide (t15<(t13.2.length:Int))then
(F5s parts_ (out.1,out.2) t15 t13 t14 t15 (t13.2.getD (Int.toNat t15) (true,[])) (((t13.2.getD (Int.toNat t15) (true,[])).2).length :Int) 0).bind fun r=>
(F9s parts_ (r.1,r.2) t13 t14 (IntKind.i64.wrap (t15+1))).bind fun r=>some r
else none
else none
else 
 some (out.1,out.2):=tL FyK
theorem F5sE(parts_ out k_ t13 t14 t15 t20 t21 t22):F5s parts_ out k_ t13 t14 t15 t20 t21 t22=
 bif decide (t22<t21)then
 bif decide (0≤t22)then
 bif decide (t22<(t20.2.length:Int))then
 bif decide (0≤k_)then
 bif decide (k_<(parts_.2.length:Int))then
 bif decide (0≤(t20.2.getD (Int.toNat t22) 0))then
 bif decide ((t20.2.getD (Int.toNat t22) 0)<(parts_.2.length:Int))then
 bif ((parts_.2.getD (Int.toNat k_) 0)==(parts_.2.getD (Int.toNat (t20.2.getD (Int.toNat t22) 0)) 0))then
 bif decide (0≤k_)then
 bif decide (k_<(out.2.length:Int))then
 bif decide (((out.2.getD (Int.toNat k_) (true,[])).2).length +[(t20.2.getD (Int.toNat t22) 0)].length ≤lim)then
 bif decide (0≤k_)then
 bif decide (k_<(out.2.length:Int))then
 bif ((Int.toNat k_)==(Int.toNat k_))then
(F5s parts_ (out.1,(out.2.set (Int.toNat k_) ((((out.2.getD (Int.toNat k_) (true,[])).1)&&false),(((out.2.getD (Int.toNat k_) (true,[])).2)++[(t20.2.getD (Int.toNat t22) 0)])))) k_ t13 t14 t15 t20 t21 (IntKind.i64.wrap (t22+1))).bind fun r=>some r
else none
else none
else none
else none
else none
else none
else 
(F5s parts_ (out.1,out.2) k_ t13 t14 t15 t20 t21 (IntKind.i64.wrap (t22+1))).bind fun r=>some r
else none
else none
else none
else none
else none
else none
else 
 some (out.1,out.2):=tL FyK
theorem FyE(next parts_):Fy next parts_=
 bif decide (0≤(next.2.length:Int))then
 bif decide ((next.2.length:Int)≤lim)then
 bif decide ((next.2.length:Int)≤(next.2.length:Int))then
 bif decide ((next.2.length:Int)≤lim)then
(F9s parts_ (false,(List.replicate (Int.toNat (next.2.length:Int)) ((true,[]):Bool×List Int))) next (next.2.length:Int) 0).bind fun r=>
 some (r.1,r.2)
else none
else none
else none
else none:=tC
theorem F5lE(next goals parts_ arrow met t28 t29 t30):F5l next goals parts_ arrow met t28 t29 t30=
 bif decide (t30<t29)then
 bif decide (0≤t30)then
 bif decide (t30<(t28.2.length:Int))then
 bif decide (0≤t30)then
 bif decide (t30<(parts_.2.length:Int))then
 bif decide (0≤t30)then
 bif decide (t30<(parts_.2.length:Int))then
 bif decide (0≤(parts_.2.getD (Int.toNat t30) 0))then
 bif decide ((parts_.2.getD (Int.toNat t30) 0)<(arrow.2.length:Int))then
 bif (arrow.2.getD (Int.toNat (parts_.2.getD (Int.toNat t30) 0)) false)then
 bif decide (0≤(parts_.2.getD (Int.toNat t30) 0))then
 bif decide ((parts_.2.getD (Int.toNat t30) 0)<(arrow.2.length:Int))then
(F5l next goals parts_ (arrow.1,(arrow.2.set (Int.toNat (parts_.2.getD (Int.toNat t30) 0)) true)) met t28 t29 (IntKind.i64.wrap (t30+1))).bind fun r=>some r
else none
else none
else 
 bif decide (0≤(parts_.2.getD (Int.toNat t30) 0))then
 bif decide ((parts_.2.getD (Int.toNat t30) 0)<(arrow.2.length:Int))then
(F5l next goals parts_ (arrow.1,(arrow.2.set (Int.toNat (parts_.2.getD (Int.toNat t30) 0)) (decide ((((t28.2.getD (Int.toNat t30) (true,[])).2).length :Int)>0)))) met t28 t29 (IntKind.i64.wrap (t30+1))).bind fun r=>some r
else none
else none
else none
else none
else none
else none
else none
else none
else none
else none
else 
 some (arrow.1,arrow.2):=tL FaK
theorem F9eE(next goals parts_ arrow met t54 t55 t56):F9e next goals parts_ arrow met t54 t55 t56=
 bif decide (t56<t55)then
 bif decide (0≤t56)then
 bif decide (t56<(t54.2.length:Int))then
(F6h next goals parts_ arrow (met.1,met.2) t56 t54 t55 t56 (t54.2.getD (Int.toNat t56) (true,[])) (((t54.2.getD (Int.toNat t56) (true,[])).2).length :Int) 0).bind fun r=>
(F9e next goals parts_ arrow (r.1,r.2) t54 t55 (IntKind.i64.wrap (t56+1))).bind fun r=>some r
else none
else none
else 
 some (met.1,met.2):=tL FaK
theorem F6hE(next goals parts_ arrow met j t54 t55 t56 t61 t62 t63):F6h next goals parts_ arrow met j t54 t55 t56 t61 t62 t63=
 bif decide (t63<t62)then
 bif decide (0≤t63)then
 bif decide (t63<(t61.2.length:Int))then
 bif decide (0≤(t61.2.getD (Int.toNat t63) 0))then
 bif decide ((t61.2.getD (Int.toNat t63) 0)<(parts_.2.length:Int))then
 bif decide (0≤(parts_.2.getD (Int.toNat (t61.2.getD (Int.toNat t63) 0)) 0))then
 bif decide ((parts_.2.getD (Int.toNat (t61.2.getD (Int.toNat t63) 0)) 0)<(met.2.length:Int))then
 bif ((met.2.getD (Int.toNat (parts_.2.getD (Int.toNat (t61.2.getD (Int.toNat t63) 0)) 0)) 0)==j)then
 bif decide (0≤(t61.2.getD (Int.toNat t63) 0))then
 bif decide ((t61.2.getD (Int.toNat t63) 0)<(parts_.2.length:Int))then
 bif decide (0≤(parts_.2.getD (Int.toNat (t61.2.getD (Int.toNat t63) 0)) 0))then
 bif decide ((parts_.2.getD (Int.toNat (t61.2.getD (Int.toNat t63) 0)) 0)<(met.2.length:Int))then
(F6h next goals parts_ arrow (met.1,(met.2.set (Int.toNat (parts_.2.getD (Int.toNat (t61.2.getD (Int.toNat t63) 0)) 0)) (IntKind.i64.wrap (j+1)))) j t54 t55 t56 t61 t62 (IntKind.i64.wrap (t63+1))).bind fun r=>some r
else none
else none
else none
else none
else 
(F6h next goals parts_ arrow (met.1,met.2) j t54 t55 t56 t61 t62 (IntKind.i64.wrap (t63+1))).bind fun r=>some r
else none
else none
else none
else none
else none
else none
else 
 some (met.1,met.2):=tL FaK
theorem F4vE(goals parts_ arrow met out t87 t88):F4v goals parts_ arrow met out t87 t88=
 bif decide (t88<t87)then
 bif decide (0≤t88)then
 bif decide (t88<(parts_.2.length:Int))then
 bif decide (0≤(parts_.2.getD (Int.toNat t88) 0))then
 bif decide ((parts_.2.getD (Int.toNat t88) 0)<(arrow.2.length:Int))then
 bif (arrow.2.getD (Int.toNat (parts_.2.getD (Int.toNat t88) 0)) false)then
 bif decide (0≤t88)then
 bif decide (t88<(parts_.2.length:Int))then
 bif decide (0≤(parts_.2.getD (Int.toNat t88) 0))then
 bif decide ((parts_.2.getD (Int.toNat t88) 0)<(met.2.length:Int))then
 bif ((met.2.getD (Int.toNat (parts_.2.getD (Int.toNat t88) 0)) 0)==(goals.2.length:Int))then
 bif decide (out.2.length+[t88].length ≤lim)then
(F4v goals parts_ arrow met ((out.1&&false),(out.2++[t88])) t87 (IntKind.i64.wrap (t88+1))).bind fun r=>some r
else none
else 
(F4v goals parts_ arrow met (out.1,out.2) t87 (IntKind.i64.wrap (t88+1))).bind fun r=>some r
else none
else none
else none
else none
else 
(F4v goals parts_ arrow met (out.1,out.2) t87 (IntKind.i64.wrap (t88+1))).bind fun r=>some r
else none
else none
else none
else none
else 
 some (out.1,out.2):=tL FaK
theorem FaE(next goals):Fa next goals=
(Fb next).bind fun r=>
(Fy next (r.1,r.2)).bind fun r1=>
 bif decide (0≤(next.2.length:Int))then
 bif decide ((next.2.length:Int)≤lim)then
 bif decide ((next.2.length:Int)≤(next.2.length:Int))then
 bif decide ((next.2.length:Int)≤lim)then
 bif decide (0≤(next.2.length:Int))then
 bif decide ((next.2.length:Int)≤lim)then
 bif decide ((next.2.length:Int)≤(next.2.length:Int))then
 bif decide ((next.2.length:Int)≤lim)then
(F5l next goals (r.1,r.2) (false,(List.replicate (Int.toNat (next.2.length:Int)) (false:Bool))) (false,(List.replicate (Int.toNat (next.2.length:Int)) (0:Int))) (r1.1,r1.2) (r1.2.length:Int) 0).bind fun r2=>
(F9e next goals (r.1,r.2) (r2.1,r2.2) (false,(List.replicate (Int.toNat (next.2.length:Int)) (0:Int))) goals (goals.2.length:Int) 0).bind fun r3=>
(F4v goals (r.1,r.2) (r2.1,r2.2) (r3.1,r3.2) (true,[]) (next.2.length:Int) 0).bind fun r4=>
 some (r4.1,r4.2)
else none
else none
else none
else none
else none
else none
else none
else none:=tC
theorem F4cE(next far best t19 t20 t21):F4c next far best t19 t20 t21=
 bif decide (t21<t20)then
 bif decide (0≤t21)then
 bif decide (t21<(t19.2.length:Int))then
 bif decide (0≤(t19.2.getD (Int.toNat t21) 0))then
 bif decide ((t19.2.getD (Int.toNat t21) 0)<(far.2.length:Int))then
 bif decide ((far.2.getD (Int.toNat (t19.2.getD (Int.toNat t21) 0)) 0)≥0)then
 bif decide (best<0)then
(F4c next far (t19.2.getD (Int.toNat t21) 0) t19 t20 (IntKind.i64.wrap (t21+1))).bind fun r=>some r
else 
 bif decide (0≤(t19.2.getD (Int.toNat t21) 0))then
 bif decide ((t19.2.getD (Int.toNat t21) 0)<(far.2.length:Int))then
 bif decide (0≤best)then
 bif decide (best<(far.2.length:Int))then
 bif decide ((far.2.getD (Int.toNat (t19.2.getD (Int.toNat t21) 0)) 0)<(far.2.getD (Int.toNat best) 0))then
(F4c next far (t19.2.getD (Int.toNat t21) 0) t19 t20 (IntKind.i64.wrap (t21+1))).bind fun r=>some r
else 
(F4c next far best t19 t20 (IntKind.i64.wrap (t21+1))).bind fun r=>some r
else none
else none
else none
else none
else 
(F4c next far best t19 t20 (IntKind.i64.wrap (t21+1))).bind fun r=>some r
else none
else none
else none
else none
else 
 some best:=tL FgK
theorem F93E(next far best out):F93 next far best out=
 bif decide (0≤best)then
 bif decide (best<(far.2.length:Int))then
 bif decide ((far.2.getD (Int.toNat best) 0)>0)then
 bif decide (0≤best)then
 bif decide (best<(next.2.length:Int))then
(F9m next far best (out.1,out.2) (next.2.getD (Int.toNat best) (true,[])) (((next.2.getD (Int.toNat best) (true,[])).2).length :Int) 0).bind fun r=>
 bif decide (out.2.length+[r].length ≤lim)then
(F93 next far r ((out.1&&false),(out.2++[r]))).bind fun r=>some r
else none
else none
else none
else 
 some (out.1,out.2)
else none
else none:=tL FgK
theorem F9mE(next far best out t59 t60 t61):F9m next far best out t59 t60 t61=
 bif decide (t61<t60)then
 bif decide (0≤t61)then
 bif decide (t61<(t59.2.length:Int))then
 bif decide (0≤(t59.2.getD (Int.toNat t61) 0))then
 bif decide ((t59.2.getD (Int.toNat t61) 0)<(far.2.length:Int))then
 bif decide (0≤best)then
 bif decide (best<(far.2.length:Int))then
 bif ((far.2.getD (Int.toNat (t59.2.getD (Int.toNat t61) 0)) 0)==(IntKind.i64.wrap ((far.2.getD (Int.toNat best) 0)-1)))then
 some (t59.2.getD (Int.toNat t61) 0)
else 
(F9m next far best out t59 t60 (IntKind.i64.wrap (t61+1))).bind fun r=>some r
else none
else none
else none
else none
else none
else none
else 
 some best:=tL FgK
theorem FgE(next from_ to):Fg next from_ to=
(F13 next).bind fun r=>
(Fc (r.1,r.2) to).bind fun r1=>
(F4c next (r1.1,r1.2) (-1) from_ (from_.2.length:Int) 0).bind fun r2=>
 bif decide (r2<0)then
 some ((true,[]),false)
else 
(F93 next (r1.1,r1.2) r2 (false,[r2])).bind fun r3=>
 some ((r3.1,r3.2),true):=tC
theorem F4eE(next from_ goals far meet t32 t33 t34):F4e next from_ goals far meet t32 t33 t34=
 bif decide (t34<t33)then
 bif decide (0≤t34)then
 bif decide (t34<(t32.2.length:Int))then
 bif decide (0≤(t32.2.getD (Int.toNat t34) 0))then
 bif decide ((t32.2.getD (Int.toNat t34) 0)<(far.2.length:Int))then
 bif decide ((far.2.getD (Int.toNat (t32.2.getD (Int.toNat t34) 0)) 0)≥0)then
 bif decide (meet<0)then
(F4e next from_ goals far (t32.2.getD (Int.toNat t34) 0) t32 t33 (IntKind.i64.wrap (t34+1))).bind fun r=>some r
else 
 bif decide (0≤(t32.2.getD (Int.toNat t34) 0))then
 bif decide ((t32.2.getD (Int.toNat t34) 0)<(far.2.length:Int))then
 bif decide (0≤meet)then
 bif decide (meet<(far.2.length:Int))then
 bif decide ((far.2.getD (Int.toNat (t32.2.getD (Int.toNat t34) 0)) 0)<(far.2.getD (Int.toNat meet) 0))then
(F4e next from_ goals far (t32.2.getD (Int.toNat t34) 0) t32 t33 (IntKind.i64.wrap (t34+1))).bind fun r=>some r
else 
(F4e next from_ goals far meet t32 t33 (IntKind.i64.wrap (t34+1))).bind fun r=>some r
else none
else none
else none
else none
else 
(F4e next from_ goals far meet t32 t33 (IntKind.i64.wrap (t34+1))).bind fun r=>some r
else none
else none
else none
else none
else 
 some meet:=tL FjK
theorem F8bE(meet stem parts_ inner loop t77 t78 t79):F8b meet stem parts_ inner loop t77 t78 t79=
 bif decide (t79<t78)then
 bif decide (0≤t79)then
 bif decide (t79<(t77.2.length:Int))then
(F5i meet stem parts_ inner (loop.1,loop.2) (true,[]) t77 t78 t79 (t77.2.getD (Int.toNat t79) (true,[])) (((t77.2.getD (Int.toNat t79) (true,[])).2).length :Int) 0).bind fun r=>
 bif decide (0≤(IntKind.i64.wrap ((loop.2.length:Int)-1)))then
 bif decide ((IntKind.i64.wrap ((loop.2.length:Int)-1))≤(loop.2.length:Int))then
(Fg inner (loop.1,((loop.2.take loop.2.length).drop (Int.toNat (IntKind.i64.wrap ((loop.2.length:Int)-1))))) (r.1,r.2)).bind fun r1=>
 bif decide (1≤(r1.1.2.length:Int))then
 bif decide (loop.2.length+((r1.1.2.take r1.1.2.length).drop 1).length ≤lim)then
(F8b meet stem parts_ inner ((loop.1&&((r1.1.2.take r1.1.2.length).drop 1).isEmpty),(loop.2++((r1.1.2.take r1.1.2.length).drop 1))) t77 t78 (IntKind.i64.wrap (t79+1))).bind fun r=>some r
else none
else none
else none
else none
else none
else none
else 
 some (loop.1,loop.2):=tL FjK
theorem F5iE(meet stem parts_ inner loop in_ t77 t78 t79 t83 t84 t85):F5i meet stem parts_ inner loop in_ t77 t78 t79 t83 t84 t85=
 bif decide (t85<t84)then
 bif decide (0≤t85)then
 bif decide (t85<(t83.2.length:Int))then
 bif decide (0≤(t83.2.getD (Int.toNat t85) 0))then
 bif decide ((t83.2.getD (Int.toNat t85) 0)<(parts_.2.length:Int))then
 bif decide (0≤meet)then
 bif decide (meet<(parts_.2.length:Int))then
 bif ((parts_.2.getD (Int.toNat (t83.2.getD (Int.toNat t85) 0)) 0)==(parts_.2.getD (Int.toNat meet) 0))then
 bif decide (in_.2.length+[(t83.2.getD (Int.toNat t85) 0)].length ≤lim)then
(F5i meet stem parts_ inner loop ((in_.1&&false),(in_.2++[(t83.2.getD (Int.toNat t85) 0)])) t77 t78 t79 t83 t84 (IntKind.i64.wrap (t85+1))).bind fun r=>some r
else none
else 
(F5i meet stem parts_ inner loop (in_.1,in_.2) t77 t78 t79 t83 t84 (IntKind.i64.wrap (t85+1))).bind fun r=>some r
else none
else none
else none
else none
else none
else none
else 
 some (in_.1,in_.2):=tL FjK
theorem FjE(next from_ goals):Fj next from_ goals=
(Fc next from_).bind fun r=>
(Fa next goals).bind fun r1=>
(F4e next from_ goals (r.1,r.2) (-1) (r1.1,r1.2) (r1.2.length:Int) 0).bind fun r2=>
 bif decide (r2<0)then
 some ((true,[]),((true,[]),false))
else 
(Fg next from_ (false,[r2])).bind fun r3=>
(Fb next).bind fun r4=>
(Fy next (r4.1,r4.2)).bind fun r5=>
(F8b r2 (r3.1.1,r3.1.2) (r4.1,r4.2) (r5.1,r5.2) (false,[r2]) goals (goals.2.length:Int) 0).bind fun r6=>
 bif decide (0≤(IntKind.i64.wrap ((r6.2.length:Int)-1)))then
 bif decide ((IntKind.i64.wrap ((r6.2.length:Int)-1))<(r6.2.length:Int))then
 bif decide (0≤(r6.2.getD (Int.toNat (IntKind.i64.wrap ((r6.2.length:Int)-1))) 0))then
 bif decide ((r6.2.getD (Int.toNat (IntKind.i64.wrap ((r6.2.length:Int)-1))) 0)<(r5.2.length:Int))then
(Fg (r5.1,r5.2) (r5.2.getD (Int.toNat (r6.2.getD (Int.toNat (IntKind.i64.wrap ((r6.2.length:Int)-1))) 0)) (true,[])) (false,[r2])).bind fun r7=>
 bif decide (0≤(IntKind.i64.wrap ((r3.1.2.length:Int)-1)))then
 bif decide ((IntKind.i64.wrap ((r3.1.2.length:Int)-1))≤(r3.1.2.length:Int))then
 bif decide (0≤(IntKind.i64.wrap ((r7.1.2.length:Int)-1)))then
 bif decide ((IntKind.i64.wrap ((r7.1.2.length:Int)-1))≤(r7.1.2.length:Int))then
 bif decide (r6.2.length+((r7.1.2.take (Int.toNat (IntKind.i64.wrap ((r7.1.2.length:Int)-1)))).drop 0).length ≤lim)then
 some ((r3.1.1,((r3.1.2.take (Int.toNat (IntKind.i64.wrap ((r3.1.2.length:Int)-1)))).drop 0)),(((r6.1&&((r7.1.2.take (Int.toNat (IntKind.i64.wrap ((r7.1.2.length:Int)-1)))).drop 0).isEmpty),(r6.2++((r7.1.2.take (Int.toNat (IntKind.i64.wrap ((r7.1.2.length:Int)-1)))).drop 0))),true))
else none
else none
else none
else none
else none
else none
else none
else none
else none:=tC
theorem F8rE(many out t8 t9 t10):F8r many out t8 t9 t10=
 bif decide (t10<t9)then
 bif decide (0≤t10)then
 bif decide (t10<(t8.2.length:Int))then
 bif (many==0)then
 none
else 
 bif decide (out.2.length+[IntKind.i64.wrap (Int.tdiv (t8.2.getD (Int.toNat t10) 0) many)].length ≤lim)then
(F8r many ((out.1&&false),(out.2++[IntKind.i64.wrap (Int.tdiv (t8.2.getD (Int.toNat t10) 0) many)])) t8 t9 (IntKind.i64.wrap (t10+1))).bind fun r=>some r
else none
else none
else none
else 
 some (out.1,out.2):=tL F2gK
theorem F2gE(l many):F2g l many=
(F8r many (true,[]) l (l.2.length:Int) 0).bind fun r=>
 some (r.1,r.2):=tC
theorem F66E(q v):F66 q v=
(F6 q v).bind fun r=>
(Fj (r.1.1,r.1.2) (r.2.1.1,r.2.1.2) (r.2.2.1,r.2.2.2)).bind fun r1=>
 bif !r1.2.2 then
 some ((true,[]),((true,[]),false))
else 
(F1v v).bind fun r2=>
 bif (r2==0)then
 none
else 
(F2g (r1.1.1,r1.1.2) (IntKind.i64.wrap (Int.tdiv (r.1.2.length:Int) r2))).bind fun r3=>
(F2g (r1.2.1.1,r1.2.1.2) (IntKind.i64.wrap (Int.tdiv (r.1.2.length:Int) r2))).bind fun r4=>
 some ((r3.1,r3.2),((r4.1,r4.2),true)):=tC
theorem F57E(q v):F57 q v=
(F56 q v).bind fun r=>
 bif !r then
 some ((true,[]),((true,[]),false))
else 
(F1f q v).bind fun r1=>
 bif !r1 then
 some ((true,[]),((true,[]),false))
else 
(F66 q v).bind fun r2=>
 some ((r2.1.1,r2.1.2),((r2.2.1.1,r2.2.1.2),r2.2.2)):=tC
theorem F4kE(n):F4k n=
 bif decide (n≥1)then
 some (decide (n≤64))
else 
 some false:=tC
theorem F52E(n):F52 n=
 bif decide (n≥1)then
 some (decide (n≤4))
else 
 some false:=tC
theorem F27E(op):F27 op=
 bif (op==1)then
 some (0,(0,1))
else 
 bif (op==2)then
 some (0,(0,1))
else 
 bif (op==20)then
 some (0,(0,2))
else 
 bif (op==13)then
 some (1,(1,1))
else 
 bif (op==19)then
 some (1,(2,2))
else 
 bif decide (op≥3)then
 bif decide (op≤12)then
 some (2,(1,1))
else 
 bif decide (op≥14)then
 bif decide (op≤16)then
 some (2,(1,2))
else 
 bif (op==17)then
 some (2,(2,2))
else 
 bif (op==18)then
 some (2,(2,2))
else 
 some (0,(0,0))
else 
 bif (op==17)then
 some (2,(2,2))
else 
 bif (op==18)then
 some (2,(2,2))
else 
 some (0,(0,0))
else 
 bif decide (op≥14)then
 bif decide (op≤16)then
 some (2,(1,2))
else 
 bif (op==17)then
 some (2,(2,2))
else 
 bif (op==18)then
 some (2,(2,2))
else 
 some (0,(0,0))
else 
 bif (op==17)then
 some (2,(2,2))
else 
 bif (op==18)then
 some (2,(2,2))
else 
 some (0,(0,0)):=tC
theorem F0E(wide):F0 wide=
 bif decide ((IntKind.i64.wrap (64-wide))<0)then
 none
else 
 some (bShr .u64 18446744073709551615 (IntKind.i64.wrap (64-wide))):=tC
theorem F4fE(wide a):F4f wide a=
(F4k wide).bind fun r=>
 bif r then
(F0 wide).bind fun r1=>
 some (decide (a≤r1))
else 
 some false:=tC
theorem F5hE(wide vars x):F5h wide vars x=
 bif (x.1==1)then
(F4f wide x.2).bind fun r=>
 some r
else 
 bif (x.1==2)then
 some (decide (x.2<(IntKind.u64.wrap vars)))
else 
 bif (x.1==20)then
 some (decide (x.2≤1))
else 
 some (x.2==0):=tC
theorem F5xE(own a1):F5x own a1=
 some (own !=a1):=tC
theorem F8pE(s f t7 t8):F8p s f t7 t8=
 bif decide (t8<t7)then
 bif decide (0≤t8)then
 bif decide (t8<(s.2.length:Int))then
(F5x (s.2.getD (Int.toNat t8) 0) f.1).bind fun r=>
 bif r then
 some (.inl t8)
else 
(F8p s f t7 (IntKind.i64.wrap (t8+1))).bind fun r=>some r
else none
else none
else 
 some (.inr ()):=tL F3qK
theorem F3qE(s f):F3q s f=
(F8p s f (s.2.length:Int) 0).bind fun r=>
 match r with
| .inl y=>
 some y
| .inr z=>
 some (-1):=tC
theorem F74E(s f):F74 s f=
(F3q s f).bind fun r=>
 some (decide (r≥0)):=tC
theorem F8iE(wide vars stack t33 t34 t35):F8i wide vars stack t33 t34 t35=
 bif decide (t35<t34)then
 bif decide (0≤t35)then
 bif decide (t35<(t33.2.length:Int))then
(F27 ((t33.2.getD (Int.toNat t35) (0,0)).1)).bind fun r=>
 bif (r.2.2==0)then
 some (.inl false)
else 
(F5h wide vars (t33.2.getD (Int.toNat t35) (0,0))).bind fun r1=>
 bif !r1 then
 some (.inl false)
else 
 bif decide ((IntKind.i64.wrap ((stack.2.length:Int)-r.1))<0)then
 some (.inl false)
else 
 bif decide (0≤(IntKind.i64.wrap ((stack.2.length:Int)-r.1)))then
 bif decide ((IntKind.i64.wrap ((stack.2.length:Int)-r.1))≤(stack.2.length:Int))then
(F74 (stack.1,((stack.2.take stack.2.length).drop (Int.toNat (IntKind.i64.wrap ((stack.2.length:Int)-r.1))))) (r.2.1,())).bind fun r2=>
 bif r2 then
 some (.inl false)
else 
 bif decide (0≤(IntKind.i64.wrap ((stack.2.length:Int)-r.1)))then
 bif decide ((IntKind.i64.wrap ((stack.2.length:Int)-r.1))≤(stack.2.length:Int))then
 bif decide (((stack.2.take (Int.toNat (IntKind.i64.wrap ((stack.2.length:Int)-r.1)))).drop 0).length +[r.2.2].length ≤lim)then
(F8i wide vars ((stack.1&&false),(((stack.2.take (Int.toNat (IntKind.i64.wrap ((stack.2.length:Int)-r.1)))).drop 0)++[r.2.2])) t33 t34 (IntKind.i64.wrap (t35+1))).bind fun r=>some r
else none
else none
else none
else none
else none
else none
else none
else 
 some (.inr (stack.1,stack.2)):=tL F1cK
theorem F1cE(wide vars t):F1c wide vars t=
(F4k wide).bind fun r=>
 bif !r then
 some false
else 
(F52 vars).bind fun r1=>
 bif !r1 then
 some false
else 
 bif decide ((t.2.length:Int)<1)then
 some false
else 
 bif decide ((t.2.length:Int)>48)then
 some false
else 
(F8i wide vars (false,[]) t (t.2.length:Int) 0).bind fun r2=>
 match r2 with
| .inl y=>
 some y
| .inr z=>
 some ((z.2.length:Int)==1):=tC
theorem F6eE(t):F6e t=
 bif decide (0≤(IntKind.i64.wrap ((t.2.length:Int)-1)))then
 bif decide ((IntKind.i64.wrap ((t.2.length:Int)-1))<(t.2.length:Int))then
(F27 ((t.2.getD (Int.toNat (IntKind.i64.wrap ((t.2.length:Int)-1))) (0,0)).1)).bind fun r=>
 some r.2.2
else none
else none:=tC
theorem F49E(wide vars t kind):F49 wide vars t kind=
(F1c wide vars t).bind fun r=>
 bif r then
(F6e t).bind fun r1=>
 some (r1==kind)
else 
 some false:=tC
theorem F4iE(p t):F4i p t=
(F49 p.1 p.2.1 t 2).bind fun r=>
 some r:=tC
theorem F6wE(p c t13 t14 t15):F6w p c t13 t14 t15=
 bif decide (t15<t14)then
 bif decide (0≤t15)then
 bif decide (t15<(t13.2.length:Int))then
 bif decide (((t13.2.getD (Int.toNat t15) (0,(true,[]))).1)<0)then
 some (.inl false)
else 
 bif decide (((t13.2.getD (Int.toNat t15) (0,(true,[]))).1)≥p.2.1)then
 some (.inl false)
else 
 bif decide (t15>0)then
 bif decide (0≤(IntKind.i64.wrap (t15-1)))then
 bif decide ((IntKind.i64.wrap (t15-1))<(c.2.2.length:Int))then
 bif decide (((c.2.2.getD (Int.toNat (IntKind.i64.wrap (t15-1))) (0,(true,[]))).1)≥((t13.2.getD (Int.toNat t15) (0,(true,[]))).1))then
 some (.inl false)
else 
(F49 p.1 p.2.1 ((t13.2.getD (Int.toNat t15) (0,(true,[]))).2) 1).bind fun r=>
 bif !r then
 some (.inl false)
else 
(F6w p c t13 t14 (IntKind.i64.wrap (t15+1))).bind fun r=>some r
else none
else none
else 
(F49 p.1 p.2.1 ((t13.2.getD (Int.toNat t15) (0,(true,[]))).2) 1).bind fun r1=>
 bif !r1 then
 some (.inl false)
else 
(F6w p c t13 t14 (IntKind.i64.wrap (t15+1))).bind fun r=>some r
else none
else none
else 
 some (.inr ()):=tL F2nK
theorem F2nE(p c):F2n p c=
(F4i p c.1).bind fun r=>
 bif !r then
 some false
else 
(F6w p c c.2 (c.2.2.length:Int) 0).bind fun r1=>
 match r1 with
| .inl y=>
 some y
| .inr z=>
 some true:=tC
theorem F5qE(c a1):F5q c a1=
(F2n a1 c).bind fun r=>
 some (!r):=tC
theorem F9tE(s f t7 t8):F9t s f t7 t8=
 bif decide (t8<t7)then
 bif decide (0≤t8)then
 bif decide (t8<(s.2.length:Int))then
(F5q (s.2.getD (Int.toNat t8) ((true,[]),(true,[]))) f.1).bind fun r=>
 bif r then
 some (.inl t8)
else 
(F9t s f t7 (IntKind.i64.wrap (t8+1))).bind fun r=>some r
else none
else none
else 
 some (.inr ()):=tL F38K
theorem F38E(s f):F38 s f=
(F9t s f (s.2.length:Int) 0).bind fun r=>
 match r with
| .inl y=>
 some y
| .inr z=>
 some (-1):=tC
theorem F5tE(s f):F5t s f=
(F38 s f).bind fun r=>
 some (decide (r≥0)):=tC
theorem F41E(p):F41 p=
(F4k p.1).bind fun r=>
 bif !r then
 some false
else 
(F52 p.2.1).bind fun r1=>
 bif !r1 then
 some false
else 
(F4i p p.2.2.1).bind fun r2=>
 bif !r2 then
 some false
else 
 bif decide ((p.2.2.2.2.length:Int)<1)then
 some false
else 
 bif decide ((p.2.2.2.2.length:Int)>6)then
 some false
else 
(F5t p.2.2.2 (p,())).bind fun r3=>
 some (!r3):=tC
theorem F4sE(p):F4s p=
(F41 p).bind fun r=>
 bif r then
 some (decide ((IntKind.i64.wrap (p.1*p.2.1))≤5))
else 
 some false:=tC
theorem F4dE(op):F4d op=
 bif (op==1)then
 bif (op==1)then
 some 0
else 
 bif (op==3)then
 bif (op==3)then
 some 1
else 
 bif (op==5)then
 bif (op==5)then
 some 2
else 
 some (-1)
else 
 bif (op==6)then
 bif (op==6)then
 some 2
else 
 some (-1)
else 
 bif (op==7)then
 bif (op==7)then
 some 2
else 
 some (-1)
else 
 bif (op==8)then
 some 2
else 
 some (-1)
else 
 bif (op==4)then
 some 1
else 
 bif (op==5)then
 bif (op==5)then
 some 2
else 
 some (-1)
else 
 bif (op==6)then
 bif (op==6)then
 some 2
else 
 some (-1)
else 
 bif (op==7)then
 bif (op==7)then
 some 2
else 
 some (-1)
else 
 bif (op==8)then
 some 2
else 
 some (-1)
else 
 bif (op==2)then
 some 0
else 
 bif (op==3)then
 bif (op==3)then
 some 1
else 
 bif (op==5)then
 bif (op==5)then
 some 2
else 
 some (-1)
else 
 bif (op==6)then
 bif (op==6)then
 some 2
else 
 some (-1)
else 
 bif (op==7)then
 bif (op==7)then
 some 2
else 
 some (-1)
else 
 bif (op==8)then
 some 2
else 
 some (-1)
else 
 bif (op==4)then
 some 1
else 
 bif (op==5)then
 bif (op==5)then
 some 2
else 
 some (-1)
else 
 bif (op==6)then
 bif (op==6)then
 some 2
else 
 some (-1)
else 
 bif (op==7)then
 bif (op==7)then
 some 2
else 
 some (-1)
else 
 bif (op==8)then
 some 2
else 
 some (-1):=tC
theorem F77E(x):F77 x=
 bif (x.1==1)then
 bif decide (x.2≥0)then
 some (decide (x.2<3))
else 
 some false
else 
 bif (x.1==2)then
 bif (x.2==0)then
 some true
else 
 some (x.2==1)
else 
(F4d x.1).bind fun r=>
 bif decide (r>0)then
 some (x.2==0)
else 
 some false:=tC
theorem F8gE(values t15 t16 t17):F8g values t15 t16 t17=
 bif decide (t17<t16)then
 bif decide (0≤t17)then
 bif decide (t17<(t15.2.length:Int))then
(F4d ((t15.2.getD (Int.toNat t17) (0,0)).1)).bind fun r=>
(F77 (t15.2.getD (Int.toNat t17) (0,0))).bind fun r1=>
 bif !r1 then
 some (.inl false)
else 
 bif decide (values<r)then
 some (.inl false)
else 
(F8g (IntKind.i64.wrap (values+(IntKind.i64.wrap (1-r)))) t15 t16 (IntKind.i64.wrap (t17+1))).bind fun r=>some r
else none
else none
else 
 some (.inr values):=tL F2tK
theorem F2tE(f):F2t f=
 bif decide ((f.2.length:Int)<1)then
 some false
else 
 bif decide ((f.2.length:Int)>16)then
 some false
else 
(F8g 0 f (f.2.length:Int) 0).bind fun r=>
 match r with
| .inl y=>
 some y
| .inr z=>
 some (z==1):=tC
theorem F4mE(s):F4m s=
 bif s.1 then
 some (true,[])
else 
 bif decide (([]:List Int).length +s.2.length≤lim)then
 some (false,([]++s.2))
else none:=tC
theorem F98E(out stack t10 t11 t12):F98 out stack t10 t11 t12=
 bif decide (t12<t11)then
 bif decide (0≤t12)then
 bif decide (t12<(t10.2.length:Int))then
(F4d ((t10.2.getD (Int.toNat t12) (0,0)).1)).bind fun r=>
 bif decide (0≤(IntKind.i64.wrap ((stack.2.length:Int)-r)))then
 bif decide ((IntKind.i64.wrap ((stack.2.length:Int)-r))≤(stack.2.length:Int))then
(F4m (stack.1,((stack.2.take stack.2.length).drop (Int.toNat (IntKind.i64.wrap ((stack.2.length:Int)-r)))))).bind fun r1=>
 bif decide (out.2.length+[(r1.1,r1.2)].length ≤lim)then
 bif decide (0≤(IntKind.i64.wrap ((stack.2.length:Int)-r)))then
 bif decide ((IntKind.i64.wrap ((stack.2.length:Int)-r))≤(stack.2.length:Int))then
 bif decide (((stack.2.take (Int.toNat (IntKind.i64.wrap ((stack.2.length:Int)-r)))).drop 0).length +[t12].length ≤lim)then
(F98 ((out.1&&false),(out.2++[(r1.1,r1.2)])) ((stack.1&&false),(((stack.2.take (Int.toNat (IntKind.i64.wrap ((stack.2.length:Int)-r)))).drop 0)++[t12])) t10 t11 (IntKind.i64.wrap (t12+1))).bind fun r=>some r
else none
else none
else none
else none
else none
else none
else none
else none
else 
 some (out.1,out.2):=tL F23K
theorem F23E(f):F23 f=
(F98 (false,[]) (false,[]) f (f.2.length:Int) 0).bind fun r=>
 some (r.1,r.2):=tC
theorem F4nE(s):F4n s=
(J9x s).bind fun r=>some r:=tC
theorem F4oE(s):F4o s=
(J1z s).bind fun r=>some r:=tC
theorem F45E(out operands t13 t14 t15):F45 out operands t13 t14 t15=
 bif decide (t15<t14)then
 bif decide (0≤t15)then
 bif decide (t15<(t13.2.length:Int))then
 bif (((t13.2.getD (Int.toNat t15) (0,0)).1)==7)then
 bif (((t13.2.getD (Int.toNat t15) (0,0)).1)==7)then
 bif decide (0≤t15)then
 bif decide (t15<(operands.2.length:Int))then
 bif decide (1<(((operands.2.getD (Int.toNat t15) (true,[])).2).length :Int))then
 bif decide (out.2.length+([t15,(((operands.2.getD (Int.toNat t15) (true,[])).2).getD 1 0)]:List Int).length ≤lim)then
(F45 ((out.1&&false),(out.2++[t15,(((operands.2.getD (Int.toNat t15) (true,[])).2).getD 1 0)])) operands t13 t14 (IntKind.i64.wrap (t15+1))).bind fun r=>some r
else none
else none
else none
else none
else 
 bif (((t13.2.getD (Int.toNat t15) (0,0)).1)==4)then
 bif decide (0≤t15)then
 bif decide (t15<(operands.2.length:Int))then
 bif decide (0<(((operands.2.getD (Int.toNat t15) (true,[])).2).length :Int))then
 bif decide (out.2.length+([(((operands.2.getD (Int.toNat t15) (true,[])).2).getD 0 0)]:List Int).length ≤lim)then
(F45 ((out.1&&false),(out.2++[(((operands.2.getD (Int.toNat t15) (true,[])).2).getD 0 0)])) operands t13 t14 (IntKind.i64.wrap (t15+1))).bind fun r=>some r
else none
else none
else none
else none
else 
(F45 (out.1,out.2) operands t13 t14 (IntKind.i64.wrap (t15+1))).bind fun r=>some r
else 
 bif (((t13.2.getD (Int.toNat t15) (0,0)).1)==8)then
 bif decide (0≤t15)then
 bif decide (t15<(operands.2.length:Int))then
 bif decide (1<(((operands.2.getD (Int.toNat t15) (true,[])).2).length :Int))then
 bif decide (out.2.length+([t15,(((operands.2.getD (Int.toNat t15) (true,[])).2).getD 1 0)]:List Int).length ≤lim)then
(F45 ((out.1&&false),(out.2++[t15,(((operands.2.getD (Int.toNat t15) (true,[])).2).getD 1 0)])) operands t13 t14 (IntKind.i64.wrap (t15+1))).bind fun r=>some r
else none
else none
else none
else none
else 
 bif (((t13.2.getD (Int.toNat t15) (0,0)).1)==4)then
 bif decide (0≤t15)then
 bif decide (t15<(operands.2.length:Int))then
 bif decide (0<(((operands.2.getD (Int.toNat t15) (true,[])).2).length :Int))then
 bif decide (out.2.length+([(((operands.2.getD (Int.toNat t15) (true,[])).2).getD 0 0)]:List Int).length ≤lim)then
(F45 ((out.1&&false),(out.2++[(((operands.2.getD (Int.toNat t15) (true,[])).2).getD 0 0)])) operands t13 t14 (IntKind.i64.wrap (t15+1))).bind fun r=>some r
else none
else none
else none
else none
else 
(F45 (out.1,out.2) operands t13 t14 (IntKind.i64.wrap (t15+1))).bind fun r=>some r
else none
else none
else 
 some (out.1,out.2):=tL FrK
theorem FrE(f):Fr f=
(F23 f).bind fun r=>
(F45 (false,[IntKind.i64.wrap ((f.2.length:Int)-1)]) (r.1,r.2) f (f.2.length:Int) 0).bind fun r1=>
(F4n (r1.1,r1.2)).bind fun r2=>
(F4o (r2.1,r2.2)).bind fun r3=>
 some (r3.1,r3.2):=tC
theorem F6tE(f):F6t f=
(F2t f).bind fun r=>
 bif r then
(Fr f).bind fun r1=>
 some (decide ((r1.2.length:Int)≤5))
else 
 some false:=tC
theorem F64E(t a1):F64 t a1=
(F4i a1.1 t).bind fun r=>
 some (!r):=tC
theorem F7wE(s f t7 t8):F7w s f t7 t8=
 bif decide (t8<t7)then
 bif decide (0≤t8)then
 bif decide (t8<(s.2.length:Int))then
(F64 (s.2.getD (Int.toNat t8) (true,[])) f.1).bind fun r=>
 bif r then
 some (.inl t8)
else 
(F7w s f t7 (IntKind.i64.wrap (t8+1))).bind fun r=>some r
else none
else none
else 
 some (.inr ()):=tL F3uK
theorem F3uE(s f):F3u s f=
(F7w s f (s.2.length:Int) 0).bind fun r=>
 match r with
| .inl y=>
 some y
| .inr z=>
 some (-1):=tC
theorem F65E(s f):F65 s f=
(F3u s f).bind fun r=>
 some (decide (r≥0)):=tC
theorem F3yE(q):F3y q=
(F4s q.1).bind fun r=>
 bif !r then
 some false
else 
 bif ((q.2.1.2.length:Int) !=3)then
 some false
else 
(F6t q.2.2).bind fun r1=>
 bif !r1 then
 some false
else 
(F65 q.2.1 (q,())).bind fun r2=>
 some (!r2):=tC
theorem F55E(p):F55 p=
 bif decide ((IntKind.i64.wrap (p.1*p.2.1))<0)then
 none
else 
 some (bShl .i64 1 (IntKind.i64.wrap (p.1*p.2.1))):=tC
theorem F6uE(states v classes t9 t10 t11):F6u states v classes t9 t10 t11=
 bif decide (t11<t10)then
 bif decide (0≤t11)then
 bif decide (t11<(t9.2.length:Int))then
 bif decide ((t9.2.getD (Int.toNat t11) 0)<0)then
 some (.inl false)
else 
 bif decide ((t9.2.getD (Int.toNat t11) 0)>classes)then
 some (.inl false)
else 
 bif ((t9.2.getD (Int.toNat t11) 0)==classes)then
(F6u states v (IntKind.i64.wrap (classes+1)) t9 t10 (IntKind.i64.wrap (t11+1))).bind fun r=>some r
else 
(F6u states v classes t9 t10 (IntKind.i64.wrap (t11+1))).bind fun r=>some r
else none
else none
else 
 some (.inr ()):=tL F16K
theorem F16E(v states):F16 v states=
(F6u states v 0 v (v.2.length:Int) 0).bind fun r=>
 match r with
| .inl y=>
 some y
| .inr z=>
 some ((v.2.length:Int)==states):=tC
theorem F6dE(p v):F6d p v=
(F4s p).bind fun r=>
 bif r then
(F55 p).bind fun r1=>
(F16 v r1).bind fun r2=>
 some r2
else 
 some false:=tC
theorem F5oE(q v):F5o q v=
(F3y q).bind fun r=>
 bif r then
(F6d q.1 v).bind fun r1=>
 some r1
else 
 some false:=tC
theorem F9qE(x m i):F9q x m i=
 bif decide (i<(x.2.length:Int))then
 bif decide (0≤i)then
 bif decide (i<(x.2.length:Int))then
(F9q x (bif decide (m<(x.2.getD (Int.toNat i) 0))then(x.2.getD (Int.toNat i) 0)else m) (IntKind.i64.wrap (i+1))).bind fun r=>some r
else none
else none
else 
 some m:=tL F3mK
theorem F3mE(x):F3m x=
 bif decide ((x.2.length:Int)<1)then
 none
else 
 bif decide (0<(x.2.length:Int))then
(F9q x (x.2.getD 0 0) 1).bind fun r=>
 some r
else none:=tC
theorem FvE(v):Fv v=
(F3m v).bind fun r=>
 some (IntKind.i64.wrap (r+1)):=tC
theorem F6lE(x y):F6l x y=
 some (IntKind.u64.wrap ((IntKind.u64.wrap ((IntKind.u64.wrap ((bShr .u64 x 32)*(bShr .u64 y 32)))+(bShr .u64 (IntKind.u64.wrap ((IntKind.u64.wrap ((bShr .u64 x 32)*(bAnd .u64 y 4294967295)))+(bShr .u64 (IntKind.u64.wrap ((bAnd .u64 x 4294967295)*(bAnd .u64 y 4294967295))) 32))) 32)))+(bShr .u64 (IntKind.u64.wrap ((bAnd .u64 (IntKind.u64.wrap ((IntKind.u64.wrap ((bShr .u64 x 32)*(bAnd .u64 y 4294967295)))+(bShr .u64 (IntKind.u64.wrap ((bAnd .u64 x 4294967295)*(bAnd .u64 y 4294967295))) 32))) 4294967295)+(IntKind.u64.wrap ((bAnd .u64 x 4294967295)*(bShr .u64 y 32))))) 32)),IntKind.u64.wrap (x*y)):=tC
theorem F3zE(x y):F3z x y=
(F6l x y).bind fun r=>
 some (r.1,r.2):=tC
theorem F7hE(newslice n):F7h newslice n=
 bif decide (n<(newslice.2.length:Int))then
 bif decide (0≤n)then
 bif decide (n≤(newslice.2.length:Int))then
 bif decide (0≤n)then
 bif decide (n≤(newslice.2.length:Int))then
(F7h (newslice.1,(newslice.2.take (Int.toNat n)++(((newslice.2.take (Int.toNat n)).drop 0).take (newslice.2.length-(Int.toNat n))++newslice.2.drop ((Int.toNat n)+(min ((newslice.2.take (Int.toNat n)).drop 0).length (newslice.2.length-(Int.toNat n))))))) (IntKind.i64.wrap (n+((min ((newslice.2.take (Int.toNat n)).drop 0).length (newslice.2.length-(Int.toNat n)):Nat):Int)))).bind fun r=>some r
else none
else none
else none
else none
else 
 some (newslice.1,newslice.2):=tL F1xK
theorem F1xE(x count):F1x x count=
 bif decide (count<0)then
 none
else 
(F3z (IntKind.u64.wrap (x.2.length:Int)) (IntKind.u64.wrap count)).bind fun r=>
 bif decide (r.1>0)then
 none
else 
 bif decide (r.2>9223372036854775807)then
 none
else 
 bif decide (0≤(IntKind.i64.wrap r.2))then
 bif decide ((IntKind.i64.wrap r.2)≤lim)then
 bif decide ((IntKind.i64.wrap r.2)≤(IntKind.i64.wrap r.2))then
 bif decide ((IntKind.i64.wrap r.2)≤lim)then
(F7h (false,(x.2.take (List.replicate (Int.toNat (IntKind.i64.wrap r.2)) (0:Int)).length ++(List.replicate (Int.toNat (IntKind.i64.wrap r.2)) (0:Int)).drop (min x.2.length (List.replicate (Int.toNat (IntKind.i64.wrap r.2)) (0:Int)).length))) ((min x.2.length (List.replicate (Int.toNat (IntKind.i64.wrap r.2)) (0:Int)).length :Nat):Int)).bind fun r1=>
 some (r1.1,r1.2)
else none
else none
else none
else none:=tC
theorem F7bE(no p out t9 t10):F7b no p out t9 t10=
 bif decide (t10<t9)then
 bif decide ((IntKind.i64.wrap (p.1*t10))<0)then
 none
else 
(F0 p.1).bind fun r=>
 bif decide (out.2.length+[bAnd .u64 (bShr .u64 (IntKind.u64.wrap no) (IntKind.i64.wrap (p.1*t10))) r].length ≤lim)then
(F7b no p ((out.1&&false),(out.2++[bAnd .u64 (bShr .u64 (IntKind.u64.wrap no) (IntKind.i64.wrap (p.1*t10))) r])) t9 (IntKind.i64.wrap (t10+1))).bind fun r=>some r
else none
else 
 some (out.1,out.2):=tL F1yK
theorem F1yE(p no):F1y p no=
(F7b no p (false,[]) p.2.1 0).bind fun r=>
 some (r.1,r.2):=tC
theorem F6qE(wide a b):F6q wide a b=
(F4f wide a).bind fun r=>
 bif r then
(F4f wide b).bind fun r1=>
 some r1
else 
 some false:=tC
theorem F5eE(hi lo y):F5e hi lo y=
 bif (y==0)then
 none
else 
 bif decide (y≤hi)then
 none
else 
 bif (hi==0)then
 bif (y==0)then
 none
else 
 bif (y==0)then
 none
else 
 some (IntKind.u64.wrap (Int.tdiv lo y),Int.tmod lo y)
else none:=tC
theorem F4uE(wide a b):F4u wide a b=
(F6q wide a b).bind fun r=>
 bif !r then
 some (0,(0,false))
else 
 bif (b==0)then
(F0 wide).bind fun r1=>
 some (r1,(a,true))
else 
(F5e 0 a b).bind fun r2=>
 some (r2.1,(r2.2,true)):=tC
theorem F3wE(wide a by_ left_):F3w wide a by_ left_=
 bif decide (by_≥(IntKind.u64.wrap wide))then
 some 0
else 
 bif left_ then
 bif decide (by_<0)then
 none
else 
(F0 wide).bind fun r=>
 some (bAnd .u64 (bShl .u64 a by_) r)
else 
 bif decide (by_<0)then
 none
else 
 some (bShr .u64 a by_):=tC
theorem FlE(holds):Fl holds=
 bif holds then
 some 1
else 
 some 0:=tC
theorem F11E(wide a):F11 wide a=
 bif decide ((IntKind.i64.wrap (64-wide))<0)then
 none
else 
 bif decide ((IntKind.i64.wrap (64-wide))<0)then
 none
else 
 some (bShr .i64 (IntKind.i64.wrap (bShl .u64 a (IntKind.i64.wrap (64-wide)))) (IntKind.i64.wrap (64-wide))):=tC
theorem F54E(wide op a b):F54 wide op a b=
 bif (op==3)then
(F0 wide).bind fun r=>
 some (bAnd .u64 (IntKind.u64.wrap (a+b)) r)
else 
 bif (op==4)then
(F0 wide).bind fun r1=>
 some (bAnd .u64 (IntKind.u64.wrap (a-b)) r1)
else 
 bif (op==5)then
(F0 wide).bind fun r2=>
 some (bAnd .u64 (IntKind.u64.wrap (a*b)) r2)
else 
 bif (op==6)then
(F4u wide a b).bind fun r3=>
(F0 wide).bind fun r4=>
 some (bAnd .u64 r3.1 r4)
else 
 bif (op==7)then
(F4u wide a b).bind fun r5=>
(F0 wide).bind fun r6=>
 some (bAnd .u64 r5.2.1 r6)
else 
 bif (op==8)then
 bif (op==8)then
(F0 wide).bind fun r7=>
 some (bAnd .u64 (bAnd .u64 a b) r7)
else 
 bif (op==9)then
 bif (op==9)then
(F0 wide).bind fun r8=>
 some (bAnd .u64 (bOr .u64 a b) r8)
else 
 bif (op==10)then
(F0 wide).bind fun r9=>
 some (bAnd .u64 (bXor .u64 a b) r9)
else 
 bif (op==11)then
 bif (op==11)then
(F3w wide a b (op==11)).bind fun r10=>
(F0 wide).bind fun r11=>
 some (bAnd .u64 r10 r11)
else 
 bif (op==14)then
(Fl (a==b)).bind fun r12=>
(F0 wide).bind fun r13=>
 some (bAnd .u64 r12 r13)
else 
 bif (op==15)then
(Fl (decide (a<b))).bind fun r14=>
(F0 wide).bind fun r15=>
 some (bAnd .u64 r14 r15)
else 
 bif (op==16)then
(F11 wide a).bind fun r16=>
(F11 wide b).bind fun r17=>
(Fl (decide (r16<r17))).bind fun r18=>
(F0 wide).bind fun r19=>
 some (bAnd .u64 r18 r19)
else 
(F0 wide).bind fun r20=>
 some (bAnd .u64 0 r20)
else 
 bif (op==12)then
(F3w wide a b (op==11)).bind fun r21=>
(F0 wide).bind fun r22=>
 some (bAnd .u64 r21 r22)
else 
 bif (op==14)then
(Fl (a==b)).bind fun r23=>
(F0 wide).bind fun r24=>
 some (bAnd .u64 r23 r24)
else 
 bif (op==15)then
(Fl (decide (a<b))).bind fun r25=>
(F0 wide).bind fun r26=>
 some (bAnd .u64 r25 r26)
else 
 bif (op==16)then
(F11 wide a).bind fun r27=>
(F11 wide b).bind fun r28=>
(Fl (decide (r27<r28))).bind fun r29=>
(F0 wide).bind fun r30=>
 some (bAnd .u64 r29 r30)
else 
(F0 wide).bind fun r31=>
 some (bAnd .u64 0 r31)
else 
 bif (op==18)then
(F0 wide).bind fun r32=>
 some (bAnd .u64 (bOr .u64 a b) r32)
else 
 bif (op==10)then
(F0 wide).bind fun r33=>
 some (bAnd .u64 (bXor .u64 a b) r33)
else 
 bif (op==11)then
 bif (op==11)then
(F3w wide a b (op==11)).bind fun r34=>
(F0 wide).bind fun r35=>
 some (bAnd .u64 r34 r35)
else 
 bif (op==14)then
(Fl (a==b)).bind fun r36=>
(F0 wide).bind fun r37=>
 some (bAnd .u64 r36 r37)
else 
 bif (op==15)then
(Fl (decide (a<b))).bind fun r38=>
(F0 wide).bind fun r39=>
 some (bAnd .u64 r38 r39)
else 
 bif (op==16)then
(F11 wide a).bind fun r40=>
(F11 wide b).bind fun r41=>
(Fl (decide (r40<r41))).bind fun r42=>
(F0 wide).bind fun r43=>
 some (bAnd .u64 r42 r43)
else 
(F0 wide).bind fun r44=>
 some (bAnd .u64 0 r44)
else 
 bif (op==12)then
(F3w wide a b (op==11)).bind fun r45=>
(F0 wide).bind fun r46=>
 some (bAnd .u64 r45 r46)
else 
 bif (op==14)then
(Fl (a==b)).bind fun r47=>
(F0 wide).bind fun r48=>
 some (bAnd .u64 r47 r48)
else 
 bif (op==15)then
(Fl (decide (a<b))).bind fun r49=>
(F0 wide).bind fun r50=>
 some (bAnd .u64 r49 r50)
else 
 bif (op==16)then
(F11 wide a).bind fun r51=>
(F11 wide b).bind fun r52=>
(Fl (decide (r51<r52))).bind fun r53=>
(F0 wide).bind fun r54=>
 some (bAnd .u64 r53 r54)
else 
(F0 wide).bind fun r55=>
 some (bAnd .u64 0 r55)
else 
 bif (op==17)then
(F0 wide).bind fun r56=>
 some (bAnd .u64 (bAnd .u64 a b) r56)
else 
 bif (op==9)then
 bif (op==9)then
(F0 wide).bind fun r57=>
 some (bAnd .u64 (bOr .u64 a b) r57)
else 
 bif (op==10)then
(F0 wide).bind fun r58=>
 some (bAnd .u64 (bXor .u64 a b) r58)
else 
 bif (op==11)then
 bif (op==11)then
(F3w wide a b (op==11)).bind fun r59=>
(F0 wide).bind fun r60=>
 some (bAnd .u64 r59 r60)
else 
 bif (op==14)then
(Fl (a==b)).bind fun r61=>
(F0 wide).bind fun r62=>
 some (bAnd .u64 r61 r62)
else 
 bif (op==15)then
(Fl (decide (a<b))).bind fun r63=>
(F0 wide).bind fun r64=>
 some (bAnd .u64 r63 r64)
else 
 bif (op==16)then
(F11 wide a).bind fun r65=>
(F11 wide b).bind fun r66=>
(Fl (decide (r65<r66))).bind fun r67=>
(F0 wide).bind fun r68=>
 some (bAnd .u64 r67 r68)
else 
(F0 wide).bind fun r69=>
 some (bAnd .u64 0 r69)
else 
 bif (op==12)then
(F3w wide a b (op==11)).bind fun r70=>
(F0 wide).bind fun r71=>
 some (bAnd .u64 r70 r71)
else 
 bif (op==14)then
(Fl (a==b)).bind fun r72=>
(F0 wide).bind fun r73=>
 some (bAnd .u64 r72 r73)
else 
 bif (op==15)then
(Fl (decide (a<b))).bind fun r74=>
(F0 wide).bind fun r75=>
 some (bAnd .u64 r74 r75)
else 
 bif (op==16)then
(F11 wide a).bind fun r76=>
(F11 wide b).bind fun r77=>
(Fl (decide (r76<r77))).bind fun r78=>
(F0 wide).bind fun r79=>
 some (bAnd .u64 r78 r79)
else 
(F0 wide).bind fun r80=>
 some (bAnd .u64 0 r80)
else 
 bif (op==18)then
(F0 wide).bind fun r81=>
 some (bAnd .u64 (bOr .u64 a b) r81)
else 
 bif (op==10)then
(F0 wide).bind fun r82=>
 some (bAnd .u64 (bXor .u64 a b) r82)
else 
 bif (op==11)then
 bif (op==11)then
(F3w wide a b (op==11)).bind fun r83=>
(F0 wide).bind fun r84=>
 some (bAnd .u64 r83 r84)
else 
 bif (op==14)then
(Fl (a==b)).bind fun r85=>
(F0 wide).bind fun r86=>
 some (bAnd .u64 r85 r86)
else 
 bif (op==15)then
(Fl (decide (a<b))).bind fun r87=>
(F0 wide).bind fun r88=>
 some (bAnd .u64 r87 r88)
else 
 bif (op==16)then
(F11 wide a).bind fun r89=>
(F11 wide b).bind fun r90=>
(Fl (decide (r89<r90))).bind fun r91=>
(F0 wide).bind fun r92=>
 some (bAnd .u64 r91 r92)
else 
(F0 wide).bind fun r93=>
 some (bAnd .u64 0 r93)
else 
 bif (op==12)then
(F3w wide a b (op==11)).bind fun r94=>
(F0 wide).bind fun r95=>
 some (bAnd .u64 r94 r95)
else 
 bif (op==14)then
(Fl (a==b)).bind fun r96=>
(F0 wide).bind fun r97=>
 some (bAnd .u64 r96 r97)
else 
 bif (op==15)then
(Fl (decide (a<b))).bind fun r98=>
(F0 wide).bind fun r99=>
 some (bAnd .u64 r98 r99)
else 
 bif (op==16)then
(F11 wide a).bind fun r100=>
(F11 wide b).bind fun r101=>
(Fl (decide (r100<r101))).bind fun r102=>
(F0 wide).bind fun r103=>
 some (bAnd .u64 r102 r103)
else 
(F0 wide).bind fun r104=>
 some (bAnd .u64 0 r104):=tC
theorem F3iE(wide state stack t12 t13 t14):F3i wide state stack t12 t13 t14=
 bif decide (t14<t13)then
 bif decide (0≤t14)then
 bif decide (t14<(t12.2.length:Int))then
 bif (((t12.2.getD (Int.toNat t14) (0,0)).1)==1)then
 bif (((t12.2.getD (Int.toNat t14) (0,0)).1)==1)then
 bif decide (stack.2.length+[(t12.2.getD (Int.toNat t14) (0,0)).2].length ≤lim)then
(F3i wide state ((stack.1&&false),(stack.2++[(t12.2.getD (Int.toNat t14) (0,0)).2])) t12 t13 (IntKind.i64.wrap (t14+1))).bind fun r=>some r
else none
else 
 bif (((t12.2.getD (Int.toNat t14) (0,0)).1)==2)then
 bif decide (0≤((t12.2.getD (Int.toNat t14) (0,0)).2))then
 bif decide (((t12.2.getD (Int.toNat t14) (0,0)).2)<(state.2.length:Int))then
 bif decide (stack.2.length+[(state.2.getD (Int.toNat ((t12.2.getD (Int.toNat t14) (0,0)).2)) 0)].length ≤lim)then
(F3i wide state ((stack.1&&false),(stack.2++[(state.2.getD (Int.toNat ((t12.2.getD (Int.toNat t14) (0,0)).2)) 0)])) t12 t13 (IntKind.i64.wrap (t14+1))).bind fun r=>some r
else none
else none
else none
else 
 bif (((t12.2.getD (Int.toNat t14) (0,0)).1)==13)then
 bif decide (0≤(IntKind.i64.wrap ((stack.2.length:Int)-1)))then
 bif decide ((IntKind.i64.wrap ((stack.2.length:Int)-1))<(stack.2.length:Int))then
(F0 wide).bind fun r=>
 bif decide (0≤(IntKind.i64.wrap ((stack.2.length:Int)-1)))then
 bif decide ((IntKind.i64.wrap ((stack.2.length:Int)-1))<(stack.2.length:Int))then
(F3i wide state (stack.1,(stack.2.set (Int.toNat (IntKind.i64.wrap ((stack.2.length:Int)-1))) (bAnd .u64 (bXor .u64 18446744073709551615 (stack.2.getD (Int.toNat (IntKind.i64.wrap ((stack.2.length:Int)-1))) 0)) r))) t12 t13 (IntKind.i64.wrap (t14+1))).bind fun r=>some r
else none
else none
else none
else none
else 
 bif (((t12.2.getD (Int.toNat t14) (0,0)).1)==19)then
 bif decide (0≤(IntKind.i64.wrap ((stack.2.length:Int)-1)))then
 bif decide ((IntKind.i64.wrap ((stack.2.length:Int)-1))<(stack.2.length:Int))then
 bif decide (0≤(IntKind.i64.wrap ((stack.2.length:Int)-1)))then
 bif decide ((IntKind.i64.wrap ((stack.2.length:Int)-1))<(stack.2.length:Int))then
(F3i wide state (stack.1,(stack.2.set (Int.toNat (IntKind.i64.wrap ((stack.2.length:Int)-1))) (IntKind.u64.wrap (1-(stack.2.getD (Int.toNat (IntKind.i64.wrap ((stack.2.length:Int)-1))) 0))))) t12 t13 (IntKind.i64.wrap (t14+1))).bind fun r=>some r
else none
else none
else none
else none
else 
 bif decide (0≤(IntKind.i64.wrap ((IntKind.i64.wrap ((stack.2.length:Int)-1))-1)))then
 bif decide ((IntKind.i64.wrap ((IntKind.i64.wrap ((stack.2.length:Int)-1))-1))≤(stack.2.length:Int))then
 bif decide (0≤(IntKind.i64.wrap ((IntKind.i64.wrap ((stack.2.length:Int)-1))-1)))then
 bif decide ((IntKind.i64.wrap ((IntKind.i64.wrap ((stack.2.length:Int)-1))-1))<(stack.2.length:Int))then
 bif decide (0≤(IntKind.i64.wrap ((stack.2.length:Int)-1)))then
 bif decide ((IntKind.i64.wrap ((stack.2.length:Int)-1))<(stack.2.length:Int))then
(F54 wide ((t12.2.getD (Int.toNat t14) (0,0)).1) (stack.2.getD (Int.toNat (IntKind.i64.wrap ((IntKind.i64.wrap ((stack.2.length:Int)-1))-1))) 0) (stack.2.getD (Int.toNat (IntKind.i64.wrap ((stack.2.length:Int)-1))) 0)).bind fun r1=>
 bif decide (((stack.2.take (Int.toNat (IntKind.i64.wrap ((IntKind.i64.wrap ((stack.2.length:Int)-1))-1)))).drop 0).length +[r1].length ≤lim)then
(F3i wide state ((stack.1&&false),(((stack.2.take (Int.toNat (IntKind.i64.wrap ((IntKind.i64.wrap ((stack.2.length:Int)-1))-1)))).drop 0)++[r1])) t12 t13 (IntKind.i64.wrap (t14+1))).bind fun r=>some r
else none
else none
else none
else none
else none
else none
else none
else 
 bif (((t12.2.getD (Int.toNat t14) (0,0)).1)==20)then
 bif decide (stack.2.length+[(t12.2.getD (Int.toNat t14) (0,0)).2].length ≤lim)then
(F3i wide state ((stack.1&&false),(stack.2++[(t12.2.getD (Int.toNat t14) (0,0)).2])) t12 t13 (IntKind.i64.wrap (t14+1))).bind fun r=>some r
else none
else 
 bif (((t12.2.getD (Int.toNat t14) (0,0)).1)==2)then
 bif decide (0≤((t12.2.getD (Int.toNat t14) (0,0)).2))then
 bif decide (((t12.2.getD (Int.toNat t14) (0,0)).2)<(state.2.length:Int))then
 bif decide (stack.2.length+[(state.2.getD (Int.toNat ((t12.2.getD (Int.toNat t14) (0,0)).2)) 0)].length ≤lim)then
(F3i wide state ((stack.1&&false),(stack.2++[(state.2.getD (Int.toNat ((t12.2.getD (Int.toNat t14) (0,0)).2)) 0)])) t12 t13 (IntKind.i64.wrap (t14+1))).bind fun r=>some r
else none
else none
else none
else 
 bif (((t12.2.getD (Int.toNat t14) (0,0)).1)==13)then
 bif decide (0≤(IntKind.i64.wrap ((stack.2.length:Int)-1)))then
 bif decide ((IntKind.i64.wrap ((stack.2.length:Int)-1))<(stack.2.length:Int))then
(F0 wide).bind fun r2=>
 bif decide (0≤(IntKind.i64.wrap ((stack.2.length:Int)-1)))then
 bif decide ((IntKind.i64.wrap ((stack.2.length:Int)-1))<(stack.2.length:Int))then
(F3i wide state (stack.1,(stack.2.set (Int.toNat (IntKind.i64.wrap ((stack.2.length:Int)-1))) (bAnd .u64 (bXor .u64 18446744073709551615 (stack.2.getD (Int.toNat (IntKind.i64.wrap ((stack.2.length:Int)-1))) 0)) r2))) t12 t13 (IntKind.i64.wrap (t14+1))).bind fun r=>some r
else none
else none
else none
else none
else 
 bif (((t12.2.getD (Int.toNat t14) (0,0)).1)==19)then
 bif decide (0≤(IntKind.i64.wrap ((stack.2.length:Int)-1)))then
 bif decide ((IntKind.i64.wrap ((stack.2.length:Int)-1))<(stack.2.length:Int))then
 bif decide (0≤(IntKind.i64.wrap ((stack.2.length:Int)-1)))then
 bif decide ((IntKind.i64.wrap ((stack.2.length:Int)-1))<(stack.2.length:Int))then
(F3i wide state (stack.1,(stack.2.set (Int.toNat (IntKind.i64.wrap ((stack.2.length:Int)-1))) (IntKind.u64.wrap (1-(stack.2.getD (Int.toNat (IntKind.i64.wrap ((stack.2.length:Int)-1))) 0))))) t12 t13 (IntKind.i64.wrap (t14+1))).bind fun r=>some r
else none
else none
else none
else none
else 
 bif decide (0≤(IntKind.i64.wrap ((IntKind.i64.wrap ((stack.2.length:Int)-1))-1)))then
 bif decide ((IntKind.i64.wrap ((IntKind.i64.wrap ((stack.2.length:Int)-1))-1))≤(stack.2.length:Int))then
 bif decide (0≤(IntKind.i64.wrap ((IntKind.i64.wrap ((stack.2.length:Int)-1))-1)))then
 bif decide ((IntKind.i64.wrap ((IntKind.i64.wrap ((stack.2.length:Int)-1))-1))<(stack.2.length:Int))then
 bif decide (0≤(IntKind.i64.wrap ((stack.2.length:Int)-1)))then
 bif decide ((IntKind.i64.wrap ((stack.2.length:Int)-1))<(stack.2.length:Int))then
(F54 wide ((t12.2.getD (Int.toNat t14) (0,0)).1) (stack.2.getD (Int.toNat (IntKind.i64.wrap ((IntKind.i64.wrap ((stack.2.length:Int)-1))-1))) 0) (stack.2.getD (Int.toNat (IntKind.i64.wrap ((stack.2.length:Int)-1))) 0)).bind fun r3=>
 bif decide (((stack.2.take (Int.toNat (IntKind.i64.wrap ((IntKind.i64.wrap ((stack.2.length:Int)-1))-1)))).drop 0).length +[r3].length ≤lim)then
(F3i wide state ((stack.1&&false),(((stack.2.take (Int.toNat (IntKind.i64.wrap ((IntKind.i64.wrap ((stack.2.length:Int)-1))-1)))).drop 0)++[r3])) t12 t13 (IntKind.i64.wrap (t14+1))).bind fun r=>some r
else none
else none
else none
else none
else none
else none
else none
else none
else none
else 
 some (stack.1,stack.2):=tL FqK
theorem FqE(wide t state):Fq wide t state=
(F3i wide state (false,[]) t (t.2.length:Int) 0).bind fun r=>
 bif decide (0<(r.2.length:Int))then
 some (r.2.getD 0 0)
else none:=tC
theorem F4gE(p t s):F4g p t s=
(Fq p.1 t s).bind fun r=>
 some (r==1):=tC
theorem F6mE(q s letter t14 t15 t16):F6m q s letter t14 t15 t16=
 bif decide (t16<t15)then
 bif decide (0≤t16)then
 bif decide (t16<(t14.2.length:Int))then
(F4g q.1 (t14.2.getD (Int.toNat t16) (true,[])) s).bind fun r=>
 bif r then
 bif decide (t16<0)then
 none
else 
(F6m q s (bOr .i64 letter (bShl .i64 1 t16)) t14 t15 (IntKind.i64.wrap (t16+1))).bind fun r=>some r
else 
(F6m q s letter t14 t15 (IntKind.i64.wrap (t16+1))).bind fun r=>some r
else none
else none
else 
 some letter:=tL F24K
theorem F24E(q no):F24 q no=
(F1y q.1 no).bind fun r=>
(F6m q (r.1,r.2) 0 q.2.1 (q.2.1.2.length:Int) 0).bind fun r1=>
 some r1:=tC
theorem F79E(q letters t14 t15 t16):F79 q letters t14 t15 t16=
 bif decide (t16<t15)then
 bif decide (0≤t16)then
 bif decide (t16<(t14.2.length:Int))then
(F24 q t16).bind fun r=>
 bif decide (0≤(t14.2.getD (Int.toNat t16) 0))then
 bif decide ((t14.2.getD (Int.toNat t16) 0)<(letters.2.length:Int))then
 bif decide ((letters.2.getD (Int.toNat (t14.2.getD (Int.toNat t16) 0)) 0)≥0)then
 bif decide (0≤(t14.2.getD (Int.toNat t16) 0))then
 bif decide ((t14.2.getD (Int.toNat t16) 0)<(letters.2.length:Int))then
 bif ((letters.2.getD (Int.toNat (t14.2.getD (Int.toNat t16) 0)) 0) !=r)then
 some (.inl ((letters.1,letters.2),false))
else 
 bif decide (0≤(t14.2.getD (Int.toNat t16) 0))then
 bif decide ((t14.2.getD (Int.toNat t16) 0)<(letters.2.length:Int))then
(F79 q (letters.1,(letters.2.set (Int.toNat (t14.2.getD (Int.toNat t16) 0)) r)) t14 t15 (IntKind.i64.wrap (t16+1))).bind fun r=>some r
else none
else none
else none
else none
else 
 bif decide (0≤(t14.2.getD (Int.toNat t16) 0))then
 bif decide ((t14.2.getD (Int.toNat t16) 0)<(letters.2.length:Int))then
(F79 q (letters.1,(letters.2.set (Int.toNat (t14.2.getD (Int.toNat t16) 0)) r)) t14 t15 (IntKind.i64.wrap (t16+1))).bind fun r=>some r
else none
else none
else none
else none
else none
else none
else 
 some (.inr (letters.1,letters.2)):=tL F2kK
theorem F2kE(q v):F2k q v=
(Fv v).bind fun r=>
(F1x (false,[(-1)]) r).bind fun r1=>
(F79 q (r1.1,r1.2) v (v.2.length:Int) 0).bind fun r2=>
 match r2 with
| .inl y=>
 some y.2
| .inr z=>
 some true:=tC
theorem F5E(f):F5 f=
(Fr f).bind fun r=>
 bif decide ((r.2.length:Int)<0)then
 none
else 
 some (bShl .i64 1 (r.2.length:Int)):=tC
theorem F9lE(s v t7 t8):F9l s v t7 t8=
 bif decide (t8<t7)then
 bif decide (0≤t8)then
 bif decide (t8<(s.2.length:Int))then
 bif (v==(s.2.getD (Int.toNat t8) 0))then
 some (.inl t8)
else 
(F9l s v t7 (IntKind.i64.wrap (t8+1))).bind fun r=>some r
else none
else none
else 
 some (.inr ()):=tL F22K
theorem F22E(s v):F22 s v=
(F9l s v (s.2.length:Int) 0).bind fun r=>
 match r with
| .inl y=>
 some y
| .inr z=>
 some (-1):=tC
theorem F6fE(q v class_):F6f q v class_=
(F22 v class_).bind fun r=>
(F24 q r).bind fun r1=>
 some r1:=tC
theorem F58E(class_ out t10 t11 t12):F58 class_ out t10 t11 t12=
 bif decide (t12<t11)then
 bif decide (0≤t12)then
 bif decide (t12<(t10.2.length:Int))then
 bif ((t10.2.getD (Int.toNat t12) 0)==class_)then
 bif decide (out.2.length+[t12].length ≤lim)then
(F58 class_ ((out.1&&false),(out.2++[t12])) t10 t11 (IntKind.i64.wrap (t12+1))).bind fun r=>some r
else none
else 
(F58 class_ (out.1,out.2) t10 t11 (IntKind.i64.wrap (t12+1))).bind fun r=>some r
else none
else none
else 
 some (out.1,out.2):=tL F2dK
theorem F2dE(v class_):F2d v class_=
(F58 class_ (false,[]) v (v.2.length:Int) 0).bind fun r=>
 some (r.1,r.2):=tC
theorem F6yE(s):F6y s=
 bif s.1 then
 some (true,[])
else 
 bif decide (([]:List Int).length +s.2.length≤lim)then
 some (false,([]++s.2))
else none:=tC
theorem F8aE(s p out t13 t14 t15):F8a s p out t13 t14 t15=
 bif decide (t15<t14)then
 bif decide (0≤t15)then
 bif decide (t15<(t13.2.length:Int))then
(Fq p.1 ((t13.2.getD (Int.toNat t15) (0,(true,[]))).2) s).bind fun r=>
 bif decide (0≤((t13.2.getD (Int.toNat t15) (0,(true,[]))).1))then
 bif decide (((t13.2.getD (Int.toNat t15) (0,(true,[]))).1)<(out.2.length:Int))then
(F8a s p (out.1,(out.2.set (Int.toNat ((t13.2.getD (Int.toNat t15) (0,(true,[]))).1)) r)) t13 t14 (IntKind.i64.wrap (t15+1))).bind fun r=>some r
else none
else none
else none
else none
else 
 some (out.1,out.2):=tL F33K
theorem F33E(p c s):F33 p c s=
(F6y s).bind fun r=>
(F8a s p (r.1,r.2) c.2 (c.2.2.length:Int) 0).bind fun r1=>
 some (r1.1,r1.2):=tC

end Go.Proofs.YtedfhboklcfanaaGreat.R
