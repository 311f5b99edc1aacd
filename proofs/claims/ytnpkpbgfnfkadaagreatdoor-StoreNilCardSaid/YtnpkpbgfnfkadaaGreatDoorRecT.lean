/-
  What the reckoner is told of the program's types and methods.
-/
import Derived.Test.YtnpkpbgfnfkadaaGreatDoorRec
namespace PH.R
open Go
set_option maxRecDepth 100000
noncomputable section
def y1 : D.Ty := ⟨.func,1,8,some .fn,false⟩
def y2 : D.Ty := ⟨(.int .i64),1,8,some (.i .i64 (.ofNat 0)),false⟩
def y3 : D.Ty := ⟨(.int .i64),1,8,some (.i .i64 (.ofNat 0)),false⟩
def y4 : D.Ty := ⟨.bool,1,1,some (.b false),false⟩
def y5 : D.Ty := ⟨(.int .u8),1,1,some (.i .u8 (.ofNat 0)),false⟩
def y9 : D.Ty := ⟨.str,1,16,some (.s 0 0),false⟩
def y21 : D.Ty := ⟨(.int .i32),1,4,some (.i .i32 (.ofNat 0)),false⟩
def y22 : D.Ty := ⟨(.sl 52),1,24,some .sn,false⟩
def y24 : D.Ty := ⟨(.ptr 77),1,8,some .pn,false⟩
def y25 : D.Ty := ⟨(.int .i64),1,8,some (.i .i64 (.ofNat 0)),false⟩
def y29 : D.Ty := ⟨(.st [(0,3,false),(1,3,false),(2,3,false),(3,3,false),(4,3,false)]),5,40,some (.ag [(.i .i64 (.ofNat 0)),(.i .i64 (.ofNat 0)),(.i .i64 (.ofNat 0)),(.i .i64 (.ofNat 0)),(.i .i64 (.ofNat 0))]),false⟩
def y33 : D.Ty := ⟨(.sl 144),1,24,some .sn,false⟩
def y34 : D.Ty := ⟨(.sl 147),1,24,some .sn,false⟩
def y35 : D.Ty := ⟨(.sl 150),1,24,some .sn,false⟩
def y36 : D.Ty := ⟨(.sl 73),1,24,some .sn,false⟩
def y38 : D.Ty := ⟨(.st [(0,33,false),(1,34,false),(2,35,false),(3,36,false)]),4,96,some (.ag [.sn,.sn,.sn,.sn]),false⟩
def y43 : D.Ty := ⟨.func,1,8,some .fn,false⟩
def y46 : D.Ty := ⟨(.ptr 105),1,8,some .pn,false⟩
def y50 : D.Ty := ⟨(.st [(0,3,false),(1,3,false),(2,3,false),(3,3,false),(4,3,false),(5,3,false),(6,3,false),(7,3,false),(8,3,false),(9,3,false)]),10,80,some (.ag [(.i .i64 (.ofNat 0)),(.i .i64 (.ofNat 0)),(.i .i64 (.ofNat 0)),(.i .i64 (.ofNat 0)),(.i .i64 (.ofNat 0)),(.i .i64 (.ofNat 0)),(.i .i64 (.ofNat 0)),(.i .i64 (.ofNat 0)),(.i .i64 (.ofNat 0)),(.i .i64 (.ofNat 0))]),false⟩
def y52 : D.Ty := ⟨(.st [(0,3,false),(1,3,false),(2,3,false),(3,9,false),(4,9,false),(5,9,false),(6,50,false),(16,3,false),(17,3,false)]),18,168,some (.ag [(.i .i64 (.ofNat 0)),(.i .i64 (.ofNat 0)),(.i .i64 (.ofNat 0)),(.s 0 0),(.s 0 0),(.s 0 0),(.i .i64 (.ofNat 0)),(.i .i64 (.ofNat 0)),(.i .i64 (.ofNat 0)),(.i .i64 (.ofNat 0)),(.i .i64 (.ofNat 0)),(.i .i64 (.ofNat 0)),(.i .i64 (.ofNat 0)),(.i .i64 (.ofNat 0)),(.i .i64 (.ofNat 0)),(.i .i64 (.ofNat 0)),(.i .i64 (.ofNat 0)),(.i .i64 (.ofNat 0))]),false⟩
def y55 : D.Ty := ⟨(.st [(0,3,false),(1,3,false),(2,3,false),(3,3,false),(4,3,false),(5,3,false),(6,3,false)]),7,56,some (.ag [(.i .i64 (.ofNat 0)),(.i .i64 (.ofNat 0)),(.i .i64 (.ofNat 0)),(.i .i64 (.ofNat 0)),(.i .i64 (.ofNat 0)),(.i .i64 (.ofNat 0)),(.i .i64 (.ofNat 0))]),false⟩
def y64 : D.Ty := ⟨(.ptr 120),1,8,some .pn,false⟩
def y65 : D.Ty := ⟨(.sl 9),1,24,some .sn,false⟩
def y69 : D.Ty := ⟨(.ptr 126),1,8,some .pn,false⟩
def y73 : D.Ty := ⟨(.st [(0,9,false),(1,3,false),(2,3,false)]),3,32,some (.ag [(.s 0 0),(.i .i64 (.ofNat 0)),(.i .i64 (.ofNat 0))]),false⟩
def y74 : D.Ty := ⟨.func,1,8,some .fn,false⟩
def y77 : D.Ty := ⟨(.st [(0,64,false),(1,69,false),(2,46,false),(3,29,false),(8,38,false),(12,55,false),(19,3,false)]),20,224,some (.ag [.pn,.pn,.pn,(.i .i64 (.ofNat 0)),(.i .i64 (.ofNat 0)),(.i .i64 (.ofNat 0)),(.i .i64 (.ofNat 0)),(.i .i64 (.ofNat 0)),.sn,.sn,.sn,.sn,(.i .i64 (.ofNat 0)),(.i .i64 (.ofNat 0)),(.i .i64 (.ofNat 0)),(.i .i64 (.ofNat 0)),(.i .i64 (.ofNat 0)),(.i .i64 (.ofNat 0)),(.i .i64 (.ofNat 0)),(.i .i64 (.ofNat 0))]),false⟩
def y87 : D.Ty := ⟨.func,1,8,some .fn,false⟩
def y94 : D.Ty := ⟨(.sl 3),1,24,some .sn,false⟩
def y97 : D.Ty := ⟨(.sl 139),1,24,some .sn,false⟩
def y98 : D.Ty := ⟨(.sl 141),1,24,some .sn,false⟩
def y100 : D.Ty := ⟨(.st []),0,0,some (.ag []),false⟩
def y101 : D.Ty := ⟨(.st []),0,0,some (.ag []),false⟩
def y103 : D.Ty := ⟨(.st [(0,100,true),(0,101,true),(0,2,false)]),1,8,some (.ag [(.i .i64 (.ofNat 0))]),false⟩
def y105 : D.Ty := ⟨(.st [(0,97,false),(1,98,false),(2,3,false),(3,4,false),(4,103,false),(5,103,false)]),6,80,some (.ag [.sn,.sn,(.i .i64 (.ofNat 0)),(.b false),(.i .i64 (.ofNat 0)),(.i .i64 (.ofNat 0))]),false⟩
def y109 : D.Ty := ⟨(.ptr 184),1,8,some .pn,false⟩
def y113 : D.Ty := ⟨(.sl 5),1,24,some .sn,false⟩
def y120 : D.Ty := ⟨(.st [(0,46,false),(1,3,false),(2,3,false),(3,3,false),(4,3,false),(5,3,false),(6,3,false)]),7,56,some (.ag [.pn,(.i .i64 (.ofNat 0)),(.i .i64 (.ofNat 0)),(.i .i64 (.ofNat 0)),(.i .i64 (.ofNat 0)),(.i .i64 (.ofNat 0)),(.i .i64 (.ofNat 0))]),false⟩
def y123 : D.Ty := ⟨(.sl 127),1,24,some .sn,false⟩
def y124 : D.Ty := ⟨(.arr 3 103),3,24,some (.ag [(.i .i64 (.ofNat 0)),(.i .i64 (.ofNat 0)),(.i .i64 (.ofNat 0))]),false⟩
def y126 : D.Ty := ⟨(.st [(0,123,false),(1,124,false)]),4,48,some (.ag [.sn,(.i .i64 (.ofNat 0)),(.i .i64 (.ofNat 0)),(.i .i64 (.ofNat 0))]),false⟩
def y127 : D.Ty := ⟨(.int .i64),1,8,some (.i .i64 (.ofNat 0)),false⟩
def y139 : D.Ty := ⟨(.st [(0,9,false)]),1,16,some (.ag [(.s 0 0)]),false⟩
def y141 : D.Ty := ⟨(.st [(0,139,false),(1,3,false)]),2,24,some (.ag [(.s 0 0),(.i .i64 (.ofNat 0))]),false⟩
def y144 : D.Ty := ⟨(.st [(0,3,false),(1,3,false),(2,9,false)]),3,32,some (.ag [(.i .i64 (.ofNat 0)),(.i .i64 (.ofNat 0)),(.s 0 0)]),false⟩
def y147 : D.Ty := ⟨(.st [(0,9,false),(1,50,false)]),11,96,some (.ag [(.s 0 0),(.i .i64 (.ofNat 0)),(.i .i64 (.ofNat 0)),(.i .i64 (.ofNat 0)),(.i .i64 (.ofNat 0)),(.i .i64 (.ofNat 0)),(.i .i64 (.ofNat 0)),(.i .i64 (.ofNat 0)),(.i .i64 (.ofNat 0)),(.i .i64 (.ofNat 0)),(.i .i64 (.ofNat 0))]),false⟩
def y150 : D.Ty := ⟨(.st [(0,9,false),(1,9,false),(2,9,false)]),3,48,some (.ag [(.s 0 0),(.s 0 0),(.s 0 0)]),false⟩
def y153 : D.Ty := ⟨(.ptr 155),1,8,some .pn,false⟩
def y155 : D.Ty := ⟨(.st [(0,113,false)]),1,24,some (.ag [.sn]),false⟩
def y162 : D.Ty := ⟨(.sl 43),1,24,some .sn,false⟩
def y172 : D.Ty := ⟨.func,1,8,some .fn,false⟩
def y181 : D.Ty := ⟨(.arr 128 5),128,128,some (.ag [(.i .u8 (.ofNat 0)),(.i .u8 (.ofNat 0)),(.i .u8 (.ofNat 0)),(.i .u8 (.ofNat 0)),(.i .u8 (.ofNat 0)),(.i .u8 (.ofNat 0)),(.i .u8 (.ofNat 0)),(.i .u8 (.ofNat 0)),(.i .u8 (.ofNat 0)),(.i .u8 (.ofNat 0)),(.i .u8 (.ofNat 0)),(.i .u8 (.ofNat 0)),(.i .u8 (.ofNat 0)),(.i .u8 (.ofNat 0)),(.i .u8 (.ofNat 0)),(.i .u8 (.ofNat 0)),(.i .u8 (.ofNat 0)),(.i .u8 (.ofNat 0)),(.i .u8 (.ofNat 0)),(.i .u8 (.ofNat 0)),(.i .u8 (.ofNat 0)),(.i .u8 (.ofNat 0)),(.i .u8 (.ofNat 0)),(.i .u8 (.ofNat 0)),(.i .u8 (.ofNat 0)),(.i .u8 (.ofNat 0)),(.i .u8 (.ofNat 0)),(.i .u8 (.ofNat 0)),(.i .u8 (.ofNat 0)),(.i .u8 (.ofNat 0)),(.i .u8 (.ofNat 0)),(.i .u8 (.ofNat 0)),(.i .u8 (.ofNat 0)),(.i .u8 (.ofNat 0)),(.i .u8 (.ofNat 0)),(.i .u8 (.ofNat 0)),(.i .u8 (.ofNat 0)),(.i .u8 (.ofNat 0)),(.i .u8 (.ofNat 0)),(.i .u8 (.ofNat 0)),(.i .u8 (.ofNat 0)),(.i .u8 (.ofNat 0)),(.i .u8 (.ofNat 0)),(.i .u8 (.ofNat 0)),(.i .u8 (.ofNat 0)),(.i .u8 (.ofNat 0)),(.i .u8 (.ofNat 0)),(.i .u8 (.ofNat 0)),(.i .u8 (.ofNat 0)),(.i .u8 (.ofNat 0)),(.i .u8 (.ofNat 0)),(.i .u8 (.ofNat 0)),(.i .u8 (.ofNat 0)),(.i .u8 (.ofNat 0)),(.i .u8 (.ofNat 0)),(.i .u8 (.ofNat 0)),(.i .u8 (.ofNat 0)),(.i .u8 (.ofNat 0)),(.i .u8 (.ofNat 0)),(.i .u8 (.ofNat 0)),(.i .u8 (.ofNat 0)),(.i .u8 (.ofNat 0)),(.i .u8 (.ofNat 0)),(.i .u8 (.ofNat 0)),(.i .u8 (.ofNat 0)),(.i .u8 (.ofNat 0)),(.i .u8 (.ofNat 0)),(.i .u8 (.ofNat 0)),(.i .u8 (.ofNat 0)),(.i .u8 (.ofNat 0)),(.i .u8 (.ofNat 0)),(.i .u8 (.ofNat 0)),(.i .u8 (.ofNat 0)),(.i .u8 (.ofNat 0)),(.i .u8 (.ofNat 0)),(.i .u8 (.ofNat 0)),(.i .u8 (.ofNat 0)),(.i .u8 (.ofNat 0)),(.i .u8 (.ofNat 0)),(.i .u8 (.ofNat 0)),(.i .u8 (.ofNat 0)),(.i .u8 (.ofNat 0)),(.i .u8 (.ofNat 0)),(.i .u8 (.ofNat 0)),(.i .u8 (.ofNat 0)),(.i .u8 (.ofNat 0)),(.i .u8 (.ofNat 0)),(.i .u8 (.ofNat 0)),(.i .u8 (.ofNat 0)),(.i .u8 (.ofNat 0)),(.i .u8 (.ofNat 0)),(.i .u8 (.ofNat 0)),(.i .u8 (.ofNat 0)),(.i .u8 (.ofNat 0)),(.i .u8 (.ofNat 0)),(.i .u8 (.ofNat 0)),(.i .u8 (.ofNat 0)),(.i .u8 (.ofNat 0)),(.i .u8 (.ofNat 0)),(.i .u8 (.ofNat 0)),(.i .u8 (.ofNat 0)),(.i .u8 (.ofNat 0)),(.i .u8 (.ofNat 0)),(.i .u8 (.ofNat 0)),(.i .u8 (.ofNat 0)),(.i .u8 (.ofNat 0)),(.i .u8 (.ofNat 0)),(.i .u8 (.ofNat 0)),(.i .u8 (.ofNat 0)),(.i .u8 (.ofNat 0)),(.i .u8 (.ofNat 0)),(.i .u8 (.ofNat 0)),(.i .u8 (.ofNat 0)),(.i .u8 (.ofNat 0)),(.i .u8 (.ofNat 0)),(.i .u8 (.ofNat 0)),(.i .u8 (.ofNat 0)),(.i .u8 (.ofNat 0)),(.i .u8 (.ofNat 0)),(.i .u8 (.ofNat 0)),(.i .u8 (.ofNat 0)),(.i .u8 (.ofNat 0)),(.i .u8 (.ofNat 0)),(.i .u8 (.ofNat 0)),(.i .u8 (.ofNat 0)),(.i .u8 (.ofNat 0)),(.i .u8 (.ofNat 0)),(.i .u8 (.ofNat 0))]),false⟩
def y184 : D.Ty := ⟨(.st [(0,9,false),(1,25,false)]),2,24,some (.ag [(.s 0 0),(.i .i64 (.ofNat 0))]),false⟩
def y185 : D.Ty := ⟨(.int .u64),1,8,some (.i .u64 (.ofNat 0)),false⟩
def y187 : D.Ty := ⟨(.ptr 189),1,8,some .pn,false⟩
def y189 : D.Ty := ⟨(.st [(0,187,false),(1,113,false)]),2,32,some (.ag [.pn,.sn]),false⟩
def y195 : D.Ty := ⟨(.int .u32),1,4,some (.i .u32 (.ofNat 0)),false⟩
def y198 : D.Ty := ⟨(.ptr 52),1,8,some .pn,false⟩
def y203 : D.Ty := ⟨(.st [(0,3,false),(1,3,false),(2,3,false),(3,3,false),(4,9,false)]),5,48,some (.ag [(.i .i64 (.ofNat 0)),(.i .i64 (.ofNat 0)),(.i .i64 (.ofNat 0)),(.i .i64 (.ofNat 0)),(.s 0 0)]),false⟩
def y208 : D.Ty := ⟨(.ptr 2),1,8,some .pn,false⟩
def y214 : D.Ty := ⟨(.int .u64),1,8,some (.i .u64 (.ofNat 0)),false⟩
def y224 : D.Ty := ⟨(.sl 203),1,24,some .sn,false⟩
def y229 : D.Ty := ⟨.func,1,8,some .fn,false⟩
def y235 : D.Ty := ⟨.func,1,8,some .fn,false⟩
def y236 : D.Ty := ⟨(.ptr 5),1,8,some .pn,false⟩
def y237 : D.Ty := ⟨(.ptr 275),1,8,some .pn,false⟩
def y261 : D.Ty := ⟨.uns,1,8,some .pn,false⟩
def y264 : D.Ty := ⟨(.st []),0,0,some (.ag []),false⟩
def y266 : D.Ty := ⟨(.st [(0,100,true),(0,195,false)]),1,4,some (.ag [(.i .u32 (.ofNat 0))]),false⟩
def y268 : D.Ty := ⟨(.st [(0,21,false),(1,195,false)]),2,8,some (.ag [(.i .i32 (.ofNat 0)),(.i .u32 (.ofNat 0))]),false⟩
def y270 : D.Ty := ⟨(.st [(0,264,true),(0,268,false)]),2,8,some (.ag [(.i .i32 (.ofNat 0)),(.i .u32 (.ofNat 0))]),false⟩
def y272 : D.Ty := ⟨(.st [(0,264,true),(0,266,false),(1,270,false)]),3,12,some (.ag [(.i .u32 (.ofNat 0)),(.i .i32 (.ofNat 0)),(.i .u32 (.ofNat 0))]),false⟩
def y273 : D.Ty := ⟨(.arr 16 195),16,64,some (.ag [(.i .u32 (.ofNat 0)),(.i .u32 (.ofNat 0)),(.i .u32 (.ofNat 0)),(.i .u32 (.ofNat 0)),(.i .u32 (.ofNat 0)),(.i .u32 (.ofNat 0)),(.i .u32 (.ofNat 0)),(.i .u32 (.ofNat 0)),(.i .u32 (.ofNat 0)),(.i .u32 (.ofNat 0)),(.i .u32 (.ofNat 0)),(.i .u32 (.ofNat 0)),(.i .u32 (.ofNat 0)),(.i .u32 (.ofNat 0)),(.i .u32 (.ofNat 0)),(.i .u32 (.ofNat 0))]),false⟩
def y275 : D.Ty := ⟨(.st [(0,272,false),(3,103,false),(4,273,false)]),20,88,some (.ag [(.i .u32 (.ofNat 0)),(.i .i32 (.ofNat 0)),(.i .u32 (.ofNat 0)),(.i .i64 (.ofNat 0)),(.i .u32 (.ofNat 0)),(.i .u32 (.ofNat 0)),(.i .u32 (.ofNat 0)),(.i .u32 (.ofNat 0)),(.i .u32 (.ofNat 0)),(.i .u32 (.ofNat 0)),(.i .u32 (.ofNat 0)),(.i .u32 (.ofNat 0)),(.i .u32 (.ofNat 0)),(.i .u32 (.ofNat 0)),(.i .u32 (.ofNat 0)),(.i .u32 (.ofNat 0)),(.i .u32 (.ofNat 0)),(.i .u32 (.ofNat 0)),(.i .u32 (.ofNat 0)),(.i .u32 (.ofNat 0))]),false⟩
def y279 : D.Ty := ⟨.func,1,8,some .fn,false⟩
def y282 : D.Ty := ⟨(.arr 256 4),256,256,some (.ag [(.b false),(.b false),(.b false),(.b false),(.b false),(.b false),(.b false),(.b false),(.b false),(.b false),(.b false),(.b false),(.b false),(.b false),(.b false),(.b false),(.b false),(.b false),(.b false),(.b false),(.b false),(.b false),(.b false),(.b false),(.b false),(.b false),(.b false),(.b false),(.b false),(.b false),(.b false),(.b false),(.b false),(.b false),(.b false),(.b false),(.b false),(.b false),(.b false),(.b false),(.b false),(.b false),(.b false),(.b false),(.b false),(.b false),(.b false),(.b false),(.b false),(.b false),(.b false),(.b false),(.b false),(.b false),(.b false),(.b false),(.b false),(.b false),(.b false),(.b false),(.b false),(.b false),(.b false),(.b false),(.b false),(.b false),(.b false),(.b false),(.b false),(.b false),(.b false),(.b false),(.b false),(.b false),(.b false),(.b false),(.b false),(.b false),(.b false),(.b false),(.b false),(.b false),(.b false),(.b false),(.b false),(.b false),(.b false),(.b false),(.b false),(.b false),(.b false),(.b false),(.b false),(.b false),(.b false),(.b false),(.b false),(.b false),(.b false),(.b false),(.b false),(.b false),(.b false),(.b false),(.b false),(.b false),(.b false),(.b false),(.b false),(.b false),(.b false),(.b false),(.b false),(.b false),(.b false),(.b false),(.b false),(.b false),(.b false),(.b false),(.b false),(.b false),(.b false),(.b false),(.b false),(.b false),(.b false),(.b false),(.b false),(.b false),(.b false),(.b false),(.b false),(.b false),(.b false),(.b false),(.b false),(.b false),(.b false),(.b false),(.b false),(.b false),(.b false),(.b false),(.b false),(.b false),(.b false),(.b false),(.b false),(.b false),(.b false),(.b false),(.b false),(.b false),(.b false),(.b false),(.b false),(.b false),(.b false),(.b false),(.b false),(.b false),(.b false),(.b false),(.b false),(.b false),(.b false),(.b false),(.b false),(.b false),(.b false),(.b false),(.b false),(.b false),(.b false),(.b false),(.b false),(.b false),(.b false),(.b false),(.b false),(.b false),(.b false),(.b false),(.b false),(.b false),(.b false),(.b false),(.b false),(.b false),(.b false),(.b false),(.b false),(.b false),(.b false),(.b false),(.b false),(.b false),(.b false),(.b false),(.b false),(.b false),(.b false),(.b false),(.b false),(.b false),(.b false),(.b false),(.b false),(.b false),(.b false),(.b false),(.b false),(.b false),(.b false),(.b false),(.b false),(.b false),(.b false),(.b false),(.b false),(.b false),(.b false),(.b false),(.b false),(.b false),(.b false),(.b false),(.b false),(.b false),(.b false),(.b false),(.b false),(.b false),(.b false),(.b false),(.b false),(.b false),(.b false),(.b false),(.b false),(.b false),(.b false),(.b false),(.b false),(.b false),(.b false),(.b false),(.b false),(.b false),(.b false),(.b false),(.b false),(.b false),(.b false),(.b false)]),false⟩
def y286 : D.Ty := ⟨(.ptr 282),1,8,some .pn,false⟩
def y299 : D.Ty := ⟨.func,1,8,some .fn,false⟩
def y305 : D.Ty := ⟨.func,1,8,some .fn,false⟩
def y309 : D.Ty := ⟨(.st [(0,3,false),(1,3,false),(2,3,false)]),3,24,some (.ag [(.i .i64 (.ofNat 0)),(.i .i64 (.ofNat 0)),(.i .i64 (.ofNat 0))]),false⟩
def y312 : D.Ty := ⟨(.st [(0,3,false),(1,3,false)]),2,16,some (.ag [(.i .i64 (.ofNat 0)),(.i .i64 (.ofNat 0))]),false⟩
def y317 : D.Ty := ⟨(.int .i64),1,8,some (.i .i64 (.ofNat 0)),false⟩
def y326 : D.Ty := ⟨(.ptr 3),1,8,some .pn,false⟩
def y327 : D.Ty := ⟨(.sl 326),1,24,some .sn,false⟩
def y341 : D.Ty := ⟨(.sl 312),1,24,some .sn,false⟩
def y347 : D.Ty := ⟨(.ptr 272),1,8,some .pn,false⟩
def y366 : D.Ty := ⟨(.ptr 195),1,8,some .pn,false⟩
def y381 : D.Ty := ⟨(.ptr 268),1,8,some .pn,false⟩
def y383 : D.Ty := ⟨(.ptr 21),1,8,some .pn,false⟩
def tyL : List (Nat × D.Ty) := [(1,y1),(2,y2),(3,y3),(4,y4),(5,y5),(9,y9),(21,y21),(22,y22),(24,y24),(25,y25),(29,y29),(33,y33),(34,y34),(35,y35),(36,y36),(38,y38),(43,y43),(46,y46),(50,y50),(52,y52),(55,y55),(64,y64),(65,y65),(69,y69),(73,y73),(74,y74),(77,y77),(87,y87),(94,y94),(97,y97),(98,y98),(100,y100),(101,y101),(103,y103),(105,y105),(109,y109),(113,y113),(120,y120),(123,y123),(124,y124),(126,y126),(127,y127),(139,y139),(141,y141),(144,y144),(147,y147),(150,y150),(153,y153),(155,y155),(162,y162),(172,y172),(181,y181),(184,y184),(185,y185),(187,y187),(189,y189),(195,y195),(198,y198),(203,y203),(208,y208),(214,y214),(224,y224),(229,y229),(235,y235),(236,y236),(237,y237),(261,y261),(264,y264),(266,y266),(268,y268),(270,y270),(272,y272),(273,y273),(275,y275),(279,y279),(282,y282),(286,y286),(299,y299),(305,y305),(309,y309),(312,y312),(317,y317),(326,y326),(327,y327),(341,y341),(347,y347),(366,y366),(381,y381),(383,y383)]
def tyT : T (Option D.Ty) := (.nd none (.nd (some y1) (.nd (some y5) (.nd (some y21) (.nd none (.nd (some y341) .lf .lf .lf .lf) .lf .lf .lf) .lf .lf .lf) (.nd none (.nd (some y101) .lf .lf .lf .lf) .lf (.nd (some y229) .lf .lf .lf .lf) .lf) (.nd none .lf (.nd (some y181) .lf .lf .lf .lf) .lf (.nd (some y309) .lf .lf .lf .lf)) (.nd (some y69) .lf .lf (.nd (some y261) .lf .lf .lf .lf) .lf)) (.nd (some y9) (.nd (some y25) .lf (.nd (some y153) .lf .lf .lf .lf) .lf .lf) (.nd none (.nd (some y105) .lf .lf .lf .lf) .lf .lf .lf) (.nd none .lf (.nd (some y185) .lf .lf .lf .lf) .lf .lf) (.nd (some y73) .lf .lf .lf .lf)) (.nd none (.nd (some y29) .lf .lf .lf .lf) (.nd none (.nd (some y109) .lf .lf .lf .lf) .lf (.nd (some y237) .lf .lf .lf .lf) .lf) (.nd none (.nd none (.nd (some y381) .lf .lf .lf .lf) .lf .lf .lf) (.nd (some y189) .lf .lf .lf .lf) .lf (.nd (some y317) .lf .lf .lf .lf)) (.nd (some y77) (.nd (some y141) .lf .lf .lf .lf) .lf .lf .lf)) (.nd none (.nd (some y33) (.nd (some y97) .lf .lf .lf .lf) .lf .lf .lf) (.nd none (.nd (some y113) .lf .lf .lf .lf) .lf .lf (.nd (some y305) .lf .lf .lf .lf)) (.nd (some y65) .lf .lf .lf .lf) (.nd none .lf .lf (.nd (some y273) .lf .lf .lf .lf) .lf))) (.nd (some y2) (.nd none (.nd (some y22) .lf (.nd (some y150) .lf .lf .lf .lf) (.nd (some y214) .lf .lf .lf .lf) .lf) (.nd (some y38) .lf .lf .lf .lf) .lf (.nd none .lf (.nd (some y198) .lf .lf .lf .lf) .lf (.nd (some y326) .lf .lf .lf .lf))) (.nd none (.nd none .lf .lf .lf (.nd (some y282) .lf .lf .lf .lf)) .lf .lf (.nd (some y74) .lf .lf (.nd (some y266) .lf .lf .lf .lf) .lf)) (.nd none (.nd none (.nd (some y94) .lf .lf .lf .lf) .lf .lf (.nd (some y286) .lf .lf .lf .lf)) (.nd (some y46) (.nd none (.nd (some y366) .lf .lf .lf .lf) .lf .lf .lf) .lf .lf .lf) (.nd none (.nd (some y126) .lf .lf .lf .lf) .lf .lf .lf) (.nd none .lf .lf (.nd (some y270) .lf .lf .lf .lf) .lf)) (.nd none (.nd (some y34) (.nd (some y98) .lf .lf .lf .lf) (.nd (some y162) .lf .lf .lf .lf) .lf .lf) (.nd (some y50) .lf .lf .lf .lf) .lf .lf)) (.nd (some y3) (.nd none (.nd none (.nd (some y87) .lf .lf .lf .lf) .lf .lf (.nd (some y279) .lf .lf .lf .lf)) (.nd none (.nd (some y103) .lf .lf .lf .lf) .lf .lf .lf) (.nd (some y55) .lf .lf .lf .lf) (.nd none .lf .lf .lf (.nd (some y327) .lf .lf .lf .lf))) (.nd none (.nd none (.nd none (.nd (some y347) .lf .lf .lf .lf) .lf .lf .lf) (.nd (some y155) .lf .lf .lf .lf) .lf .lf) (.nd (some y43) .lf .lf (.nd (some y235) .lf .lf .lf .lf) (.nd (some y299) .lf .lf .lf .lf)) (.nd none (.nd (some y123) .lf .lf .lf .lf) (.nd (some y187) .lf .lf .lf .lf) .lf .lf) (.nd none (.nd (some y139) .lf .lf .lf .lf) (.nd (some y203) .lf .lf .lf .lf) .lf .lf)) (.nd none .lf .lf (.nd none (.nd (some y127) (.nd (some y383) .lf .lf .lf .lf) .lf .lf .lf) .lf .lf .lf) .lf) (.nd none (.nd (some y35) .lf .lf .lf .lf) .lf (.nd none .lf (.nd (some y195) .lf .lf .lf .lf) .lf .lf) (.nd none (.nd (some y147) .lf .lf .lf .lf) .lf (.nd (some y275) .lf .lf .lf .lf) .lf))) (.nd (some y4) (.nd none (.nd (some y24) .lf .lf .lf .lf) .lf (.nd none (.nd (some y120) .lf .lf .lf .lf) (.nd (some y184) .lf .lf .lf .lf) .lf (.nd (some y312) .lf .lf .lf .lf)) (.nd none .lf .lf (.nd (some y264) .lf .lf .lf .lf) .lf)) (.nd none .lf (.nd none .lf (.nd (some y172) .lf .lf .lf .lf) (.nd (some y236) .lf .lf .lf .lf) .lf) (.nd none (.nd (some y124) .lf .lf .lf .lf) .lf .lf .lf) (.nd none .lf .lf (.nd (some y268) .lf .lf .lf .lf) .lf)) (.nd none (.nd none .lf .lf (.nd (some y224) .lf .lf .lf .lf) .lf) .lf (.nd (some y64) .lf .lf .lf .lf) (.nd none (.nd (some y144) .lf .lf .lf .lf) (.nd (some y208) .lf .lf .lf .lf) (.nd (some y272) .lf .lf .lf .lf) .lf)) (.nd none (.nd (some y36) (.nd (some y100) .lf .lf .lf .lf) .lf .lf .lf) (.nd (some y52) .lf .lf .lf .lf) .lf .lf)))
def msL : List (String × List (Nat × Nat × Rc)) := []
def tsL : List (Nat × TE) := []
end
end PH.R
