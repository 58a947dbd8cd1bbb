import Derived.Test.YtklblkobegcljaaGreatMG
import Derived.Test.YtklblkobegcljaaGreatRows
import Derived.Test.YtklblkobegcljaaGreatME
import Derived.IntWalk
import Derived.ProofKit
import Derived.Deep.Slices
import Derived.Test.YtklblkobegcljaaGreatMF
namespace Go.Proofs.YtklblkobegcljaaGreat
open Go.AM
def ti2:TI:={ n:=1,zero:=[.v (.int .i64 0)],bytes:=8,kind:=some .i64 }
def ti3:TI:={ n:=1,zero:=[.v (.int .i64 0)],bytes:=8,kind:=some .i64 }
def ti4:TI:={ n:=1,zero:=[.v (.bool false)],bytes:=1,boo:=true }
def ti5:TI:={ n:=1,zero:=[.v (.int .u8 0)],bytes:=1,kind:=some .u8 }
def ti6:TI:={ n:=1,zero:=[.v (.int .u8 0)],bytes:=1,kind:=some .u8 }
def ti7:TI:={ agg:=true,n:=4,zero:=[.v (.int .i64 0),.v (.int .i64 0),.v (.bool false),.v (.int .u8 0)],fields:=[(0,1),(1,1),(2,1),(3,1)],fagg:=[false,false,false,false],bytes:=24,pln:=true }
def ti8:TI:={ agg:=true,n:=4,zero:=[.v (.int .i64 0),.v (.int .i64 0),.v (.bool false),.v (.int .u8 0)],fields:=[(0,1),(1,1),(2,1),(3,1)],fagg:=[false,false,false,false],bytes:=24,pln:=true }
def ti9:TI:={ n:=1,zero:=[.v (.string ⟨#[]⟩)],bytes:=16,str:=true }
def Xu:TI:={ n:=1,zero:=[.v (.string ⟨#[]⟩)],bytes:=16,str:=true }
def Xt:TI:={ n:=1,zero:=[.v (.string ⟨#[]⟩)],bytes:=16,str:=true }
def Xs:TI:={ n:=1,zero:=[.v (.int .u64 0)],bytes:=8,kind:=some .u64 }
def Xr:TI:={ agg:=true,n:=2,zero:=[.v (.string ⟨#[]⟩),.v (.int .u64 0)],fields:=[(0,1),(1,1)],fagg:=[false,false],bytes:=24,pln:=true }
def Xq:TI:={ agg:=true,n:=2,zero:=[.v (.string ⟨#[]⟩),.v (.int .u64 0)],fields:=[(0,1),(1,1)],fagg:=[false,false],bytes:=24,pln:=true }
def Xp:TI:={ n:=1,zero:=[.v (.int .i32 0)],bytes:=4,kind:=some .i32 }
def Xo:TI:={ n:=1,zero:=[.nil],sl:=some 137,bytes:=24,pln:=false }
def Xn:TI:={ n:=1,zero:=[.nil],sl:=some 142,bytes:=24,pln:=false }
def Xm:TI:={ agg:=true,n:=4,zero:=[.v (.bool false),.nil,.nil,.v (.int .i64 0)],fields:=[(0,1),(1,1),(2,1),(3,1)],fagg:=[false,false,false,false],bytes:=64,pln:=false }
def Xl:TI:={ agg:=true,n:=4,zero:=[.v (.bool false),.nil,.nil,.v (.int .i64 0)],fields:=[(0,1),(1,1),(2,1),(3,1)],fagg:=[false,false,false,false],bytes:=64,pln:=false }
def Xk:TI:={ n:=1,zero:=[.nil],sl:=some 3,bytes:=24,pln:=false }
def Xj:TI:={ n:=1,zero:=[.nil],sl:=some 91,bytes:=24,pln:=false }
def Xi:TI:={ n:=1,zero:=[.nil],sl:=some 100,bytes:=24,pln:=false }
def Xh:TI:={ agg:=true,n:=8,zero:=[.v (.bool false),.nil,.nil,.v (.int .i64 0),.nil,.nil,.nil,.v (.int .i64 0)],fields:=[(0,4),(4,1),(5,1),(6,1),(7,1)],fagg:=[true,false,false,false,false],bytes:=144,pln:=false }
def Xg:TI:={ agg:=true,n:=8,zero:=[.v (.bool false),.nil,.nil,.v (.int .i64 0),.nil,.nil,.nil,.v (.int .i64 0)],fields:=[(0,4),(4,1),(5,1),(6,1),(7,1)],fagg:=[true,false,false,false,false],bytes:=144,pln:=false }
def Xf:TI:={ n:=1,zero:=[.nil],sl:=some 119,bytes:=24,pln:=false }
def Xe:TI:={ n:=1,zero:=[.nil],sl:=some 150,bytes:=24,pln:=false }
def Xd:TI:={ agg:=true,n:=4,zero:=[.v (.bool false),.nil,.nil,.v (.int .i64 0)],fields:=[(0,1),(1,1),(2,1),(3,1)],fagg:=[false,false,false,false],bytes:=64,pln:=false }
def Xc:TI:={ agg:=true,n:=4,zero:=[.v (.bool false),.nil,.nil,.v (.int .i64 0)],fields:=[(0,1),(1,1),(2,1),(3,1)],fagg:=[false,false,false,false],bytes:=64,pln:=false }
def Xb:TI:={ n:=1,zero:=[.nil],sl:=some 104,bytes:=24,pln:=false }
def Xa:TI:={ n:=1,zero:=[.nil],sl:=some 66,bytes:=24,pln:=false }
def W9:TI:={ agg:=true,n:=8,zero:=[.v (.bool false),.nil,.nil,.v (.int .i64 0),.nil,.nil,.nil,.v (.int .i64 0)],fields:=[(0,4),(4,1),(5,1),(6,1),(7,1)],fagg:=[true,false,false,false,false],bytes:=144,pln:=false }
def W8:TI:={ agg:=true,n:=8,zero:=[.v (.bool false),.nil,.nil,.v (.int .i64 0),.nil,.nil,.nil,.v (.int .i64 0)],fields:=[(0,4),(4,1),(5,1),(6,1),(7,1)],fagg:=[true,false,false,false,false],bytes:=144,pln:=false }
def W7:TI:={ n:=1,zero:=[.nil],sl:=some 181,bytes:=24,pln:=false }
def W6:TI:={ agg:=true,n:=7,zero:=[.v (.int .i64 0),.v (.string ⟨#[]⟩),.v (.int .i64 0),.v (.int .i64 0),.v (.int .i64 0),.nil,.nil],fields:=[(0,1),(1,1),(2,1),(3,1),(4,1),(5,1),(6,1)],fagg:=[false,false,false,false,false,false,false],bytes:=96,pln:=false }
def W0:TI:={ agg:=true,n:=7,zero:=[.v (.int .i64 0),.v (.string ⟨#[]⟩),.v (.int .i64 0),.v (.int .i64 0),.v (.int .i64 0),.nil,.nil],fields:=[(0,1),(1,1),(2,1),(3,1),(4,1),(5,1),(6,1)],fagg:=[false,false,false,false,false,false,false],bytes:=96,pln:=false }
def WZ:TI:={ n:=1,zero:=[.nil],sl:=some 183,bytes:=24,pln:=false }
def WY:TI:={ agg:=true,n:=4,zero:=[.v (.int .i64 0),.v (.int .i64 0),.nil,.nil],fields:=[(0,1),(1,1),(2,1),(3,1)],fagg:=[false,false,false,false],bytes:=64,pln:=false }
def WX:TI:={ agg:=true,n:=4,zero:=[.v (.int .i64 0),.v (.int .i64 0),.nil,.nil],fields:=[(0,1),(1,1),(2,1),(3,1)],fagg:=[false,false,false,false],bytes:=64,pln:=false }
def WW:TI:={ agg:=true,n:=15,zero:=[.v (.int .i64 0),.v (.string ⟨#[]⟩),.v (.int .i64 0),.v (.int .i64 0),.v (.int .i64 0),.nil,.nil,.v (.int .i64 0),.v (.int .i64 0),.v (.int .i64 0),.v (.int .i64 0),.v (.int .i64 0),.v (.int .i64 0),.nil,.nil],fields:=[(0,7),(7,1),(8,1),(9,1),(10,1),(11,4)],fagg:=[true,false,false,false,false,true],bytes:=192,pln:=false }
def WV:TI:={ agg:=true,n:=15,zero:=[.v (.int .i64 0),.v (.string ⟨#[]⟩),.v (.int .i64 0),.v (.int .i64 0),.v (.int .i64 0),.nil,.nil,.v (.int .i64 0),.v (.int .i64 0),.v (.int .i64 0),.v (.int .i64 0),.v (.int .i64 0),.v (.int .i64 0),.nil,.nil],fields:=[(0,7),(7,1),(8,1),(9,1),(10,1),(11,4)],fagg:=[true,false,false,false,false,true],bytes:=192,pln:=false }
def WU:TI:={ n:=1,zero:=[.nil],sl:=some 9,bytes:=24,pln:=false }
def WT:TI:={ agg:=true,n:=2,zero:=[.v (.string ⟨#[]⟩),.nil],fields:=[(0,1),(1,1)],fagg:=[false,false],bytes:=40,pln:=false }
def WS:TI:={ agg:=true,n:=2,zero:=[.v (.string ⟨#[]⟩),.nil],fields:=[(0,1),(1,1)],fagg:=[false,false],bytes:=40,pln:=false }
def WR:TI:={ n:=1,zero:=[.nil],sl:=some 229,bytes:=24,pln:=false }
def WQ:TI:={ agg:=true,n:=7,zero:=[.v (.int .i64 0),.v (.string ⟨#[]⟩),.v (.int .i64 0),.v (.int .i64 0),.v (.int .i64 0),.nil,.nil],fields:=[(0,1),(1,1),(2,1),(3,1),(4,1),(5,1),(6,1)],fagg:=[false,false,false,false,false,false,false],bytes:=96,pln:=false }
def WO:TI:={ agg:=true,n:=7,zero:=[.v (.int .i64 0),.v (.string ⟨#[]⟩),.v (.int .i64 0),.v (.int .i64 0),.v (.int .i64 0),.nil,.nil],fields:=[(0,1),(1,1),(2,1),(3,1),(4,1),(5,1),(6,1)],fagg:=[false,false,false,false,false,false,false],bytes:=96,pln:=false }
def WN:TI:={ n:=1,zero:=[.nil],sl:=some 227,bytes:=24,pln:=false }
def WM:TI:={ agg:=true,n:=4,zero:=[.v (.int .i64 0),.v (.int .i64 0),.nil,.nil],fields:=[(0,1),(1,1),(2,1),(3,1)],fagg:=[false,false,false,false],bytes:=64,pln:=false }
def WL:TI:={ agg:=true,n:=4,zero:=[.v (.int .i64 0),.v (.int .i64 0),.nil,.nil],fields:=[(0,1),(1,1),(2,1),(3,1)],fagg:=[false,false,false,false],bytes:=64,pln:=false }
def WK:TI:={ agg:=true,n:=15,zero:=[.v (.int .i64 0),.v (.string ⟨#[]⟩),.v (.int .i64 0),.v (.int .i64 0),.v (.int .i64 0),.nil,.nil,.v (.int .i64 0),.v (.int .i64 0),.v (.int .i64 0),.v (.int .i64 0),.v (.int .i64 0),.v (.int .i64 0),.nil,.nil],fields:=[(0,7),(7,1),(8,1),(9,1),(10,1),(11,4)],fagg:=[true,false,false,false,false,true],bytes:=192,pln:=false }
def Qs:TI:={ agg:=true,n:=15,zero:=[.v (.int .i64 0),.v (.string ⟨#[]⟩),.v (.int .i64 0),.v (.int .i64 0),.v (.int .i64 0),.nil,.nil,.v (.int .i64 0),.v (.int .i64 0),.v (.int .i64 0),.v (.int .i64 0),.v (.int .i64 0),.v (.int .i64 0),.nil,.nil],fields:=[(0,7),(7,1),(8,1),(9,1),(10,1),(11,4)],fagg:=[true,false,false,false,false,true],bytes:=192,pln:=false }
def sq:TI:={ agg:=true,n:=2,zero:=[.v (.string ⟨#[]⟩),.nil],fields:=[(0,1),(1,1)],fagg:=[false,false],bytes:=40,pln:=false }
def Qr:TI:={ n:=1,zero:=[.nil],sl:=some 196,bytes:=24,pln:=false }
def Qq:TI:={ agg:=true,n:=5,zero:=[.v (.string ⟨#[]⟩),.v (.int .i64 0),.nil,.nil,.nil],fields:=[(0,1),(1,1),(2,1),(3,1),(4,1)],fagg:=[false,false,false,false,false],bytes:=96,pln:=false }
def so:TI:={ agg:=true,n:=5,zero:=[.v (.string ⟨#[]⟩),.v (.int .i64 0),.nil,.nil,.nil],fields:=[(0,1),(1,1),(2,1),(3,1),(4,1)],fagg:=[false,false,false,false,false],bytes:=96,pln:=false }
def Qp:TI:={ n:=1,zero:=[.nil],sl:=some 240,bytes:=24,pln:=false }
def Qo:TI:={ agg:=true,n:=5,zero:=[.v (.string ⟨#[]⟩),.v (.int .i64 0),.nil,.nil,.nil],fields:=[(0,1),(1,1),(2,1),(3,1),(4,1)],fagg:=[false,false,false,false,false],bytes:=96,pln:=false }
def Qn:TI:={ agg:=true,n:=5,zero:=[.v (.string ⟨#[]⟩),.v (.int .i64 0),.nil,.nil,.nil],fields:=[(0,1),(1,1),(2,1),(3,1),(4,1)],fagg:=[false,false,false,false,false],bytes:=96,pln:=false }
def Qm:TI:={ agg:=true,n:=4,zero:=[.v (.int .i64 0),.v (.int .i64 0),.v (.bool false),.nil],fields:=[(0,1),(1,1),(2,1),(3,1)],fagg:=[false,false,false,false],bytes:=48,pln:=false }
def Ql:TI:={ agg:=true,n:=4,zero:=[.v (.int .i64 0),.v (.int .i64 0),.v (.bool false),.nil],fields:=[(0,1),(1,1),(2,1),(3,1)],fagg:=[false,false,false,false],bytes:=48,pln:=false }
def Qk:TI:={ agg:=true,n:=6,zero:=[.v (.int .i64 0),.v (.string ⟨#[]⟩),.v (.int .i64 0),.v (.int .i64 0),.v (.bool false),.nil],fields:=[(0,1),(1,1),(2,4)],fagg:=[false,false,true],bytes:=72,pln:=false }
def Qj:TI:={ agg:=true,n:=6,zero:=[.v (.int .i64 0),.v (.string ⟨#[]⟩),.v (.int .i64 0),.v (.int .i64 0),.v (.bool false),.nil],fields:=[(0,1),(1,1),(2,4)],fagg:=[false,false,true],bytes:=72,pln:=false }
def Qi:TI:={ agg:=true,n:=4,zero:=[.v (.int .i64 0),.v (.int .i64 0),.v (.bool false),.nil],fields:=[(0,1),(1,1),(2,1),(3,1)],fagg:=[false,false,false,false],bytes:=48,pln:=false }
def Qh:TI:={ agg:=true,n:=4,zero:=[.v (.int .i64 0),.v (.int .i64 0),.v (.bool false),.nil],fields:=[(0,1),(1,1),(2,1),(3,1)],fagg:=[false,false,false,false],bytes:=48,pln:=false }
def Qg:TI:={ agg:=true,n:=6,zero:=[.v (.int .i64 0),.v (.string ⟨#[]⟩),.v (.int .i64 0),.v (.int .i64 0),.v (.bool false),.nil],fields:=[(0,1),(1,1),(2,4)],fagg:=[false,false,true],bytes:=72,pln:=false }
def Qf:TI:={ agg:=true,n:=6,zero:=[.v (.int .i64 0),.v (.string ⟨#[]⟩),.v (.int .i64 0),.v (.int .i64 0),.v (.bool false),.nil],fields:=[(0,1),(1,1),(2,4)],fagg:=[false,false,true],bytes:=72,pln:=false }
def Qe:TI:={ n:=1,zero:=[.nil],sl:=some 5,bytes:=24,pln:=false }
def Qd:TI:={ agg:=true,n:=3,zero:=[.v (.int .i64 0),.v (.int .i64 0),.nil],fields:=[(0,1),(1,1),(2,1)],fagg:=[false,false,false],bytes:=40,pln:=false }
def Qb:TI:={ agg:=true,n:=3,zero:=[.v (.int .i64 0),.v (.int .i64 0),.nil],fields:=[(0,1),(1,1),(2,1)],fagg:=[false,false,false],bytes:=40,pln:=false }
def Qa:TI:={ agg:=true,n:=3,zero:=[.v (.int .i64 0),.v (.int .i64 0),.nil],fields:=[(0,1),(1,1),(2,1)],fagg:=[false,false,false],bytes:=40,pln:=false }
def P9:TI:={ agg:=true,n:=3,zero:=[.v (.int .i64 0),.v (.int .i64 0),.nil],fields:=[(0,1),(1,1),(2,1)],fagg:=[false,false,false],bytes:=40,pln:=false }
def P8:TI:={ agg:=true,n:=3,zero:=[.v (.int .i64 0),.v (.int .i64 0),.v (.int .i64 0)],fields:=[(0,1),(1,1),(2,1)],fagg:=[false,false,false],bytes:=24,pln:=true,ieq:=true }
def sm:TI:={ agg:=true,n:=3,zero:=[.v (.int .i64 0),.v (.int .i64 0),.v (.int .i64 0)],fields:=[(0,1),(1,1),(2,1)],fagg:=[false,false,false],bytes:=24,pln:=true,ieq:=true }
def P7:TI:={ n:=1,zero:=[.nil],sl:=some 59,bytes:=24,pln:=false }
def P6:TI:={ agg:=true,n:=3,zero:=[.v (.int .i64 0),.v (.int .i64 0),.nil],fields:=[(0,1),(1,1),(2,1)],fagg:=[false,false,false],bytes:=40,pln:=false }
def P4:TI:={ agg:=true,n:=3,zero:=[.v (.int .i64 0),.v (.int .i64 0),.nil],fields:=[(0,1),(1,1),(2,1)],fagg:=[false,false,false],bytes:=40,pln:=false }
def P2:TI:={ agg:=true,n:=3,zero:=[.v (.int .i64 0),.v (.int .i64 0),.nil],fields:=[(0,1),(1,1),(2,1)],fagg:=[false,false,false],bytes:=40,pln:=false }
def P0:TI:={ agg:=true,n:=3,zero:=[.v (.int .i64 0),.v (.int .i64 0),.v (.int .i64 0)],fields:=[(0,1),(1,1),(2,1)],fagg:=[false,false,false],bytes:=24,pln:=true,ieq:=true }
def PZ:TI:={ agg:=true,n:=3,zero:=[.nil,.nil,.v (.int .i64 0)],fields:=[(0,1),(1,1),(2,1)],fagg:=[false,false,false],bytes:=56,pln:=false }
def PY:TI:={ agg:=true,n:=3,zero:=[.nil,.nil,.v (.int .i64 0)],fields:=[(0,1),(1,1),(2,1)],fagg:=[false,false,false],bytes:=56,pln:=false }
def PX:TI:={ agg:=true,n:=3,zero:=[.nil,.v (.int .i64 0),.v (.int .i64 0)],fields:=[(0,1),(1,1),(2,1)],fagg:=[false,false,false],bytes:=40,pln:=false }
def PW:TI:={ agg:=true,n:=3,zero:=[.nil,.v (.int .i64 0),.v (.int .i64 0)],fields:=[(0,1),(1,1),(2,1)],fagg:=[false,false,false],bytes:=40,pln:=false }
def PU:TI:={ agg:=true,n:=1,zero:=[.nil],fields:=[(0,1)],fagg:=[false],bytes:=24,pln:=false }
def PT:TI:={ agg:=true,n:=1,zero:=[.nil],fields:=[(0,1)],fagg:=[false],bytes:=24,pln:=false }
def PS:TI:={ n:=1,zero:=[.v (.int .u32 0)],bytes:=4,kind:=some .u32 }
def PR:TI:={ n:=1,zero:=[.v (.int .u8 0)],bytes:=1,kind:=some .u8 }
def PQ:TI:={ n:=1,zero:=[.v (.int .u8 0)],bytes:=1,kind:=some .u8 }
def PP:TI:={ n:=1,zero:=[.v (.int .i32 0)],bytes:=4,kind:=some .i32 }
def PO:TI:={ n:=1,zero:=[.v (.int .i32 0)],bytes:=4,kind:=some .i32 }
def aaf:List (Nat×TI):=[(2,ti2),(3,ti3),(4,ti4),(5,ti5),(6,ti6),(7,ti7),(8,ti8),(9,ti9),(10,Xu),(11,Xt),(12,Xs),(13,Xr),(14,Xq),(21,Xp),(22,Xo),(23,Xn),(24,Xm),(25,Xl),(26,Xk),(27,Xj),(28,Xi),(29,Xh),(30,Xg),(32,Xf),(33,Xe),(34,Xd),(35,Xc),(36,Xb),(37,Xa),(38,W9),(39,W8),(59,W7),(60,W6),(61,W0),(62,WZ),(63,WY),(64,WX),(65,WW),(66,WV),(84,WU),(90,WT),(91,WS),(93,WR),(94,WQ),(95,WO),(96,WN),(97,WM),(98,WL),(99,WK),(100,Qs),(104,sq),(117,Qr),(118,Qq),(119,so),(135,Qp),(136,Qo),(137,Qn),(139,Qm),(140,Ql),(141,Qk),(142,Qj),(147,Qi),(148,Qh),(149,Qg),(150,Qf),(179,Qe),(180,Qd),(181,Qb),(182,Qa),(183,P9),(195,P8),(196,sm),(217,P7),(226,P6),(227,P4),(229,P2),(240,P0),(260,PZ),(261,PY),(274,PX),(275,PW),(280,PU),(281,PT),(291,PS),(292,PR),(293,PQ),(296,PP),(297,PO)]
def tt:Nat->Option TI:=FK aaf
theorem adH:tt 2=some ti2:=rfl
theorem adG:tt 3=some ti3:=rfl
theorem adF:tt 4=some ti4:=rfl
theorem adE:tt 5=some ti5:=rfl
theorem adD:tt 6=some ti6:=rfl
theorem adC:tt 7=some ti7:=rfl
theorem adB:tt 8=some ti8:=rfl
theorem adA:tt 9=some ti9:=rfl
theorem aaU:tt 10=some Xu:=rfl
theorem aaT:tt 11=some Xt:=rfl
theorem aaS:tt 12=some Xs:=rfl
theorem aaR:tt 13=some Xr:=rfl
theorem aaQ:tt 14=some Xq:=rfl
theorem aaP:tt 21=some Xp:=rfl
theorem aaO:tt 22=some Xo:=rfl
theorem aaN:tt 23=some Xn:=rfl
theorem aaM:tt 24=some Xm:=rfl
theorem aaL:tt 25=some Xl:=rfl
theorem aaK:tt 26=some Xk:=rfl
theorem aaJ:tt 27=some Xj:=rfl
theorem aaI:tt 28=some Xi:=rfl
theorem aaH:tt 29=some Xh:=rfl
theorem aaG:tt 30=some Xg:=rfl
theorem aaF:tt 32=some Xf:=rfl
theorem aaE:tt 33=some Xe:=rfl
theorem aaD:tt 34=some Xd:=rfl
theorem aaC:tt 35=some Xc:=rfl
theorem aaB:tt 36=some Xb:=rfl
theorem aaA:tt 37=some Xa:=rfl
theorem aaz:tt 38=some W9:=rfl
theorem aay:tt 39=some W8:=rfl
theorem aax:tt 59=some W7:=rfl
theorem aaw:tt 60=some W6:=rfl
theorem aav:tt 61=some W0:=rfl
theorem aau:tt 62=some WZ:=rfl
theorem aat:tt 63=some WY:=rfl
theorem aas:tt 64=some WX:=rfl
theorem aar:tt 65=some WW:=rfl
theorem aaq:tt 66=some WV:=rfl
theorem aap:tt 84=some WU:=rfl
theorem aao:tt 90=some WT:=rfl
theorem aan:tt 91=some WS:=rfl
theorem aam:tt 93=some WR:=rfl
theorem aal:tt 94=some WQ:=rfl
theorem aak:tt 95=some WO:=rfl
theorem aaj:tt 96=some WN:=rfl
theorem aai:tt 97=some WM:=rfl
theorem aah:tt 98=some WL:=rfl
theorem aag:tt 99=some WK:=rfl
theorem WE:tt 100=some Qs:=rfl
theorem B3:tt 104=some sq:=rfl
theorem WD:tt 117=some Qr:=rfl
theorem WC:tt 118=some Qq:=rfl
theorem B2:tt 119=some so:=rfl
theorem WB:tt 135=some Qp:=rfl
theorem WA:tt 136=some Qo:=rfl
theorem Wz:tt 137=some Qn:=rfl
theorem Wy:tt 139=some Qm:=rfl
theorem Wx:tt 140=some Ql:=rfl
theorem Ww:tt 141=some Qk:=rfl
theorem Wv:tt 142=some Qj:=rfl
theorem Wu:tt 147=some Qi:=rfl
theorem Wt:tt 148=some Qh:=rfl
theorem Ws:tt 149=some Qg:=rfl
theorem Wr:tt 150=some Qf:=rfl
theorem Wq:tt 179=some Qe:=rfl
theorem Wp:tt 180=some Qd:=rfl
theorem Wo:tt 181=some Qb:=rfl
theorem Wn:tt 182=some Qa:=rfl
theorem Wm:tt 183=some P9:=rfl
theorem Wl:tt 195=some P8:=rfl
theorem B1:tt 196=some sm:=rfl
theorem Wk:tt 217=some P7:=rfl
theorem Wj:tt 226=some P6:=rfl
theorem Wi:tt 227=some P4:=rfl
theorem Wh:tt 229=some P2:=rfl
theorem Wg:tt 240=some P0:=rfl
theorem Wf:tt 260=some PZ:=rfl
theorem We:tt 261=some PY:=rfl
theorem Wd:tt 274=some PX:=rfl
theorem Wc:tt 275=some PW:=rfl
theorem Wb:tt 280=some PU:=rfl
theorem Wa:tt 281=some PT:=rfl
theorem V9:tt 291=some PS:=rfl
theorem V8:tt 292=some PR:=rfl
theorem V7:tt 293=some PQ:=rfl
theorem V6:tt 296=some PP:=rfl
theorem V5:tt 297=some PO:=rfl
theorem Tw:(aaf.all λp=>xj Tryz.prog p.1 p.2)=true:=al
theorem aw:∀t ti,tt t=some ti->TIok Tryz.prog t ti:=Qt Tw
theorem eok{w0:World}{F G:Nat->Prop}{l:Bool}:EOk ⟨Tryz.prog,tt,w0,⟨F,G,l,λ_=>True⟩⟩:=⟨aw,λ_ _=>trivial⟩
attribute [simp] ti2 ti3 ti4 ti5 ti6 ti7 ti8 ti9 Xu Xt Xs Xr Xq Xp Xo Xn Xm Xl Xk Xj Xi Xh Xg Xf Xe Xd Xc Xb Xa W9 W8 W7 W6 W0 WZ WY WX WW WV WU WT WS WR WQ WO WN WM WL WK Qs sq Qr Qq so Qp Qo Qn Qm Ql Qk Qj Qi Qh Qg Qf Qe Qd Qb Qa P9 P8 sm P7 P6 P4 P2 P0 PZ PY PX PW PU PT PS PR PQ PP PO adH adG adF adE adD adC adB adA aaU aaT aaS aaR aaQ aaP aaO aaN aaM aaL aaK aaJ aaI aaH aaG aaF aaE aaD aaC aaB aaA aaz aay aax aaw aav aau aat aas aar aaq aap aao aan aam aal aak aaj aai aah aag WE B3 WD WC B2 WB WA Wz Wy Wx Ww Wv Wu Wt Ws Wr Wq Wp Wo Wn Wm Wl B1 Wk Wj Wi Wh Wg Wf We Wd Wc Wb Wa V9 V8 V7 V6 V5
end Go.Proofs.YtklblkobegcljaaGreat
namespace Go.AM
abbrev vi(n:Int):CD:=.v (.int .i64 n)
noncomputable abbrev vb(p:Prop):CD:=.v (.bool (dc p))
abbrev aI(n:Int):List CD:=[vi n]
theorem Gr{p q:Prop}(h:p↔q):dc p=dc q:=by rw[propext h]
theorem rG{α:Type}{a b:List α}{i:Nat}(h:i<a.length)(h':i<b.length)(ht:a.take i=b.take i)(he:a[i]=b[i]):a.take (i+1)=b.take (i+1):=by
 rw[<-bb h,<-bb h',ht,he]
theorem Fc{α:Type}{a b:List α}{i:Nat}(h:a.length<=i)(hl:a.length=b.length)(ht:a.take i=b.take i):a=b:=by
 rwa[aC h,aC aa]at ht
theorem Bl{α:Type}{a b:List α}{i:Nat}(h:i<a.length)(h':i<b.length)(he:a[i]≠b[i]):a≠b:=by
 rintro rfl;exact he rfl
theorem fh{n:Nat}(h:n<=9223372036854775807):Go.IntKind.i64.wrap (n:Int)=n:=ae _ aa
theorem aQ{n:Nat}(h:n<9223372036854775807):Go.IntKind.i64.wrap ((n:Int)+1)=((n+1:Nat):Int):=by rw[ae _ aa];omega
@[simp] theorem adJ {a b:Nat}:((a:Int)+(b:Int)).toNat=a+b:=aa
@[simp] theorem adI {a n : Nat} : ((a : Int) + (OfNat.ofNat n : Int)).toNat = a + n := by
  show((a:Int)+((n:Nat):Int)).toNat=a+n
  omega
@[simp] theorem adX {a b:Nat}:(0:Int)<=(a:Int)+(b:Int):=aa
@[simp] theorem adW {a n : Nat} : (0 : Int) <= (a : Int) + (OfNat.ofNat n : Int) := by
  show(0:Int)<=(a:Int)+((n:Nat):Int)
  omega
@[simp] theorem adh {α:Type} {f:α->List CD} {l:List α}:cut (l.map f) 0 l.length=l.map f:=uN ab
attribute [simp] uN
@[simp] theorem adg {n:Nat}:((n:Int)<0)=False:=ab
open Go.RowKit Go.WideShapes Go.ChangeShapes
def zD(P:Program):Nat->List Field->Option Nat
 |o,[]=>some o
 |o,f::fs=>if f.offset=o then zD P (o+P.cellsOf f.type) fs else none
def okT(P:Program):Nat->TypeId->Bool
 |0,_=>false
 | D + 1, t => match P.underlying t with
   |some .bool=>true
   |some (.int _)=>true
   |some .string=>true
   |some (.slice e)=>decide (0<P.cellsOf e)&&okT P D e
   |some (.struct fs)=>(zD P 0 fs.toList==some (P.cellsOf t))&&fs.toList.all λf=>okT P D f.type
   |_=>false
def fV(P:Program):Nat->TypeId->List CD->Prop
 |0,_,_=>False
 | D + 1, t, ds => match P.underlying t with
   |some .bool=>∃b,ds=[.v (.bool b)]
   |some (.int k)=>∃n,ds=[.v (.int k n)]/\(Lit.int k n).wf=true
   |some .string=>∃s:ByteArray,ds=[.v (.string s)]/\s.size<=maxLen
   |some (.slice e)=>∃rows,ds=[.s rows]/\rows.length<=maxLen/\∀row∈rows,row.length=P.cellsOf e/\fV P D e row
   |some (.struct fs)=>ds.length=P.cellsOf t/\∀f∈fs.toList,fV P D f.type ((ds.drop f.offset).take (P.cellsOf f.type))
   |_=>False
def pP(w:World)(cs:List Value)(ds:List CD):Prop:=ds.length=cs.length/\∀(j:Nat) (u:Value) (d:CD),cs[j]? = some u->ds[j]? = some d->Rd w false (λ_=>True) u d
theorem pP.one{w:World}{u:Value}{d:CD}(h:Rd w false (λ_=>True) u d):pP w [u] [d]:=by
 refine⟨rfl,λj u' d' hu hd=>?_⟩
 cases j with
 |zero=>simp at hu hd;subst hu;subst hd;exact h
 |succ j=>simp at hu
theorem ud{P:Program}{w:World}{D:Nat}{cs:List Value}:∀(fs:List Field) (o m:Nat),zD P o fs=some m->m<=cs.length ->
 (∀f∈fs,∃ds,pP w ((cs.drop f.offset).take (P.cellsOf f.type)) ds/\fV P D f.type ds) ->
 ∃ds,o<=m/\pP w ((cs.drop o).take (m-o)) ds/\∀f∈fs,o<=f.offset/\fV P D f.type ((ds.drop (f.offset-o)).take (P.cellsOf f.type))
 | [], o, m, hc, _, _ => by
   simp only[zD,ez]at hc;subst hc;exact⟨[],aF _,by simp[pP],ab⟩
 | f :: fs, o, m, hc, hm, hx => by
   simp only[zD]at hc
   split at hc
   ·rename_i ho
    obtain⟨ds,h1,h2,h3⟩:=ud fs _ m hc hm (λg hg=>hx g (aD _ hg));obtain⟨d1,h4,h5⟩:=hx f (aK ..);have hl:d1.length=P.cellsOf f.type:=by rw[h4.1];simp;omega
    refine⟨d1++ds,aa,⟨?_,λj u d hu hd=>?_⟩,λg hg=>?_⟩
    ·have:=h2.1
     simp at this⊢;omega
    ·by_cases hj:j<P.cellsOf f.type
     ·rw[cX aa]at hd
      refine h4.2 j u d ?_ hd;rw[cN,ao hj,ho];rw[cN]at hu
      split at hu
      ·exact hu
      ·simp at hu
     ·rw[bd aa,hl]at hd
      refine h2.2 _ u d ?_ hd;rw[cN]at hu⊢
      split at hu
      ·rw[ao aa]
       rw[dR]at hu⊢;rw[<-hu]
       congr 1
       omega
      ·simp at hu
    ·rcases aV.1 hg with rfl|hg
     ·refine⟨aa,?_⟩
      rw[ho,Nat.sub_self,kH,List.take_append_of_le_length aa,aC aa];exact h5
     ·obtain⟨h6,h7⟩:=h3 g hg
      refine⟨aa,?_⟩
      have:(d1++ds).drop (g.offset-o)=ds.drop (g.offset-(o+P.cellsOf f.type)):=by
       rw[List.drop_append,wW aa,hl,ij]
       congr 1
       omega
      rw[this];exact h7
   ·simp at hc
theorem NQ{H:Type}{enc:TypeId×Value->H}{P:Program}{w:World}{base:Nat}{spare:Nat->Bool}{held:Bool} :
 ∀(D:Nat) (t:TypeId) (cs:List Value) (x:DataW H×List MemPlace) (fuel:Nat),okT P D t=true->DataW.trod enc P w base spare held fuel t cs=some x->∃ds,pP w cs ds/\fV P D t ds:=by
 intro D
 induction D with
 |zero=>intro t cs x fuel h;simp[okT]at h
 | succ D ih =>
   intro t cs x fuel hok h;unfold okT at hok
   split at hok
   ·rename_i hu
    obtain⟨b,rfl,-⟩:=DataW.trod_bool hu h;exact⟨[.v (.bool b)],pP.one (.plain rfl),by simp[fV,hu]⟩
   ·rename_i k hu
    obtain⟨n,rfl,-,hw⟩:=DataW.trod_int hu h;exact⟨[.v (.int k n)],pP.one (.plain rfl),by simp[fV,hu,hw]⟩
   ·rename_i hu
    obtain⟨s,rfl,-,hs⟩:=DataW.trod_string hu h;exact⟨[.v (.string s)],pP.one (.plain rfl),by simp[fV,hu,hs]⟩
   ·rename_i e hu
    simp only[aG,bU]at hok;obtain⟨hpos,hok⟩:=hok;rcases DataW.trod_slice hu h with⟨rfl,-⟩|⟨a,len,cap,elems,rest,n,-,rfl,-,-,hlc,hcm,hel,hi,-⟩
    ·exact JV
    ·have each:∀i,i<len->∃p:List Value×List CD,w.cells? base (a.add (i*P.cellsOf e)) (P.cellsOf e)=some p.1/\pP w p.1 p.2/\fV P D e p.2:=by
      intro i hlt;have h1:=hi i hlt;rw[ak aa]at h1;obtain⟨c,h2,h3⟩:=Option.bind_eq_some_iff.1 h1;obtain⟨ds,h4,h5⟩:=ih e c _ n hok h3;exact⟨(c,ds),h2,h4,h5⟩
     by_cases hl0:len=0
     ·subst hl0
      exact JV
     ·obtain⟨f,hf⟩:=Go.Deep.choose_lt each
      have cell:∀i j,i<len->j<P.cellsOf e->w.cell? (a.add (i*P.cellsOf e+j))=(f i).1[j]?/\(f i).1.length=P.cellsOf e:=by
       intro i j hlt hj;obtain⟨-,h2,h3⟩:=World.cells?_some (hf i hlt).1;exact⟨by rw[<-h3 j hj,Go.Deep.add_add],h2⟩
      obtain⟨b,off,spot⟩:=a
      have hb:∃cs T fr,w.heap[b]? = some (.cells cs T fr)/\spot=none:=by
       obtain⟨h1,h2⟩:=cell 0 0 aa hpos;rw[ak aa]at h1;unfold World.cell? at h1;rw[block_add]at h1
       split at h1
       ·rename_i c T fr hh
        refine⟨c,T,fr,hh,?_⟩
        cases spot with
        |none=>rfl
        |some s=>simp[Addr.add]at h1
       ·simp at h1
      obtain⟨c,T,fr,hb,rfl⟩:=hb
      have at':∀i j,i<len->j<P.cellsOf e->c[off+(i*P.cellsOf e+j)]? = (f i).1[j]?:=by
       intro i j hlt hj;rw[<-(cell i j hlt hj).1,eP];simp[World.cell?,hb]
      have hrows:((List.range len).map λi=>(f i).2).length=len:=ab
      have hrd:=Rd.slice (w:=w) (x:=false) (S:=λ_=>True) b off cap (P.cellsOf e) c T fr ((List.range len).map λi=>(f i).2) (λ_ _ _=>True)
       (by rw[hrows];exact hlc) hcm hpos trivial hb (by
        rw[hrows];obtain⟨m,rfl⟩:∃m,len=m+1:=⟨len-1,aa⟩;have h1:=at' m (P.cellsOf e-1) aa aa;rw[ak (by rw[(cell m (P.cellsOf e-1) aa aa).2];omega)]at h1;have h2:=(Array.getElem?_eq_some_iff.1 h1).1;rw[bD];omega) (λh=>gQ) (λ_ _ _ _=>⟨trivial,λh=>gQ⟩) (λh=>gQ)
       (λrow hrow=>by
        simp only[cF,eZ]at hrow;obtain⟨i,hlt,rfl⟩:=hrow;rw[(hf i hlt).2.1.1];exact(cell i 0 hlt hpos).2)
       (λi j row d h1 h2=>by
        have hlt:i<len:=by have:=(an.1 h1).1;omega
        simp only[bW,List.getElem?_range hlt,fq,ez]at h1;subst h1
        have hj:j<P.cellsOf e:=by
         have:=(an.1 h2).1;rw[(hf i hlt).2.1.1,(cell i 0 hlt hpos).2]at this;exact this
        have h3:=at' i j hlt hj;rw[ak (by rw[(cell i j hlt hj).2];exact hj)]at h3
        have h4:c.getD (off+(i*P.cellsOf e+j)) undef=(f i).1[j]'(by rw[(cell i j hlt hj).2];exact hj):=by
         rw[aT,h3];rfl
        rw[h4];exact(hf i hlt).2.1.2 j _ d (ak _) h2)
      rw[hrows]at hrd;refine⟨[.s ((List.range len).map λi=>(f i).2)],pP.one hrd,?_⟩;simp only[fV,hu];refine⟨_,rfl,by rw[hrows];omega,λrow hrow=>?_⟩;simp only[cF,eZ]at hrow;obtain⟨i,hlt,rfl⟩:=hrow;exact⟨by rw[(hf i hlt).2.1.1];exact(cell i 0 hlt hpos).2,(hf i hlt).2.2⟩
   ·rename_i fs hu
    simp only[aG,lV,cg]at hok;obtain⟨hc,hall⟩:=hok;obtain⟨xs,n,-,-,hcl,hxl,hi⟩:=DataW.trod_struct hu h
    obtain⟨ds,-,h1,h2⟩:=ud (w:=w) (D:=D) (cs:=cs) fs.toList 0 _ hc aa (λf hf=>by
     obtain⟨i,hlt,rfl⟩:=fb hf;have hlt':i<fs.size:=oP;have h3:=hi i fs[i] (by simp[hlt']);rw[ak aa]at h3;exact ih _ _ _ n (hall _ hf) h3)
    rw[kH,jf,aC aa]at h1;refine⟨ds,h1,?_⟩;simp only[fV,hu];refine⟨by rw[h1.1,hcl],λf hf=>?_⟩;have:=(h2 f hf).2
    rwa[jf]at this
   ·simp at hok
def Ac(P:Program)(D:Nat)(t:TypeId):VD->Prop
 | .c d=>fV P D t [d]
 | .agg ds=>(∃fs,P.underlying t=some (.struct fs))/\fV P D t ds
theorem Q0{H:Type}{enc:TypeId×Value->H}{P:Program}{w:World}{base b0:Nat}{spare:Nat->Bool}{held:Bool}{r:Reach}{D:Nat}{t:TypeId}{v:Value}{d:DataW H}{ps:List MemPlace}
 (hok:okT P D t=true) (hval:Value.okWide P w r b0 t v) (h:DataW.Trod enc P w base spare held t v d ps):∃vd,RdV w v vd/\Ac P D t vd:=by
 obtain⟨fuel,hf⟩:=h;obtain⟨ds,hr,hfit⟩:=NQ D t _ _ fuel hok hf
 have one:v.cells = #[v]->(∀fs,P.underlying t≠some (.struct fs))->∃vd,RdV w v vd/\Ac P D t vd:=by
  intro hc _;rw[hc]at hr;obtain⟨hl,hr⟩:=hr
  cases ds with
  |nil=>simp at hl
  | cons d ds =>
    cases ds with
    |nil=>exact⟨.c d,hr 0 v d rfl rfl,hfit⟩
    |cons _ _=>simp at hl
 cases D with
 |zero=>simp[okT]at hok
 | succ D =>
   unfold okT at hok
   split at hok
   ·rename_i hu
    obtain⟨b,rfl⟩:=okWide_bool hu hval;exact xU
   ·rename_i k hu
    obtain⟨n,rfl⟩:=okWide_int hu hval;exact xU
   ·rename_i hu
    obtain⟨s,rfl⟩:=okWide_string hu hval;exact xU
   ·rename_i e hu
    obtain⟨a,l,c,rfl⟩:=okWide_slice hu hval;exact xU
   ·rename_i fs hu
    obtain⟨cs,rfl,-⟩:=okWide_struct hu hval;obtain⟨hl,hr⟩:=hr;refine⟨.agg ds,⟨cs,rfl,by simpa[Value.cells]using hl.symm,λj d hd=>?_⟩,⟨fs,hu⟩,hfit⟩
    have hj:j<cs.size:=by
     have:=(an.1 hd).1;simp[Value.cells]at hl;omega
    have:=hr j cs[j] d (by simp[Value.cells,hj]) hd
    simpa[hj]using this
   ·simp at hok
def nK(P:Program)(D:Nat)(w:World):List TypeId->List Value->List VD->Prop
 | [],[],[]=>True
 |t::ts,v::vs,d::ds=>(RdV w v d/\Ac P D t d)/\nK P D w ts vs ds
 |_,_,_=>False
theorem Bk{H:Type}{enc:TypeId×Value->H}{P:Program}{w:World}{base b0:Nat}{spare:Nat->Bool}{held:Bool}{r:Reach}{D:Nat} :
 ∀ (ts : List TypeId) (vs : List Value) (ds : List (DataW H)) (ps : List MemPlace), (ts.all λt => okT P D t) = true -> (∀ (j : Nat) t v, ts[j]? = some t -> vs[j]? = some v -> Value.okWide P w r b0 t v) ->
   DataW.TrodAll enc P w base spare held ts vs ds ps->∃vds,nK P D w ts vs vds
 | [], vs, ds, ps, _, _, h => by
   obtain⟨rfl,-,-⟩:=trodAll_nil h;exact⟨[],trivial⟩
 | t :: ts, vs, ds, ps, hok, hval, h => by
   obtain⟨v,vs1,d,ds1,a,b,rfl,rfl,rfl,h1,h2⟩:=trodAll_cons h;simp only[List.all_cons,aG]at hok;obtain⟨vds,h3⟩:=Bk ts vs1 ds1 b hok.2 (λj t v ht hv=>hval (j+1) t v (by simpa using ht) (by simpa using hv)) h2;obtain⟨vd,h4,h5⟩:=Q0 hok.1 (hval 0 t v rfl rfl) h1;exact⟨vd::vds,⟨h4,h5⟩,h3⟩
theorem wP{P:Program}{D:Nat}{w:World}:∀(ts:List TypeId) (vs:List Value) (vds:List VD),nK P D w ts vs vds->vs.length=vds.length/\∀(i:Nat) vd,vds[i]? = some vd->RdV w (vs.toArray.getD i undef) vd
 | [],[],[],_=>⟨rfl,λi vd h=>gQ⟩
 | t :: ts, v :: vs, d :: ds, h => by
   obtain⟨h1,h2⟩:=wP ts vs ds h.2;refine⟨j9,λi vd hi=>?_⟩
   cases i with
   |zero=>simp at hi;subst hi;simpa using h.1.1
   |succ i=>simpa using h2 i vd dN
theorem A6{H:Type}{enc:TypeId×Value->H}{P:Program}(hl:laidOutB P=true){W W':World}(hb:Below W.heap.size W W'){sp:Nat->Bool} :
 ∀ (ts : List TypeId) (vs : List Value) (ds : List (DataW H)) (ps : List MemPlace), (ts.all λt => P.readableRec t && decide (t < P.types.size)) = true -> DataW.TrodAll enc P W 0 (λ_ => true) true ts vs ds ps ->
   (∀x∈ps,x.block<W.heap.size)->(∀x∈ps,sp x.block=true)->DataW.TrodAll enc P W' 0 sp true ts vs ds ps
 | [], vs, ds, ps, _, h, _, _ => by
   obtain⟨rfl,rfl,rfl⟩:=trodAll_nil h;rfl
 | t :: ts, vs, ds, ps, hok, h, hlt, hsp => by
   obtain⟨v,vs1,d,ds1,a,b,rfl,rfl,rfl,h1,h2⟩:=trodAll_cons h;simp only[List.all_cons,aG,bU]at hok;refine⟨a,b,WideElems.Trod_stays hl hok.1.1 hok.1.2 h1 (λx hx=>hb.same (hlt x (by simp[hx]))) (λx hx=>hsp x (by simp[hx])),A6 hl hb ts vs1 ds1 b (by simpa using hok.2) h2 (λx hx=>hlt x (by simp[hx])) (λx hx=>hsp x (by simp[hx])),rfl⟩
theorem N8{L:World->Prop}{H:Type}{enc:TypeId×Value->H}{P:Program}(hlaid:laidOutB P=true){f:FuncId}{fn:Func}{s:ChangeSpec}{apart fresh handsOn:Bool}{D:Nat}{bt:TypeId}
 (hv:s.vars=[]) (hres:fn.resultTypes = #[bt]) (hbt:P.underlying bt=some .bool) (hokT:(fn.params.toList.all λt=>okT P D t)=true) (hread:(fn.params.toList.all λt=>P.readableRec t&&decide (t<P.types.size))=true)
 (hs:∀ds:List (DataW H),ds.length=fn.params.toList.length->s.fn H ds={ results:=[.lit (.bool true)],args:=ds })
 {W:World}{args:Array Value}{r:Reach}{b0:Nat}{ds gs:List (DataW H)}{before:List MemPlace}
 (hval:∀(j:Nat) t v,fn.params[j]? = some t->args[j]? = some v->Value.okWide P W r b0 t v)
 (hW:DataW.Whole enc P fn.params.toList s.vars apart W args.toList ds gs before)
 (hLW:L W) (hwalk:∀vds,nK P D W fn.params.toList args.toList vds->mV P L f vds (.one (.c (.v (.bool true)) 1))) :
 Calls P f args W λe W'=>∃v,e=.returned v/\s.post enc P fn apart fresh handsOn false W args v W':=by
 have hW0:=hW;obtain⟨p,q,hA,hV,rfl,hfz,hnd⟩:=hW;rw[hv]at hV;obtain⟨rfl,rfl⟩:=trodVars_none hV;obtain⟨vds,ho⟩:=Bk (D:=D) fn.params.toList args.toList ds p hokT (λj t v ht hv=>hval j t v (by simpa using ht) (by simpa using hv)) hA;obtain⟨hl,hr⟩:=wP _ _ _ ho
 have hlen:ds.length=fn.params.toList.length:=by
  have:∀(ts:List TypeId) (vs:List Value) (ds:List (DataW H)) (ps:List MemPlace),DataW.TrodAll enc P W 0 (λ_=>true) true ts vs ds ps->ds.length=ts.length:=by
   intro ts
   induction ts with
   |nil=>intro vs ds ps h;obtain⟨-,rfl,-⟩:=trodAll_nil h;rfl
   | cons t ts ih =>
     intro vs ds ps h;obtain⟨v,vs1,d,ds1,a,b,rfl,rfl,rfl,h1,h2⟩:=trodAll_cons h;simp[ih _ _ _ h2]
  exact this _ _ _ _ hA
 refine((hwalk vds ho).2 W hLW args (by simpa using hl) (λi vd hi=>by simpa using hr i vd hi)).mono ?_
 rintro e W' ⟨v,rfl,hb,hrr⟩
 have hv1:v=.bool true:=hrr.1;subst hv1;have hs':=hs ds hlen;refine⟨_,rfl,ds,[],p,[],p,[],by simpa using hW0,?_,?_,?_,?_,λh=>j8⟩
 ·rw[bI,hs',hres]
  exact trodAll_mk1 (shut_bool hbt true)
 ·rw[bI,hs']
  have hlt:∀x∈p,x.block<W.heap.size:=λx hx=>hW0.lt x (by simp[hx])
  exact A6 hlaid hb _ _ _ _ hread hA hlt (λx hx=>by simpa using hlt x hx)
 ·rw[hv]
  have:(s.fn H (ds++[])).vars=[]:=by rw[bI,hs']
  rw[this];exact rfl
 ·exact hb.frame _
theorem Rm{H:Type}{enc:TypeId×Value->H}{P:Program}(hlaid:laidOutB P=true){f:FuncId}{fn:Func}{s:ChangeSpec}{apart fresh handsOn:Bool}{D:Nat}{bt:TypeId}
 (hv:s.vars=[]) (hres:fn.resultTypes = #[bt]) (hbt:P.underlying bt=some .bool) (hokT:(fn.params.toList.all λt=>okT P D t)=true) (hread:(fn.params.toList.all λt=>P.readableRec t&&decide (t<P.types.size))=true)
 (hs:∀ds:List (DataW H),ds.length=fn.params.toList.length->s.fn H ds={ results:=[.lit (.bool true)],args:=ds })
 {W:World}{args:Array Value}{r:Reach}{b0:Nat}{ds gs:List (DataW H)}{before:List MemPlace}
 (hval:∀(j:Nat) t v,fn.params[j]? = some t->args[j]? = some v->Value.okWide P W r b0 t v)
 (hW:DataW.Whole enc P fn.params.toList s.vars apart W args.toList ds gs before)
 (hwalk:∀vds,nK P D W fn.params.toList args.toList vds->ar P f vds (.one (.c (.v (.bool true)) 1))) :
 Calls P f args W λe W'=>∃v,e=.returned v/\s.post enc P fn apart fresh handsOn false W args v W':=
 N8 hlaid hv hres hbt hokT hread hs hval hW trivial hwalk
theorem PA{n:Int}(h:(Lit.int .i64 n).wf=true) : -9223372036854775808<=n/\n<=9223372036854775807:=by
 have:IntKind.i64.min = -9223372036854775808:=rfl;have h2:IntKind.i64.max=9223372036854775807:=rfl;simp only[Lit.wf,aG,bU]at h;omega
section
variable {P:Program}{D:Nat}{t e:TypeId}{vd:VD}{ds:List CD}
theorem Gg{k:IntKind}(hu:P.underlying t=some (.int k))(h:fV P D t ds):∃n,ds=[.v (.int k n)]/\(Lit.int k n).wf=true:=by
 exact CN
theorem BC(hu:P.underlying t=some .bool)(h:fV P D t ds):∃b,ds=[.v (.bool b)]:=by
 exact CN
theorem nB(hu:P.underlying t=some .string)(h:fV P D t ds):∃s:ByteArray,ds=[.v (.string s)]/\s.size<=maxLen:=by
 exact CN
theorem iS(hu:P.underlying t=some (.slice e))(h:fV P D t ds):∃rows,ds=[.s rows]/\rows.length<=maxLen/\∃D',∀row∈rows,row.length=P.cellsOf e/\fV P D' e row:=by
 cases D with
 |zero=>exact h.elim
 | succ D =>
   simp only[fV,hu]at h;obtain⟨rows,h1,h2,h3⟩:=h;exact⟨rows,h1,h2,D,h3⟩
theorem ee{fs:Array Field}(hu:P.underlying t=some (.struct fs))(h:fV P D t ds):ds.length=P.cellsOf t/\∃D',∀f∈fs.toList,fV P D' f.type ((ds.drop f.offset).take (P.cellsOf f.type)):=by
 cases D with
 |zero=>exact h.elim
 | succ D =>
   simp only[fV,hu]at h;exact⟨h.1,D,h.2⟩
theorem UQ{de:TypeDesc}(hu:P.underlying t=some de)(hn:∀fs,de≠.struct fs)(h:Ac P D t vd):∃d,vd=.c d/\fV P D t [d]:=by
 cases vd with
 |c d=>exact⟨d,rfl,h⟩
 | agg ds =>
   obtain⟨⟨fs,h1⟩,-⟩:=h;rw[hu]at h1;simp only[ez]at h1;exact absurd h1 (hn fs)
theorem OJ(hu:P.underlying t=some (.int .i64))(h:Ac P D t vd):∃n:Int,vd=.c (.v (.int .i64 n))/\-9223372036854775808<=n/\n<=9223372036854775807:=by
 obtain⟨d,rfl,h1⟩:=UQ hu (λfs h=>j8) h;obtain⟨n,h2,h3⟩:=Gg hu h1;simp only[Pu,and_true]at h2;exact⟨n,by rw[h2],PA h3⟩
theorem kl{α:Type}{f:α->List CD}{ok:α->Prop}:∀(rows:List (List CD)),(∀row∈rows,∃x,row=f x/\ok x)->∃l:List α,rows=l.map f/\∀x∈l,ok x
 | [],_=>⟨[],rfl,ab⟩
 | row :: rows, h => by
   obtain⟨x,h1,h2⟩:=h row (aK ..);obtain⟨l,h3,h4⟩:=kl rows (λr hr=>h r (aD _ hr));exact⟨x::l,by rw[h1,h3];rfl,by simpa using ⟨h2,h4⟩⟩
end
theorem nK.nil{P:Program}{D:Nat}{w:World}{vs:List Value}{vds:List VD}(h:nK P D w [] vs vds):vds=[]:=by
 cases vs with
 | nil => cases vds with
   |nil=>rfl
   |cons _ _=>exact h.elim
 |cons _ _=>exact h.elim
theorem nK.cons{P:Program}{D:Nat}{w:World}{t:TypeId}{ts:List TypeId}{vs:List Value}{vds:List VD}(h:nK P D w (t::ts) vs vds) :
 ∃vd vds',vds=vd::vds'/\Ac P D t vd/\∃vs',nK P D w ts vs' vds':=by
 cases vs with
 |nil=>cases vds<;>exact h.elim
 | cons v vs => cases vds with
   |nil=>exact h.elim
   |cons d ds=>exact⟨d,ds,rfl,h.1.2,vs,h.2⟩
def aL{α:Type}(mk:α->Int->α)(cn:α->Nat):List α->Int->List α
 | [],_=>[]
 |a::l,k=>mk a k::aL mk cn l (k+cn a)
def aN{α:Type}(cn:α->Nat):List α->Nat
 | []=>0
 |a::l=>cn a+aN cn l
section
variable {α:Type}{mk:α->Int->α}{cn:α->Nat}
theorem aJ:∀(l:List α) (k:Int),(aL mk cn l k).length=l.length
 | [],_=>rfl
 |a::l,k=>by simp[aL,aJ l]
theorem wy:∀(l m:List α),aN cn (l++m)=aN cn l+aN cn m
 | [],m=>jv
 |a::l,m=>by simp[aN,wy l m];omega
theorem uq:∀(l m:List α) (k:Int),aL mk cn (l++m) k=aL mk cn l k++aL mk cn m (k+aN cn l)
 | [],m,k=>by simp[aL,aN]
 | a :: l, m, k => by
   simp only[da,aL,uq l m,aN];rw[show k+(cn a:Int)+(aN cn l:Nat)=k+((cn a+aN cn l:Nat):Int)from aa]
theorem ch{l:List α}{i:Nat}(h:i<l.length):aN cn (l.take (i+1))=aN cn (l.take i)+cn l[i]:=by
 rw[<-bb h,wy];simp[aN]
theorem uO:∀(l:List α) (i:Nat),aN cn (l.take i)<=aN cn l
 | [],i=>ab
 |a::l,0=>jv
 |a::l,i+1=>by simp only[lv,aN];have:=uO l i;omega
theorem cL{l:List α}{i:Nat}(h:i<l.length):aN cn (l.take i)+cn l[i]<=aN cn l:=by
 rw[<-ch h];exact uO l (i+1)
theorem kQ{l:List α}{k:Int}{i:Nat}(h:i<l.length):(aL mk cn l k)[i]? = some (mk l[i] (k+aN cn (l.take i))):=by
 induction l generalizing k i with
 |nil=>simp at h
 | cons a l ih =>
   cases i with
   |zero=>simp[aL,aN]
   | succ i =>
     simp only[aL,fZ,lv,aN,wU];rw[ih kZ]
     congr 2
     omega
def bO(mk:α->Int->α)(cn:α->Nat)(f:α->List CD)(l:List α)(k:Int)(i:Nat):List (List CD):=(aL mk cn (l.take i) k++l.drop i).map f
variable {f:α->List CD}{l:List α}{k:Int}{i:Nat}
theorem qd:bO mk cn f l k 0=l.map f:=by simp[bO,aL]
theorem bN:(bO mk cn f l k i).length=l.length:=by simp[bO,aJ];omega
theorem gI(h:l.length<=i):bO mk cn f l k i=(aL mk cn l k).map f:=by
 simp[bO,aC h,wW h]
theorem gH(h:i<l.length):(bO mk cn f l k i).set i (f l[i])=bO mk cn f l k i:=by
 unfold bO
 apply tE
 intro j;rw[eA]
 split
 ·rename_i hj
  subst hj;have hl:(aL mk cn (l.take i) k).length=i:=by rw[aJ];simp;omega
  rw[ao (by simp[aJ];omega)];simp only[ik];rw[bd (by simp[hl])];simp[hl,h]
 ·rfl
theorem gG(h:i<l.length){r:List CD}(hr:r=f (mk l[i] (k+aN cn (l.take i)))):(bO mk cn f l k i).set i r=bO mk cn f l k (i+1):=by
 subst hr;unfold bO;have hl:(aL mk cn (l.take i) k).length=i:=by rw[aJ];simp;omega
 rw[<-bb h,uq,cY h];simp only[ik,bK,aL,jg,bX];rw[dJ _ _ (by simp[hl])];simp[hl]
end
theorem bm{xs:List (List CD)}{i:Nat}{a:List CD}{g:List CD->List CD}:(xs.set i a).modify i g=xs.set i (g a):=by
 apply tE
 intro j;rw[iw,eA,eA];by_cases h:i=j
 ·subst h
  by_cases h2:i<xs.length<;>simp[h2]
 ·simp[h]
theorem dB{xs:List (List CD)}{i j:Nat}{a:List CD}{d:CD}:lN (xs.set i a) i j d=xs.set i (a.set j d):=bm
abbrev eR(_:Int)(k:Int):Int:=k
abbrev one{α:Type}(_:α):Nat:=1
theorem zF{α:Type}:∀(l:List α),aN one l=l.length
 | []=>rfl
 |a::l=>by simp[aN,one,zF l];omega
end Go.AM
namespace Go.Proofs.YtklblkobegcljaaGreat
open Go.AM
set_option maxRecDepth 20000
def gn(n:Int):Prop:=-9223372036854775808<=n/\n<=9223372036854775807
def cw{α:Type}(f:α->Nat):List α->Nat
 | []=>0
 |a::l=>f a+cw f l
theorem kO{α:Type}{f:α->Nat}:∀{l:List α}{i:Nat}(h:i<l.length),cw f (l.drop i)=f l[i]+cw f (l.drop (i+1))
 |a::l,0,_=>rfl
 |a::l,i+1,h=>by simpa using kO (l:=l) (i:=i) kZ
theorem Ff{α:Type}{f:α->Nat}:∀{l:List α}{a:α},a∈l->f a<=cw f l
 | b :: l, a, h => by
   simp only[cw];rcases aV.1 h with rfl|h
   ·omega
   ·have:=Ff (f:=f) h;omega
def nL{α:Type}(f:α->Nat)(l:List α):Nat:=l.length+cw f l
theorem aY{α:Type}{f:α->Nat}{l:List α}{B:Nat}(h:nL f l<=B):l.length<=B:=by unfold nL at h;omega
theorem gF{α:Type}{f:α->Nat}{l:List α}{B:Nat}(h:nL f l<=B){a:α}(ha:a∈l):f a<=B:=by have:=Ff (f:=f) ha;unfold nL at h;omega
theorem cH{α:Type}{f:α->Nat}{l:List α}{B:Nat}(h:nL f l<=B){i:Nat}(hi:i<l.length):f l[i]<=B:=gF h (aj hi)
def szR(n left:Nat):Int:=if n<=left then((left-n:Nat):Int)else -1
theorem dL{n left:Nat}(h:n<=left):szR n left=((left-n:Nat):Int):=by simp[szR,h]
theorem eU{n left:Nat}(h:¬n<=left):szR n left = -1:=by simp[szR,h]
theorem dt{α:Type}{cn n:α->Nat}(h:∀a,cn a<=11*(1+n a)):∀l:List α,aN cn l<=11*nL n l
 | []=>jv
 | a :: l => by
   have h1:=h a;have h2:=dt h l;unfold nL at h2⊢;simp only[aN,cr,cw];omega
theorem uP{α:Type}{cn:α->Nat}(h:∀a,cn a<=11):∀l:List α,aN cn l<=11*l.length
 | []=>jv
 | a :: l => by
   have h1:=h a;have h2:=uP h l;simp only[aN,cr];omega
theorem iQ{α:Type}{mk:α->Int->α}{cn:α->Nat}{l:List α}{k:Int}{i:Nat}(h:i<l.length):(aL mk cn l k)[i]'(by rw[aJ];exact h)=mk l[i] (k+aN cn (l.take i)):=by
 have:=kQ (mk:=mk) (cn:=cn) (k:=k) h;rw[ak (by rw[aJ];exact h)]at this;exact jC this
noncomputable def nw(k:Int):Bool:=dc (k.tmod 3=0)
def OW(n:Nat):List UInt8:=if h:n<10 then [UInt8.ofNat (48+n)]else OW (n / 10)++[UInt8.ofNat (48+n % 10)]
termination_by n
decreasing_by omega
def markT(k:Int):ByteArray:=⟨(109::OW k.toNat).toArray⟩
structure Part where
 kind:Int
 n:Int
 signs:List Int
 deriving Inhabited
def Part.row(x:Part):List CD:=[vi x.kind,vi x.n,.s (x.signs.map aI)]
def Part.res(x:Part):List (CD×Nat):=[(vi x.kind,1),(vi x.n,1),(.s (x.signs.map aI),1)]
@[simp] theorem Part.row_len {x:Part}:x.row.length=3:=rfl
def Part.fits(x:Part):Prop:=gn x.kind/\gn x.n/\(x.signs.length<=9223372036854775807/\∀n∈x.signs,gn n)
def a9(x:Part):Nat:=x.signs.length
noncomputable def Part.mark(x:Part)(k:Int):Part:=⟨k,k+1,aL eR one x.signs (k+1+1)⟩
def Part.cnt(x:Part):Nat:=2+(x.signs.length)
theorem Part.cnt_le(x:Part):x.cnt<=11*(1+a9 x):=by
 unfold Part.cnt;simp only[a9];omega
noncomputable def Part.markT(x:Part)(k:Int):Part:=⟨x.kind,x.n,aL eR one x.signs (k)⟩
def Part.cntT(x:Part):Nat:=x.signs.length
theorem Part.cntT_le(x:Part):x.cntT<=11*a9 x:=by
 unfold Part.cntT;simp only[a9];omega
structure Entry where
 client:Int
 seq:Int
 o:List Part
def Entry.row(x:Entry):List CD:=[vi x.client,vi x.seq,.s (x.o.map Part.row)]
def Entry.res(x:Entry):List (CD×Nat):=[(vi x.client,1),(vi x.seq,1),(.s (x.o.map Part.row),3)]
@[simp] theorem Entry.row_len {x:Entry}:x.row.length=3:=rfl
def Entry.fits(x:Entry):Prop:=gn x.client/\gn x.seq/\(x.o.length<=9223372036854775807/\∀y∈x.o,y.fits)
def aX(x:Entry):Nat:=nL a9 x.o
noncomputable def Entry.mark(x:Entry)(k:Int):Entry:=⟨k,k+1,aL Part.mark Part.cnt x.o (k+1+1)⟩
def Entry.cnt(x:Entry):Nat:=2+(aN Part.cnt x.o)
theorem Entry.cnt_le(x:Entry):x.cnt<=11*(1+aX x):=by
 unfold Entry.cnt;have h0:=dt Part.cnt_le x.o;simp only[aX];omega
noncomputable def Entry.markT(x:Entry)(k:Int):Entry:=⟨x.client,x.seq,aL Part.mark Part.cnt x.o (k)⟩
def Entry.cntT(x:Entry):Nat:=aN Part.cnt x.o
theorem Entry.cntT_le(x:Entry):x.cntT<=11*aX x:=by
 unfold Entry.cntT;have h0:=dt Part.cnt_le x.o;simp only[aX];omega
structure Seen where
 client:Int
 seq:Int
 rev:Int
def Seen.row(x:Seen):List CD:=[vi x.client,vi x.seq,vi x.rev]
def Seen.res(x:Seen):List (CD×Nat):=[(vi x.client,1),(vi x.seq,1),(vi x.rev,1)]
@[simp] theorem Seen.row_len {x:Seen}:x.row.length=3:=rfl
def Seen.fits(x:Seen):Prop:=gn x.client/\gn x.seq/\gn x.rev
noncomputable def Seen.mark(_x:Seen)(k:Int):Seen:=⟨k,k+1,k+1+1⟩
def Seen.cnt(_x:Seen):Nat:=3
theorem Seen.cnt_le(x:Seen):x.cnt<=11*1:=by
 unfold Seen.cnt;omega
structure Doc where
 name:ByteArray
 fr:Int
 text:List Int
 list:List Entry
 seen:List Seen
def Doc.row(x:Doc):List CD:=[.v (.string x.name),vi x.fr,.s (x.text.map aI),.s (x.list.map Entry.row),.s (x.seen.map Seen.row)]
def Doc.res(x:Doc):List (CD×Nat):=[(.v (.string x.name),1),(vi x.fr,1),(.s (x.text.map aI),1),(.s (x.list.map Entry.row),3),(.s (x.seen.map Seen.row),3)]
@[simp] theorem Doc.row_len {x:Doc}:x.row.length=5:=rfl
def Doc.fits(x:Doc):Prop:=x.name.size<=9223372036854775807/\gn x.fr/\(x.text.length<=9223372036854775807/\∀n∈x.text,gn n)/\(x.list.length<=9223372036854775807/\∀y∈x.list,y.fits)/\(x.seen.length<=9223372036854775807/\∀y∈x.seen,y.fits)
def cB(x:Doc):Nat:=x.name.size+(x.text.length+(nL aX x.list+(x.seen.length)))
noncomputable def Doc.mark(x:Doc)(k:Int):Doc:=⟨markT (k),k+1,aL eR one x.text (k+1+1),aL Entry.mark Entry.cnt x.list (k+1+1+(x.text.length:Nat)),aL Seen.mark Seen.cnt x.seen (k+1+1+(x.text.length:Nat)+(aN Entry.cnt x.list:Nat))⟩
def Doc.cnt(x:Doc):Nat:=2+(x.text.length+(aN Entry.cnt x.list+(aN Seen.cnt x.seen)))
theorem Doc.cnt_le(x:Doc):x.cnt<=11*(1+cB x):=by
 unfold Doc.cnt;exact KR
noncomputable def Doc.markT(x:Doc)(k:Int):Doc:=⟨x.name,x.fr,aL eR one x.text (k),aL Entry.mark Entry.cnt x.list (k+(x.text.length:Nat)),aL Seen.mark Seen.cnt x.seen (k+(x.text.length:Nat)+(aN Entry.cnt x.list:Nat))⟩
def Doc.cntT(x:Doc):Nat:=x.text.length+(aN Entry.cnt x.list+(aN Seen.cnt x.seen))
theorem Doc.cntT_le(x:Doc):x.cntT<=11*cB x:=by
 unfold Doc.cntT;exact KR
structure Ring where
 cap:Int
 next:Int
 out:Bool
 list:List Entry
def Ring.row(x:Ring):List CD:=[vi x.cap,vi x.next,.v (.bool x.out),.s (x.list.map Entry.row)]
def Ring.res(x:Ring):List (CD×Nat):=[(vi x.cap,1),(vi x.next,1),(.v (.bool x.out),1),(.s (x.list.map Entry.row),3)]
@[simp] theorem Ring.row_len {x:Ring}:x.row.length=4:=rfl
def Ring.fits(x:Ring):Prop:=gn x.cap/\gn x.next/\True/\(x.list.length<=9223372036854775807/\∀y∈x.list,y.fits)
def cV(x:Ring):Nat:=nL aX x.list
noncomputable def Ring.mark(x:Ring)(k:Int):Ring:=⟨k,k+1,nw (k+1+1),aL Entry.mark Entry.cnt x.list (k+1+1+1)⟩
def Ring.cnt(x:Ring):Nat:=3+(aN Entry.cnt x.list)
theorem Ring.cnt_le(x:Ring):x.cnt<=11*(1+cV x):=by
 unfold Ring.cnt;have h0:=dt Entry.cnt_le x.list;simp only[cV];omega
noncomputable def Ring.markT(x:Ring)(k:Int):Ring:=⟨x.cap,x.next,x.out,aL Entry.mark Entry.cnt x.list (k)⟩
def Ring.cntT(x:Ring):Nat:=aN Entry.cnt x.list
theorem Ring.cntT_le(x:Ring):x.cntT<=11*cV x:=by
 unfold Ring.cntT;have h0:=dt Entry.cnt_le x.list;simp only[cV];omega
structure Sub where
 id:Int
 doc:ByteArray
 r:Ring
def Sub.row(x:Sub):List CD:=[vi x.id,.v (.string x.doc),vi x.r.cap,vi x.r.next,.v (.bool x.r.out),.s (x.r.list.map Entry.row)]
def Sub.res(x:Sub):List (CD×Nat):=[(vi x.id,1),(.v (.string x.doc),1),(vi x.r.cap,1),(vi x.r.next,1),(.v (.bool x.r.out),1),(.s (x.r.list.map Entry.row),3)]
@[simp] theorem Sub.row_len {x:Sub}:x.row.length=6:=rfl
def Sub.fits(x:Sub):Prop:=gn x.id/\x.doc.size<=9223372036854775807/\x.r.fits
def dp(x:Sub):Nat:=x.doc.size+(cV x.r)
noncomputable def Sub.mark(x:Sub)(k:Int):Sub:=⟨k,markT (k+1),⟨k+1+1,k+1+1+1,nw (k+1+1+1+1),aL Entry.mark Entry.cnt x.r.list (k+1+1+1+1+1)⟩⟩
def Sub.cnt(x:Sub):Nat:=5+(aN Entry.cnt x.r.list)
theorem Sub.cnt_le(x:Sub):x.cnt<=11*(1+dp x):=by
 unfold Sub.cnt;have h0:=dt Entry.cnt_le x.r.list;simp only[dp,cV];omega
noncomputable def Sub.markT(x:Sub)(k:Int):Sub:=⟨x.id,x.doc,⟨x.r.cap,x.r.next,x.r.out,aL Entry.mark Entry.cnt x.r.list (k)⟩⟩
def Sub.cntT(x:Sub):Nat:=aN Entry.cnt x.r.list
theorem Sub.cntT_le(x:Sub):x.cntT<=11*dp x:=by
 unfold Sub.cntT;have h0:=dt Entry.cnt_le x.r.list;simp only[dp,cV];omega
structure Hub where
 shut:Bool
 docs:List Doc
 subs:List Sub
 last:Int
def Hub.row(x:Hub):List CD:=[.v (.bool x.shut),.s (x.docs.map Doc.row),.s (x.subs.map Sub.row),vi x.last]
def Hub.res(x:Hub):List (CD×Nat):=[(.v (.bool x.shut),1),(.s (x.docs.map Doc.row),5),(.s (x.subs.map Sub.row),6),(vi x.last,1)]
@[simp] theorem Hub.row_len {x:Hub}:x.row.length=4:=rfl
def Hub.fits(x:Hub):Prop:=True/\(x.docs.length<=9223372036854775807/\∀y∈x.docs,y.fits)/\(x.subs.length<=9223372036854775807/\∀y∈x.subs,y.fits)/\gn x.last
def dh(x:Hub):Nat:=nL cB x.docs+(nL dp x.subs)
noncomputable def Hub.markT(x:Hub)(k:Int):Hub:=⟨x.shut,aL Doc.mark Doc.cnt x.docs (k),aL Sub.mark Sub.cnt x.subs (k+(aN Doc.cnt x.docs:Nat)),x.last⟩
def Hub.cntT(x:Hub):Nat:=aN Doc.cnt x.docs+(aN Sub.cnt x.subs)
theorem Hub.cntT_le(x:Hub):x.cntT<=11*dh x:=by
 unfold Hub.cntT;have h0:=dt Doc.cnt_le x.docs;have h1:=dt Sub.cnt_le x.subs;simp only[dh];omega
structure Call where
 kind:Int
 doc:ByteArray
 client:Int
 seq:Int
 n:Int
 o:List Part
 text:List Int
def Call.row(x:Call):List CD:=[vi x.kind,.v (.string x.doc),vi x.client,vi x.seq,vi x.n,.s (x.o.map Part.row),.s (x.text.map aI)]
def Call.res(x:Call):List (CD×Nat):=[(vi x.kind,1),(.v (.string x.doc),1),(vi x.client,1),(vi x.seq,1),(vi x.n,1),(.s (x.o.map Part.row),3),(.s (x.text.map aI),1)]
@[simp] theorem Call.row_len {x:Call}:x.row.length=7:=rfl
def Call.fits(x:Call):Prop:=gn x.kind/\x.doc.size<=9223372036854775807/\gn x.client/\gn x.seq/\gn x.n/\(x.o.length<=9223372036854775807/\∀y∈x.o,y.fits)/\(x.text.length<=9223372036854775807/\∀n∈x.text,gn n)
def dP(x:Call):Nat:=x.doc.size+(nL a9 x.o+(x.text.length))
noncomputable def Call.mark(x:Call)(k:Int):Call:=⟨k,markT (k+1),k+1+1,k+1+1+1,k+1+1+1+1,aL Part.mark Part.cnt x.o (k+1+1+1+1+1),aL eR one x.text (k+1+1+1+1+1+(aN Part.cnt x.o:Nat))⟩
def Call.cnt(x:Call):Nat:=5+(aN Part.cnt x.o+(x.text.length))
theorem Call.cnt_le(x:Call):x.cnt<=11*(1+dP x):=by
 unfold Call.cnt;have h0:=dt Part.cnt_le x.o;simp only[dP];omega
noncomputable def Call.markT(x:Call)(k:Int):Call:=⟨x.kind,x.doc,x.client,x.seq,x.n,aL Part.mark Part.cnt x.o (k),aL eR one x.text (k+(aN Part.cnt x.o:Nat))⟩
def Call.cntT(x:Call):Nat:=aN Part.cnt x.o+(x.text.length)
theorem Call.cntT_le(x:Call):x.cntT<=11*dP x:=by
 unfold Call.cntT;have h0:=dt Part.cnt_le x.o;simp only[dP];omega
structure Answer where
 code:Int
 rev:Int
 text:List Int
 list:List Entry
def Answer.row(x:Answer):List CD:=[vi x.code,vi x.rev,.s (x.text.map aI),.s (x.list.map Entry.row)]
def Answer.res(x:Answer):List (CD×Nat):=[(vi x.code,1),(vi x.rev,1),(.s (x.text.map aI),1),(.s (x.list.map Entry.row),3)]
@[simp] theorem Answer.row_len {x:Answer}:x.row.length=4:=rfl
def Answer.fits(x:Answer):Prop:=gn x.code/\gn x.rev/\(x.text.length<=9223372036854775807/\∀n∈x.text,gn n)/\(x.list.length<=9223372036854775807/\∀y∈x.list,y.fits)
def cq(x:Answer):Nat:=x.text.length+(nL aX x.list)
noncomputable def Answer.mark(x:Answer)(k:Int):Answer:=⟨k,k+1,aL eR one x.text (k+1+1),aL Entry.mark Entry.cnt x.list (k+1+1+(x.text.length:Nat))⟩
def Answer.cnt(x:Answer):Nat:=2+(x.text.length+(aN Entry.cnt x.list))
theorem Answer.cnt_le(x:Answer):x.cnt<=11*(1+cq x):=by
 unfold Answer.cnt;have h0:=dt Entry.cnt_le x.list;simp only[cq];omega
noncomputable def Answer.markT(x:Answer)(k:Int):Answer:=⟨x.code,x.rev,aL eR one x.text (k),aL Entry.mark Entry.cnt x.list (k+(x.text.length:Nat))⟩
def Answer.cntT(x:Answer):Nat:=x.text.length+(aN Entry.cnt x.list)
theorem Answer.cntT_le(x:Answer):x.cntT<=11*cq x:=by
 unfold Answer.cntT;have h0:=dt Entry.cnt_le x.list;simp only[cq];omega
structure Task where
 c:Call
 pc:Int
 inv:Int
 lin:Int
 rs:Int
 a:Answer
def Task.row(x:Task):List CD:=[vi x.c.kind,.v (.string x.c.doc),vi x.c.client,vi x.c.seq,vi x.c.n,.s (x.c.o.map Part.row),.s (x.c.text.map aI),vi x.pc,vi x.inv,vi x.lin,vi x.rs,vi x.a.code,vi x.a.rev,.s (x.a.text.map aI),.s (x.a.list.map Entry.row)]
def Task.res(x:Task):List (CD×Nat):=[(vi x.c.kind,1),(.v (.string x.c.doc),1),(vi x.c.client,1),(vi x.c.seq,1),(vi x.c.n,1),(.s (x.c.o.map Part.row),3),(.s (x.c.text.map aI),1),(vi x.pc,1),(vi x.inv,1),(vi x.lin,1),(vi x.rs,1),(vi x.a.code,1),(vi x.a.rev,1),(.s (x.a.text.map aI),1),(.s (x.a.list.map Entry.row),3)]
@[simp] theorem Task.row_len {x:Task}:x.row.length=15:=rfl
def Task.fits(x:Task):Prop:=x.c.fits/\gn x.pc/\gn x.inv/\gn x.lin/\gn x.rs/\x.a.fits
def dj(x:Task):Nat:=dP x.c+(cq x.a)
noncomputable def Task.mark(x:Task)(k:Int):Task:=⟨⟨k,markT (k+1),k+1+1,k+1+1+1,k+1+1+1+1,aL Part.mark Part.cnt x.c.o (k+1+1+1+1+1),aL eR one x.c.text (k+1+1+1+1+1+(aN Part.cnt x.c.o:Nat))⟩,k+1+1+1+1+1+(aN Part.cnt x.c.o:Nat)+(x.c.text.length:Nat),k+1+1+1+1+1+(aN Part.cnt x.c.o:Nat)+(x.c.text.length:Nat)+1,k+1+1+1+1+1+(aN Part.cnt x.c.o:Nat)+(x.c.text.length:Nat)+1+1,k+1+1+1+1+1+(aN Part.cnt x.c.o:Nat)+(x.c.text.length:Nat)+1+1+1,⟨k+1+1+1+1+1+(aN Part.cnt x.c.o:Nat)+(x.c.text.length:Nat)+1+1+1+1,k+1+1+1+1+1+(aN Part.cnt x.c.o:Nat)+(x.c.text.length:Nat)+1+1+1+1+1,aL eR one x.a.text (k+1+1+1+1+1+(aN Part.cnt x.c.o:Nat)+(x.c.text.length:Nat)+1+1+1+1+1+1),aL Entry.mark Entry.cnt x.a.list (k+1+1+1+1+1+(aN Part.cnt x.c.o:Nat)+(x.c.text.length:Nat)+1+1+1+1+1+1+(x.a.text.length:Nat))⟩⟩
def Task.cnt(x:Task):Nat:=11+(aN Part.cnt x.c.o+(x.c.text.length+(x.a.text.length+(aN Entry.cnt x.a.list))))
theorem Task.cnt_le(x:Task):x.cnt<=11*(1+dj x):=by
 unfold Task.cnt;exact Kz
noncomputable def Task.markT(x:Task)(k:Int):Task:=⟨⟨x.c.kind,x.c.doc,x.c.client,x.c.seq,x.c.n,aL Part.mark Part.cnt x.c.o (k),aL eR one x.c.text (k+(aN Part.cnt x.c.o:Nat))⟩,x.pc,x.inv,x.lin,x.rs,⟨x.a.code,x.a.rev,aL eR one x.a.text (k+(aN Part.cnt x.c.o:Nat)+(x.c.text.length:Nat)),aL Entry.mark Entry.cnt x.a.list (k+(aN Part.cnt x.c.o:Nat)+(x.c.text.length:Nat)+(x.a.text.length:Nat))⟩⟩
def Task.cntT(x:Task):Nat:=aN Part.cnt x.c.o+(x.c.text.length+(x.a.text.length+(aN Entry.cnt x.a.list)))
theorem Task.cntT_le(x:Task):x.cntT<=11*dj x:=by
 unfold Task.cntT;exact Kz
structure Queue where
 doc:ByteArray
 list:List Int
def Queue.row(x:Queue):List CD:=[.v (.string x.doc),.s (x.list.map aI)]
def Queue.res(x:Queue):List (CD×Nat):=[(.v (.string x.doc),1),(.s (x.list.map aI),1)]
@[simp] theorem Queue.row_len {x:Queue}:x.row.length=2:=rfl
def Queue.fits(x:Queue):Prop:=x.doc.size<=9223372036854775807/\(x.list.length<=9223372036854775807/\∀n∈x.list,gn n)
def cR(x:Queue):Nat:=x.doc.size+(x.list.length)
noncomputable def Queue.mark(x:Queue)(k:Int):Queue:=⟨markT (k),aL eR one x.list (k+1)⟩
def Queue.cnt(x:Queue):Nat:=1+(x.list.length)
theorem Queue.cnt_le(x:Queue):x.cnt<=11*(1+cR x):=by
 unfold Queue.cnt;simp only[cR];omega
noncomputable def Queue.markT(x:Queue)(k:Int):Queue:=⟨x.doc,aL eR one x.list (k)⟩
def Queue.cntT(x:Queue):Nat:=x.list.length
theorem Queue.cntT_le(x:Queue):x.cntT<=11*cR x:=by
 unfold Queue.cntT;simp only[cR];omega
structure Wld where
 h:Hub
 locks:List Int
 queues:List Queue
 tasks:List Task
 step:Int
def Wld.row(x:Wld):List CD:=[.v (.bool x.h.shut),.s (x.h.docs.map Doc.row),.s (x.h.subs.map Sub.row),vi x.h.last,.s (x.locks.map aI),.s (x.queues.map Queue.row),.s (x.tasks.map Task.row),vi x.step]
def Wld.res(x:Wld):List (CD×Nat):=[(.v (.bool x.h.shut),1),(.s (x.h.docs.map Doc.row),5),(.s (x.h.subs.map Sub.row),6),(vi x.h.last,1),(.s (x.locks.map aI),1),(.s (x.queues.map Queue.row),2),(.s (x.tasks.map Task.row),15),(vi x.step,1)]
@[simp] theorem Wld.row_len {x:Wld}:x.row.length=8:=rfl
def Wld.fits(x:Wld):Prop:=x.h.fits/\(x.locks.length<=9223372036854775807/\∀n∈x.locks,gn n)/\(x.queues.length<=9223372036854775807/\∀y∈x.queues,y.fits)/\(x.tasks.length<=9223372036854775807/\∀y∈x.tasks,y.fits)/\gn x.step
def bL(x:Wld):Nat:=dh x.h+(x.locks.length+(nL cR x.queues+(nL dj x.tasks)))
noncomputable def Wld.markT(x:Wld)(k:Int):Wld:=⟨⟨x.h.shut,aL Doc.mark Doc.cnt x.h.docs (k),aL Sub.mark Sub.cnt x.h.subs (k+(aN Doc.cnt x.h.docs:Nat)),x.h.last⟩,aL eR one x.locks (k+(aN Doc.cnt x.h.docs:Nat)+(aN Sub.cnt x.h.subs:Nat)),aL Queue.mark Queue.cnt x.queues (k+(aN Doc.cnt x.h.docs:Nat)+(aN Sub.cnt x.h.subs:Nat)+(x.locks.length:Nat)),aL Task.mark Task.cnt x.tasks (k+(aN Doc.cnt x.h.docs:Nat)+(aN Sub.cnt x.h.subs:Nat)+(x.locks.length:Nat)+(aN Queue.cnt x.queues:Nat)),x.step⟩
def Wld.cntT(x:Wld):Nat:=aN Doc.cnt x.h.docs+(aN Sub.cnt x.h.subs+(x.locks.length+(aN Queue.cnt x.queues+(aN Task.cnt x.tasks))))
theorem Wld.cntT_le(x:Wld):x.cntT<=11*bL x:=by
 unfold Wld.cntT;have h0:=dt Doc.cnt_le x.h.docs;have h1:=dt Sub.cnt_le x.h.subs;have h2:=dt Queue.cnt_le x.queues;have h3:=dt Task.cnt_le x.tasks;simp only[bL,dh];omega
structure Rep where
 client:Int
 seq:Int
 rev:Int
 text:List Int
 has:Bool
 sent:List Part
 buf:List Part
def Rep.row(x:Rep):List CD:=[vi x.client,vi x.seq,vi x.rev,.s (x.text.map aI),.v (.bool x.has),.s (x.sent.map Part.row),.s (x.buf.map Part.row)]
def Rep.res(x:Rep):List (CD×Nat):=[(vi x.client,1),(vi x.seq,1),(vi x.rev,1),(.s (x.text.map aI),1),(.v (.bool x.has),1),(.s (x.sent.map Part.row),3),(.s (x.buf.map Part.row),3)]
@[simp] theorem Rep.row_len {x:Rep}:x.row.length=7:=rfl
def Rep.fits(x:Rep):Prop:=gn x.client/\gn x.seq/\gn x.rev/\(x.text.length<=9223372036854775807/\∀n∈x.text,gn n)/\True/\(x.sent.length<=9223372036854775807/\∀y∈x.sent,y.fits)/\(x.buf.length<=9223372036854775807/\∀y∈x.buf,y.fits)
def Ra(x:Rep):Nat:=x.text.length+(nL a9 x.sent+(nL a9 x.buf))
noncomputable def Rep.mark(x:Rep)(k:Int):Rep:=⟨k,k+1,k+1+1,aL eR one x.text (k+1+1+1),nw (k+1+1+1+(x.text.length:Nat)),aL Part.mark Part.cnt x.sent (k+1+1+1+(x.text.length:Nat)+1),aL Part.mark Part.cnt x.buf (k+1+1+1+(x.text.length:Nat)+1+(aN Part.cnt x.sent:Nat))⟩
def Rep.cnt(x:Rep):Nat:=4+(x.text.length+(aN Part.cnt x.sent+(aN Part.cnt x.buf)))
theorem Rep.cnt_le(x:Rep):x.cnt<=11*(1+Ra x):=by
 unfold Rep.cnt;exact Kb
noncomputable def Rep.markT(x:Rep)(k:Int):Rep:=⟨x.client,x.seq,x.rev,aL eR one x.text (k),x.has,aL Part.mark Part.cnt x.sent (k+(x.text.length:Nat)),aL Part.mark Part.cnt x.buf (k+(x.text.length:Nat)+(aN Part.cnt x.sent:Nat))⟩
def Rep.cntT(x:Rep):Nat:=x.text.length+(aN Part.cnt x.sent+(aN Part.cnt x.buf))
theorem Rep.cntT_le(x:Rep):x.cntT<=11*Ra x:=by
 unfold Rep.cntT;exact Kb
structure Net where
 d:Doc
 reps:List Rep
def Net.row(x:Net):List CD:=[.v (.string x.d.name),vi x.d.fr,.s (x.d.text.map aI),.s (x.d.list.map Entry.row),.s (x.d.seen.map Seen.row),.s (x.reps.map Rep.row)]
def Net.res(x:Net):List (CD×Nat):=[(.v (.string x.d.name),1),(vi x.d.fr,1),(.s (x.d.text.map aI),1),(.s (x.d.list.map Entry.row),3),(.s (x.d.seen.map Seen.row),3),(.s (x.reps.map Rep.row),7)]
@[simp] theorem Net.row_len {x:Net}:x.row.length=6:=rfl
def Net.fits(x:Net):Prop:=x.d.fits/\(x.reps.length<=9223372036854775807/\∀y∈x.reps,y.fits)
def Rb(x:Net):Nat:=cB x.d+(nL Ra x.reps)
noncomputable def Net.markT(x:Net)(k:Int):Net:=⟨⟨x.d.name,x.d.fr,aL eR one x.d.text (k),aL Entry.mark Entry.cnt x.d.list (k+(x.d.text.length:Nat)),aL Seen.mark Seen.cnt x.d.seen (k+(x.d.text.length:Nat)+(aN Entry.cnt x.d.list:Nat))⟩,aL Rep.mark Rep.cnt x.reps (k+(x.d.text.length:Nat)+(aN Entry.cnt x.d.list:Nat)+(aN Seen.cnt x.d.seen:Nat))⟩
def Net.cntT(x:Net):Nat:=x.d.text.length+(aN Entry.cnt x.d.list+(aN Seen.cnt x.d.seen+(aN Rep.cnt x.reps)))
theorem Net.cntT_le(x:Net):x.cntT<=11*Rb x:=by
 unfold Net.cntT;have h0:=dt Entry.cnt_le x.d.list;have h1:=uP (λa=>by have:=Seen.cnt_le a;omega) x.d.seen;have h2:=dt Rep.cnt_le x.reps;simp only[Rb,cB];omega
structure Event where
 kind:Int
 who:Int
 n:Int
 o:List Part
def Event.row(x:Event):List CD:=[vi x.kind,vi x.who,vi x.n,.s (x.o.map Part.row)]
def Event.res(x:Event):List (CD×Nat):=[(vi x.kind,1),(vi x.who,1),(vi x.n,1),(.s (x.o.map Part.row),3)]
@[simp] theorem Event.row_len {x:Event}:x.row.length=4:=rfl
def Event.fits(x:Event):Prop:=gn x.kind/\gn x.who/\gn x.n/\(x.o.length<=9223372036854775807/\∀y∈x.o,y.fits)
def DW(x:Event):Nat:=nL a9 x.o
noncomputable def Event.mark(x:Event)(k:Int):Event:=⟨k,k+1,k+1+1,aL Part.mark Part.cnt x.o (k+1+1+1)⟩
def Event.cnt(x:Event):Nat:=3+(aN Part.cnt x.o)
theorem Event.cnt_le(x:Event):x.cnt<=11*(1+DW x):=by
 unfold Event.cnt;have h0:=dt Part.cnt_le x.o;simp only[DW];omega
noncomputable def Event.markT(x:Event)(k:Int):Event:=⟨x.kind,x.who,x.n,aL Part.mark Part.cnt x.o (k)⟩
def Event.cntT(x:Event):Nat:=aN Part.cnt x.o
theorem Event.cntT_le(x:Event):x.cntT<=11*DW x:=by
 unfold Event.cntT;have h0:=dt Part.cnt_le x.o;simp only[DW];omega
structure Desk where
 h:Hub
 n:Net
def Desk.row(x:Desk):List CD:=[.v (.bool x.h.shut),.s (x.h.docs.map Doc.row),.s (x.h.subs.map Sub.row),vi x.h.last,.v (.string x.n.d.name),vi x.n.d.fr,.s (x.n.d.text.map aI),.s (x.n.d.list.map Entry.row),.s (x.n.d.seen.map Seen.row),.s (x.n.reps.map Rep.row)]
def Desk.res(x:Desk):List (CD×Nat):=[(.v (.bool x.h.shut),1),(.s (x.h.docs.map Doc.row),5),(.s (x.h.subs.map Sub.row),6),(vi x.h.last,1),(.v (.string x.n.d.name),1),(vi x.n.d.fr,1),(.s (x.n.d.text.map aI),1),(.s (x.n.d.list.map Entry.row),3),(.s (x.n.d.seen.map Seen.row),3),(.s (x.n.reps.map Rep.row),7)]
@[simp] theorem Desk.row_len {x:Desk}:x.row.length=10:=rfl
def Desk.fits(x:Desk):Prop:=x.h.fits/\x.n.fits
def VT(x:Desk):Nat:=dh x.h+(Rb x.n)
noncomputable def Desk.markT(x:Desk)(k:Int):Desk:=⟨⟨x.h.shut,aL Doc.mark Doc.cnt x.h.docs (k),aL Sub.mark Sub.cnt x.h.subs (k+(aN Doc.cnt x.h.docs:Nat)),x.h.last⟩,⟨⟨x.n.d.name,x.n.d.fr,aL eR one x.n.d.text (k+(aN Doc.cnt x.h.docs:Nat)+(aN Sub.cnt x.h.subs:Nat)),aL Entry.mark Entry.cnt x.n.d.list (k+(aN Doc.cnt x.h.docs:Nat)+(aN Sub.cnt x.h.subs:Nat)+(x.n.d.text.length:Nat)),aL Seen.mark Seen.cnt x.n.d.seen (k+(aN Doc.cnt x.h.docs:Nat)+(aN Sub.cnt x.h.subs:Nat)+(x.n.d.text.length:Nat)+(aN Entry.cnt x.n.d.list:Nat))⟩,aL Rep.mark Rep.cnt x.n.reps (k+(aN Doc.cnt x.h.docs:Nat)+(aN Sub.cnt x.h.subs:Nat)+(x.n.d.text.length:Nat)+(aN Entry.cnt x.n.d.list:Nat)+(aN Seen.cnt x.n.d.seen:Nat))⟩⟩
def Desk.cntT(x:Desk):Nat:=aN Doc.cnt x.h.docs+(aN Sub.cnt x.h.subs+(x.n.d.text.length+(aN Entry.cnt x.n.d.list+(aN Seen.cnt x.n.d.seen+(aN Rep.cnt x.n.reps)))))
theorem Desk.cntT_le(x:Desk):x.cntT<=11*VT x:=by
 unfold Desk.cntT;have h0:=dt Doc.cnt_le x.h.docs;have h1:=dt Sub.cnt_le x.h.subs;have h2:=dt Entry.cnt_le x.n.d.list;have h3:=uP (λa=>by have:=Seen.cnt_le a;omega) x.n.d.seen;have h4:=dt Rep.cnt_le x.n.reps;simp only[VT,dh,Rb,cB];omega
theorem mix:Tryz.prog.follows .mixedOrders=true:=al
theorem om(l:List Int)(hl:l.length<=9223372036854775807)(left:Nat)(hf:left<=2^20):ar Tryz.prog 18 [.c (.s (l.map aI)),.c (vi left)] (.one (.c (vi (szR l.length left)) 1)):=by
 refine aE aw Tryz.func18 al rfl rfl rfl (ai rfl) (λw0 base=>?_);exact LU
theorem oj(l:List Int)(hl:l.length<=2^40):ar Tryz.prog 13 [.c (.s (l.map aI))] (.one (.c (.s (l.map aI)) 1)):=by
 refine aE aw Tryz.func13 al rfl rfl rfl (ai rfl) (λw0 base=>?_);simp;refine⟨aa,λb=>?_⟩
 refine aU.intro eok (λi:Nat=>i<=l.length) (λi=>⟨22,0,[(4,.v (.int .i64 i)),(3,.sl 112 (some (b,0,l.length)) 1 0 l.length),(0,.ro (l.map aI))],
  [(112,.rows (some (b,0,l.length)) 1 (lG aI [.v (.int .i64 0)] l i) true)]⟩) (λi=>l.length-i) 0 ab m8 (λi hi=>?_)
 by_cases h:i<l.length
 ·simp[h,gq hi]
  exact⟨i+1,aa,aa,aQ aa,jQ (f:=aI) h⟩
 ·have:i=l.length:=by omega
  subst this;simp[BF,cut]
theorem oD(a b:List Int)(hl:a.length<=2^40):ar Tryz.prog 15 [.c (.s (a.map aI)),.c (.s (b.map aI))] (.one (.c (vb (a=b)) 1)):=by
 refine aE aw Tryz.func15 al rfl rfl rfl (ai rfl) (λw0 base=>?_);by_cases h:a.length=b.length
 ·simp[h]
  refine aU.intro eok (λi:Nat=>i<=a.length/\a.take i=b.take i) (λi=>⟨26,0,[(5,.v (.int .i64 i)),(1,.ro (b.map aI)),(0,.ro (a.map aI))],[]⟩) (λi=>a.length-i) 0 ab ab (λi hi=>?_);by_cases hlt:i<a.length
  ·simp[hlt]
   have hlt':i<b.length:=aa;refine aZ.quiet eok mix al ?_;simp[hlt,hlt'];refine Br.mk (λh1=>?_) (λh1=>?_)
   ·simp
    exact⟨i+1,⟨aa,rG hlt hlt' hi.2 (HD h1)⟩,aa,aQ aa⟩
   ·simp[iU]
    exact Bl hlt hlt' (λhe=>MF h1 (by rw[he]))
  ·exact ni
 ·exact jw
theorem fS(l:List Int)(k:Int)(h0:0<=k)(hk:k+l.length<=4611686018427387904):iH Tryz.prog 16 (.c (.s (l.map aI)) 1) k (k+l.length) (.c (.s ((aL eR one l k).map aI)) 1):=by
 refine iH.intro aw Tryz.func16 al rfl rfl rfl ah (λw0 base=>?_);simp;intro H;refine aH eok (λi:Nat=>i<=l.length) (λi=>⟨19,0,[(5,.v (.int .i64 i)),(1,.v (.int .i64 (k+i))),(0,.ml 0 H 1 l.length)],[(0,.rows H 1 (bO eR one aI l k i) true)]⟩) (λi=>l.length-i) 0 ab (by simp[qd]) (λi hi=>Ent.refl ?_);by_cases h:i<l.length
 ·simp[h,bN]
  refine Ent.refl ⟨i+1,aa,aa,?_⟩;have e1:Go.IntKind.i64.wrap (k+(i:Int)+1)=k+((i+1:Nat):Int):=by rw[ae _ aa];omega
  have e2:Go.IntKind.i64.wrap ((i:Int)+1)=((i+1:Nat):Int):=aQ aa;simp[e1,e2];refine gG h ?_;simp[aI,zF];omega
 ·have:i=l.length:=by omega
  subst this;simp[gI,aJ]
theorem kR(l:List Int)(k:Int)(h0:0<=k)(hk:k+l.length<=4611686018427387904):ar Tryz.prog 46 [.c (.s ((aL eR one l k).map aI)),.c (vi k)] (.one (.c (vi (k+l.length)) 1)):=by
 refine aE aw Tryz.func46 al rfl rfl rfl (ai rfl) (λw0 base=>?_);simp;refine aU.intro eok (λi:Nat=>i<=l.length) (λi=>⟨21,0,[(5,.v (.int .i64 i)),(1,.v (.int .i64 (k+i))),(0,.ro ((aL eR one l k).map aI))],[]⟩) (λi=>l.length-i) 0 ab ab (λi hi=>?_);by_cases h:i<l.length
 ·have e1:Go.IntKind.i64.wrap (k+(i:Int)+1)=k+((i+1:Nat):Int):=by rw[ae _ aa];omega
  have e2:Go.IntKind.i64.wrap ((i:Int)+1)=((i+1:Nat):Int):=aQ aa
  have hm:(aL eR one l k)[i]'(by rw[aJ];exact h)=k+i:=by
   rw[iQ h,zF,Nk,dT aa]
  simp[h,aJ,hm];refine⟨i+1,aa,aa,?_,?_⟩
  ·exact e2
  ·exact e1
 ·exact nk
end Go.Proofs.YtklblkobegcljaaGreat
