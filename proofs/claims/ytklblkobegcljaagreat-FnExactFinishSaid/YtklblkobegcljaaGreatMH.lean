import Derived.Test.YtklblkobegcljaaGreatMG
import Derived.Test.YtklblkobegcljaaGreatRows
import Derived.Test.YtklblkobegcljaaGreatME
import Derived.IntWalk
import Derived.ProofKit
import Derived.Deep.Slices
import Derived.Test.YtklblkobegcljaaGreatMF
namespace Go.Proofs.YtklblkobegcljaaGreat
open Go.AM
def ti2:TI:={ n:=1,zero:=[.v (.int .i64 0)],bytes:=8,kind:=some .i64 }
def ti3:TI:={ n:=1,zero:=[.v (.int .i64 0)],bytes:=8,kind:=some .i64 }
def ti4:TI:={ n:=1,zero:=[.v (.bool false)],bytes:=1,boo:=true }
def ti5:TI:={ n:=1,zero:=[.v (.int .u8 0)],bytes:=1,kind:=some .u8 }
def ti6:TI:={ n:=1,zero:=[.v (.int .u8 0)],bytes:=1,kind:=some .u8 }
def ti7:TI:={ agg:=true,n:=4,zero:=[.v (.int .i64 0),.v (.int .i64 0),.v (.bool false),.v (.int .u8 0)],fields:=[(0,1),(1,1),(2,1),(3,1)],fagg:=[false,false,false,false],bytes:=24,pln:=true }
def ti8:TI:={ agg:=true,n:=4,zero:=[.v (.int .i64 0),.v (.int .i64 0),.v (.bool false),.v (.int .u8 0)],fields:=[(0,1),(1,1),(2,1),(3,1)],fagg:=[false,false,false,false],bytes:=24,pln:=true }
def ti9:TI:={ n:=1,zero:=[.v (.string ⟨#[]⟩)],bytes:=16,str:=true }
def Z0:TI:={ n:=1,zero:=[.v (.string ⟨#[]⟩)],bytes:=16,str:=true }
def ZZ:TI:={ n:=1,zero:=[.v (.string ⟨#[]⟩)],bytes:=16,str:=true }
def ZY:TI:={ n:=1,zero:=[.v (.int .u64 0)],bytes:=8,kind:=some .u64 }
def ZX:TI:={ agg:=true,n:=2,zero:=[.v (.string ⟨#[]⟩),.v (.int .u64 0)],fields:=[(0,1),(1,1)],fagg:=[false,false],bytes:=24,pln:=true }
def ZW:TI:={ agg:=true,n:=2,zero:=[.v (.string ⟨#[]⟩),.v (.int .u64 0)],fields:=[(0,1),(1,1)],fagg:=[false,false],bytes:=24,pln:=true }
def ZV:TI:={ n:=1,zero:=[.v (.int .i32 0)],bytes:=4,kind:=some .i32 }
def ZU:TI:={ n:=1,zero:=[.nil],sl:=some 137,bytes:=24,pln:=false }
def ZT:TI:={ n:=1,zero:=[.nil],sl:=some 142,bytes:=24,pln:=false }
def ZS:TI:={ agg:=true,n:=4,zero:=[.v (.bool false),.nil,.nil,.v (.int .i64 0)],fields:=[(0,1),(1,1),(2,1),(3,1)],fagg:=[false,false,false,false],bytes:=64,pln:=false }
def ZR:TI:={ agg:=true,n:=4,zero:=[.v (.bool false),.nil,.nil,.v (.int .i64 0)],fields:=[(0,1),(1,1),(2,1),(3,1)],fagg:=[false,false,false,false],bytes:=64,pln:=false }
def ZQ:TI:={ n:=1,zero:=[.nil],sl:=some 3,bytes:=24,pln:=false }
def ZP:TI:={ n:=1,zero:=[.nil],sl:=some 91,bytes:=24,pln:=false }
def ZO:TI:={ n:=1,zero:=[.nil],sl:=some 100,bytes:=24,pln:=false }
def ZN:TI:={ agg:=true,n:=8,zero:=[.v (.bool false),.nil,.nil,.v (.int .i64 0),.nil,.nil,.nil,.v (.int .i64 0)],fields:=[(0,4),(4,1),(5,1),(6,1),(7,1)],fagg:=[true,false,false,false,false],bytes:=144,pln:=false }
def ZM:TI:={ agg:=true,n:=8,zero:=[.v (.bool false),.nil,.nil,.v (.int .i64 0),.nil,.nil,.nil,.v (.int .i64 0)],fields:=[(0,4),(4,1),(5,1),(6,1),(7,1)],fagg:=[true,false,false,false,false],bytes:=144,pln:=false }
def ZL:TI:={ n:=1,zero:=[.nil],sl:=some 119,bytes:=24,pln:=false }
def ZK:TI:={ n:=1,zero:=[.nil],sl:=some 150,bytes:=24,pln:=false }
def ZJ:TI:={ agg:=true,n:=4,zero:=[.v (.bool false),.nil,.nil,.v (.int .i64 0)],fields:=[(0,1),(1,1),(2,1),(3,1)],fagg:=[false,false,false,false],bytes:=64,pln:=false }
def ZI:TI:={ agg:=true,n:=4,zero:=[.v (.bool false),.nil,.nil,.v (.int .i64 0)],fields:=[(0,1),(1,1),(2,1),(3,1)],fagg:=[false,false,false,false],bytes:=64,pln:=false }
def ZH:TI:={ n:=1,zero:=[.nil],sl:=some 104,bytes:=24,pln:=false }
def ZG:TI:={ n:=1,zero:=[.nil],sl:=some 66,bytes:=24,pln:=false }
def ZF:TI:={ agg:=true,n:=8,zero:=[.v (.bool false),.nil,.nil,.v (.int .i64 0),.nil,.nil,.nil,.v (.int .i64 0)],fields:=[(0,4),(4,1),(5,1),(6,1),(7,1)],fagg:=[true,false,false,false,false],bytes:=144,pln:=false }
def ZE:TI:={ agg:=true,n:=8,zero:=[.v (.bool false),.nil,.nil,.v (.int .i64 0),.nil,.nil,.nil,.v (.int .i64 0)],fields:=[(0,4),(4,1),(5,1),(6,1),(7,1)],fagg:=[true,false,false,false,false],bytes:=144,pln:=false }
def ZD:TI:={ n:=1,zero:=[.nil],sl:=some 181,bytes:=24,pln:=false }
def ZC:TI:={ agg:=true,n:=7,zero:=[.v (.int .i64 0),.v (.string ⟨#[]⟩),.v (.int .i64 0),.v (.int .i64 0),.v (.int .i64 0),.nil,.nil],fields:=[(0,1),(1,1),(2,1),(3,1),(4,1),(5,1),(6,1)],fagg:=[false,false,false,false,false,false,false],bytes:=96,pln:=false }
def ZB:TI:={ agg:=true,n:=7,zero:=[.v (.int .i64 0),.v (.string ⟨#[]⟩),.v (.int .i64 0),.v (.int .i64 0),.v (.int .i64 0),.nil,.nil],fields:=[(0,1),(1,1),(2,1),(3,1),(4,1),(5,1),(6,1)],fagg:=[false,false,false,false,false,false,false],bytes:=96,pln:=false }
def ZA:TI:={ n:=1,zero:=[.nil],sl:=some 183,bytes:=24,pln:=false }
def Zz:TI:={ agg:=true,n:=4,zero:=[.v (.int .i64 0),.v (.int .i64 0),.nil,.nil],fields:=[(0,1),(1,1),(2,1),(3,1)],fagg:=[false,false,false,false],bytes:=64,pln:=false }
def Zy:TI:={ agg:=true,n:=4,zero:=[.v (.int .i64 0),.v (.int .i64 0),.nil,.nil],fields:=[(0,1),(1,1),(2,1),(3,1)],fagg:=[false,false,false,false],bytes:=64,pln:=false }
def Zx:TI:={ agg:=true,n:=15,zero:=[.v (.int .i64 0),.v (.string ⟨#[]⟩),.v (.int .i64 0),.v (.int .i64 0),.v (.int .i64 0),.nil,.nil,.v (.int .i64 0),.v (.int .i64 0),.v (.int .i64 0),.v (.int .i64 0),.v (.int .i64 0),.v (.int .i64 0),.nil,.nil],fields:=[(0,7),(7,1),(8,1),(9,1),(10,1),(11,4)],fagg:=[true,false,false,false,false,true],bytes:=192,pln:=false }
def Zw:TI:={ agg:=true,n:=15,zero:=[.v (.int .i64 0),.v (.string ⟨#[]⟩),.v (.int .i64 0),.v (.int .i64 0),.v (.int .i64 0),.nil,.nil,.v (.int .i64 0),.v (.int .i64 0),.v (.int .i64 0),.v (.int .i64 0),.v (.int .i64 0),.v (.int .i64 0),.nil,.nil],fields:=[(0,7),(7,1),(8,1),(9,1),(10,1),(11,4)],fagg:=[true,false,false,false,false,true],bytes:=192,pln:=false }
def Zv:TI:={ n:=1,zero:=[.nil],sl:=some 9,bytes:=24,pln:=false }
def Zu:TI:={ agg:=true,n:=2,zero:=[.v (.string ⟨#[]⟩),.nil],fields:=[(0,1),(1,1)],fagg:=[false,false],bytes:=40,pln:=false }
def Zt:TI:={ agg:=true,n:=2,zero:=[.v (.string ⟨#[]⟩),.nil],fields:=[(0,1),(1,1)],fagg:=[false,false],bytes:=40,pln:=false }
def Zs:TI:={ n:=1,zero:=[.nil],sl:=some 229,bytes:=24,pln:=false }
def Zr:TI:={ agg:=true,n:=7,zero:=[.v (.int .i64 0),.v (.string ⟨#[]⟩),.v (.int .i64 0),.v (.int .i64 0),.v (.int .i64 0),.nil,.nil],fields:=[(0,1),(1,1),(2,1),(3,1),(4,1),(5,1),(6,1)],fagg:=[false,false,false,false,false,false,false],bytes:=96,pln:=false }
def Zq:TI:={ agg:=true,n:=7,zero:=[.v (.int .i64 0),.v (.string ⟨#[]⟩),.v (.int .i64 0),.v (.int .i64 0),.v (.int .i64 0),.nil,.nil],fields:=[(0,1),(1,1),(2,1),(3,1),(4,1),(5,1),(6,1)],fagg:=[false,false,false,false,false,false,false],bytes:=96,pln:=false }
def Zp:TI:={ n:=1,zero:=[.nil],sl:=some 227,bytes:=24,pln:=false }
def Zo:TI:={ agg:=true,n:=4,zero:=[.v (.int .i64 0),.v (.int .i64 0),.nil,.nil],fields:=[(0,1),(1,1),(2,1),(3,1)],fagg:=[false,false,false,false],bytes:=64,pln:=false }
def Zn:TI:={ agg:=true,n:=4,zero:=[.v (.int .i64 0),.v (.int .i64 0),.nil,.nil],fields:=[(0,1),(1,1),(2,1),(3,1)],fagg:=[false,false,false,false],bytes:=64,pln:=false }
def Zm:TI:={ agg:=true,n:=15,zero:=[.v (.int .i64 0),.v (.string ⟨#[]⟩),.v (.int .i64 0),.v (.int .i64 0),.v (.int .i64 0),.nil,.nil,.v (.int .i64 0),.v (.int .i64 0),.v (.int .i64 0),.v (.int .i64 0),.v (.int .i64 0),.v (.int .i64 0),.nil,.nil],fields:=[(0,7),(7,1),(8,1),(9,1),(10,1),(11,4)],fagg:=[true,false,false,false,false,true],bytes:=192,pln:=false }
def SD:TI:={ agg:=true,n:=15,zero:=[.v (.int .i64 0),.v (.string ⟨#[]⟩),.v (.int .i64 0),.v (.int .i64 0),.v (.int .i64 0),.nil,.nil,.v (.int .i64 0),.v (.int .i64 0),.v (.int .i64 0),.v (.int .i64 0),.v (.int .i64 0),.v (.int .i64 0),.nil,.nil],fields:=[(0,7),(7,1),(8,1),(9,1),(10,1),(11,4)],fagg:=[true,false,false,false,false,true],bytes:=192,pln:=false }
def tM:TI:={ agg:=true,n:=2,zero:=[.v (.string ⟨#[]⟩),.nil],fields:=[(0,1),(1,1)],fagg:=[false,false],bytes:=40,pln:=false }
def SC:TI:={ n:=1,zero:=[.nil],sl:=some 196,bytes:=24,pln:=false }
def SB:TI:={ agg:=true,n:=5,zero:=[.v (.string ⟨#[]⟩),.v (.int .i64 0),.nil,.nil,.nil],fields:=[(0,1),(1,1),(2,1),(3,1),(4,1)],fagg:=[false,false,false,false,false],bytes:=96,pln:=false }
def tL:TI:={ agg:=true,n:=5,zero:=[.v (.string ⟨#[]⟩),.v (.int .i64 0),.nil,.nil,.nil],fields:=[(0,1),(1,1),(2,1),(3,1),(4,1)],fagg:=[false,false,false,false,false],bytes:=96,pln:=false }
def SA:TI:={ n:=1,zero:=[.nil],sl:=some 240,bytes:=24,pln:=false }
def Sz:TI:={ agg:=true,n:=5,zero:=[.v (.string ⟨#[]⟩),.v (.int .i64 0),.nil,.nil,.nil],fields:=[(0,1),(1,1),(2,1),(3,1),(4,1)],fagg:=[false,false,false,false,false],bytes:=96,pln:=false }
def Sy:TI:={ agg:=true,n:=5,zero:=[.v (.string ⟨#[]⟩),.v (.int .i64 0),.nil,.nil,.nil],fields:=[(0,1),(1,1),(2,1),(3,1),(4,1)],fagg:=[false,false,false,false,false],bytes:=96,pln:=false }
def Sx:TI:={ agg:=true,n:=4,zero:=[.v (.int .i64 0),.v (.int .i64 0),.v (.bool false),.nil],fields:=[(0,1),(1,1),(2,1),(3,1)],fagg:=[false,false,false,false],bytes:=48,pln:=false }
def Sw:TI:={ agg:=true,n:=4,zero:=[.v (.int .i64 0),.v (.int .i64 0),.v (.bool false),.nil],fields:=[(0,1),(1,1),(2,1),(3,1)],fagg:=[false,false,false,false],bytes:=48,pln:=false }
def Sv:TI:={ agg:=true,n:=6,zero:=[.v (.int .i64 0),.v (.string ⟨#[]⟩),.v (.int .i64 0),.v (.int .i64 0),.v (.bool false),.nil],fields:=[(0,1),(1,1),(2,4)],fagg:=[false,false,true],bytes:=72,pln:=false }
def Su:TI:={ agg:=true,n:=6,zero:=[.v (.int .i64 0),.v (.string ⟨#[]⟩),.v (.int .i64 0),.v (.int .i64 0),.v (.bool false),.nil],fields:=[(0,1),(1,1),(2,4)],fagg:=[false,false,true],bytes:=72,pln:=false }
def St:TI:={ agg:=true,n:=4,zero:=[.v (.int .i64 0),.v (.int .i64 0),.v (.bool false),.nil],fields:=[(0,1),(1,1),(2,1),(3,1)],fagg:=[false,false,false,false],bytes:=48,pln:=false }
def Ss:TI:={ agg:=true,n:=4,zero:=[.v (.int .i64 0),.v (.int .i64 0),.v (.bool false),.nil],fields:=[(0,1),(1,1),(2,1),(3,1)],fagg:=[false,false,false,false],bytes:=48,pln:=false }
def Sr:TI:={ agg:=true,n:=6,zero:=[.v (.int .i64 0),.v (.string ⟨#[]⟩),.v (.int .i64 0),.v (.int .i64 0),.v (.bool false),.nil],fields:=[(0,1),(1,1),(2,4)],fagg:=[false,false,true],bytes:=72,pln:=false }
def Sq:TI:={ agg:=true,n:=6,zero:=[.v (.int .i64 0),.v (.string ⟨#[]⟩),.v (.int .i64 0),.v (.int .i64 0),.v (.bool false),.nil],fields:=[(0,1),(1,1),(2,4)],fagg:=[false,false,true],bytes:=72,pln:=false }
def Sp:TI:={ n:=1,zero:=[.nil],sl:=some 5,bytes:=24,pln:=false }
def So:TI:={ agg:=true,n:=3,zero:=[.v (.int .i64 0),.v (.int .i64 0),.nil],fields:=[(0,1),(1,1),(2,1)],fagg:=[false,false,false],bytes:=40,pln:=false }
def Sn:TI:={ agg:=true,n:=3,zero:=[.v (.int .i64 0),.v (.int .i64 0),.nil],fields:=[(0,1),(1,1),(2,1)],fagg:=[false,false,false],bytes:=40,pln:=false }
def Sm:TI:={ agg:=true,n:=3,zero:=[.v (.int .i64 0),.v (.int .i64 0),.nil],fields:=[(0,1),(1,1),(2,1)],fagg:=[false,false,false],bytes:=40,pln:=false }
def Sl:TI:={ agg:=true,n:=3,zero:=[.v (.int .i64 0),.v (.int .i64 0),.nil],fields:=[(0,1),(1,1),(2,1)],fagg:=[false,false,false],bytes:=40,pln:=false }
def Sk:TI:={ agg:=true,n:=3,zero:=[.v (.int .i64 0),.v (.int .i64 0),.v (.int .i64 0)],fields:=[(0,1),(1,1),(2,1)],fagg:=[false,false,false],bytes:=24,pln:=true,ieq:=true }
def tK:TI:={ agg:=true,n:=3,zero:=[.v (.int .i64 0),.v (.int .i64 0),.v (.int .i64 0)],fields:=[(0,1),(1,1),(2,1)],fagg:=[false,false,false],bytes:=24,pln:=true,ieq:=true }
def Sj:TI:={ n:=1,zero:=[.nil],sl:=some 59,bytes:=24,pln:=false }
def Si:TI:={ agg:=true,n:=3,zero:=[.v (.int .i64 0),.v (.int .i64 0),.nil],fields:=[(0,1),(1,1),(2,1)],fagg:=[false,false,false],bytes:=40,pln:=false }
def Sg:TI:={ agg:=true,n:=3,zero:=[.v (.int .i64 0),.v (.int .i64 0),.nil],fields:=[(0,1),(1,1),(2,1)],fagg:=[false,false,false],bytes:=40,pln:=false }
def Sf:TI:={ agg:=true,n:=3,zero:=[.v (.int .i64 0),.v (.int .i64 0),.nil],fields:=[(0,1),(1,1),(2,1)],fagg:=[false,false,false],bytes:=40,pln:=false }
def Se:TI:={ agg:=true,n:=3,zero:=[.v (.int .i64 0),.v (.int .i64 0),.v (.int .i64 0)],fields:=[(0,1),(1,1),(2,1)],fagg:=[false,false,false],bytes:=24,pln:=true,ieq:=true }
def Sd:TI:={ agg:=true,n:=3,zero:=[.nil,.nil,.v (.int .i64 0)],fields:=[(0,1),(1,1),(2,1)],fagg:=[false,false,false],bytes:=56,pln:=false }
def Sc:TI:={ agg:=true,n:=3,zero:=[.nil,.nil,.v (.int .i64 0)],fields:=[(0,1),(1,1),(2,1)],fagg:=[false,false,false],bytes:=56,pln:=false }
def Sb:TI:={ agg:=true,n:=3,zero:=[.nil,.v (.int .i64 0),.v (.int .i64 0)],fields:=[(0,1),(1,1),(2,1)],fagg:=[false,false,false],bytes:=40,pln:=false }
def Sa:TI:={ agg:=true,n:=3,zero:=[.nil,.v (.int .i64 0),.v (.int .i64 0)],fields:=[(0,1),(1,1),(2,1)],fagg:=[false,false,false],bytes:=40,pln:=false }
def R9:TI:={ agg:=true,n:=1,zero:=[.nil],fields:=[(0,1)],fagg:=[false],bytes:=24,pln:=false }
def R8:TI:={ agg:=true,n:=1,zero:=[.nil],fields:=[(0,1)],fagg:=[false],bytes:=24,pln:=false }
def R7:TI:={ n:=1,zero:=[.v (.int .u32 0)],bytes:=4,kind:=some .u32 }
def R6:TI:={ n:=1,zero:=[.v (.int .u8 0)],bytes:=1,kind:=some .u8 }
def R5:TI:={ n:=1,zero:=[.v (.int .u8 0)],bytes:=1,kind:=some .u8 }
def R4:TI:={ n:=1,zero:=[.v (.int .i32 0)],bytes:=4,kind:=some .i32 }
def R3:TI:={ n:=1,zero:=[.v (.int .i32 0)],bytes:=4,kind:=some .i32 }
def acv:List (Nat×TI):=[(2,ti2),(3,ti3),(4,ti4),(5,ti5),(6,ti6),(7,ti7),(8,ti8),(9,ti9),(10,Z0),(11,ZZ),(12,ZY),(13,ZX),(14,ZW),(21,ZV),(22,ZU),(23,ZT),(24,ZS),(25,ZR),(26,ZQ),(27,ZP),(28,ZO),(29,ZN),(30,ZM),(32,ZL),(33,ZK),(34,ZJ),(35,ZI),(36,ZH),(37,ZG),(38,ZF),(39,ZE),(59,ZD),(60,ZC),(61,ZB),(62,ZA),(63,Zz),(64,Zy),(65,Zx),(66,Zw),(84,Zv),(90,Zu),(91,Zt),(93,Zs),(94,Zr),(95,Zq),(96,Zp),(97,Zo),(98,Zn),(99,Zm),(100,SD),(104,tM),(117,SC),(118,SB),(119,tL),(135,SA),(136,Sz),(137,Sy),(139,Sx),(140,Sw),(141,Sv),(142,Su),(147,St),(148,Ss),(149,Sr),(150,Sq),(179,Sp),(180,So),(181,Sn),(182,Sm),(183,Sl),(195,Sk),(196,tK),(217,Sj),(226,Si),(227,Sg),(229,Sf),(240,Se),(260,Sd),(261,Sc),(274,Sb),(275,Sa),(280,R9),(281,R8),(291,R7),(292,R6),(293,R5),(296,R4),(297,R3)]
def tt:Nat->Option TI:=HQ acv
theorem af2:tt 2=some ti2:=rfl
theorem af1:tt 3=some ti3:=rfl
theorem af0:tt 4=some ti4:=rfl
theorem afZ:tt 5=some ti5:=rfl
theorem afY:tt 6=some ti6:=rfl
theorem afX:tt 7=some ti7:=rfl
theorem afW:tt 8=some ti8:=rfl
theorem afV:tt 9=some ti9:=rfl
theorem ada:tt 10=some Z0:=rfl
theorem ac9:tt 11=some ZZ:=rfl
theorem ac8:tt 12=some ZY:=rfl
theorem ac7:tt 13=some ZX:=rfl
theorem ac6:tt 14=some ZW:=rfl
theorem ac5:tt 21=some ZV:=rfl
theorem ac4:tt 22=some ZU:=rfl
theorem ac3:tt 23=some ZT:=rfl
theorem ac2:tt 24=some ZS:=rfl
theorem ac1:tt 25=some ZR:=rfl
theorem ac0:tt 26=some ZQ:=rfl
theorem acZ:tt 27=some ZP:=rfl
theorem acY:tt 28=some ZO:=rfl
theorem acX:tt 29=some ZN:=rfl
theorem acW:tt 30=some ZM:=rfl
theorem acV:tt 32=some ZL:=rfl
theorem acU:tt 33=some ZK:=rfl
theorem acT:tt 34=some ZJ:=rfl
theorem acS:tt 35=some ZI:=rfl
theorem acR:tt 36=some ZH:=rfl
theorem acQ:tt 37=some ZG:=rfl
theorem acP:tt 38=some ZF:=rfl
theorem acO:tt 39=some ZE:=rfl
theorem acN:tt 59=some ZD:=rfl
theorem acM:tt 60=some ZC:=rfl
theorem acL:tt 61=some ZB:=rfl
theorem acK:tt 62=some ZA:=rfl
theorem acJ:tt 63=some Zz:=rfl
theorem acI:tt 64=some Zy:=rfl
theorem acH:tt 65=some Zx:=rfl
theorem acG:tt 66=some Zw:=rfl
theorem acF:tt 84=some Zv:=rfl
theorem acE:tt 90=some Zu:=rfl
theorem acD:tt 91=some Zt:=rfl
theorem acC:tt 93=some Zs:=rfl
theorem acB:tt 94=some Zr:=rfl
theorem acA:tt 95=some Zq:=rfl
theorem acz:tt 96=some Zp:=rfl
theorem acy:tt 97=some Zo:=rfl
theorem acx:tt 98=some Zn:=rfl
theorem acw:tt 99=some Zm:=rfl
theorem Zf:tt 100=some SD:=rfl
theorem zE:tt 104=some tM:=rfl
theorem Ze:tt 117=some SC:=rfl
theorem Zd:tt 118=some SB:=rfl
theorem Dy:tt 119=some tL:=rfl
theorem Zc:tt 135=some SA:=rfl
theorem Zb:tt 136=some Sz:=rfl
theorem Za:tt 137=some Sy:=rfl
theorem Y9:tt 139=some Sx:=rfl
theorem Y8:tt 140=some Sw:=rfl
theorem Y7:tt 141=some Sv:=rfl
theorem Y0:tt 142=some Su:=rfl
theorem YZ:tt 147=some St:=rfl
theorem YY:tt 148=some Ss:=rfl
theorem YX:tt 149=some Sr:=rfl
theorem YW:tt 150=some Sq:=rfl
theorem YV:tt 179=some Sp:=rfl
theorem YU:tt 180=some So:=rfl
theorem YT:tt 181=some Sn:=rfl
theorem YS:tt 182=some Sm:=rfl
theorem YR:tt 183=some Sl:=rfl
theorem YQ:tt 195=some Sk:=rfl
theorem Dx:tt 196=some tK:=rfl
theorem YP:tt 217=some Sj:=rfl
theorem YO:tt 226=some Si:=rfl
theorem YN:tt 227=some Sg:=rfl
theorem YM:tt 229=some Sf:=rfl
theorem YL:tt 240=some Se:=rfl
theorem YK:tt 260=some Sd:=rfl
theorem YJ:tt 261=some Sc:=rfl
theorem YI:tt 274=some Sb:=rfl
theorem YH:tt 275=some Sa:=rfl
theorem YG:tt 280=some R9:=rfl
theorem YF:tt 281=some R8:=rfl
theorem YE:tt 291=some R7:=rfl
theorem YD:tt 292=some R6:=rfl
theorem YC:tt 293=some R5:=rfl
theorem YB:tt 296=some R4:=rfl
theorem YA:tt 297=some R3:=rfl
theorem VQ:(acv.all λp=>yC Tryz.prog p.1 p.2)=true:=al
theorem aw:∀t ti,tt t=some ti->TIok Tryz.prog t ti:=SE VQ
theorem eok{w0:World}{F G:Nat->Prop}{l:Bool}:EOk ⟨Tryz.prog,tt,w0,⟨F,G,l,λ_=>True⟩⟩:=⟨aw,λ_ _=>trivial⟩
attribute [simp] ti2 ti3 ti4 ti5 ti6 ti7 ti8 ti9 Z0 ZZ ZY ZX ZW ZV ZU ZT ZS ZR ZQ ZP ZO ZN ZM ZL ZK ZJ ZI ZH ZG ZF ZE ZD ZC ZB ZA Zz Zy Zx Zw Zv Zu Zt Zs Zr Zq Zp Zo Zn Zm SD tM SC SB tL SA Sz Sy Sx Sw Sv Su St Ss Sr Sq Sp So Sn Sm Sl Sk tK Sj Si Sg Sf Se Sd Sc Sb Sa R9 R8 R7 R6 R5 R4 R3 af2 af1 af0 afZ afY afX afW afV ada ac9 ac8 ac7 ac6 ac5 ac4 ac3 ac2 ac1 ac0 acZ acY acX acW acV acU acT acS acR acQ acP acO acN acM acL acK acJ acI acH acG acF acE acD acC acB acA acz acy acx acw Zf zE Ze Zd Dy Zc Zb Za Y9 Y8 Y7 Y0 YZ YY YX YW YV YU YT YS YR YQ Dx YP YO YN YM YL YK YJ YI YH YG YF YE YD YC YB YA
end Go.Proofs.YtklblkobegcljaaGreat
namespace Go.AM
abbrev vi(n:Int):CD:=.v (.int .i64 n)
noncomputable abbrev vb(p:Prop):CD:=.v (.bool (dc p))
abbrev aG(n:Int):List CD:=[vi n]
theorem IJ{p q:Prop}(h:p↔q):dc p=dc q:=by rw[propext h]
theorem sW{α:Type}{a b:List α}{i:Nat}(h:i<a.length)(h':i<b.length)(ht:a.take i=b.take i)(he:a[i]=b[i]):a.take (i+1)=b.take (i+1):=by
 rw[<-bd h,<-bd h',ht,he]
theorem G4{α:Type}{a b:List α}{i:Nat}(h:a.length<=i)(hl:a.length=b.length)(ht:a.take i=b.take i):a=b:=by
 rwa[aB h,aB aa]at ht
theorem CO{α:Type}{a b:List α}{i:Nat}(h:i<a.length)(h':i<b.length)(he:a[i]≠b[i]):a≠b:=by
 rintro rfl;exact he rfl
theorem fE{n:Nat}(h:n<=9223372036854775807):Go.IntKind.i64.wrap (n:Int)=n:=ae _ aa
theorem aR{n:Nat}(h:n<9223372036854775807):Go.IntKind.i64.wrap ((n:Int)+1)=((n+1:Nat):Int):=by rw[ae _ aa];omega
@[simp] theorem af4 {a b:Nat}:((a:Int)+(b:Int)).toNat=a+b:=aa
@[simp] theorem af3 {a n : Nat} : ((a : Int) + (OfNat.ofNat n : Int)).toNat = a + n := by
  show((a:Int)+((n:Nat):Int)).toNat=a+n
  omega
@[simp] theorem agj {a b:Nat}:(0:Int)<=(a:Int)+(b:Int):=aa
@[simp] theorem agi {a n : Nat} : (0 : Int) <= (a : Int) + (OfNat.ofNat n : Int) := by
  show(0:Int)<=(a:Int)+((n:Nat):Int)
  omega
@[simp] theorem afC {α:Type} {f:α->List CD} {l:List α}:cut (l.map f) 0 l.length=l.map f:=v3 ab
attribute [simp] v3
@[simp] theorem afB {n:Nat}:((n:Int)<0)=False:=ab
open Go.RowKit Go.WideShapes Go.ChangeShapes
def A8(P:Program):Nat->List Field->Option Nat
 |o,[]=>some o
 |o,f::fs=>if f.offset=o then A8 P (o+P.cellsOf f.type) fs else none
def okT(P:Program):Nat->TypeId->Bool
 |0,_=>false
 | D + 1, t => match P.underlying t with
   |some .bool=>true
   |some (.int _)=>true
   |some .string=>true
   |some (.slice e)=>decide (0<P.cellsOf e)&&okT P D e
   |some (.struct fs)=>(A8 P 0 fs.toList==some (P.cellsOf t))&&fs.toList.all λf=>okT P D f.type
   |_=>false
def gm(P:Program):Nat->TypeId->List CD->Prop
 |0,_,_=>False
 | D + 1, t, ds => match P.underlying t with
   |some .bool=>∃b,ds=[.v (.bool b)]
   |some (.int k)=>∃n,ds=[.v (.int k n)]/\(Lit.int k n).wf=true
   |some .string=>∃s:ByteArray,ds=[.v (.string s)]/\s.size<=maxLen
   |some (.slice e)=>∃rows,ds=[.s rows]/\rows.length<=maxLen/\∀row∈rows,row.length=P.cellsOf e/\gm P D e row
   |some (.struct fs)=>ds.length=P.cellsOf t/\∀f∈fs.toList,gm P D f.type ((ds.drop f.offset).take (P.cellsOf f.type))
   |_=>False
def qV(w:World)(cs:List Value)(ds:List CD):Prop:=ds.length=cs.length/\∀(j:Nat) (u:Value) (d:CD),cs[j]? = some u->ds[j]? = some d->Rd w false (λ_=>True) u d
theorem qV.one{w:World}{u:Value}{d:CD}(h:Rd w false (λ_=>True) u d):qV w [u] [d]:=by
 refine⟨rfl,λj u' d' hu hd=>?_⟩
 cases j with
 |zero=>simp at hu hd;subst hu;subst hd;exact h
 |succ j=>simp at hu
theorem vv{P:Program}{w:World}{D:Nat}{cs:List Value}:∀(fs:List Field) (o m:Nat),A8 P o fs=some m->m<=cs.length ->
 (∀f∈fs,∃ds,qV w ((cs.drop f.offset).take (P.cellsOf f.type)) ds/\gm P D f.type ds) ->
 ∃ds,o<=m/\qV w ((cs.drop o).take (m-o)) ds/\∀f∈fs,o<=f.offset/\gm P D f.type ((ds.drop (f.offset-o)).take (P.cellsOf f.type))
 | [], o, m, hc, _, _ => by
   simp only[A8,eP]at hc;subst hc;exact⟨[],aH _,by simp[qV],ab⟩
 | f :: fs, o, m, hc, hm, hx => by
   simp only[A8]at hc
   split at hc
   ·rename_i ho
    obtain⟨ds,h1,h2,h3⟩:=vv fs _ m hc hm (λg hg=>hx g (aC _ hg));obtain⟨d1,h4,h5⟩:=hx f (aJ ..);have hl:d1.length=P.cellsOf f.type:=by rw[h4.1];simp;omega
    refine⟨d1++ds,aa,⟨?_,λj u d hu hd=>?_⟩,λg hg=>?_⟩
    ·have:=h2.1
     simp at this⊢;omega
    ·by_cases hj:j<P.cellsOf f.type
     ·rw[cq aa]at hd
      refine h4.2 j u d ?_ hd;rw[cA,an hj,ho];rw[cA]at hu
      split at hu
      ·exact hu
      ·simp at hu
     ·rw[a9 aa,hl]at hd
      refine h2.2 _ u d ?_ hd;rw[cA]at hu⊢
      split at hu
      ·rw[an aa]
       rw[dA]at hu⊢;rw[<-hu]
       congr 1
       omega
      ·simp at hu
    ·rcases aX.1 hg with rfl|hg
     ·refine⟨aa,?_⟩
      rw[ho,Nat.sub_self,jA,List.take_append_of_le_length aa,aB aa];exact h5
     ·obtain⟨h6,h7⟩:=h3 g hg
      refine⟨aa,?_⟩
      have:(d1++ds).drop (g.offset-o)=ds.drop (g.offset-(o+P.cellsOf f.type)):=by
       rw[List.drop_append,ym aa,hl,iM]
       congr 1
       omega
      rw[this];exact h7
   ·simp at hc
theorem Qd{H:Type}{enc:TypeId×Value->H}{P:Program}{w:World}{base:Nat}{spare:Nat->Bool}{held:Bool} :
 ∀(D:Nat) (t:TypeId) (cs:List Value) (x:DataW H×List MemPlace) (fuel:Nat),okT P D t=true->DataW.trod enc P w base spare held fuel t cs=some x->∃ds,qV w cs ds/\gm P D t ds:=by
 intro D
 induction D with
 |zero=>intro t cs x fuel h;simp[okT]at h
 | succ D ih =>
   intro t cs x fuel hok h;unfold okT at hok
   split at hok
   ·rename_i hu
    obtain⟨b,rfl,-⟩:=DataW.trod_bool hu h;exact⟨[.v (.bool b)],qV.one (.plain rfl),by simp[gm,hu]⟩
   ·rename_i k hu
    obtain⟨n,rfl,-,hw⟩:=DataW.trod_int hu h;exact⟨[.v (.int k n)],qV.one (.plain rfl),by simp[gm,hu,hw]⟩
   ·rename_i hu
    obtain⟨s,rfl,-,hs⟩:=DataW.trod_string hu h;exact⟨[.v (.string s)],qV.one (.plain rfl),by simp[gm,hu,hs]⟩
   ·rename_i e hu
    simp only[aI,cf]at hok;obtain⟨hpos,hok⟩:=hok;rcases DataW.trod_slice hu h with⟨rfl,-⟩|⟨a,len,cap,elems,rest,n,-,rfl,-,-,hlc,hcm,hel,hi,-⟩
    ·exact L3
    ·have each:∀i,i<len->∃p:List Value×List CD,w.cells? base (a.add (i*P.cellsOf e)) (P.cellsOf e)=some p.1/\qV w p.1 p.2/\gm P D e p.2:=by
      intro i hlt;have h1:=hi i hlt;rw[aj aa]at h1;obtain⟨c,h2,h3⟩:=Option.bind_eq_some_iff.1 h1;obtain⟨ds,h4,h5⟩:=ih e c _ n hok h3;exact⟨(c,ds),h2,h4,h5⟩
     by_cases hl0:len=0
     ·subst hl0
      exact L3
     ·obtain⟨f,hf⟩:=Go.Deep.choose_lt each
      have cell:∀i j,i<len->j<P.cellsOf e->w.cell? (a.add (i*P.cellsOf e+j))=(f i).1[j]?/\(f i).1.length=P.cellsOf e:=by
       intro i j hlt hj;obtain⟨-,h2,h3⟩:=World.cells?_some (hf i hlt).1;exact⟨by rw[<-h3 j hj,Go.Deep.add_add],h2⟩
      obtain⟨b,off,spot⟩:=a
      have hb:∃cs T fr,w.heap[b]? = some (.cells cs T fr)/\spot=none:=by
       obtain⟨h1,h2⟩:=cell 0 0 aa hpos;rw[aj aa]at h1;unfold World.cell? at h1;rw[block_add]at h1
       split at h1
       ·rename_i c T fr hh
        refine⟨c,T,fr,hh,?_⟩
        cases spot with
        |none=>rfl
        |some s=>simp[Addr.add]at h1
       ·simp at h1
      obtain⟨c,T,fr,hb,rfl⟩:=hb
      have at':∀i j,i<len->j<P.cellsOf e->c[off+(i*P.cellsOf e+j)]? = (f i).1[j]?:=by
       intro i j hlt hj;rw[<-(cell i j hlt hj).1,fi];simp[World.cell?,hb]
      have hrows:((List.range len).map λi=>(f i).2).length=len:=ab
      have hrd:=Rd.slice (w:=w) (x:=false) (S:=λ_=>True) b off cap (P.cellsOf e) c T fr ((List.range len).map λi=>(f i).2) (λ_ _ _=>True)
       (by rw[hrows];exact hlc) hcm hpos trivial hb (by
        rw[hrows];obtain⟨m,rfl⟩:∃m,len=m+1:=⟨len-1,aa⟩;have h1:=at' m (P.cellsOf e-1) aa aa;rw[aj (by rw[(cell m (P.cellsOf e-1) aa aa).2];omega)]at h1;have h2:=(Array.getElem?_eq_some_iff.1 h1).1;rw[bD];omega) (λh=>ik) (λ_ _ _ _=>⟨trivial,λh=>ik⟩) (λh=>ik)
       (λrow hrow=>by
        simp only[cE,fw]at hrow;obtain⟨i,hlt,rfl⟩:=hrow;rw[(hf i hlt).2.1.1];exact(cell i 0 hlt hpos).2)
       (λi j row d h1 h2=>by
        have hlt:i<len:=by have:=(au.1 h1).1;omega
        simp only[ch,List.getElem?_range hlt,fQ,eP]at h1;subst h1
        have hj:j<P.cellsOf e:=by
         have:=(au.1 h2).1;rw[(hf i hlt).2.1.1,(cell i 0 hlt hpos).2]at this;exact this
        have h3:=at' i j hlt hj;rw[aj (by rw[(cell i j hlt hj).2];exact hj)]at h3
        have h4:c.getD (off+(i*P.cellsOf e+j)) undef=(f i).1[j]'(by rw[(cell i j hlt hj).2];exact hj):=by
         rw[aW,h3];rfl
        rw[h4];exact(hf i hlt).2.1.2 j _ d (aj _) h2)
      rw[hrows]at hrd;refine⟨[.s ((List.range len).map λi=>(f i).2)],qV.one hrd,?_⟩;simp only[gm,hu];refine⟨_,rfl,by rw[hrows];omega,λrow hrow=>?_⟩;simp only[cE,fw]at hrow;obtain⟨i,hlt,rfl⟩:=hrow;exact⟨by rw[(hf i hlt).2.1.1];exact(cell i 0 hlt hpos).2,(hf i hlt).2.2⟩
   ·rename_i fs hu
    simp only[aI,mJ,cB]at hok;obtain⟨hc,hall⟩:=hok;obtain⟨xs,n,-,-,hcl,hxl,hi⟩:=DataW.trod_struct hu h
    obtain⟨ds,-,h1,h2⟩:=vv (w:=w) (D:=D) (cs:=cs) fs.toList 0 _ hc aa (λf hf=>by
     obtain⟨i,hlt,rfl⟩:=eO hf;have hlt':i<fs.size:=pU;have h3:=hi i fs[i] (by simp[hlt']);rw[aj aa]at h3;exact ih _ _ _ n (hall _ hf) h3)
    rw[jA,jO,aB aa]at h1;refine⟨ds,h1,?_⟩;simp only[gm,hu];refine⟨by rw[h1.1,hcl],λf hf=>?_⟩;have:=(h2 f hf).2
    rwa[jO]at this
   ·simp at hok
def Bz(P:Program)(D:Nat)(t:TypeId):VD->Prop
 | .c d=>gm P D t [d]
 | .agg ds=>(∃fs,P.underlying t=some (.struct fs))/\gm P D t ds
theorem Tg{H:Type}{enc:TypeId×Value->H}{P:Program}{w:World}{base b0:Nat}{spare:Nat->Bool}{held:Bool}{r:Reach}{D:Nat}{t:TypeId}{v:Value}{d:DataW H}{ps:List MemPlace}
 (hok:okT P D t=true) (hval:Value.okWide P w r b0 t v) (h:DataW.Trod enc P w base spare held t v d ps):∃vd,RdV w v vd/\Bz P D t vd:=by
 obtain⟨fuel,hf⟩:=h;obtain⟨ds,hr,hfit⟩:=Qd D t _ _ fuel hok hf
 have one:v.cells = #[v]->(∀fs,P.underlying t≠some (.struct fs))->∃vd,RdV w v vd/\Bz P D t vd:=by
  intro hc _;rw[hc]at hr;obtain⟨hl,hr⟩:=hr
  cases ds with
  |nil=>simp at hl
  | cons d ds =>
    cases ds with
    |nil=>exact⟨.c d,hr 0 v d rfl rfl,hfit⟩
    |cons _ _=>simp at hl
 cases D with
 |zero=>simp[okT]at hok
 | succ D =>
   unfold okT at hok
   split at hok
   ·rename_i hu
    obtain⟨b,rfl⟩:=okWide_bool hu hval;exact zc
   ·rename_i k hu
    obtain⟨n,rfl⟩:=okWide_int hu hval;exact zc
   ·rename_i hu
    obtain⟨s,rfl⟩:=okWide_string hu hval;exact zc
   ·rename_i e hu
    obtain⟨a,l,c,rfl⟩:=okWide_slice hu hval;exact zc
   ·rename_i fs hu
    obtain⟨cs,rfl,-⟩:=okWide_struct hu hval;obtain⟨hl,hr⟩:=hr;refine⟨.agg ds,⟨cs,rfl,by simpa[Value.cells]using hl.symm,λj d hd=>?_⟩,⟨fs,hu⟩,hfit⟩
    have hj:j<cs.size:=by
     have:=(au.1 hd).1;simp[Value.cells]at hl;omega
    have:=hr j cs[j] d (by simp[Value.cells,hj]) hd
    simpa[hj]using this
   ·simp at hok
def oM(P:Program)(D:Nat)(w:World):List TypeId->List Value->List VD->Prop
 | [],[],[]=>True
 |t::ts,v::vs,d::ds=>(RdV w v d/\Bz P D t d)/\oM P D w ts vs ds
 |_,_,_=>False
theorem CN{H:Type}{enc:TypeId×Value->H}{P:Program}{w:World}{base b0:Nat}{spare:Nat->Bool}{held:Bool}{r:Reach}{D:Nat} :
 ∀ (ts : List TypeId) (vs : List Value) (ds : List (DataW H)) (ps : List MemPlace), (ts.all λt => okT P D t) = true -> (∀ (j : Nat) t v, ts[j]? = some t -> vs[j]? = some v -> Value.okWide P w r b0 t v) ->
   DataW.TrodAll enc P w base spare held ts vs ds ps->∃vds,oM P D w ts vs vds
 | [], vs, ds, ps, _, _, h => by
   obtain⟨rfl,-,-⟩:=trodAll_nil h;exact⟨[],trivial⟩
 | t :: ts, vs, ds, ps, hok, hval, h => by
   obtain⟨v,vs1,d,ds1,a,b,rfl,rfl,rfl,h1,h2⟩:=trodAll_cons h;simp only[List.all_cons,aI]at hok;obtain⟨vds,h3⟩:=CN ts vs1 ds1 b hok.2 (λj t v ht hv=>hval (j+1) t v (by simpa using ht) (by simpa using hv)) h2;obtain⟨vd,h4,h5⟩:=Tg hok.1 (hval 0 t v rfl rfl) h1;exact⟨vd::vds,⟨h4,h5⟩,h3⟩
theorem yh{P:Program}{D:Nat}{w:World}:∀(ts:List TypeId) (vs:List Value) (vds:List VD),oM P D w ts vs vds->vs.length=vds.length/\∀(i:Nat) vd,vds[i]? = some vd->RdV w (vs.toArray.getD i undef) vd
 | [],[],[],_=>⟨rfl,λi vd h=>ik⟩
 | t :: ts, v :: vs, d :: ds, h => by
   obtain⟨h1,h2⟩:=yh ts vs ds h.2;refine⟨kW,λi vd hi=>?_⟩
   cases i with
   |zero=>simp at hi;subst hi;simpa using h.1.1
   |succ i=>simpa using h2 i vd ee
theorem Cr{H:Type}{enc:TypeId×Value->H}{P:Program}(hl:laidOutB P=true){W W':World}(hb:Below W.heap.size W W'){sp:Nat->Bool} :
 ∀ (ts : List TypeId) (vs : List Value) (ds : List (DataW H)) (ps : List MemPlace), (ts.all λt => P.readableRec t && decide (t < P.types.size)) = true -> DataW.TrodAll enc P W 0 (λ_ => true) true ts vs ds ps ->
   (∀x∈ps,x.block<W.heap.size)->(∀x∈ps,sp x.block=true)->DataW.TrodAll enc P W' 0 sp true ts vs ds ps
 | [], vs, ds, ps, _, h, _, _ => by
   obtain⟨rfl,rfl,rfl⟩:=trodAll_nil h;rfl
 | t :: ts, vs, ds, ps, hok, h, hlt, hsp => by
   obtain⟨v,vs1,d,ds1,a,b,rfl,rfl,rfl,h1,h2⟩:=trodAll_cons h;simp only[List.all_cons,aI,cf]at hok;refine⟨a,b,WideElems.Trod_stays hl hok.1.1 hok.1.2 h1 (λx hx=>hb.same (hlt x (by simp[hx]))) (λx hx=>hsp x (by simp[hx])),Cr hl hb ts vs1 ds1 b (by simpa using hok.2) h2 (λx hx=>hlt x (by simp[hx])) (λx hx=>hsp x (by simp[hx])),rfl⟩
theorem Qv{L:World->Prop}{H:Type}{enc:TypeId×Value->H}{P:Program}(hlaid:laidOutB P=true){f:FuncId}{fn:Func}{s:ChangeSpec}{apart fresh handsOn:Bool}{D:Nat}{bt:TypeId}
 (hv:s.vars=[]) (hres:fn.resultTypes = #[bt]) (hbt:P.underlying bt=some .bool) (hokT:(fn.params.toList.all λt=>okT P D t)=true) (hread:(fn.params.toList.all λt=>P.readableRec t&&decide (t<P.types.size))=true)
 (hs:∀ds:List (DataW H),ds.length=fn.params.toList.length->s.fn H ds={ results:=[.lit (.bool true)],args:=ds })
 {W:World}{args:Array Value}{r:Reach}{b0:Nat}{ds gs:List (DataW H)}{before:List MemPlace}
 (hval:∀(j:Nat) t v,fn.params[j]? = some t->args[j]? = some v->Value.okWide P W r b0 t v)
 (hW:DataW.Whole enc P fn.params.toList s.vars apart W args.toList ds gs before)
 (hLW:L W) (hwalk:∀vds,oM P D W fn.params.toList args.toList vds->nO P L f vds (.one (.c (.v (.bool true)) 1))) :
 Calls P f args W λe W'=>∃v,e=.returned v/\s.post enc P fn apart fresh handsOn false W args v W':=by
 have hW0:=hW;obtain⟨p,q,hA,hV,rfl,hfz,hnd⟩:=hW;rw[hv]at hV;obtain⟨rfl,rfl⟩:=trodVars_none hV;obtain⟨vds,ho⟩:=CN (D:=D) fn.params.toList args.toList ds p hokT (λj t v ht hv=>hval j t v (by simpa using ht) (by simpa using hv)) hA;obtain⟨hl,hr⟩:=yh _ _ _ ho
 have hlen:ds.length=fn.params.toList.length:=by
  have:∀(ts:List TypeId) (vs:List Value) (ds:List (DataW H)) (ps:List MemPlace),DataW.TrodAll enc P W 0 (λ_=>true) true ts vs ds ps->ds.length=ts.length:=by
   intro ts
   induction ts with
   |nil=>intro vs ds ps h;obtain⟨-,rfl,-⟩:=trodAll_nil h;rfl
   | cons t ts ih =>
     intro vs ds ps h;obtain⟨v,vs1,d,ds1,a,b,rfl,rfl,rfl,h1,h2⟩:=trodAll_cons h;simp[ih _ _ _ h2]
  exact this _ _ _ _ hA
 refine((hwalk vds ho).2 W hLW args (by simpa using hl) (λi vd hi=>by simpa using hr i vd hi)).mono ?_
 rintro e W' ⟨v,rfl,hb,hrr⟩
 have hv1:v=.bool true:=hrr.1;subst hv1;have hs':=hs ds hlen;refine⟨_,rfl,ds,[],p,[],p,[],by simpa using hW0,?_,?_,?_,?_,λh=>lY⟩
 ·rw[bO,hs',hres]
  exact trodAll_mk1 (shut_bool hbt true)
 ·rw[bO,hs']
  have hlt:∀x∈p,x.block<W.heap.size:=λx hx=>hW0.lt x (by simp[hx])
  exact Cr hlaid hb _ _ _ _ hread hA hlt (λx hx=>by simpa using hlt x hx)
 ·rw[hv]
  have:(s.fn H (ds++[])).vars=[]:=by rw[bO,hs']
  rw[this];exact rfl
 ·exact hb.frame _
theorem TE{H:Type}{enc:TypeId×Value->H}{P:Program}(hlaid:laidOutB P=true){f:FuncId}{fn:Func}{s:ChangeSpec}{apart fresh handsOn:Bool}{D:Nat}{bt:TypeId}
 (hv:s.vars=[]) (hres:fn.resultTypes = #[bt]) (hbt:P.underlying bt=some .bool) (hokT:(fn.params.toList.all λt=>okT P D t)=true) (hread:(fn.params.toList.all λt=>P.readableRec t&&decide (t<P.types.size))=true)
 (hs:∀ds:List (DataW H),ds.length=fn.params.toList.length->s.fn H ds={ results:=[.lit (.bool true)],args:=ds })
 {W:World}{args:Array Value}{r:Reach}{b0:Nat}{ds gs:List (DataW H)}{before:List MemPlace}
 (hval:∀(j:Nat) t v,fn.params[j]? = some t->args[j]? = some v->Value.okWide P W r b0 t v)
 (hW:DataW.Whole enc P fn.params.toList s.vars apart W args.toList ds gs before)
 (hwalk:∀vds,oM P D W fn.params.toList args.toList vds->ar P f vds (.one (.c (.v (.bool true)) 1))) :
 Calls P f args W λe W'=>∃v,e=.returned v/\s.post enc P fn apart fresh handsOn false W args v W':=
 Qv hlaid hv hres hbt hokT hread hs hval hW trivial hwalk
theorem Yy{n:Int}(h:(Lit.int .i64 n).wf=true) : -9223372036854775808<=n/\n<=9223372036854775807:=by
 have:IntKind.i64.min = -9223372036854775808:=rfl;have h2:IntKind.i64.max=9223372036854775807:=rfl;simp only[Lit.wf,aI,cf]at h;omega
section
variable {P:Program}{D:Nat}{t e:TypeId}{vd:VD}{ds:List CD}
theorem Un{k:IntKind}(hu:P.underlying t=some (.int k))(h:gm P D t ds):∃n,ds=[.v (.int k n)]/\(Lit.int k n).wf=true:=by
 exact Eh
theorem C6(hu:P.underlying t=some .bool)(h:gm P D t ds):∃b,ds=[.v (.bool b)]:=by
 exact Eh
theorem oC(hu:P.underlying t=some .string)(h:gm P D t ds):∃s:ByteArray,ds=[.v (.string s)]/\s.size<=maxLen:=by
 exact Eh
theorem jr(hu:P.underlying t=some (.slice e))(h:gm P D t ds):∃rows,ds=[.s rows]/\rows.length<=maxLen/\∃D',∀row∈rows,row.length=P.cellsOf e/\gm P D' e row:=by
 cases D with
 |zero=>exact h.elim
 | succ D =>
   simp only[gm,hu]at h;obtain⟨rows,h1,h2,h3⟩:=h;exact⟨rows,h1,h2,D,h3⟩
theorem eE{fs:Array Field}(hu:P.underlying t=some (.struct fs))(h:gm P D t ds):ds.length=P.cellsOf t/\∃D',∀f∈fs.toList,gm P D' f.type ((ds.drop f.offset).take (P.cellsOf f.type)):=by
 cases D with
 |zero=>exact h.elim
 | succ D =>
   simp only[gm,hu]at h;exact⟨h.1,D,h.2⟩
theorem Xd{de:TypeDesc}(hu:P.underlying t=some de)(hn:∀fs,de≠.struct fs)(h:Bz P D t vd):∃d,vd=.c d/\gm P D t [d]:=by
 cases vd with
 |c d=>exact⟨d,rfl,h⟩
 | agg ds =>
   obtain⟨⟨fs,h1⟩,-⟩:=h;rw[hu]at h1;simp only[eP]at h1;exact absurd h1 (hn fs)
theorem lg{α:Type}{f:α->List CD}{ok:α->Prop}:∀(rows:List (List CD)),(∀row∈rows,∃x,row=f x/\ok x)->∃l:List α,rows=l.map f/\∀x∈l,ok x
 | [],_=>⟨[],rfl,ab⟩
 | row :: rows, h => by
   obtain⟨x,h1,h2⟩:=h row (aJ ..);obtain⟨l,h3,h4⟩:=lg rows (λr hr=>h r (aC _ hr));exact⟨x::l,by rw[h1,h3];rfl,by simpa using ⟨h2,h4⟩⟩
end
theorem oM.nil{P:Program}{D:Nat}{w:World}{vs:List Value}{vds:List VD}(h:oM P D w [] vs vds):vds=[]:=by
 cases vs with
 | nil => cases vds with
   |nil=>rfl
   |cons _ _=>exact h.elim
 |cons _ _=>exact h.elim
theorem oM.cons{P:Program}{D:Nat}{w:World}{t:TypeId}{ts:List TypeId}{vs:List Value}{vds:List VD}(h:oM P D w (t::ts) vs vds) :
 ∃vd vds',vds=vd::vds'/\Bz P D t vd/\∃vs',oM P D w ts vs' vds':=by
 cases vs with
 |nil=>cases vds<;>exact h.elim
 | cons v vs => cases vds with
   |nil=>exact h.elim
   |cons d ds=>exact⟨d,ds,rfl,h.1.2,vs,h.2⟩
def aM{α:Type}(mk:α->Int->α)(cn:α->Nat):List α->Int->List α
 | [],_=>[]
 |a::l,k=>mk a k::aM mk cn l (k+cn a)
def aQ{α:Type}(cn:α->Nat):List α->Nat
 | []=>0
 |a::l=>cn a+aQ cn l
section
variable {α:Type}{mk:α->Int->α}{cn:α->Nat}
theorem aK:∀(l:List α) (k:Int),(aM mk cn l k).length=l.length
 | [],_=>rfl
 |a::l,k=>by simp[aM,aK l]
theorem xT:∀(l m:List α),aQ cn (l++m)=aQ cn l+aQ cn m
 | [],m=>jZ
 |a::l,m=>by simp[aQ,xT l m];omega
theorem vE:∀(l m:List α) (k:Int),aM mk cn (l++m) k=aM mk cn l k++aM mk cn m (k+aQ cn l)
 | [],m,k=>by simp[aM,aQ]
 | a :: l, m, k => by
   simp only[dn,aM,vE l m,aQ];rw[show k+(cn a:Int)+(aQ cn l:Nat)=k+((cn a+aQ cn l:Nat):Int)from aa]
theorem cD{l:List α}{i:Nat}(h:i<l.length):aQ cn (l.take (i+1))=aQ cn (l.take i)+cn l[i]:=by
 rw[<-bd h,xT];simp[aQ]
theorem v5:∀(l:List α) (i:Nat),aQ cn (l.take i)<=aQ cn l
 | [],i=>ab
 |a::l,0=>jZ
 |a::l,i+1=>by simp only[me,aQ];have:=v5 l i;omega
theorem cY{l:List α}{i:Nat}(h:i<l.length):aQ cn (l.take i)+cn l[i]<=aQ cn l:=by
 rw[<-cD h];exact v5 l (i+1)
theorem lM{l:List α}{k:Int}{i:Nat}(h:i<l.length):(aM mk cn l k)[i]? = some (mk l[i] (k+aQ cn (l.take i))):=by
 induction l generalizing k i with
 |nil=>simp at h
 | cons a l ih =>
   cases i with
   |zero=>simp[aM,aQ]
   | succ i =>
     simp only[aM,gB,me,aQ,yk];rw[ih mN]
     congr 2
     omega
def bT(mk:α->Int->α)(cn:α->Nat)(f:α->List CD)(l:List α)(k:Int)(i:Nat):List (List CD):=(aM mk cn (l.take i) k++l.drop i).map f
variable {f:α->List CD}{l:List α}{k:Int}{i:Nat}
theorem rA:bT mk cn f l k 0=l.map f:=by simp[bT,aM]
theorem bR:(bT mk cn f l k i).length=l.length:=by simp[bT,aK];omega
theorem hJ(h:l.length<=i):bT mk cn f l k i=(aM mk cn l k).map f:=by
 simp[bT,aB h,ym h]
theorem hI(h:i<l.length):(bT mk cn f l k i).set i (f l[i])=bT mk cn f l k i:=by
 unfold bT
 apply uT
 intro j;rw[eQ]
 split
 ·rename_i hj
  subst hj;have hl:(aM mk cn (l.take i) k).length=i:=by rw[aK];simp;omega
  rw[an (by simp[aK];omega)];simp only[fR];rw[a9 (by simp[hl])];simp[hl,h]
 ·rfl
theorem gZ(h:i<l.length){r:List CD}(hr:r=f (mk l[i] (k+aQ cn (l.take i)))):(bT mk cn f l k i).set i r=bT mk cn f l k (i+1):=by
 subst hr;unfold bT;have hl:(aM mk cn (l.take i) k).length=i:=by rw[aK];simp;omega
 rw[<-bd h,vE,dj h];simp only[fR,bL,aM,jP,cj];rw[dW _ _ (by simp[hl])];simp[hl]
end
theorem bf{xs:List (List CD)}{i:Nat}{a:List CD}{g:List CD->List CD}:(xs.set i a).modify i g=xs.set i (g a):=by
 apply uT
 intro j;rw[iV,eQ,eQ];by_cases h:i=j
 ·subst h
  by_cases h2:i<xs.length<;>simp[h2]
 ·simp[h]
theorem dK{xs:List (List CD)}{i j:Nat}{a:List CD}{d:CD}:lK (xs.set i a) i j d=xs.set i (a.set j d):=bf
abbrev fk(_:Int)(k:Int):Int:=k
abbrev one{α:Type}(_:α):Nat:=1
theorem Ba{α:Type}:∀(l:List α),aQ one l=l.length
 | []=>rfl
 |a::l=>by simp[aQ,one,Ba l];omega
end Go.AM
namespace Go.Proofs.YtklblkobegcljaaGreat
open Go.AM
set_option maxRecDepth 20000
def gl(n:Int):Prop:=-9223372036854775808<=n/\n<=9223372036854775807
def cK{α:Type}(f:α->Nat):List α->Nat
 | []=>0
 |a::l=>f a+cK f l
theorem lJ{α:Type}{f:α->Nat}:∀{l:List α}{i:Nat}(h:i<l.length),cK f (l.drop i)=f l[i]+cK f (l.drop (i+1))
 |a::l,0,_=>rfl
 |a::l,i+1,h=>by simpa using lJ (l:=l) (i:=i) mN
theorem G6{α:Type}{f:α->Nat}:∀{l:List α}{a:α},a∈l->f a<=cK f l
 | b :: l, a, h => by
   simp only[cK];rcases aX.1 h with rfl|h
   ·omega
   ·have:=G6 (f:=f) h;omega
def nL{α:Type}(f:α->Nat)(l:List α):Nat:=l.length+cK f l
theorem aS{α:Type}{f:α->Nat}{l:List α}{B:Nat}(h:nL f l<=B):l.length<=B:=by unfold nL at h;omega
theorem gA{α:Type}{f:α->Nat}{l:List α}{B:Nat}(h:nL f l<=B){a:α}(ha:a∈l):f a<=B:=by have:=G6 (f:=f) ha;unfold nL at h;omega
theorem cT{α:Type}{f:α->Nat}{l:List α}{B:Nat}(h:nL f l<=B){i:Nat}(hi:i<l.length):f l[i]<=B:=gA h (ak hi)
def szR(n left:Nat):Int:=if n<=left then((left-n:Nat):Int)else -1
theorem dY{n left:Nat}(h:n<=left):szR n left=((left-n:Nat):Int):=by simp[szR,h]
theorem fq{n left:Nat}(h:¬n<=left):szR n left = -1:=by simp[szR,h]
theorem dF{α:Type}{cn n:α->Nat}(h:∀a,cn a<=11*(1+n a)):∀l:List α,aQ cn l<=11*nL n l
 | []=>jZ
 | a :: l => by
   have h1:=h a;have h2:=dF h l;unfold nL at h2⊢;simp only[aQ,cI,cK];omega
theorem v7{α:Type}{cn:α->Nat}(h:∀a,cn a<=11):∀l:List α,aQ cn l<=11*l.length
 | []=>jZ
 | a :: l => by
   have h1:=h a;have h2:=v7 h l;simp only[aQ,cI];omega
theorem jo{α:Type}{mk:α->Int->α}{cn:α->Nat}{l:List α}{k:Int}{i:Nat}(h:i<l.length):(aM mk cn l k)[i]'(by rw[aK];exact h)=mk l[i] (k+aQ cn (l.take i)):=by
 have:=lM (mk:=mk) (cn:=cn) (k:=k) h;rw[aj (by rw[aK];exact h)]at this;exact fO this
noncomputable def oz(k:Int):Bool:=dc (k.tmod 3=0)
def Rb(n:Nat):List UInt8:=if h:n<10 then [UInt8.ofNat (48+n)]else Rb (n / 10)++[UInt8.ofNat (48+n % 10)]
termination_by n
decreasing_by omega
def markT(k:Int):ByteArray:=⟨(109::Rb k.toNat).toArray⟩
structure Part where
 kind:Int
 n:Int
 signs:List Int
 deriving Inhabited
def Part.row(x:Part):List CD:=[vi x.kind,vi x.n,.s (x.signs.map aG)]
def Part.res(x:Part):List (CD×Nat):=[(vi x.kind,1),(vi x.n,1),(.s (x.signs.map aG),1)]
@[simp] theorem Part.row_len {x:Part}:x.row.length=3:=rfl
def Part.fits(x:Part):Prop:=gl x.kind/\gl x.n/\(x.signs.length<=9223372036854775807/\∀n∈x.signs,gl n)
def bc(x:Part):Nat:=x.signs.length
noncomputable def Part.mark(x:Part)(k:Int):Part:=⟨k,k+1,aM fk one x.signs (k+1+1)⟩
def Part.cnt(x:Part):Nat:=2+(x.signs.length)
theorem Part.cnt_le(x:Part):x.cnt<=11*(1+bc x):=by
 unfold Part.cnt;simp only[bc];omega
noncomputable def Part.markT(x:Part)(k:Int):Part:=⟨x.kind,x.n,aM fk one x.signs (k)⟩
def Part.cntT(x:Part):Nat:=x.signs.length
theorem Part.cntT_le(x:Part):x.cntT<=11*bc x:=by
 unfold Part.cntT;simp only[bc];omega
structure Entry where
 client:Int
 seq:Int
 o:List Part
def Entry.row(x:Entry):List CD:=[vi x.client,vi x.seq,.s (x.o.map Part.row)]
def Entry.res(x:Entry):List (CD×Nat):=[(vi x.client,1),(vi x.seq,1),(.s (x.o.map Part.row),3)]
@[simp] theorem Entry.row_len {x:Entry}:x.row.length=3:=rfl
def Entry.fits(x:Entry):Prop:=gl x.client/\gl x.seq/\(x.o.length<=9223372036854775807/\∀y∈x.o,y.fits)
def aZ(x:Entry):Nat:=nL bc x.o
noncomputable def Entry.mark(x:Entry)(k:Int):Entry:=⟨k,k+1,aM Part.mark Part.cnt x.o (k+1+1)⟩
def Entry.cnt(x:Entry):Nat:=2+(aQ Part.cnt x.o)
theorem Entry.cnt_le(x:Entry):x.cnt<=11*(1+aZ x):=by
 unfold Entry.cnt;have h0:=dF Part.cnt_le x.o;simp only[aZ];omega
noncomputable def Entry.markT(x:Entry)(k:Int):Entry:=⟨x.client,x.seq,aM Part.mark Part.cnt x.o (k)⟩
def Entry.cntT(x:Entry):Nat:=aQ Part.cnt x.o
theorem Entry.cntT_le(x:Entry):x.cntT<=11*aZ x:=by
 unfold Entry.cntT;have h0:=dF Part.cnt_le x.o;simp only[aZ];omega
structure Seen where
 client:Int
 seq:Int
 rev:Int
def Seen.row(x:Seen):List CD:=[vi x.client,vi x.seq,vi x.rev]
def Seen.res(x:Seen):List (CD×Nat):=[(vi x.client,1),(vi x.seq,1),(vi x.rev,1)]
@[simp] theorem Seen.row_len {x:Seen}:x.row.length=3:=rfl
def Seen.fits(x:Seen):Prop:=gl x.client/\gl x.seq/\gl x.rev
noncomputable def Seen.mark(_x:Seen)(k:Int):Seen:=⟨k,k+1,k+1+1⟩
def Seen.cnt(_x:Seen):Nat:=3
theorem Seen.cnt_le(x:Seen):x.cnt<=11*1:=by
 unfold Seen.cnt;omega
structure Doc where
 name:ByteArray
 fr:Int
 text:List Int
 list:List Entry
 seen:List Seen
def Doc.row(x:Doc):List CD:=[.v (.string x.name),vi x.fr,.s (x.text.map aG),.s (x.list.map Entry.row),.s (x.seen.map Seen.row)]
def Doc.res(x:Doc):List (CD×Nat):=[(.v (.string x.name),1),(vi x.fr,1),(.s (x.text.map aG),1),(.s (x.list.map Entry.row),3),(.s (x.seen.map Seen.row),3)]
@[simp] theorem Doc.row_len {x:Doc}:x.row.length=5:=rfl
def Doc.fits(x:Doc):Prop:=x.name.size<=9223372036854775807/\gl x.fr/\(x.text.length<=9223372036854775807/\∀n∈x.text,gl n)/\(x.list.length<=9223372036854775807/\∀y∈x.list,y.fits)/\(x.seen.length<=9223372036854775807/\∀y∈x.seen,y.fits)
def cN(x:Doc):Nat:=x.name.size+(x.text.length+(nL aZ x.list+(x.seen.length)))
noncomputable def Doc.mark(x:Doc)(k:Int):Doc:=⟨markT (k),k+1,aM fk one x.text (k+1+1),aM Entry.mark Entry.cnt x.list (k+1+1+(x.text.length:Nat)),aM Seen.mark Seen.cnt x.seen (k+1+1+(x.text.length:Nat)+(aQ Entry.cnt x.list:Nat))⟩
def Doc.cnt(x:Doc):Nat:=2+(x.text.length+(aQ Entry.cnt x.list+(aQ Seen.cnt x.seen)))
theorem Doc.cnt_le(x:Doc):x.cnt<=11*(1+cN x):=by
 unfold Doc.cnt;exact M5
noncomputable def Doc.markT(x:Doc)(k:Int):Doc:=⟨x.name,x.fr,aM fk one x.text (k),aM Entry.mark Entry.cnt x.list (k+(x.text.length:Nat)),aM Seen.mark Seen.cnt x.seen (k+(x.text.length:Nat)+(aQ Entry.cnt x.list:Nat))⟩
def Doc.cntT(x:Doc):Nat:=x.text.length+(aQ Entry.cnt x.list+(aQ Seen.cnt x.seen))
theorem Doc.cntT_le(x:Doc):x.cntT<=11*cN x:=by
 unfold Doc.cntT;exact M5
structure Ring where
 cap:Int
 next:Int
 out:Bool
 list:List Entry
def Ring.row(x:Ring):List CD:=[vi x.cap,vi x.next,.v (.bool x.out),.s (x.list.map Entry.row)]
def Ring.res(x:Ring):List (CD×Nat):=[(vi x.cap,1),(vi x.next,1),(.v (.bool x.out),1),(.s (x.list.map Entry.row),3)]
@[simp] theorem Ring.row_len {x:Ring}:x.row.length=4:=rfl
def Ring.fits(x:Ring):Prop:=gl x.cap/\gl x.next/\True/\(x.list.length<=9223372036854775807/\∀y∈x.list,y.fits)
def dh(x:Ring):Nat:=nL aZ x.list
noncomputable def Ring.mark(x:Ring)(k:Int):Ring:=⟨k,k+1,oz (k+1+1),aM Entry.mark Entry.cnt x.list (k+1+1+1)⟩
def Ring.cnt(x:Ring):Nat:=3+(aQ Entry.cnt x.list)
theorem Ring.cnt_le(x:Ring):x.cnt<=11*(1+dh x):=by
 unfold Ring.cnt;have h0:=dF Entry.cnt_le x.list;simp only[dh];omega
noncomputable def Ring.markT(x:Ring)(k:Int):Ring:=⟨x.cap,x.next,x.out,aM Entry.mark Entry.cnt x.list (k)⟩
def Ring.cntT(x:Ring):Nat:=aQ Entry.cnt x.list
theorem Ring.cntT_le(x:Ring):x.cntT<=11*dh x:=by
 unfold Ring.cntT;have h0:=dF Entry.cnt_le x.list;simp only[dh];omega
structure Sub where
 id:Int
 doc:ByteArray
 r:Ring
def Sub.row(x:Sub):List CD:=[vi x.id,.v (.string x.doc),vi x.r.cap,vi x.r.next,.v (.bool x.r.out),.s (x.r.list.map Entry.row)]
def Sub.res(x:Sub):List (CD×Nat):=[(vi x.id,1),(.v (.string x.doc),1),(vi x.r.cap,1),(vi x.r.next,1),(.v (.bool x.r.out),1),(.s (x.r.list.map Entry.row),3)]
@[simp] theorem Sub.row_len {x:Sub}:x.row.length=6:=rfl
def Sub.fits(x:Sub):Prop:=gl x.id/\x.doc.size<=9223372036854775807/\x.r.fits
def dC(x:Sub):Nat:=x.doc.size+(dh x.r)
noncomputable def Sub.mark(x:Sub)(k:Int):Sub:=⟨k,markT (k+1),⟨k+1+1,k+1+1+1,oz (k+1+1+1+1),aM Entry.mark Entry.cnt x.r.list (k+1+1+1+1+1)⟩⟩
def Sub.cnt(x:Sub):Nat:=5+(aQ Entry.cnt x.r.list)
theorem Sub.cnt_le(x:Sub):x.cnt<=11*(1+dC x):=by
 unfold Sub.cnt;have h0:=dF Entry.cnt_le x.r.list;simp only[dC,dh];omega
noncomputable def Sub.markT(x:Sub)(k:Int):Sub:=⟨x.id,x.doc,⟨x.r.cap,x.r.next,x.r.out,aM Entry.mark Entry.cnt x.r.list (k)⟩⟩
def Sub.cntT(x:Sub):Nat:=aQ Entry.cnt x.r.list
theorem Sub.cntT_le(x:Sub):x.cntT<=11*dC x:=by
 unfold Sub.cntT;have h0:=dF Entry.cnt_le x.r.list;simp only[dC,dh];omega
structure Hub where
 shut:Bool
 docs:List Doc
 subs:List Sub
 last:Int
def Hub.row(x:Hub):List CD:=[.v (.bool x.shut),.s (x.docs.map Doc.row),.s (x.subs.map Sub.row),vi x.last]
def Hub.res(x:Hub):List (CD×Nat):=[(.v (.bool x.shut),1),(.s (x.docs.map Doc.row),5),(.s (x.subs.map Sub.row),6),(vi x.last,1)]
@[simp] theorem Hub.row_len {x:Hub}:x.row.length=4:=rfl
def Hub.fits(x:Hub):Prop:=True/\(x.docs.length<=9223372036854775807/\∀y∈x.docs,y.fits)/\(x.subs.length<=9223372036854775807/\∀y∈x.subs,y.fits)/\gl x.last
def dk(x:Hub):Nat:=nL cN x.docs+(nL dC x.subs)
noncomputable def Hub.markT(x:Hub)(k:Int):Hub:=⟨x.shut,aM Doc.mark Doc.cnt x.docs (k),aM Sub.mark Sub.cnt x.subs (k+(aQ Doc.cnt x.docs:Nat)),x.last⟩
def Hub.cntT(x:Hub):Nat:=aQ Doc.cnt x.docs+(aQ Sub.cnt x.subs)
theorem Hub.cntT_le(x:Hub):x.cntT<=11*dk x:=by
 unfold Hub.cntT;have h0:=dF Doc.cnt_le x.docs;have h1:=dF Sub.cnt_le x.subs;simp only[dk];omega
structure Call where
 kind:Int
 doc:ByteArray
 client:Int
 seq:Int
 n:Int
 o:List Part
 text:List Int
def Call.row(x:Call):List CD:=[vi x.kind,.v (.string x.doc),vi x.client,vi x.seq,vi x.n,.s (x.o.map Part.row),.s (x.text.map aG)]
def Call.res(x:Call):List (CD×Nat):=[(vi x.kind,1),(.v (.string x.doc),1),(vi x.client,1),(vi x.seq,1),(vi x.n,1),(.s (x.o.map Part.row),3),(.s (x.text.map aG),1)]
@[simp] theorem Call.row_len {x:Call}:x.row.length=7:=rfl
def Call.fits(x:Call):Prop:=gl x.kind/\x.doc.size<=9223372036854775807/\gl x.client/\gl x.seq/\gl x.n/\(x.o.length<=9223372036854775807/\∀y∈x.o,y.fits)/\(x.text.length<=9223372036854775807/\∀n∈x.text,gl n)
def dX(x:Call):Nat:=x.doc.size+(nL bc x.o+(x.text.length))
noncomputable def Call.mark(x:Call)(k:Int):Call:=⟨k,markT (k+1),k+1+1,k+1+1+1,k+1+1+1+1,aM Part.mark Part.cnt x.o (k+1+1+1+1+1),aM fk one x.text (k+1+1+1+1+1+(aQ Part.cnt x.o:Nat))⟩
def Call.cnt(x:Call):Nat:=5+(aQ Part.cnt x.o+(x.text.length))
theorem Call.cnt_le(x:Call):x.cnt<=11*(1+dX x):=by
 unfold Call.cnt;have h0:=dF Part.cnt_le x.o;simp only[dX];omega
noncomputable def Call.markT(x:Call)(k:Int):Call:=⟨x.kind,x.doc,x.client,x.seq,x.n,aM Part.mark Part.cnt x.o (k),aM fk one x.text (k+(aQ Part.cnt x.o:Nat))⟩
def Call.cntT(x:Call):Nat:=aQ Part.cnt x.o+(x.text.length)
theorem Call.cntT_le(x:Call):x.cntT<=11*dX x:=by
 unfold Call.cntT;have h0:=dF Part.cnt_le x.o;simp only[dX];omega
structure Answer where
 code:Int
 rev:Int
 text:List Int
 list:List Entry
def Answer.row(x:Answer):List CD:=[vi x.code,vi x.rev,.s (x.text.map aG),.s (x.list.map Entry.row)]
def Answer.res(x:Answer):List (CD×Nat):=[(vi x.code,1),(vi x.rev,1),(.s (x.text.map aG),1),(.s (x.list.map Entry.row),3)]
@[simp] theorem Answer.row_len {x:Answer}:x.row.length=4:=rfl
def Answer.fits(x:Answer):Prop:=gl x.code/\gl x.rev/\(x.text.length<=9223372036854775807/\∀n∈x.text,gl n)/\(x.list.length<=9223372036854775807/\∀y∈x.list,y.fits)
def cH(x:Answer):Nat:=x.text.length+(nL aZ x.list)
noncomputable def Answer.mark(x:Answer)(k:Int):Answer:=⟨k,k+1,aM fk one x.text (k+1+1),aM Entry.mark Entry.cnt x.list (k+1+1+(x.text.length:Nat))⟩
def Answer.cnt(x:Answer):Nat:=2+(x.text.length+(aQ Entry.cnt x.list))
theorem Answer.cnt_le(x:Answer):x.cnt<=11*(1+cH x):=by
 unfold Answer.cnt;have h0:=dF Entry.cnt_le x.list;simp only[cH];omega
noncomputable def Answer.markT(x:Answer)(k:Int):Answer:=⟨x.code,x.rev,aM fk one x.text (k),aM Entry.mark Entry.cnt x.list (k+(x.text.length:Nat))⟩
def Answer.cntT(x:Answer):Nat:=x.text.length+(aQ Entry.cnt x.list)
theorem Answer.cntT_le(x:Answer):x.cntT<=11*cH x:=by
 unfold Answer.cntT;have h0:=dF Entry.cnt_le x.list;simp only[cH];omega
structure Task where
 c:Call
 pc:Int
 inv:Int
 lin:Int
 rs:Int
 a:Answer
def Task.row(x:Task):List CD:=[vi x.c.kind,.v (.string x.c.doc),vi x.c.client,vi x.c.seq,vi x.c.n,.s (x.c.o.map Part.row),.s (x.c.text.map aG),vi x.pc,vi x.inv,vi x.lin,vi x.rs,vi x.a.code,vi x.a.rev,.s (x.a.text.map aG),.s (x.a.list.map Entry.row)]
def Task.res(x:Task):List (CD×Nat):=[(vi x.c.kind,1),(.v (.string x.c.doc),1),(vi x.c.client,1),(vi x.c.seq,1),(vi x.c.n,1),(.s (x.c.o.map Part.row),3),(.s (x.c.text.map aG),1),(vi x.pc,1),(vi x.inv,1),(vi x.lin,1),(vi x.rs,1),(vi x.a.code,1),(vi x.a.rev,1),(.s (x.a.text.map aG),1),(.s (x.a.list.map Entry.row),3)]
@[simp] theorem Task.row_len {x:Task}:x.row.length=15:=rfl
def Task.fits(x:Task):Prop:=x.c.fits/\gl x.pc/\gl x.inv/\gl x.lin/\gl x.rs/\x.a.fits
def dq(x:Task):Nat:=dX x.c+(cH x.a)
noncomputable def Task.mark(x:Task)(k:Int):Task:=⟨⟨k,markT (k+1),k+1+1,k+1+1+1,k+1+1+1+1,aM Part.mark Part.cnt x.c.o (k+1+1+1+1+1),aM fk one x.c.text (k+1+1+1+1+1+(aQ Part.cnt x.c.o:Nat))⟩,k+1+1+1+1+1+(aQ Part.cnt x.c.o:Nat)+(x.c.text.length:Nat),k+1+1+1+1+1+(aQ Part.cnt x.c.o:Nat)+(x.c.text.length:Nat)+1,k+1+1+1+1+1+(aQ Part.cnt x.c.o:Nat)+(x.c.text.length:Nat)+1+1,k+1+1+1+1+1+(aQ Part.cnt x.c.o:Nat)+(x.c.text.length:Nat)+1+1+1,⟨k+1+1+1+1+1+(aQ Part.cnt x.c.o:Nat)+(x.c.text.length:Nat)+1+1+1+1,k+1+1+1+1+1+(aQ Part.cnt x.c.o:Nat)+(x.c.text.length:Nat)+1+1+1+1+1,aM fk one x.a.text (k+1+1+1+1+1+(aQ Part.cnt x.c.o:Nat)+(x.c.text.length:Nat)+1+1+1+1+1+1),aM Entry.mark Entry.cnt x.a.list (k+1+1+1+1+1+(aQ Part.cnt x.c.o:Nat)+(x.c.text.length:Nat)+1+1+1+1+1+1+(x.a.text.length:Nat))⟩⟩
def Task.cnt(x:Task):Nat:=11+(aQ Part.cnt x.c.o+(x.c.text.length+(x.a.text.length+(aQ Entry.cnt x.a.list))))
theorem Task.cnt_le(x:Task):x.cnt<=11*(1+dq x):=by
 unfold Task.cnt;exact MQ
noncomputable def Task.markT(x:Task)(k:Int):Task:=⟨⟨x.c.kind,x.c.doc,x.c.client,x.c.seq,x.c.n,aM Part.mark Part.cnt x.c.o (k),aM fk one x.c.text (k+(aQ Part.cnt x.c.o:Nat))⟩,x.pc,x.inv,x.lin,x.rs,⟨x.a.code,x.a.rev,aM fk one x.a.text (k+(aQ Part.cnt x.c.o:Nat)+(x.c.text.length:Nat)),aM Entry.mark Entry.cnt x.a.list (k+(aQ Part.cnt x.c.o:Nat)+(x.c.text.length:Nat)+(x.a.text.length:Nat))⟩⟩
def Task.cntT(x:Task):Nat:=aQ Part.cnt x.c.o+(x.c.text.length+(x.a.text.length+(aQ Entry.cnt x.a.list)))
theorem Task.cntT_le(x:Task):x.cntT<=11*dq x:=by
 unfold Task.cntT;exact MQ
structure Queue where
 doc:ByteArray
 list:List Int
def Queue.row(x:Queue):List CD:=[.v (.string x.doc),.s (x.list.map aG)]
def Queue.res(x:Queue):List (CD×Nat):=[(.v (.string x.doc),1),(.s (x.list.map aG),1)]
@[simp] theorem Queue.row_len {x:Queue}:x.row.length=2:=rfl
def Queue.fits(x:Queue):Prop:=x.doc.size<=9223372036854775807/\(x.list.length<=9223372036854775807/\∀n∈x.list,gl n)
def ca(x:Queue):Nat:=x.doc.size+(x.list.length)
noncomputable def Queue.mark(x:Queue)(k:Int):Queue:=⟨markT (k),aM fk one x.list (k+1)⟩
def Queue.cnt(x:Queue):Nat:=1+(x.list.length)
theorem Queue.cnt_le(x:Queue):x.cnt<=11*(1+ca x):=by
 unfold Queue.cnt;simp only[ca];omega
noncomputable def Queue.markT(x:Queue)(k:Int):Queue:=⟨x.doc,aM fk one x.list (k)⟩
def Queue.cntT(x:Queue):Nat:=x.list.length
theorem Queue.cntT_le(x:Queue):x.cntT<=11*ca x:=by
 unfold Queue.cntT;simp only[ca];omega
structure Wld where
 h:Hub
 locks:List Int
 queues:List Queue
 tasks:List Task
 step:Int
def Wld.row(x:Wld):List CD:=[.v (.bool x.h.shut),.s (x.h.docs.map Doc.row),.s (x.h.subs.map Sub.row),vi x.h.last,.s (x.locks.map aG),.s (x.queues.map Queue.row),.s (x.tasks.map Task.row),vi x.step]
def Wld.res(x:Wld):List (CD×Nat):=[(.v (.bool x.h.shut),1),(.s (x.h.docs.map Doc.row),5),(.s (x.h.subs.map Sub.row),6),(vi x.h.last,1),(.s (x.locks.map aG),1),(.s (x.queues.map Queue.row),2),(.s (x.tasks.map Task.row),15),(vi x.step,1)]
@[simp] theorem Wld.row_len {x:Wld}:x.row.length=8:=rfl
def Wld.fits(x:Wld):Prop:=x.h.fits/\(x.locks.length<=9223372036854775807/\∀n∈x.locks,gl n)/\(x.queues.length<=9223372036854775807/\∀y∈x.queues,y.fits)/\(x.tasks.length<=9223372036854775807/\∀y∈x.tasks,y.fits)/\gl x.step
def bY(x:Wld):Nat:=dk x.h+(x.locks.length+(nL ca x.queues+(nL dq x.tasks)))
noncomputable def Wld.markT(x:Wld)(k:Int):Wld:=⟨⟨x.h.shut,aM Doc.mark Doc.cnt x.h.docs (k),aM Sub.mark Sub.cnt x.h.subs (k+(aQ Doc.cnt x.h.docs:Nat)),x.h.last⟩,aM fk one x.locks (k+(aQ Doc.cnt x.h.docs:Nat)+(aQ Sub.cnt x.h.subs:Nat)),aM Queue.mark Queue.cnt x.queues (k+(aQ Doc.cnt x.h.docs:Nat)+(aQ Sub.cnt x.h.subs:Nat)+(x.locks.length:Nat)),aM Task.mark Task.cnt x.tasks (k+(aQ Doc.cnt x.h.docs:Nat)+(aQ Sub.cnt x.h.subs:Nat)+(x.locks.length:Nat)+(aQ Queue.cnt x.queues:Nat)),x.step⟩
def Wld.cntT(x:Wld):Nat:=aQ Doc.cnt x.h.docs+(aQ Sub.cnt x.h.subs+(x.locks.length+(aQ Queue.cnt x.queues+(aQ Task.cnt x.tasks))))
theorem Wld.cntT_le(x:Wld):x.cntT<=11*bY x:=by
 unfold Wld.cntT;have h0:=dF Doc.cnt_le x.h.docs;have h1:=dF Sub.cnt_le x.h.subs;have h2:=dF Queue.cnt_le x.queues;have h3:=dF Task.cnt_le x.tasks;simp only[bY,dk];omega
structure Rep where
 client:Int
 seq:Int
 rev:Int
 text:List Int
 has:Bool
 sent:List Part
 buf:List Part
def Rep.row(x:Rep):List CD:=[vi x.client,vi x.seq,vi x.rev,.s (x.text.map aG),.v (.bool x.has),.s (x.sent.map Part.row),.s (x.buf.map Part.row)]
def Rep.res(x:Rep):List (CD×Nat):=[(vi x.client,1),(vi x.seq,1),(vi x.rev,1),(.s (x.text.map aG),1),(.v (.bool x.has),1),(.s (x.sent.map Part.row),3),(.s (x.buf.map Part.row),3)]
@[simp] theorem Rep.row_len {x:Rep}:x.row.length=7:=rfl
def Rep.fits(x:Rep):Prop:=gl x.client/\gl x.seq/\gl x.rev/\(x.text.length<=9223372036854775807/\∀n∈x.text,gl n)/\True/\(x.sent.length<=9223372036854775807/\∀y∈x.sent,y.fits)/\(x.buf.length<=9223372036854775807/\∀y∈x.buf,y.fits)
def Tq(x:Rep):Nat:=x.text.length+(nL bc x.sent+(nL bc x.buf))
noncomputable def Rep.mark(x:Rep)(k:Int):Rep:=⟨k,k+1,k+1+1,aM fk one x.text (k+1+1+1),oz (k+1+1+1+(x.text.length:Nat)),aM Part.mark Part.cnt x.sent (k+1+1+1+(x.text.length:Nat)+1),aM Part.mark Part.cnt x.buf (k+1+1+1+(x.text.length:Nat)+1+(aQ Part.cnt x.sent:Nat))⟩
def Rep.cnt(x:Rep):Nat:=4+(x.text.length+(aQ Part.cnt x.sent+(aQ Part.cnt x.buf)))
theorem Rep.cnt_le(x:Rep):x.cnt<=11*(1+Tq x):=by
 unfold Rep.cnt;exact Mq
noncomputable def Rep.markT(x:Rep)(k:Int):Rep:=⟨x.client,x.seq,x.rev,aM fk one x.text (k),x.has,aM Part.mark Part.cnt x.sent (k+(x.text.length:Nat)),aM Part.mark Part.cnt x.buf (k+(x.text.length:Nat)+(aQ Part.cnt x.sent:Nat))⟩
def Rep.cntT(x:Rep):Nat:=x.text.length+(aQ Part.cnt x.sent+(aQ Part.cnt x.buf))
theorem Rep.cntT_le(x:Rep):x.cntT<=11*Tq x:=by
 unfold Rep.cntT;exact Mq
structure Net where
 d:Doc
 reps:List Rep
def Net.row(x:Net):List CD:=[.v (.string x.d.name),vi x.d.fr,.s (x.d.text.map aG),.s (x.d.list.map Entry.row),.s (x.d.seen.map Seen.row),.s (x.reps.map Rep.row)]
def Net.res(x:Net):List (CD×Nat):=[(.v (.string x.d.name),1),(vi x.d.fr,1),(.s (x.d.text.map aG),1),(.s (x.d.list.map Entry.row),3),(.s (x.d.seen.map Seen.row),3),(.s (x.reps.map Rep.row),7)]
@[simp] theorem Net.row_len {x:Net}:x.row.length=6:=rfl
def Net.fits(x:Net):Prop:=x.d.fits/\(x.reps.length<=9223372036854775807/\∀y∈x.reps,y.fits)
def Ts(x:Net):Nat:=cN x.d+(nL Tq x.reps)
noncomputable def Net.markT(x:Net)(k:Int):Net:=⟨⟨x.d.name,x.d.fr,aM fk one x.d.text (k),aM Entry.mark Entry.cnt x.d.list (k+(x.d.text.length:Nat)),aM Seen.mark Seen.cnt x.d.seen (k+(x.d.text.length:Nat)+(aQ Entry.cnt x.d.list:Nat))⟩,aM Rep.mark Rep.cnt x.reps (k+(x.d.text.length:Nat)+(aQ Entry.cnt x.d.list:Nat)+(aQ Seen.cnt x.d.seen:Nat))⟩
def Net.cntT(x:Net):Nat:=x.d.text.length+(aQ Entry.cnt x.d.list+(aQ Seen.cnt x.d.seen+(aQ Rep.cnt x.reps)))
theorem Net.cntT_le(x:Net):x.cntT<=11*Ts x:=by
 unfold Net.cntT;have h0:=dF Entry.cnt_le x.d.list;have h1:=v7 (λa=>by have:=Seen.cnt_le a;omega) x.d.seen;have h2:=dF Rep.cnt_le x.reps;simp only[Ts,cN];omega
structure Event where
 kind:Int
 who:Int
 n:Int
 o:List Part
def Event.row(x:Event):List CD:=[vi x.kind,vi x.who,vi x.n,.s (x.o.map Part.row)]
def Event.res(x:Event):List (CD×Nat):=[(vi x.kind,1),(vi x.who,1),(vi x.n,1),(.s (x.o.map Part.row),3)]
@[simp] theorem Event.row_len {x:Event}:x.row.length=4:=rfl
def Event.fits(x:Event):Prop:=gl x.kind/\gl x.who/\gl x.n/\(x.o.length<=9223372036854775807/\∀y∈x.o,y.fits)
def FE(x:Event):Nat:=nL bc x.o
noncomputable def Event.mark(x:Event)(k:Int):Event:=⟨k,k+1,k+1+1,aM Part.mark Part.cnt x.o (k+1+1+1)⟩
def Event.cnt(x:Event):Nat:=3+(aQ Part.cnt x.o)
theorem Event.cnt_le(x:Event):x.cnt<=11*(1+FE x):=by
 unfold Event.cnt;have h0:=dF Part.cnt_le x.o;simp only[FE];omega
noncomputable def Event.markT(x:Event)(k:Int):Event:=⟨x.kind,x.who,x.n,aM Part.mark Part.cnt x.o (k)⟩
def Event.cntT(x:Event):Nat:=aQ Part.cnt x.o
theorem Event.cntT_le(x:Event):x.cntT<=11*FE x:=by
 unfold Event.cntT;have h0:=dF Part.cnt_le x.o;simp only[FE];omega
structure Desk where
 h:Hub
 n:Net
def Desk.row(x:Desk):List CD:=[.v (.bool x.h.shut),.s (x.h.docs.map Doc.row),.s (x.h.subs.map Sub.row),vi x.h.last,.v (.string x.n.d.name),vi x.n.d.fr,.s (x.n.d.text.map aG),.s (x.n.d.list.map Entry.row),.s (x.n.d.seen.map Seen.row),.s (x.n.reps.map Rep.row)]
def Desk.res(x:Desk):List (CD×Nat):=[(.v (.bool x.h.shut),1),(.s (x.h.docs.map Doc.row),5),(.s (x.h.subs.map Sub.row),6),(vi x.h.last,1),(.v (.string x.n.d.name),1),(vi x.n.d.fr,1),(.s (x.n.d.text.map aG),1),(.s (x.n.d.list.map Entry.row),3),(.s (x.n.d.seen.map Seen.row),3),(.s (x.n.reps.map Rep.row),7)]
@[simp] theorem Desk.row_len {x:Desk}:x.row.length=10:=rfl
def Desk.fits(x:Desk):Prop:=x.h.fits/\x.n.fits
def Yl(x:Desk):Nat:=dk x.h+(Ts x.n)
noncomputable def Desk.markT(x:Desk)(k:Int):Desk:=⟨⟨x.h.shut,aM Doc.mark Doc.cnt x.h.docs (k),aM Sub.mark Sub.cnt x.h.subs (k+(aQ Doc.cnt x.h.docs:Nat)),x.h.last⟩,⟨⟨x.n.d.name,x.n.d.fr,aM fk one x.n.d.text (k+(aQ Doc.cnt x.h.docs:Nat)+(aQ Sub.cnt x.h.subs:Nat)),aM Entry.mark Entry.cnt x.n.d.list (k+(aQ Doc.cnt x.h.docs:Nat)+(aQ Sub.cnt x.h.subs:Nat)+(x.n.d.text.length:Nat)),aM Seen.mark Seen.cnt x.n.d.seen (k+(aQ Doc.cnt x.h.docs:Nat)+(aQ Sub.cnt x.h.subs:Nat)+(x.n.d.text.length:Nat)+(aQ Entry.cnt x.n.d.list:Nat))⟩,aM Rep.mark Rep.cnt x.n.reps (k+(aQ Doc.cnt x.h.docs:Nat)+(aQ Sub.cnt x.h.subs:Nat)+(x.n.d.text.length:Nat)+(aQ Entry.cnt x.n.d.list:Nat)+(aQ Seen.cnt x.n.d.seen:Nat))⟩⟩
def Desk.cntT(x:Desk):Nat:=aQ Doc.cnt x.h.docs+(aQ Sub.cnt x.h.subs+(x.n.d.text.length+(aQ Entry.cnt x.n.d.list+(aQ Seen.cnt x.n.d.seen+(aQ Rep.cnt x.n.reps)))))
theorem Desk.cntT_le(x:Desk):x.cntT<=11*Yl x:=by
 unfold Desk.cntT;have h0:=dF Doc.cnt_le x.h.docs;have h1:=dF Sub.cnt_le x.h.subs;have h2:=dF Entry.cnt_le x.n.d.list;have h3:=v7 (λa=>by have:=Seen.cnt_le a;omega) x.n.d.seen;have h4:=dF Rep.cnt_le x.n.reps;simp only[Yl,dk,Ts,cN];omega
theorem mix:Tryz.prog.follows .mixedOrders=true:=al
theorem po(l:List Int)(hl:l.length<=9223372036854775807)(left:Nat)(hf:left<=2^20):ar Tryz.prog 18 [.c (.s (l.map aG)),.c (vi left)] (.one (.c (vi (szR l.length left)) 1)):=by
 refine aF aw Tryz.func18 al rfl rfl rfl (ai rfl) (λw0 base=>?_);exact N4
theorem gG(l:List Int)(hl:l.length<=2^40):ar Tryz.prog 13 [.c (.s (l.map aG))] (.one (.c (.s (l.map aG)) 1)):=by
 refine aF aw Tryz.func13 al rfl rfl rfl (ai rfl) (λw0 base=>?_);simp;refine⟨aa,λb=>?_⟩
 refine aV.intro eok (λi:Nat=>i<=l.length) (λi=>⟨22,0,[(4,.v (.int .i64 i)),(3,.sl 112 (some (b,0,l.length)) 1 0 l.length),(0,.ro (l.map aG))],
  [(112,.rows (some (b,0,l.length)) 1 (mo aG [.v (.int .i64 0)] l i) true)]⟩) (λi=>l.length-i) 0 ab n9 (λi hi=>?_)
 by_cases h:i<l.length
 ·simp[h,gO hi]
  exact⟨i+1,aa,aa,aR aa,kH (f:=aG) h⟩
 ·have:i=l.length:=by omega
  subst this;simp[C8,cut]
theorem mu(a b:List Int)(hl:a.length<=2^40):ar Tryz.prog 15 [.c (.s (a.map aG)),.c (.s (b.map aG))] (.one (.c (vb (a=b)) 1)):=by
 refine aF aw Tryz.func15 al rfl rfl rfl (ai rfl) (λw0 base=>?_);by_cases h:a.length=b.length
 ·simp[h]
  refine aV.intro eok (λi:Nat=>i<=a.length/\a.take i=b.take i) (λi=>⟨26,0,[(5,.v (.int .i64 i)),(1,.ro (b.map aG)),(0,.ro (a.map aG))],[]⟩) (λi=>a.length-i) 0 ab ab (λi hi=>?_);by_cases hlt:i<a.length
  ·simp[hlt]
   have hlt':i<b.length:=aa;refine aY.quiet eok mix al ?_;simp[hlt,hlt'];refine Br.mk (λh1=>?_) (λh1=>?_)
   ·simp
    exact⟨i+1,⟨aa,sW hlt hlt' hi.2 (JJ h1)⟩,aa,aR aa⟩
   ·simp[jx]
    exact CO hlt hlt' (λhe=>OV h1 (by rw[he]))
  ·exact oh
 ·exact j5
theorem fh(l:List Int)(k:Int)(h0:0<=k)(hk:k+l.length<=4611686018427387904):je Tryz.prog 16 (.c (.s (l.map aG)) 1) k (k+l.length) (.c (.s ((aM fk one l k).map aG)) 1):=by
 refine je.intro aw Tryz.func16 al rfl rfl rfl ah (λw0 base=>?_);simp;intro H;refine aE eok (λi:Nat=>i<=l.length) (λi=>⟨19,0,[(5,.v (.int .i64 i)),(1,.v (.int .i64 (k+i))),(0,.ml 0 H 1 l.length)],[(0,.rows H 1 (bT fk one aG l k i) true)]⟩) (λi=>l.length-i) 0 ab (by simp[rA]) (λi hi=>Ent.refl ?_);by_cases h:i<l.length
 ·simp[h,bR]
  refine Ent.refl ⟨i+1,aa,aa,?_⟩;have e1:Go.IntKind.i64.wrap (k+(i:Int)+1)=k+((i+1:Nat):Int):=by rw[ae _ aa];omega
  have e2:Go.IntKind.i64.wrap ((i:Int)+1)=((i+1:Nat):Int):=aR aa;simp[e1,e2];refine gZ h ?_;simp[aG,Ba];omega
 ·have:i=l.length:=by omega
  subst this;simp[hJ,aK]
theorem lO(l:List Int)(k:Int)(h0:0<=k)(hk:k+l.length<=4611686018427387904):ar Tryz.prog 46 [.c (.s ((aM fk one l k).map aG)),.c (vi k)] (.one (.c (vi (k+l.length)) 1)):=by
 refine aF aw Tryz.func46 al rfl rfl rfl (ai rfl) (λw0 base=>?_);simp;refine aV.intro eok (λi:Nat=>i<=l.length) (λi=>⟨21,0,[(5,.v (.int .i64 i)),(1,.v (.int .i64 (k+i))),(0,.ro ((aM fk one l k).map aG))],[]⟩) (λi=>l.length-i) 0 ab ab (λi hi=>?_);by_cases h:i<l.length
 ·have e1:Go.IntKind.i64.wrap (k+(i:Int)+1)=k+((i+1:Nat):Int):=by rw[ae _ aa];omega
  have e2:Go.IntKind.i64.wrap ((i:Int)+1)=((i+1:Nat):Int):=aR aa
  have hm:(aM fk one l k)[i]'(by rw[aK];exact h)=k+i:=by
   rw[jo h,Ba,PB,ep aa]
  simp[h,aK,hm];refine⟨i+1,aa,aa,?_,?_⟩
  ·exact e2
  ·exact e1
 ·exact oj
end Go.Proofs.YtklblkobegcljaaGreat
