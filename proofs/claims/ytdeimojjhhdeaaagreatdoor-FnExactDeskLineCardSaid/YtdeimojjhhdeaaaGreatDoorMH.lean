import Derived.Test.YtdeimojjhhdeaaaGreatDoorMG
import Derived.Test.YtdeimojjhhdeaaaGreatDoorRows
import Derived.Test.YtdeimojjhhdeaaaGreatDoorME
import Derived.IntWalk
import Derived.ProofKit
import Derived.Deep.Slices
import Derived.Test.YtdeimojjhhdeaaaGreatDoorMF
namespace Go.Proofs.YtdeimojjhhdeaaaGreatDoor
open Go.AM
def ti2:TI:={ n:=1,zero:=[.v (.int .i64 0)],bytes:=8,kind:=some .i64 }
def ti3:TI:={ n:=1,zero:=[.v (.int .i64 0)],bytes:=8,kind:=some .i64 }
def ti4:TI:={ n:=1,zero:=[.v (.bool false)],bytes:=1,boo:=true }
def ti5:TI:={ n:=1,zero:=[.v (.int .u8 0)],bytes:=1,kind:=some .u8 }
def ti6:TI:={ n:=1,zero:=[.v (.int .u8 0)],bytes:=1,kind:=some .u8 }
def ti7:TI:={ agg:=true,n:=4,zero:=[.v (.int .i64 0),.v (.int .i64 0),.v (.bool false),.v (.int .u8 0)],fields:=[(0,1),(1,1),(2,1),(3,1)],fagg:=[false,false,false,false],bytes:=24,pln:=true }
def ti8:TI:={ agg:=true,n:=4,zero:=[.v (.int .i64 0),.v (.int .i64 0),.v (.bool false),.v (.int .u8 0)],fields:=[(0,1),(1,1),(2,1),(3,1)],fagg:=[false,false,false,false],bytes:=24,pln:=true }
def ti9:TI:={ n:=1,zero:=[.v (.string ⟨#[]⟩)],bytes:=16,str:=true }
def agz:TI:={ n:=1,zero:=[.v (.string ⟨#[]⟩)],bytes:=16,str:=true }
def agy:TI:={ n:=1,zero:=[.v (.string ⟨#[]⟩)],bytes:=16,str:=true }
def agx:TI:={ n:=1,zero:=[.v (.int .u64 0)],bytes:=8,kind:=some .u64 }
def agw:TI:={ agg:=true,n:=2,zero:=[.v (.string ⟨#[]⟩),.v (.int .u64 0)],fields:=[(0,1),(1,1)],fagg:=[false,false],bytes:=24,pln:=true }
def agv:TI:={ agg:=true,n:=2,zero:=[.v (.string ⟨#[]⟩),.v (.int .u64 0)],fields:=[(0,1),(1,1)],fagg:=[false,false],bytes:=24,pln:=true }
def agu:TI:={ n:=1,zero:=[.v (.int .i32 0)],bytes:=4,kind:=some .i32 }
def agt:TI:={ n:=1,zero:=[.nil],sl:=some 30,bytes:=24,pln:=false }
def ags:TI:={ n:=1,zero:=[.nil],sl:=some 184,bytes:=24,pln:=false }
def agr:TI:={ agg:=true,n:=4,zero:=[.v (.bool false),.nil,.nil,.v (.int .i64 0)],fields:=[(0,1),(1,1),(2,1),(3,1)],fagg:=[false,false,false,false],bytes:=64,pln:=false }
def agq:TI:={ agg:=true,n:=4,zero:=[.v (.bool false),.nil,.nil,.v (.int .i64 0)],fields:=[(0,1),(1,1),(2,1),(3,1)],fagg:=[false,false,false,false],bytes:=64,pln:=false }
def agp:TI:={ n:=1,zero:=[.nil],sl:=some 3,bytes:=24,pln:=false }
def ago:TI:={ n:=1,zero:=[.nil],sl:=some 253,bytes:=24,pln:=false }
def agn:TI:={ n:=1,zero:=[.nil],sl:=some 286,bytes:=24,pln:=false }
def agm:TI:={ agg:=true,n:=5,zero:=[.v (.string ⟨#[]⟩),.v (.int .i64 0),.nil,.nil,.nil],fields:=[(0,1),(1,1),(2,1),(3,1),(4,1)],fagg:=[false,false,false,false,false],bytes:=96,pln:=false }
def agl:TI:={ agg:=true,n:=5,zero:=[.v (.string ⟨#[]⟩),.v (.int .i64 0),.nil,.nil,.nil],fields:=[(0,1),(1,1),(2,1),(3,1),(4,1)],fagg:=[false,false,false,false,false],bytes:=96,pln:=false }
def agk:TI:={ n:=1,zero:=[.nil],sl:=some 191,bytes:=24,pln:=false }
def agj:TI:={ agg:=true,n:=6,zero:=[.v (.string ⟨#[]⟩),.v (.int .i64 0),.nil,.nil,.nil,.nil],fields:=[(0,5),(5,1)],fagg:=[true,false],bytes:=120,pln:=false }
def agi:TI:={ agg:=true,n:=6,zero:=[.v (.string ⟨#[]⟩),.v (.int .i64 0),.nil,.nil,.nil,.nil],fields:=[(0,5),(5,1)],fagg:=[true,false],bytes:=120,pln:=false }
def agh:TI:={ agg:=true,n:=10,zero:=[.v (.bool false),.nil,.nil,.v (.int .i64 0),.v (.string ⟨#[]⟩),.v (.int .i64 0),.nil,.nil,.nil,.nil],fields:=[(0,4),(4,6)],fagg:=[true,true],bytes:=184,pln:=false }
def agf:TI:={ agg:=true,n:=10,zero:=[.v (.bool false),.nil,.nil,.v (.int .i64 0),.v (.string ⟨#[]⟩),.v (.int .i64 0),.nil,.nil,.nil,.nil],fields:=[(0,4),(4,6)],fagg:=[true,true],bytes:=184,pln:=false }
def age:TI:={ n:=1,zero:=[.nil],sl:=some 44,bytes:=24,pln:=false }
def agd:TI:={ n:=1,zero:=[.nil],sl:=some 196,bytes:=24,pln:=false }
def agc:TI:={ agg:=true,n:=4,zero:=[.v (.bool false),.nil,.nil,.v (.int .i64 0)],fields:=[(0,1),(1,1),(2,1),(3,1)],fagg:=[false,false,false,false],bytes:=64,pln:=false }
def agb:TI:={ agg:=true,n:=4,zero:=[.v (.bool false),.nil,.nil,.v (.int .i64 0)],fields:=[(0,1),(1,1),(2,1),(3,1)],fagg:=[false,false,false,false],bytes:=64,pln:=false }
def aga:TI:={ n:=1,zero:=[.nil],sl:=some 128,bytes:=24,pln:=false }
def af9:TI:={ n:=1,zero:=[.nil],sl:=some 140,bytes:=24,pln:=false }
def af8:TI:={ agg:=true,n:=5,zero:=[.v (.string ⟨#[]⟩),.v (.int .i64 0),.nil,.nil,.nil],fields:=[(0,1),(1,1),(2,1),(3,1),(4,1)],fagg:=[false,false,false,false,false],bytes:=96,pln:=false }
def GX:TI:={ agg:=true,n:=5,zero:=[.v (.string ⟨#[]⟩),.v (.int .i64 0),.nil,.nil,.nil],fields:=[(0,1),(1,1),(2,1),(3,1),(4,1)],fagg:=[false,false,false,false,false],bytes:=96,pln:=false }
def af7:TI:={ n:=1,zero:=[.nil],sl:=some 90,bytes:=24,pln:=false }
def af6:TI:={ agg:=true,n:=6,zero:=[.v (.string ⟨#[]⟩),.v (.int .i64 0),.nil,.nil,.nil,.nil],fields:=[(0,5),(5,1)],fagg:=[true,false],bytes:=120,pln:=false }
def af5:TI:={ agg:=true,n:=6,zero:=[.v (.string ⟨#[]⟩),.v (.int .i64 0),.nil,.nil,.nil,.nil],fields:=[(0,5),(5,1)],fagg:=[true,false],bytes:=120,pln:=false }
def af4:TI:={ agg:=true,n:=10,zero:=[.v (.bool false),.nil,.nil,.v (.int .i64 0),.v (.string ⟨#[]⟩),.v (.int .i64 0),.nil,.nil,.nil,.nil],fields:=[(0,4),(4,6)],fagg:=[true,true],bytes:=184,pln:=false }
def af3:TI:={ agg:=true,n:=10,zero:=[.v (.bool false),.nil,.nil,.v (.int .i64 0),.v (.string ⟨#[]⟩),.v (.int .i64 0),.nil,.nil,.nil,.nil],fields:=[(0,4),(4,6)],fagg:=[true,true],bytes:=184,pln:=false }
def af2:TI:={ n:=1,zero:=[.nil],sl:=some 258,bytes:=24,pln:=false }
def af1:TI:={ agg:=true,n:=7,zero:=[.v (.int .i64 0),.v (.string ⟨#[]⟩),.v (.int .i64 0),.v (.int .i64 0),.v (.int .i64 0),.nil,.nil],fields:=[(0,1),(1,1),(2,1),(3,1),(4,1),(5,1),(6,1)],fagg:=[false,false,false,false,false,false,false],bytes:=96,pln:=false }
def af0:TI:={ agg:=true,n:=7,zero:=[.v (.int .i64 0),.v (.string ⟨#[]⟩),.v (.int .i64 0),.v (.int .i64 0),.v (.int .i64 0),.nil,.nil],fields:=[(0,1),(1,1),(2,1),(3,1),(4,1),(5,1),(6,1)],fagg:=[false,false,false,false,false,false,false],bytes:=96,pln:=false }
def afZ:TI:={ agg:=true,n:=4,zero:=[.v (.int .i64 0),.v (.int .i64 0),.nil,.nil],fields:=[(0,1),(1,1),(2,1),(3,1)],fagg:=[false,false,false,false],bytes:=64,pln:=false }
def afY:TI:={ agg:=true,n:=4,zero:=[.v (.int .i64 0),.v (.int .i64 0),.nil,.nil],fields:=[(0,1),(1,1),(2,1),(3,1)],fagg:=[false,false,false,false],bytes:=64,pln:=false }
def afX:TI:={ agg:=true,n:=4,zero:=[.v (.int .i64 0),.v (.int .i64 0),.v (.int .i64 0),.nil],fields:=[(0,1),(1,1),(2,1),(3,1)],fagg:=[false,false,false,false],bytes:=48,pln:=false }
def afW:TI:={ agg:=true,n:=4,zero:=[.v (.int .i64 0),.v (.int .i64 0),.v (.int .i64 0),.nil],fields:=[(0,1),(1,1),(2,1),(3,1)],fagg:=[false,false,false,false],bytes:=48,pln:=false }
def afV:TI:={ n:=1,zero:=[.nil],sl:=some 9,bytes:=24,pln:=false }
def afU:TI:={ agg:=true,n:=7,zero:=[.v (.int .i64 0),.v (.int .i64 0),.v (.int .i64 0),.nil,.v (.bool false),.nil,.nil],fields:=[(0,1),(1,1),(2,1),(3,1),(4,1),(5,1),(6,1)],fagg:=[false,false,false,false,false,false,false],bytes:=104,pln:=false }
def afT:TI:={ agg:=true,n:=7,zero:=[.v (.int .i64 0),.v (.int .i64 0),.v (.int .i64 0),.nil,.v (.bool false),.nil,.nil],fields:=[(0,1),(1,1),(2,1),(3,1),(4,1),(5,1),(6,1)],fagg:=[false,false,false,false,false,false,false],bytes:=104,pln:=false }
def ZI:TI:={ agg:=true,n:=3,zero:=[.v (.int .i64 0),.v (.int .i64 0),.nil],fields:=[(0,1),(1,1),(2,1)],fagg:=[false,false,false],bytes:=40,pln:=false }
def ZH:TI:={ agg:=true,n:=3,zero:=[.v (.int .i64 0),.v (.int .i64 0),.nil],fields:=[(0,1),(1,1),(2,1)],fagg:=[false,false,false],bytes:=40,pln:=false }
def ZG:TI:={ agg:=true,n:=3,zero:=[.v (.int .i64 0),.v (.int .i64 0),.v (.int .i64 0)],fields:=[(0,1),(1,1),(2,1)],fagg:=[false,false,false],bytes:=24,pln:=true,ieq:=true }
def xx:TI:={ agg:=true,n:=3,zero:=[.v (.int .i64 0),.v (.int .i64 0),.v (.int .i64 0)],fields:=[(0,1),(1,1),(2,1)],fagg:=[false,false,false],bytes:=24,pln:=true,ieq:=true }
def ZF:TI:={ n:=1,zero:=[.nil],sl:=some 26,bytes:=24,pln:=false }
def ZE:TI:={ n:=1,zero:=[.nil],sl:=some 60,bytes:=24,pln:=false }
def ZD:TI:={ agg:=true,n:=4,zero:=[.v (.int .i64 0),.v (.int .i64 0),.v (.bool false),.nil],fields:=[(0,1),(1,1),(2,1),(3,1)],fagg:=[false,false,false,false],bytes:=48,pln:=false }
def ZC:TI:={ agg:=true,n:=4,zero:=[.v (.int .i64 0),.v (.int .i64 0),.v (.bool false),.nil],fields:=[(0,1),(1,1),(2,1),(3,1)],fagg:=[false,false,false,false],bytes:=48,pln:=false }
def ZB:TI:={ agg:=true,n:=6,zero:=[.v (.int .i64 0),.v (.string ⟨#[]⟩),.v (.int .i64 0),.v (.int .i64 0),.v (.bool false),.nil],fields:=[(0,1),(1,1),(2,4)],fagg:=[false,false,true],bytes:=72,pln:=false }
def ZA:TI:={ agg:=true,n:=6,zero:=[.v (.int .i64 0),.v (.string ⟨#[]⟩),.v (.int .i64 0),.v (.int .i64 0),.v (.bool false),.nil],fields:=[(0,1),(1,1),(2,4)],fagg:=[false,false,true],bytes:=72,pln:=false }
def Zz:TI:={ n:=1,zero:=[.nil],sl:=some 310,bytes:=24,pln:=false }
def Zy:TI:={ agg:=true,n:=7,zero:=[.v (.int .i64 0),.v (.int .i64 0),.v (.int .i64 0),.nil,.v (.bool false),.nil,.nil],fields:=[(0,1),(1,1),(2,1),(3,1),(4,1),(5,1),(6,1)],fagg:=[false,false,false,false,false,false,false],bytes:=104,pln:=false }
def Zx:TI:={ agg:=true,n:=7,zero:=[.v (.int .i64 0),.v (.int .i64 0),.v (.int .i64 0),.nil,.v (.bool false),.nil,.nil],fields:=[(0,1),(1,1),(2,1),(3,1),(4,1),(5,1),(6,1)],fagg:=[false,false,false,false,false,false,false],bytes:=104,pln:=false }
def Zw:TI:={ agg:=true,n:=4,zero:=[.v (.int .i64 0),.v (.int .i64 0),.v (.bool false),.nil],fields:=[(0,1),(1,1),(2,1),(3,1)],fagg:=[false,false,false,false],bytes:=48,pln:=false }
def Zv:TI:={ agg:=true,n:=4,zero:=[.v (.int .i64 0),.v (.int .i64 0),.v (.bool false),.nil],fields:=[(0,1),(1,1),(2,1),(3,1)],fagg:=[false,false,false,false],bytes:=48,pln:=false }
def Zu:TI:={ agg:=true,n:=6,zero:=[.v (.int .i64 0),.v (.string ⟨#[]⟩),.v (.int .i64 0),.v (.int .i64 0),.v (.bool false),.nil],fields:=[(0,1),(1,1),(2,4)],fagg:=[false,false,true],bytes:=72,pln:=false }
def Zt:TI:={ agg:=true,n:=6,zero:=[.v (.int .i64 0),.v (.string ⟨#[]⟩),.v (.int .i64 0),.v (.int .i64 0),.v (.bool false),.nil],fields:=[(0,1),(1,1),(2,4)],fagg:=[false,false,true],bytes:=72,pln:=false }
def Zs:TI:={ n:=1,zero:=[.nil],sl:=some 5,bytes:=24,pln:=false }
def Zr:TI:={ agg:=true,n:=3,zero:=[.v (.int .i64 0),.v (.int .i64 0),.nil],fields:=[(0,1),(1,1),(2,1)],fagg:=[false,false,false],bytes:=40,pln:=false }
def Zq:TI:={ agg:=true,n:=3,zero:=[.v (.int .i64 0),.v (.int .i64 0),.nil],fields:=[(0,1),(1,1),(2,1)],fagg:=[false,false,false],bytes:=40,pln:=false }
def Zp:TI:={ agg:=true,n:=3,zero:=[.v (.int .i64 0),.v (.int .i64 0),.nil],fields:=[(0,1),(1,1),(2,1)],fagg:=[false,false,false],bytes:=40,pln:=false }
def Zo:TI:={ agg:=true,n:=3,zero:=[.v (.int .i64 0),.v (.int .i64 0),.nil],fields:=[(0,1),(1,1),(2,1)],fagg:=[false,false,false],bytes:=40,pln:=false }
def Zn:TI:={ agg:=true,n:=3,zero:=[.nil,.v (.int .i64 0),.v (.int .i64 0)],fields:=[(0,1),(1,1),(2,1)],fagg:=[false,false,false],bytes:=40,pln:=false }
def Zm:TI:={ agg:=true,n:=3,zero:=[.nil,.v (.int .i64 0),.v (.int .i64 0)],fields:=[(0,1),(1,1),(2,1)],fagg:=[false,false,false],bytes:=40,pln:=false }
def Zl:TI:={ agg:=true,n:=3,zero:=[.nil,.nil,.v (.int .i64 0)],fields:=[(0,1),(1,1),(2,1)],fagg:=[false,false,false],bytes:=56,pln:=false }
def Zk:TI:={ agg:=true,n:=3,zero:=[.nil,.nil,.v (.int .i64 0)],fields:=[(0,1),(1,1),(2,1)],fagg:=[false,false,false],bytes:=56,pln:=false }
def Zj:TI:={ agg:=true,n:=3,zero:=[.v (.int .i64 0),.v (.int .i64 0),.v (.int .i64 0)],fields:=[(0,1),(1,1),(2,1)],fagg:=[false,false,false],bytes:=24,pln:=true,ieq:=true }
def Zi:TI:={ agg:=true,n:=1,zero:=[.nil],fields:=[(0,1)],fagg:=[false],bytes:=24,pln:=false }
def Zh:TI:={ agg:=true,n:=1,zero:=[.nil],fields:=[(0,1)],fagg:=[false],bytes:=24,pln:=false }
def Zg:TI:={ n:=1,zero:=[.v (.int .u32 0)],bytes:=4,kind:=some .u32 }
def Zf:TI:={ agg:=true,n:=3,zero:=[.v (.int .i64 0),.v (.int .i64 0),.nil],fields:=[(0,1),(1,1),(2,1)],fagg:=[false,false,false],bytes:=40,pln:=false }
def Ze:TI:={ n:=1,zero:=[.v (.int .i64 0)],bytes:=8,kind:=some .i64 }
def Zd:TI:={ n:=1,zero:=[.v (.int .u64 0)],bytes:=8,kind:=some .u64 }
def Zc:TI:={ n:=1,zero:=[.v (.int .u64 0)],bytes:=8,kind:=some .u64 }
def Zb:TI:={ agg:=true,n:=2,zero:=[.v (.int .u8 0),.v (.int .u8 0)],fields:=[(0,1),(1,1)],fagg:=[false,false],bytes:=2,pln:=true }
def Za:TI:={ agg:=true,n:=2,zero:=[.v (.int .u8 0),.v (.int .u8 0)],fields:=[(0,1),(1,1)],fagg:=[false,false],bytes:=2,pln:=true }
def Y9:TI:={ agg:=true,n:=1,zero:=[.v (.string ⟨#[]⟩)],fields:=[(0,1)],fagg:=[false],bytes:=16,pln:=true }
def Y8:TI:={ agg:=true,n:=1,zero:=[.v (.string ⟨#[]⟩)],fields:=[(0,1)],fagg:=[false],bytes:=16,pln:=true }
def Y7:TI:={ n:=1,zero:=[.v (.int .u8 0)],bytes:=1,kind:=some .u8 }
def Y6:TI:={ n:=1,zero:=[.v (.int .u8 0)],bytes:=1,kind:=some .u8 }
def Y5:TI:={ n:=1,zero:=[.v (.int .i32 0)],bytes:=4,kind:=some .i32 }
def Y4:TI:={ n:=1,zero:=[.v (.int .i32 0)],bytes:=4,kind:=some .i32 }
def aiZ:List (Nat×TI):=[(2,ti2),(3,ti3),(4,ti4),(5,ti5),(6,ti6),(7,ti7),(8,ti8),(9,ti9),(10,agz),(11,agy),(12,agx),(13,agw),(14,agv),(21,agu),(22,agt),(23,ags),(24,agr),(25,agq),(26,agp),(27,ago),(28,agn),(29,agm),(30,agl),(31,agk),(32,agj),(33,agi),(34,agh),(35,agf),(37,age),(38,agd),(39,agc),(40,agb),(41,aga),(42,af9),(43,af8),(44,GX),(45,af7),(46,af6),(47,af5),(48,af4),(49,af3),(60,af2),(61,af1),(62,af0),(65,afZ),(66,afY),(70,afX),(71,afW),(77,afV),(89,afU),(90,afT),(127,ZI),(128,ZH),(139,ZG),(140,xx),(163,ZF),(169,ZE),(181,ZD),(182,ZC),(183,ZB),(184,ZA),(189,Zz),(190,Zy),(191,Zx),(193,Zw),(194,Zv),(195,Zu),(196,Zt),(203,Zs),(252,Zr),(253,Zq),(257,Zp),(258,Zo),(264,Zn),(265,Zm),(267,Zl),(268,Zk),(286,Zj),(297,Zi),(298,Zh),(305,Zg),(310,Zf),(329,Ze),(335,Zd),(341,Zc),(357,Zb),(358,Za),(369,Y9),(370,Y8),(380,Y7),(381,Y6),(383,Y5),(384,Y4)]
def tt:Nat->Option TI:=Nb aiZ
theorem amg:tt 2=some ti2:=rfl
theorem amf:tt 3=some ti3:=rfl
theorem ame:tt 4=some ti4:=rfl
theorem amd:tt 5=some ti5:=rfl
theorem amc:tt 6=some ti6:=rfl
theorem amb:tt 7=some ti7:=rfl
theorem ama:tt 8=some ti8:=rfl
theorem al9:tt 9=some ti9:=rfl
theorem ajF:tt 10=some agz:=rfl
theorem ajE:tt 11=some agy:=rfl
theorem ajD:tt 12=some agx:=rfl
theorem ajC:tt 13=some agw:=rfl
theorem ajB:tt 14=some agv:=rfl
theorem ajA:tt 21=some agu:=rfl
theorem ajz:tt 22=some agt:=rfl
theorem ajy:tt 23=some ags:=rfl
theorem ajx:tt 24=some agr:=rfl
theorem ajw:tt 25=some agq:=rfl
theorem ajv:tt 26=some agp:=rfl
theorem aju:tt 27=some ago:=rfl
theorem ajt:tt 28=some agn:=rfl
theorem ajs:tt 29=some agm:=rfl
theorem ajr:tt 30=some agl:=rfl
theorem ajq:tt 31=some agk:=rfl
theorem ajp:tt 32=some agj:=rfl
theorem ajo:tt 33=some agi:=rfl
theorem ajn:tt 34=some agh:=rfl
theorem ajm:tt 35=some agf:=rfl
theorem ajl:tt 37=some age:=rfl
theorem ajk:tt 38=some agd:=rfl
theorem ajj:tt 39=some agc:=rfl
theorem aji:tt 40=some agb:=rfl
theorem ajh:tt 41=some aga:=rfl
theorem ajg:tt 42=some af9:=rfl
theorem ajf:tt 43=some af8:=rfl
theorem Qu:tt 44=some GX:=rfl
theorem aje:tt 45=some af7:=rfl
theorem ajd:tt 46=some af6:=rfl
theorem ajc:tt 47=some af5:=rfl
theorem ajb:tt 48=some af4:=rfl
theorem aja:tt 49=some af3:=rfl
theorem ai9:tt 60=some af2:=rfl
theorem ai8:tt 61=some af1:=rfl
theorem ai7:tt 62=some af0:=rfl
theorem ai6:tt 65=some afZ:=rfl
theorem ai5:tt 66=some afY:=rfl
theorem ai4:tt 70=some afX:=rfl
theorem ai3:tt 71=some afW:=rfl
theorem ai2:tt 77=some afV:=rfl
theorem ai1:tt 89=some afU:=rfl
theorem ai0:tt 90=some afT:=rfl
theorem afN:tt 127=some ZI:=rfl
theorem afM:tt 128=some ZH:=rfl
theorem afL:tt 139=some ZG:=rfl
theorem Jy:tt 140=some xx:=rfl
theorem afK:tt 163=some ZF:=rfl
theorem afJ:tt 169=some ZE:=rfl
theorem afI:tt 181=some ZD:=rfl
theorem afH:tt 182=some ZC:=rfl
theorem afG:tt 183=some ZB:=rfl
theorem afF:tt 184=some ZA:=rfl
theorem afE:tt 189=some Zz:=rfl
theorem afD:tt 190=some Zy:=rfl
theorem afC:tt 191=some Zx:=rfl
theorem afB:tt 193=some Zw:=rfl
theorem afA:tt 194=some Zv:=rfl
theorem afz:tt 195=some Zu:=rfl
theorem afy:tt 196=some Zt:=rfl
theorem afx:tt 203=some Zs:=rfl
theorem afw:tt 252=some Zr:=rfl
theorem afv:tt 253=some Zq:=rfl
theorem afu:tt 257=some Zp:=rfl
theorem afs:tt 258=some Zo:=rfl
theorem afr:tt 264=some Zn:=rfl
theorem afq:tt 265=some Zm:=rfl
theorem afp:tt 267=some Zl:=rfl
theorem afo:tt 268=some Zk:=rfl
theorem afn:tt 286=some Zj:=rfl
theorem afm:tt 297=some Zi:=rfl
theorem afl:tt 298=some Zh:=rfl
theorem afk:tt 305=some Zg:=rfl
theorem afj:tt 310=some Zf:=rfl
theorem afi:tt 329=some Ze:=rfl
theorem afh:tt 335=some Zd:=rfl
theorem afg:tt 341=some Zc:=rfl
theorem aff:tt 357=some Zb:=rfl
theorem afe:tt 358=some Za:=rfl
theorem afd:tt 369=some Y9:=rfl
theorem afc:tt 370=some Y8:=rfl
theorem afb:tt 380=some Y7:=rfl
theorem afa:tt 381=some Y6:=rfl
theorem ae9:tt 383=some Y5:=rfl
theorem ae8:tt 384=some Y4:=rfl
theorem acx:(aiZ.all λp=>C7 Tryz.prog p.1 p.2)=true:=ai
theorem aq:∀t ti,tt t=some ti->TIok Tryz.prog t ti:=ZM acx
theorem eok{w0:World}{F G:Nat->Prop}{l:Bool}:EOk ⟨Tryz.prog,tt,w0,⟨F,G,l,λ_=>True⟩⟩:=⟨aq,λ_ _=>trivial⟩
attribute [simp] ti2 ti3 ti4 ti5 ti6 ti7 ti8 ti9 agz agy agx agw agv agu agt ags agr agq agp ago agn agm agl agk agj agi agh agf age agd agc agb aga af9 af8 GX af7 af6 af5 af4 af3 af2 af1 af0 afZ afY afX afW afV afU afT ZI ZH ZG xx ZF ZE ZD ZC ZB ZA Zz Zy Zx Zw Zv Zu Zt Zs Zr Zq Zp Zo Zn Zm Zl Zk Zj Zi Zh Zg Zf Ze Zd Zc Zb Za Y9 Y8 Y7 Y6 Y5 Y4 amg amf ame amd amc amb ama al9 ajF ajE ajD ajC ajB ajA ajz ajy ajx ajw ajv aju ajt ajs ajr ajq ajp ajo ajn ajm ajl ajk ajj aji ajh ajg ajf Qu aje ajd ajc ajb aja ai9 ai8 ai7 ai6 ai5 ai4 ai3 ai2 ai1 ai0 afN afM afL Jy afK afJ afI afH afG afF afE afD afC afB afA afz afy afx afw afv afu afs afr afq afp afo afn afm afl afk afj afi afh afg aff afe afd afc afb afa ae9 ae8
end Go.Proofs.YtdeimojjhhdeaaaGreatDoor
namespace Go.AM
abbrev vi(n:Int):CD:=.v (.int .i64 n)
noncomputable abbrev vb(p:Prop):CD:=.v (.bool (dc p))
abbrev aN(n:Int):List CD:=[vi n]
theorem sA{p q:Prop}(h:p↔q):dc p=dc q:=by rw[propext h]
theorem AO{α:Type}{a b:List α}{i:Nat}(h:i<a.length)(h':i<b.length)(ht:a.take i=b.take i)(he:a[i]=b[i]):a.take (i+1)=b.take (i+1):=by
 rw[<-bY h,<-bY h',ht,he]
theorem ZL{α:Type}{a b:List α}{i:Nat}(h:a.length<=i)(hl:a.length=b.length)(ht:a.take i=b.take i):a=b:=by
 rwa[aD h,aD aa]at ht
theorem M0{α:Type}{a b:List α}{i:Nat}(h:i<a.length)(h':i<b.length)(he:a[i]≠b[i]):a≠b:=by
 rintro rfl;exact he rfl
theorem gb{n:Nat}(h:n<=9223372036854775807):Go.IntKind.i64.wrap (n:Int)=n:=ah _ aa
theorem aZ{n:Nat}(h:n<9223372036854775807):Go.IntKind.i64.wrap ((n:Int)+1)=((n+1:Nat):Int):=by rw[ah _ aa];omega
@[simp] theorem ami {a b:Nat}:((a:Int)+(b:Int)).toNat=a+b:=aa
@[simp] theorem amh {a n : Nat} : ((a : Int) + (OfNat.ofNat n : Int)).toNat = a + n := by
  show((a:Int)+((n:Nat):Int)).toNat=a+n
  omega
@[simp] theorem amv {a b:Nat}:(0:Int)<=(a:Int)+(b:Int):=aa
@[simp] theorem amu {a n : Nat} : (0 : Int) <= (a : Int) + (OfNat.ofNat n : Int) := by
  show(0:Int)<=(a:Int)+((n:Nat):Int)
  omega
@[simp] theorem alQ {α:Type} {f:α->List CD} {l:List α}:cut (l.map f) 0 l.length=l.map f:=Ec ab
attribute [simp] Ec
@[simp] theorem alP {n:Nat}:((n:Int)<0)=False:=ab
open Go.RowKit Go.WideShapes Go.ChangeShapes
def Gr(P:Program):Nat->List Field->Option Nat
 |o,[]=>some o
 |o,f::fs=>if f.offset=o then Gr P (o+P.cellsOf f.type) fs else none
def okT(P:Program):Nat->TypeId->Bool
 |0,_=>false
 | D + 1, t => match P.underlying t with
   |some .bool=>true
   |some (.int _)=>true
   |some .string=>true
   |some (.slice e)=>decide (0<P.cellsOf e)&&okT P D e
   |some (.struct fs)=>(Gr P 0 fs.toList==some (P.cellsOf t))&&fs.toList.all λf=>okT P D f.type
   |_=>false
def jn(P:Program):Nat->TypeId->List CD->Prop
 |0,_,_=>False
 | D + 1, t, ds => match P.underlying t with
   |some .bool=>∃b,ds=[.v (.bool b)]
   |some (.int k)=>∃n,ds=[.v (.int k n)]/\(Lit.int k n).wf=true
   |some .string=>∃s:ByteArray,ds=[.v (.string s)]/\s.size<=maxLen
   |some (.slice e)=>∃rows,ds=[.s rows]/\rows.length<=maxLen/\∀row∈rows,row.length=P.cellsOf e/\jn P D e row
   |some (.struct fs)=>ds.length=P.cellsOf t/\∀f∈fs.toList,jn P D f.type ((ds.drop f.offset).take (P.cellsOf f.type))
   |_=>False
def uH(w:World)(cs:List Value)(ds:List CD):Prop:=ds.length=cs.length/\∀(j:Nat) (u:Value) (d:CD),cs[j]? = some u->ds[j]? = some d->Rd w false (λ_=>True) u d
theorem uH.one{w:World}{u:Value}{d:CD}(h:Rd w false (λ_=>True) u d):uH w [u] [d]:=by
 refine⟨rfl,λj u' d' hu hd=>?_⟩
 cases j with
 |zero=>simp at hu hd;subst hu;subst hd;exact h
 |succ j=>simp at hu
theorem zD{P:Program}{w:World}{D:Nat}{cs:List Value}:∀(fs:List Field) (o m:Nat),Gr P o fs=some m->m<=cs.length ->
 (∀f∈fs,∃ds,uH w ((cs.drop f.offset).take (P.cellsOf f.type)) ds/\jn P D f.type ds) ->
 ∃ds,o<=m/\uH w ((cs.drop o).take (m-o)) ds/\∀f∈fs,o<=f.offset/\jn P D f.type ((ds.drop (f.offset-o)).take (P.cellsOf f.type))
 | [], o, m, hc, _, _ => by
   simp only[Gr,dP]at hc;subst hc;exact⟨[],aC _,by simp[uH],ab⟩
 | f :: fs, o, m, hc, hm, hx => by
   simp only[Gr]at hc
   split at hc
   ·rename_i ho
    obtain⟨ds,h1,h2,h3⟩:=zD fs _ m hc hm (λg hg=>hx g (aG _ hg));obtain⟨d1,h4,h5⟩:=hx f (aP ..);have hl:d1.length=P.cellsOf f.type:=by rw[h4.1];simp;omega
    refine⟨d1++ds,aa,⟨?_,λj u d hu hd=>?_⟩,λg hg=>?_⟩
    ·have:=h2.1
     simp at this⊢;omega
    ·by_cases hj:j<P.cellsOf f.type
     ·rw[cq aa]at hd
      refine h4.2 j u d ?_ hd;rw[ez,al hj,ho];rw[ez]at hu
      split at hu
      ·exact hu
      ·simp at hu
     ·rw[br aa,hl]at hd
      refine h2.2 _ u d ?_ hd;rw[ez]at hu⊢
      split at hu
      ·rw[al aa]
       rw[eR]at hu⊢;rw[<-hu]
       congr 1
       omega
      ·simp at hu
    ·rcases aR.1 hg with rfl|hg
     ·refine⟨aa,?_⟩
      rw[ho,qv,fq,List.take_append_of_le_length aa,aD aa];exact h5
     ·obtain⟨h6,h7⟩:=h3 g hg
      refine⟨aa,?_⟩
      have:(d1++ds).drop (g.offset-o)=ds.drop (g.offset-(o+P.cellsOf f.type)):=by
       rw[List.drop_append,gQ aa,hl,ig]
       congr 1
       omega
      rw[this];exact h7
   ·simp at hc
theorem WW{H:Type}{enc:TypeId×Value->H}{P:Program}{w:World}{base:Nat}{spare:Nat->Bool}{held:Bool} :
 ∀(D:Nat) (t:TypeId) (cs:List Value) (x:DataW H×List MemPlace) (fuel:Nat),okT P D t=true->DataW.trod enc P w base spare held fuel t cs=some x->∃ds,uH w cs ds/\jn P D t ds:=by
 intro D
 induction D with
 |zero=>intro t cs x fuel h;simp[okT]at h
 | succ D ih =>
   intro t cs x fuel hok h;unfold okT at hok
   split at hok
   ·rename_i hu
    obtain⟨b,rfl,-⟩:=DataW.trod_bool hu h;exact⟨[.v (.bool b)],uH.one (.plain rfl),by simp[jn,hu]⟩
   ·rename_i k hu
    obtain⟨n,rfl,-,hw⟩:=DataW.trod_int hu h;exact⟨[.v (.int k n)],uH.one (.plain rfl),by simp[jn,hu,hw]⟩
   ·rename_i hu
    obtain⟨s,rfl,-,hs⟩:=DataW.trod_string hu h;exact⟨[.v (.string s)],uH.one (.plain rfl),by simp[jn,hu,hs]⟩
   ·rename_i e hu
    simp only[aJ,dj]at hok;obtain⟨hpos,hok⟩:=hok;rcases DataW.trod_slice hu h with⟨rfl,-⟩|⟨a,len,cap,elems,rest,n,-,rfl,-,-,hlc,hcm,hel,hi,-⟩
    ·exact Rx
    ·have each:∀i,i<len->∃p:List Value×List CD,w.cells? base (a.add (i*P.cellsOf e)) (P.cellsOf e)=some p.1/\uH w p.1 p.2/\jn P D e p.2:=by
      intro i hlt;have h1:=hi i hlt;rw[au aa]at h1;obtain⟨c,h2,h3⟩:=Option.bind_eq_some_iff.1 h1;obtain⟨ds,h4,h5⟩:=ih e c _ n hok h3;exact⟨(c,ds),h2,h4,h5⟩
     by_cases hl0:len=0
     ·subst hl0
      exact Rx
     ·obtain⟨f,hf⟩:=Go.Deep.choose_lt each
      have cell:∀i j,i<len->j<P.cellsOf e->w.cell? (a.add (i*P.cellsOf e+j))=(f i).1[j]?/\(f i).1.length=P.cellsOf e:=by
       intro i j hlt hj;obtain⟨-,h2,h3⟩:=World.cells?_some (hf i hlt).1;exact⟨by rw[<-h3 j hj,Go.Deep.add_add],h2⟩
      obtain⟨b,off,spot⟩:=a
      have hb:∃cs T fr,w.heap[b]? = some (.cells cs T fr)/\spot=none:=by
       obtain⟨h1,h2⟩:=cell 0 0 aa hpos;rw[au aa]at h1;unfold World.cell? at h1;rw[block_add]at h1
       split at h1
       ·rename_i c T fr hh
        refine⟨c,T,fr,hh,?_⟩
        cases spot with
        |none=>rfl
        |some s=>simp[Addr.add]at h1
       ·simp at h1
      obtain⟨c,T,fr,hb,rfl⟩:=hb
      have at':∀i j,i<len->j<P.cellsOf e->c[off+(i*P.cellsOf e+j)]? = (f i).1[j]?:=by
       intro i j hlt hj;rw[<-(cell i j hlt hj).1,gv];simp[World.cell?,hb]
      have hrows:((List.range len).map λi=>(f i).2).length=len:=ab
      have hrd:=Rd.slice (w:=w) (x:=false) (S:=λ_=>True) b off cap (P.cellsOf e) c T fr ((List.range len).map λi=>(f i).2) (λ_ _ _=>True)
       (by rw[hrows];exact hlc) hcm hpos trivial hb (by
        rw[hrows];obtain⟨m,rfl⟩:∃m,len=m+1:=⟨len-1,aa⟩;have h1:=at' m (P.cellsOf e-1) aa aa;rw[au (by rw[(cell m (P.cellsOf e-1) aa aa).2];omega)]at h1;have h2:=(nv.1 h1).1;rw[cL];omega) (λh=>iy) (λ_ _ _ _=>⟨trivial,λh=>iy⟩) (λh=>iy)
       (λrow hrow=>by
        simp only[cM,gP]at hrow;obtain⟨i,hlt,rfl⟩:=hrow;rw[(hf i hlt).2.1.1];exact(cell i 0 hlt hpos).2)
       (λi j row d h1 h2=>by
        have hlt:i<len:=by have:=(aw.1 h1).1;omega
        simp only[bP,List.getElem?_range hlt,eg,dP]at h1;subst h1
        have hj:j<P.cellsOf e:=by
         have:=(aw.1 h2).1;rw[(hf i hlt).2.1.1,(cell i 0 hlt hpos).2]at this;exact this
        have h3:=at' i j hlt hj;rw[au (by rw[(cell i j hlt hj).2];exact hj)]at h3
        have h4:c.getD (off+(i*P.cellsOf e+j)) undef=(f i).1[j]'(by rw[(cell i j hlt hj).2];exact hj):=by
         rw[aT,h3];rfl
        rw[h4];exact(hf i hlt).2.1.2 j _ d (au _) h2)
      rw[hrows]at hrd;refine⟨[.s ((List.range len).map λi=>(f i).2)],uH.one hrd,?_⟩;simp only[jn,hu];refine⟨_,rfl,by rw[hrows];omega,λrow hrow=>?_⟩;simp only[cM,gP]at hrow;obtain⟨i,hlt,rfl⟩:=hrow;exact⟨by rw[(hf i hlt).2.1.1];exact(cell i 0 hlt hpos).2,(hf i hlt).2.2⟩
   ·rename_i fs hu
    simp only[aJ,lR,dp]at hok;obtain⟨hc,hall⟩:=hok;obtain⟨xs,n,-,-,hcl,hxl,hi⟩:=DataW.trod_struct hu h
    obtain⟨ds,-,h1,h2⟩:=zD (w:=w) (D:=D) (cs:=cs) fs.toList 0 _ hc aa (λf hf=>by
     obtain⟨i,hlt,rfl⟩:=fF hf;have hlt':i<fs.size:=sT;have h3:=hi i fs[i] (by simp[hlt']);rw[au aa]at h3;exact ih _ _ _ n (hall _ hf) h3)
    rw[fq,nE,aD aa]at h1;refine⟨ds,h1,?_⟩;simp only[jn,hu];refine⟨by rw[h1.1,hcl],λf hf=>?_⟩;have:=(h2 f hf).2
    rwa[nE]at this
   ·simp at hok
def Ju(P:Program)(D:Nat)(t:TypeId):VD->Prop
 | .c d=>jn P D t [d]
 | .agg ds=>(∃fs,P.underlying t=some (.struct fs))/\jn P D t ds
theorem aao{H:Type}{enc:TypeId×Value->H}{P:Program}{w:World}{base b0:Nat}{spare:Nat->Bool}{held:Bool}{r:Reach}{D:Nat}{t:TypeId}{v:Value}{d:DataW H}{ps:List MemPlace}
 (hok:okT P D t=true) (hval:Value.okWide P w r b0 t v) (h:DataW.Trod enc P w base spare held t v d ps):∃vd,RdV w v vd/\Ju P D t vd:=by
 obtain⟨fuel,hf⟩:=h;obtain⟨ds,hr,hfit⟩:=WW D t _ _ fuel hok hf
 have one:v.cells = #[v]->(∀fs,P.underlying t≠some (.struct fs))->∃vd,RdV w v vd/\Ju P D t vd:=by
  intro hc _;rw[hc]at hr;obtain⟨hl,hr⟩:=hr
  cases ds with
  |nil=>simp at hl
  | cons d ds =>
    cases ds with
    |nil=>exact⟨.c d,hr 0 v d rfl rfl,hfit⟩
    |cons _ _=>simp at hl
 cases D with
 |zero=>simp[okT]at hok
 | succ D =>
   unfold okT at hok
   split at hok
   ·rename_i hu
    obtain⟨b,rfl⟩:=okWide_bool hu hval;exact DL
   ·rename_i k hu
    obtain⟨n,rfl⟩:=okWide_int hu hval;exact DL
   ·rename_i hu
    obtain⟨s,rfl⟩:=okWide_string hu hval;exact DL
   ·rename_i e hu
    obtain⟨a,l,c,rfl⟩:=okWide_slice hu hval;exact DL
   ·rename_i fs hu
    obtain⟨cs,rfl,-⟩:=okWide_struct hu hval;obtain⟨hl,hr⟩:=hr;refine⟨.agg ds,⟨cs,rfl,by simpa[Value.cells]using hl.symm,λj d hd=>?_⟩,⟨fs,hu⟩,hfit⟩
    have hj:j<cs.size:=by
     have:=(aw.1 hd).1;simp[Value.cells]at hl;omega
    have:=hr j cs[j] d (by simp[Value.cells,hj]) hd
    simpa[hj]using this
   ·simp at hok
def sF(P:Program)(D:Nat)(w:World):List TypeId->List Value->List VD->Prop
 | [],[],[]=>True
 |t::ts,v::vs,d::ds=>(RdV w v d/\Ju P D t d)/\sF P D w ts vs ds
 |_,_,_=>False
theorem IJ{H:Type}{enc:TypeId×Value->H}{P:Program}{w:World}{base b0:Nat}{spare:Nat->Bool}{held:Bool}{r:Reach}{D:Nat} :
 ∀ (ts : List TypeId) (vs : List Value) (ds : List (DataW H)) (ps : List MemPlace), (ts.all λt => okT P D t) = true -> (∀ (j : Nat) t v, ts[j]? = some t -> vs[j]? = some v -> Value.okWide P w r b0 t v) ->
   DataW.TrodAll enc P w base spare held ts vs ds ps->∃vds,sF P D w ts vs vds
 | [], vs, ds, ps, _, _, h => by
   obtain⟨rfl,-,-⟩:=trodAll_nil h;exact⟨[],trivial⟩
 | t :: ts, vs, ds, ps, hok, hval, h => by
   obtain⟨v,vs1,d,ds1,a,b,rfl,rfl,rfl,h1,h2⟩:=trodAll_cons h;simp only[List.all_cons,aJ]at hok;obtain⟨vds,h3⟩:=IJ ts vs1 ds1 b hok.2 (λj t v ht hv=>hval (j+1) t v (by simpa using ht) (by simpa using hv)) h2;obtain⟨vd,h4,h5⟩:=aao hok.1 (hval 0 t v rfl rfl) h1;exact⟨vd::vds,⟨h4,h5⟩,h3⟩
theorem CH{P:Program}{D:Nat}{w:World}:∀(ts:List TypeId) (vs:List Value) (vds:List VD),sF P D w ts vs vds->vs.length=vds.length/\∀(i:Nat) vd,vds[i]? = some vd->RdV w (vs.toArray.getD i undef) vd
 | [],[],[],_=>⟨rfl,λi vd h=>iy⟩
 | t :: ts, v :: vs, d :: ds, h => by
   obtain⟨h1,h2⟩:=CH ts vs ds h.2;refine⟨lj,λi vd hi=>?_⟩
   cases i with
   |zero=>simp at hi;subst hi;simpa using h.1.1
   |succ i=>simpa using h2 i vd eT
theorem Io{H:Type}{enc:TypeId×Value->H}{P:Program}(hl:laidOutB P=true){W W':World}(hb:Below W.heap.size W W'){sp:Nat->Bool} :
 ∀ (ts : List TypeId) (vs : List Value) (ds : List (DataW H)) (ps : List MemPlace), (ts.all λt => P.readableRec t && decide (t < P.types.size)) = true -> DataW.TrodAll enc P W 0 (λ_ => true) true ts vs ds ps ->
   (∀x∈ps,x.block<W.heap.size)->(∀x∈ps,sp x.block=true)->DataW.TrodAll enc P W' 0 sp true ts vs ds ps
 | [], vs, ds, ps, _, h, _, _ => by
   obtain⟨rfl,rfl,rfl⟩:=trodAll_nil h;rfl
 | t :: ts, vs, ds, ps, hok, h, hlt, hsp => by
   obtain⟨v,vs1,d,ds1,a,b,rfl,rfl,rfl,h1,h2⟩:=trodAll_cons h;simp only[List.all_cons,aJ,dj]at hok;refine⟨a,b,WideElems.Trod_stays hl hok.1.1 hok.1.2 h1 (λx hx=>hb.same (hlt x (by simp[hx]))) (λx hx=>hsp x (by simp[hx])),Io hl hb ts vs1 ds1 b (by simpa using hok.2) h2 (λx hx=>hlt x (by simp[hx])) (λx hx=>hsp x (by simp[hx])),rfl⟩
theorem Xl{L:World->Prop}{H:Type}{enc:TypeId×Value->H}{P:Program}(hlaid:laidOutB P=true){f:FuncId}{fn:Func}{s:ChangeSpec}{apart fresh handsOn:Bool}{D:Nat}{bt:TypeId}
 (hv:s.vars=[]) (hres:fn.resultTypes = #[bt]) (hbt:P.underlying bt=some .bool) (hokT:(fn.params.toList.all λt=>okT P D t)=true) (hread:(fn.params.toList.all λt=>P.readableRec t&&decide (t<P.types.size))=true)
 (hs:∀ds:List (DataW H),ds.length=fn.params.toList.length->s.fn H ds={ results:=[.lit (.bool true)],args:=ds })
 {W:World}{args:Array Value}{r:Reach}{b0:Nat}{ds gs:List (DataW H)}{before:List MemPlace}
 (hval:∀(j:Nat) t v,fn.params[j]? = some t->args[j]? = some v->Value.okWide P W r b0 t v)
 (hW:DataW.Whole enc P fn.params.toList s.vars apart W args.toList ds gs before)
 (hLW:L W) (hwalk:∀vds,sF P D W fn.params.toList args.toList vds->dt P L f vds (.one (.c (.v (.bool true)) 1))) :
 Calls P f args W λe W'=>∃v,e=.returned v/\s.post enc P fn apart fresh handsOn false W args v W':=by
 have hW0:=hW;obtain⟨p,q,hA,hV,rfl,hfz,hnd⟩:=hW;rw[hv]at hV;obtain⟨rfl,rfl⟩:=trodVars_none hV;obtain⟨vds,ho⟩:=IJ (D:=D) fn.params.toList args.toList ds p hokT (λj t v ht hv=>hval j t v (by simpa using ht) (by simpa using hv)) hA;obtain⟨hl,hr⟩:=CH _ _ _ ho
 have hlen:ds.length=fn.params.toList.length:=by
  have:∀(ts:List TypeId) (vs:List Value) (ds:List (DataW H)) (ps:List MemPlace),DataW.TrodAll enc P W 0 (λ_=>true) true ts vs ds ps->ds.length=ts.length:=by
   intro ts
   induction ts with
   |nil=>intro vs ds ps h;obtain⟨-,rfl,-⟩:=trodAll_nil h;rfl
   | cons t ts ih =>
     intro vs ds ps h;obtain⟨v,vs1,d,ds1,a,b,rfl,rfl,rfl,h1,h2⟩:=trodAll_cons h;simp[ih _ _ _ h2]
  exact this _ _ _ _ hA
 refine((hwalk vds ho).2 W hLW args sU (λi vd hi=>by simpa using hr i vd hi)).mono ?_
 rintro e W' ⟨v,rfl,hb,hrr⟩
 have hv1:v=.bool true:=hrr.1;subst hv1;have hs':=hs ds hlen;refine⟨_,rfl,ds,[],p,[],p,[],by simpa using hW0,?_,?_,?_,?_,λh=>kI⟩
 ·rw[cu,hs',hres]
  exact trodAll_mk1 (shut_bool hbt true)
 ·rw[cu,hs']
  have hlt:∀x∈p,x.block<W.heap.size:=λx hx=>hW0.lt x (by simp[hx])
  exact Io hlaid hb _ _ _ _ hread hA hlt (λx hx=>by simpa using hlt x hx)
 ·rw[hv]
  have:(s.fn H (ds++[])).vars=[]:=by rw[cu,hs']
  rw[this];exact rfl
 ·exact hb.frame _
theorem ae6{n:Int}(h:(Lit.int .i64 n).wf=true) : -9223372036854775808<=n/\n<=9223372036854775807:=by
 have:IntKind.i64.min = -9223372036854775808:=rfl;have h2:IntKind.i64.max=9223372036854775807:=rfl;simp only[Lit.wf,aJ,dj]at h;omega
section
variable {P:Program}{D:Nat}{t e:TypeId}{vd:VD}{ds:List CD}
theorem aa8{k:IntKind}(hu:P.underlying t=some (.int k))(h:jn P D t ds):∃n,ds=[.v (.int k n)]/\(Lit.int k n).wf=true:=by
 exact J5
theorem Bd(hu:P.underlying t=some .bool)(h:jn P D t ds):∃b,ds=[.v (.bool b)]:=by
 exact J5
theorem vD(hu:P.underlying t=some .string)(h:jn P D t ds):∃s:ByteArray,ds=[.v (.string s)]/\s.size<=maxLen:=by
 exact J5
theorem mw(hu:P.underlying t=some (.slice e))(h:jn P D t ds):∃rows,ds=[.s rows]/\rows.length<=maxLen/\∃D',∀row∈rows,row.length=P.cellsOf e/\jn P D' e row:=by
 cases D with
 |zero=>exact h.elim
 | succ D =>
   simp only[jn,hu]at h;obtain⟨rows,h1,h2,h3⟩:=h;exact⟨rows,h1,h2,D,h3⟩
theorem gK{fs:Array Field}(hu:P.underlying t=some (.struct fs))(h:jn P D t ds):ds.length=P.cellsOf t/\∃D',∀f∈fs.toList,jn P D' f.type ((ds.drop f.offset).take (P.cellsOf f.type)):=by
 cases D with
 |zero=>exact h.elim
 | succ D =>
   simp only[jn,hu]at h;exact⟨h.1,D,h.2⟩
theorem adO{de:TypeDesc}(hu:P.underlying t=some de)(hn:∀fs,de≠.struct fs)(h:Ju P D t vd):∃d,vd=.c d/\jn P D t [d]:=by
 cases vd with
 |c d=>exact⟨d,rfl,h⟩
 | agg ds =>
   obtain⟨⟨fs,h1⟩,-⟩:=h;rw[hu]at h1;simp only[dP]at h1;exact absurd h1 (hn fs)
theorem oK{α:Type}{f:α->List CD}{ok:α->Prop}:∀(rows:List (List CD)),(∀row∈rows,∃x,row=f x/\ok x)->∃l:List α,rows=l.map f/\∀x∈l,ok x
 | [],_=>⟨[],rfl,ab⟩
 | row :: rows, h => by
   obtain⟨x,h1,h2⟩:=h row (aP ..);obtain⟨l,h3,h4⟩:=oK rows (λr hr=>h r (aG _ hr));exact⟨x::l,by rw[h1,h3];rfl,by simpa using ⟨h2,h4⟩⟩
end
theorem sF.nil{P:Program}{D:Nat}{w:World}{vs:List Value}{vds:List VD}(h:sF P D w [] vs vds):vds=[]:=by
 cases vs with
 | nil => cases vds with
   |nil=>rfl
   |cons _ _=>exact h.elim
 |cons _ _=>exact h.elim
theorem sF.cons{P:Program}{D:Nat}{w:World}{t:TypeId}{ts:List TypeId}{vs:List Value}{vds:List VD}(h:sF P D w (t::ts) vs vds) :
 ∃vd vds',vds=vd::vds'/\Ju P D t vd/\∃vs',sF P D w ts vs' vds':=by
 cases vs with
 |nil=>cases vds<;>exact h.elim
 | cons v vs => cases vds with
   |nil=>exact h.elim
   |cons d ds=>exact⟨d,ds,rfl,h.1.2,vs,h.2⟩
def bn{α:Type}(mk:α->Int->α)(cn:α->Nat):List α->Int->List α
 | [],_=>[]
 |a::l,k=>mk a k::bn mk cn l (k+cn a)
def a8{α:Type}(cn:α->Nat):List α->Nat
 | []=>0
 |a::l=>cn a+a8 cn l
section
variable {α:Type}{mk:α->Int->α}{cn:α->Nat}
theorem bg:∀(l:List α) (k:Int),(bn mk cn l k).length=l.length
 | [],_=>rfl
 |a::l,k=>by simp[bn,bg l]
theorem Cr:∀(l m:List α),a8 cn (l++m)=a8 cn l+a8 cn m
 | [],m=>oh
 |a::l,m=>by simp[a8,Cr l m];omega
theorem zL:∀(l m:List α) (k:Int),bn mk cn (l++m) k=bn mk cn l k++bn mk cn m (k+a8 cn l)
 | [],m,k=>by simp[bn,a8]
 | a :: l, m, k => by
   simp only[dE,bn,zL l m,a8];rw[show k+(cn a:Int)+(a8 cn l:Nat)=k+((cn a+a8 cn l:Nat):Int)from aa]
theorem eI{l:List α}{i:Nat}(h:i<l.length):a8 cn (l.take (i+1))=a8 cn (l.take i)+cn l[i]:=by
 rw[<-bY h,Cr];simp[a8]
theorem Ao:∀(l:List α) (i:Nat),a8 cn (l.take i)<=a8 cn l
 | [],i=>ab
 |a::l,0=>oh
 |a::l,i+1=>by simp only[lg,a8];have:=Ao l i;omega
theorem fu{l:List α}{i:Nat}(h:i<l.length):a8 cn (l.take i)+cn l[i]<=a8 cn l:=by
 rw[<-eI h];exact Ao l (i+1)
theorem W9{l:List α}{k:Int}{i:Nat}(h:i<l.length):(bn mk cn l k)[i]? = some (mk l[i] (k+a8 cn (l.take i))):=by
 induction l generalizing k i with
 |nil=>simp at h
 | cons a l ih =>
   cases i with
   |zero=>simp[bn,a8]
   | succ i =>
     simp only[bn,iY,lg,a8,List.getElem_cons_succ];rw[ih l8]
     congr 2
     omega
def eN(mk:α->Int->α)(cn:α->Nat)(f:α->List CD)(l:List α)(k:Int)(i:Nat):List (List CD):=(bn mk cn (l.take i) k++l.drop i).map f
variable {f:α->List CD}{l:List α}{k:Int}{i:Nat}
theorem M8:eN mk cn f l k 0=l.map f:=by simp[eN,bn]
theorem eH:(eN mk cn f l k i).length=l.length:=by simp[eN,bg];omega
theorem mq(h:l.length<=i):eN mk cn f l k i=(bn mk cn l k).map f:=by
 simp[eN,aD h,gQ h]
theorem nS(h:i<l.length):(eN mk cn f l k i).set i (f l[i])=eN mk cn f l k i:=by
 unfold eN
 apply qy
 intro j;rw[iX]
 split
 ·rename_i hj
  subst hj;have hl:(bn mk cn (l.take i) k).length=i:=by rw[bg];simp;omega
  rw[al (by simp[bg];omega)];simp only[eY];rw[br (by simp[hl])];simp[hl,h]
 ·rfl
theorem nR(h:i<l.length){r:List CD}(hr:r=f (mk l[i] (k+a8 cn (l.take i)))):(eN mk cn f l k i).set i r=eN mk cn f l k (i+1):=by
 subst hr;unfold eN;have hl:(bn mk cn (l.take i) k).length=i:=by rw[bg];simp;omega
 rw[<-bY h,zL,bk h];simp only[eY,bK,bn,jz,cU];rw[mN _ _ (by simp[hl])];simp[hl]
end
theorem jZ{xs:List (List CD)}{i:Nat}{a:List CD}{g:List CD->List CD}:(xs.set i a).modify i g=xs.set i (g a):=by
 apply qy
 intro j;rw[iT,iX,iX];by_cases h:i=j
 ·subst h
  by_cases h2:i<xs.length<;>simp[h2]
 ·simp[h]
theorem gh{xs:List (List CD)}{i j:Nat}{a:List CD}{d:CD}:pE (xs.set i a) i j d=xs.set i (a.set j d):=jZ
abbrev kY(_:Int)(k:Int):Int:=k
abbrev one{α:Type}(_:α):Nat:=1
theorem Gs{α:Type}:∀(l:List α),a8 one l=l.length
 | []=>rfl
 |a::l=>by simp[a8,one,Gs l];omega
end Go.AM
namespace Go.Proofs.YtdeimojjhhdeaaaGreatDoor
open Go.AM
set_option maxRecDepth 20000
def gR(n:Int):Prop:=-9223372036854775808<=n/\n<=9223372036854775807
def dW{α:Type}(f:α->Nat):List α->Nat
 | []=>0
 |a::l=>f a+dW f l
theorem pR{α:Type}{f:α->Nat}:∀{l:List α}{i:Nat}(h:i<l.length),dW f (l.drop i)=f l[i]+dW f (l.drop (i+1))
 |a::l,0,_=>rfl
 |a::l,i+1,h=>by simpa using pR (l:=l) (i:=i) l8
theorem My{α:Type}{f:α->Nat}:∀{l:List α}{a:α},a∈l->f a<=dW f l
 | b :: l, a, h => by
   simp only[dW];rcases aR.1 h with rfl|h
   ·omega
   ·have:=My (f:=f) h;omega
def nL{α:Type}(f:α->Nat)(l:List α):Nat:=l.length+dW f l
theorem bB{α:Type}{f:α->Nat}{l:List α}{B:Nat}(h:nL f l<=B):l.length<=B:=by unfold nL at h;omega
theorem hQ{α:Type}{f:α->Nat}{l:List α}{B:Nat}(h:nL f l<=B){a:α}(ha:a∈l):f a<=B:=by have:=My (f:=f) ha;unfold nL at h;omega
theorem eA{α:Type}{f:α->Nat}{l:List α}{B:Nat}(h:nL f l<=B){i:Nat}(hi:i<l.length):f l[i]<=B:=hQ h (ao hi)
def szR(n left:Nat):Int:=if n<=left then((left-n:Nat):Int)else -1
theorem gm{n left:Nat}(h:n<=left):szR n left=((left-n:Nat):Int):=by simp[szR,h]
theorem iJ{n left:Nat}(h:¬n<=left):szR n left = -1:=by simp[szR,h]
theorem oC{α:Type}{cn n:α->Nat}(h:∀a,cn a<=11*(1+n a)):∀l:List α,a8 cn l<=11*nL n l
 | []=>oh
 | a :: l => by
   have h1:=h a;have h2:=oC h l;unfold nL at h2⊢;simp only[a8,bH,dW];omega
theorem Gt{α:Type}{cn:α->Nat}(h:∀a,cn a<=11):∀l:List α,a8 cn l<=11*l.length
 | []=>oh
 | a :: l => by
   have h1:=h a;have h2:=Gt h l;simp only[a8,bH];omega
theorem mr{α:Type}{mk:α->Int->α}{cn:α->Nat}{l:List α}{k:Int}{i:Nat}(h:i<l.length):(bn mk cn l k)[i]'(by rw[bg];exact h)=mk l[i] (k+a8 cn (l.take i)):=by
 have:=W9 (mk:=mk) (cn:=cn) (k:=k) h;rw[au (by rw[bg];exact h)]at this;exact ie this
noncomputable def lZ(k:Int):Bool:=dc (k.tmod 3=0)
def XY(n:Nat):List UInt8:=if h:n<10 then [UInt8.ofNat (48+n)]else XY (n / 10)++[UInt8.ofNat (48+n % 10)]
termination_by n
decreasing_by omega
def markT(k:Int):ByteArray:=⟨(109::XY k.toNat).toArray⟩
structure Part where
 kind:Int
 n:Int
 signs:List Int
 deriving Inhabited
def Part.row(x:Part):List CD:=[vi x.kind,vi x.n,.s (x.signs.map aN)]
def Part.res(x:Part):List (CD×Nat):=[(vi x.kind,1),(vi x.n,1),(.s (x.signs.map aN),1)]
@[simp] theorem Part.row_len {x:Part}:x.row.length=3:=rfl
def Part.fits(x:Part):Prop:=gR x.kind/\gR x.n/\(x.signs.length<=9223372036854775807/\∀n∈x.signs,gR n)
def aM(x:Part):Nat:=x.signs.length
noncomputable def Part.mark(x:Part)(k:Int):Part:=⟨k,k+1,bn kY one x.signs (k+1+1)⟩
def Part.cnt(x:Part):Nat:=2+(x.signs.length)
theorem Part.cnt_le(x:Part):x.cnt<=11*(1+aM x):=by
 unfold Part.cnt;simp only[aM];omega
noncomputable def Part.markT(x:Part)(k:Int):Part:=⟨x.kind,x.n,bn kY one x.signs (k)⟩
def Part.cntT(x:Part):Nat:=x.signs.length
structure Entry where
 client:Int
 seq:Int
 o:List Part
def Entry.row(x:Entry):List CD:=[vi x.client,vi x.seq,.s (x.o.map Part.row)]
def Entry.res(x:Entry):List (CD×Nat):=[(vi x.client,1),(vi x.seq,1),(.s (x.o.map Part.row),3)]
@[simp] theorem Entry.row_len {x:Entry}:x.row.length=3:=rfl
def Entry.fits(x:Entry):Prop:=gR x.client/\gR x.seq/\(x.o.length<=9223372036854775807/\∀y∈x.o,y.fits)
def ba(x:Entry):Nat:=nL aM x.o
noncomputable def Entry.mark(x:Entry)(k:Int):Entry:=⟨k,k+1,bn Part.mark Part.cnt x.o (k+1+1)⟩
def Entry.cnt(x:Entry):Nat:=2+(a8 Part.cnt x.o)
theorem Entry.cnt_le(x:Entry):x.cnt<=11*(1+ba x):=by
 unfold Entry.cnt;have h0:=oC Part.cnt_le x.o;simp only[ba];omega
noncomputable def Entry.markT(x:Entry)(k:Int):Entry:=⟨x.client,x.seq,bn Part.mark Part.cnt x.o (k)⟩
def Entry.cntT(x:Entry):Nat:=a8 Part.cnt x.o
structure Seen where
 client:Int
 seq:Int
 rev:Int
def Seen.row(x:Seen):List CD:=[vi x.client,vi x.seq,vi x.rev]
def Seen.res(x:Seen):List (CD×Nat):=[(vi x.client,1),(vi x.seq,1),(vi x.rev,1)]
@[simp] theorem Seen.row_len {x:Seen}:x.row.length=3:=rfl
def Seen.fits(x:Seen):Prop:=gR x.client/\gR x.seq/\gR x.rev
noncomputable def Seen.mark(_x:Seen)(k:Int):Seen:=⟨k,k+1,k+1+1⟩
def Seen.cnt(_x:Seen):Nat:=3
theorem Seen.cnt_le(x:Seen):x.cnt<=11*1:=by
 unfold Seen.cnt;omega
structure Doc where
 name:ByteArray
 fr:Int
 text:List Int
 list:List Entry
 seen:List Seen
def Doc.row(x:Doc):List CD:=[.v (.string x.name),vi x.fr,.s (x.text.map aN),.s (x.list.map Entry.row),.s (x.seen.map Seen.row)]
def Doc.res(x:Doc):List (CD×Nat):=[(.v (.string x.name),1),(vi x.fr,1),(.s (x.text.map aN),1),(.s (x.list.map Entry.row),3),(.s (x.seen.map Seen.row),3)]
@[simp] theorem Doc.row_len {x:Doc}:x.row.length=5:=rfl
def Doc.fits(x:Doc):Prop:=x.name.size<=9223372036854775807/\gR x.fr/\(x.text.length<=9223372036854775807/\∀n∈x.text,gR n)/\(x.list.length<=9223372036854775807/\∀y∈x.list,y.fits)/\(x.seen.length<=9223372036854775807/\∀y∈x.seen,y.fits)
def cO(x:Doc):Nat:=x.name.size+(x.text.length+(nL ba x.list+(x.seen.length)))
noncomputable def Doc.mark(x:Doc)(k:Int):Doc:=⟨markT (k),k+1,bn kY one x.text (k+1+1),bn Entry.mark Entry.cnt x.list (k+1+1+(x.text.length:Nat)),bn Seen.mark Seen.cnt x.seen (k+1+1+(x.text.length:Nat)+(a8 Entry.cnt x.list:Nat))⟩
def Doc.cnt(x:Doc):Nat:=2+(x.text.length+(a8 Entry.cnt x.list+(a8 Seen.cnt x.seen)))
theorem Doc.cnt_le(x:Doc):x.cnt<=11*(1+cO x):=by
 unfold Doc.cnt;have h0:=oC Entry.cnt_le x.list;have h1:=Gt (λa=>by have:=Seen.cnt_le a;omega) x.seen;simp only[cO];omega
noncomputable def Doc.markT(x:Doc)(k:Int):Doc:=⟨x.name,x.fr,bn kY one x.text (k),bn Entry.mark Entry.cnt x.list (k+(x.text.length:Nat)),bn Seen.mark Seen.cnt x.seen (k+(x.text.length:Nat)+(a8 Entry.cnt x.list:Nat))⟩
def Doc.cntT(x:Doc):Nat:=x.text.length+(a8 Entry.cnt x.list+(a8 Seen.cnt x.seen))
structure Ring where
 cap:Int
 next:Int
 out:Bool
 list:List Entry
def Ring.row(x:Ring):List CD:=[vi x.cap,vi x.next,.v (.bool x.out),.s (x.list.map Entry.row)]
def Ring.res(x:Ring):List (CD×Nat):=[(vi x.cap,1),(vi x.next,1),(.v (.bool x.out),1),(.s (x.list.map Entry.row),3)]
@[simp] theorem Ring.row_len {x:Ring}:x.row.length=4:=rfl
def Ring.fits(x:Ring):Prop:=gR x.cap/\gR x.next/\True/\(x.list.length<=9223372036854775807/\∀y∈x.list,y.fits)
def eJ(x:Ring):Nat:=nL ba x.list
noncomputable def Ring.mark(x:Ring)(k:Int):Ring:=⟨k,k+1,lZ (k+1+1),bn Entry.mark Entry.cnt x.list (k+1+1+1)⟩
def Ring.cnt(x:Ring):Nat:=3+(a8 Entry.cnt x.list)
noncomputable def Ring.markT(x:Ring)(k:Int):Ring:=⟨x.cap,x.next,x.out,bn Entry.mark Entry.cnt x.list (k)⟩
def Ring.cntT(x:Ring):Nat:=a8 Entry.cnt x.list
structure Sub where
 id:Int
 doc:ByteArray
 r:Ring
def Sub.row(x:Sub):List CD:=[vi x.id,.v (.string x.doc),vi x.r.cap,vi x.r.next,.v (.bool x.r.out),.s (x.r.list.map Entry.row)]
def Sub.res(x:Sub):List (CD×Nat):=[(vi x.id,1),(.v (.string x.doc),1),(vi x.r.cap,1),(vi x.r.next,1),(.v (.bool x.r.out),1),(.s (x.r.list.map Entry.row),3)]
@[simp] theorem Sub.row_len {x:Sub}:x.row.length=6:=rfl
def Sub.fits(x:Sub):Prop:=gR x.id/\x.doc.size<=9223372036854775807/\x.r.fits
def eM(x:Sub):Nat:=x.doc.size+(eJ x.r)
noncomputable def Sub.mark(x:Sub)(k:Int):Sub:=⟨k,markT (k+1),⟨k+1+1,k+1+1+1,lZ (k+1+1+1+1),bn Entry.mark Entry.cnt x.r.list (k+1+1+1+1+1)⟩⟩
def Sub.cnt(x:Sub):Nat:=5+(a8 Entry.cnt x.r.list)
theorem Sub.cnt_le(x:Sub):x.cnt<=11*(1+eM x):=by
 unfold Sub.cnt;have h0:=oC Entry.cnt_le x.r.list;simp only[eM,eJ];omega
noncomputable def Sub.markT(x:Sub)(k:Int):Sub:=⟨x.id,x.doc,⟨x.r.cap,x.r.next,x.r.out,bn Entry.mark Entry.cnt x.r.list (k)⟩⟩
def Sub.cntT(x:Sub):Nat:=a8 Entry.cnt x.r.list
structure Hub where
 shut:Bool
 docs:List Doc
 subs:List Sub
 last:Int
def Hub.row(x:Hub):List CD:=[.v (.bool x.shut),.s (x.docs.map Doc.row),.s (x.subs.map Sub.row),vi x.last]
def Hub.res(x:Hub):List (CD×Nat):=[(.v (.bool x.shut),1),(.s (x.docs.map Doc.row),5),(.s (x.subs.map Sub.row),6),(vi x.last,1)]
@[simp] theorem Hub.row_len {x:Hub}:x.row.length=4:=rfl
def Hub.fits(x:Hub):Prop:=True/\(x.docs.length<=9223372036854775807/\∀y∈x.docs,y.fits)/\(x.subs.length<=9223372036854775807/\∀y∈x.subs,y.fits)/\gR x.last
def eG(x:Hub):Nat:=nL cO x.docs+(nL eM x.subs)
noncomputable def Hub.markT(x:Hub)(k:Int):Hub:=⟨x.shut,bn Doc.mark Doc.cnt x.docs (k),bn Sub.mark Sub.cnt x.subs (k+(a8 Doc.cnt x.docs:Nat)),x.last⟩
def Hub.cntT(x:Hub):Nat:=a8 Doc.cnt x.docs+(a8 Sub.cnt x.subs)
structure Call where
 kind:Int
 doc:ByteArray
 client:Int
 seq:Int
 n:Int
 o:List Part
 text:List Int
def Call.row(x:Call):List CD:=[vi x.kind,.v (.string x.doc),vi x.client,vi x.seq,vi x.n,.s (x.o.map Part.row),.s (x.text.map aN)]
def Call.res(x:Call):List (CD×Nat):=[(vi x.kind,1),(.v (.string x.doc),1),(vi x.client,1),(vi x.seq,1),(vi x.n,1),(.s (x.o.map Part.row),3),(.s (x.text.map aN),1)]
@[simp] theorem Call.row_len {x:Call}:x.row.length=7:=rfl
def Call.fits(x:Call):Prop:=gR x.kind/\x.doc.size<=9223372036854775807/\gR x.client/\gR x.seq/\gR x.n/\(x.o.length<=9223372036854775807/\∀y∈x.o,y.fits)/\(x.text.length<=9223372036854775807/\∀n∈x.text,gR n)
def jO(x:Call):Nat:=x.doc.size+(nL aM x.o+(x.text.length))
noncomputable def Call.mark(x:Call)(k:Int):Call:=⟨k,markT (k+1),k+1+1,k+1+1+1,k+1+1+1+1,bn Part.mark Part.cnt x.o (k+1+1+1+1+1),bn kY one x.text (k+1+1+1+1+1+(a8 Part.cnt x.o:Nat))⟩
def Call.cnt(x:Call):Nat:=5+(a8 Part.cnt x.o+(x.text.length))
noncomputable def Call.markT(x:Call)(k:Int):Call:=⟨x.kind,x.doc,x.client,x.seq,x.n,bn Part.mark Part.cnt x.o (k),bn kY one x.text (k+(a8 Part.cnt x.o:Nat))⟩
def Call.cntT(x:Call):Nat:=a8 Part.cnt x.o+(x.text.length)
structure Answer where
 code:Int
 rev:Int
 text:List Int
 list:List Entry
def Answer.row(x:Answer):List CD:=[vi x.code,vi x.rev,.s (x.text.map aN),.s (x.list.map Entry.row)]
def Answer.res(x:Answer):List (CD×Nat):=[(vi x.code,1),(vi x.rev,1),(.s (x.text.map aN),1),(.s (x.list.map Entry.row),3)]
@[simp] theorem Answer.row_len {x:Answer}:x.row.length=4:=rfl
def Answer.fits(x:Answer):Prop:=gR x.code/\gR x.rev/\(x.text.length<=9223372036854775807/\∀n∈x.text,gR n)/\(x.list.length<=9223372036854775807/\∀y∈x.list,y.fits)
def lE(x:Answer):Nat:=x.text.length+(nL ba x.list)
noncomputable def Answer.mark(x:Answer)(k:Int):Answer:=⟨k,k+1,bn kY one x.text (k+1+1),bn Entry.mark Entry.cnt x.list (k+1+1+(x.text.length:Nat))⟩
def Answer.cnt(x:Answer):Nat:=2+(x.text.length+(a8 Entry.cnt x.list))
noncomputable def Answer.markT(x:Answer)(k:Int):Answer:=⟨x.code,x.rev,bn kY one x.text (k),bn Entry.mark Entry.cnt x.list (k+(x.text.length:Nat))⟩
def Answer.cntT(x:Answer):Nat:=x.text.length+(a8 Entry.cnt x.list)
structure Task where
 c:Call
 pc:Int
 inv:Int
 lin:Int
 rs:Int
 a:Answer
def Task.row(x:Task):List CD:=[vi x.c.kind,.v (.string x.c.doc),vi x.c.client,vi x.c.seq,vi x.c.n,.s (x.c.o.map Part.row),.s (x.c.text.map aN),vi x.pc,vi x.inv,vi x.lin,vi x.rs,vi x.a.code,vi x.a.rev,.s (x.a.text.map aN),.s (x.a.list.map Entry.row)]
def Task.res(x:Task):List (CD×Nat):=[(vi x.c.kind,1),(.v (.string x.c.doc),1),(vi x.c.client,1),(vi x.c.seq,1),(vi x.c.n,1),(.s (x.c.o.map Part.row),3),(.s (x.c.text.map aN),1),(vi x.pc,1),(vi x.inv,1),(vi x.lin,1),(vi x.rs,1),(vi x.a.code,1),(vi x.a.rev,1),(.s (x.a.text.map aN),1),(.s (x.a.list.map Entry.row),3)]
@[simp] theorem Task.row_len {x:Task}:x.row.length=15:=rfl
def Task.fits(x:Task):Prop:=x.c.fits/\gR x.pc/\gR x.inv/\gR x.lin/\gR x.rs/\x.a.fits
def aj4(x:Task):Nat:=jO x.c+(lE x.a)
noncomputable def Task.mark(x:Task)(k:Int):Task:=⟨⟨k,markT (k+1),k+1+1,k+1+1+1,k+1+1+1+1,bn Part.mark Part.cnt x.c.o (k+1+1+1+1+1),bn kY one x.c.text (k+1+1+1+1+1+(a8 Part.cnt x.c.o:Nat))⟩,k+1+1+1+1+1+(a8 Part.cnt x.c.o:Nat)+(x.c.text.length:Nat),k+1+1+1+1+1+(a8 Part.cnt x.c.o:Nat)+(x.c.text.length:Nat)+1,k+1+1+1+1+1+(a8 Part.cnt x.c.o:Nat)+(x.c.text.length:Nat)+1+1,k+1+1+1+1+1+(a8 Part.cnt x.c.o:Nat)+(x.c.text.length:Nat)+1+1+1,⟨k+1+1+1+1+1+(a8 Part.cnt x.c.o:Nat)+(x.c.text.length:Nat)+1+1+1+1,k+1+1+1+1+1+(a8 Part.cnt x.c.o:Nat)+(x.c.text.length:Nat)+1+1+1+1+1,bn kY one x.a.text (k+1+1+1+1+1+(a8 Part.cnt x.c.o:Nat)+(x.c.text.length:Nat)+1+1+1+1+1+1),bn Entry.mark Entry.cnt x.a.list (k+1+1+1+1+1+(a8 Part.cnt x.c.o:Nat)+(x.c.text.length:Nat)+1+1+1+1+1+1+(x.a.text.length:Nat))⟩⟩
def Task.cnt(x:Task):Nat:=11+(a8 Part.cnt x.c.o+(x.c.text.length+(x.a.text.length+(a8 Entry.cnt x.a.list))))
noncomputable def Task.markT(x:Task)(k:Int):Task:=⟨⟨x.c.kind,x.c.doc,x.c.client,x.c.seq,x.c.n,bn Part.mark Part.cnt x.c.o (k),bn kY one x.c.text (k+(a8 Part.cnt x.c.o:Nat))⟩,x.pc,x.inv,x.lin,x.rs,⟨x.a.code,x.a.rev,bn kY one x.a.text (k+(a8 Part.cnt x.c.o:Nat)+(x.c.text.length:Nat)),bn Entry.mark Entry.cnt x.a.list (k+(a8 Part.cnt x.c.o:Nat)+(x.c.text.length:Nat)+(x.a.text.length:Nat))⟩⟩
def Task.cntT(x:Task):Nat:=a8 Part.cnt x.c.o+(x.c.text.length+(x.a.text.length+(a8 Entry.cnt x.a.list)))
structure Queue where
 doc:ByteArray
 list:List Int
def Queue.row(x:Queue):List CD:=[.v (.string x.doc),.s (x.list.map aN)]
def Queue.res(x:Queue):List (CD×Nat):=[(.v (.string x.doc),1),(.s (x.list.map aN),1)]
@[simp] theorem Queue.row_len {x:Queue}:x.row.length=2:=rfl
def Queue.fits(x:Queue):Prop:=x.doc.size<=9223372036854775807/\(x.list.length<=9223372036854775807/\∀n∈x.list,gR n)
def ag5(x:Queue):Nat:=x.doc.size+(x.list.length)
noncomputable def Queue.mark(x:Queue)(k:Int):Queue:=⟨markT (k),bn kY one x.list (k+1)⟩
def Queue.cnt(x:Queue):Nat:=1+(x.list.length)
noncomputable def Queue.markT(x:Queue)(k:Int):Queue:=⟨x.doc,bn kY one x.list (k)⟩
def Queue.cntT(x:Queue):Nat:=x.list.length
structure Wld where
 h:Hub
 locks:List Int
 queues:List Queue
 tasks:List Task
 step:Int
def Wld.row(x:Wld):List CD:=[.v (.bool x.h.shut),.s (x.h.docs.map Doc.row),.s (x.h.subs.map Sub.row),vi x.h.last,.s (x.locks.map aN),.s (x.queues.map Queue.row),.s (x.tasks.map Task.row),vi x.step]
def Wld.res(x:Wld):List (CD×Nat):=[(.v (.bool x.h.shut),1),(.s (x.h.docs.map Doc.row),5),(.s (x.h.subs.map Sub.row),6),(vi x.h.last,1),(.s (x.locks.map aN),1),(.s (x.queues.map Queue.row),2),(.s (x.tasks.map Task.row),15),(vi x.step,1)]
@[simp] theorem Wld.row_len {x:Wld}:x.row.length=8:=rfl
def Wld.fits(x:Wld):Prop:=x.h.fits/\(x.locks.length<=9223372036854775807/\∀n∈x.locks,gR n)/\(x.queues.length<=9223372036854775807/\∀y∈x.queues,y.fits)/\(x.tasks.length<=9223372036854775807/\∀y∈x.tasks,y.fits)/\gR x.step
def amw(x:Wld):Nat:=eG x.h+(x.locks.length+(nL ag5 x.queues+(nL aj4 x.tasks)))
noncomputable def Wld.markT(x:Wld)(k:Int):Wld:=⟨⟨x.h.shut,bn Doc.mark Doc.cnt x.h.docs (k),bn Sub.mark Sub.cnt x.h.subs (k+(a8 Doc.cnt x.h.docs:Nat)),x.h.last⟩,bn kY one x.locks (k+(a8 Doc.cnt x.h.docs:Nat)+(a8 Sub.cnt x.h.subs:Nat)),bn Queue.mark Queue.cnt x.queues (k+(a8 Doc.cnt x.h.docs:Nat)+(a8 Sub.cnt x.h.subs:Nat)+(x.locks.length:Nat)),bn Task.mark Task.cnt x.tasks (k+(a8 Doc.cnt x.h.docs:Nat)+(a8 Sub.cnt x.h.subs:Nat)+(x.locks.length:Nat)+(a8 Queue.cnt x.queues:Nat)),x.step⟩
def Wld.cntT(x:Wld):Nat:=a8 Doc.cnt x.h.docs+(a8 Sub.cnt x.h.subs+(x.locks.length+(a8 Queue.cnt x.queues+(a8 Task.cnt x.tasks))))
structure Rep where
 client:Int
 seq:Int
 rev:Int
 text:List Int
 has:Bool
 sent:List Part
 buf:List Part
def Rep.row(x:Rep):List CD:=[vi x.client,vi x.seq,vi x.rev,.s (x.text.map aN),.v (.bool x.has),.s (x.sent.map Part.row),.s (x.buf.map Part.row)]
def Rep.res(x:Rep):List (CD×Nat):=[(vi x.client,1),(vi x.seq,1),(vi x.rev,1),(.s (x.text.map aN),1),(.v (.bool x.has),1),(.s (x.sent.map Part.row),3),(.s (x.buf.map Part.row),3)]
@[simp] theorem Rep.row_len {x:Rep}:x.row.length=7:=rfl
def Rep.fits(x:Rep):Prop:=gR x.client/\gR x.seq/\gR x.rev/\(x.text.length<=9223372036854775807/\∀n∈x.text,gR n)/\True/\(x.sent.length<=9223372036854775807/\∀y∈x.sent,y.fits)/\(x.buf.length<=9223372036854775807/\∀y∈x.buf,y.fits)
def cE(x:Rep):Nat:=x.text.length+(nL aM x.sent+(nL aM x.buf))
noncomputable def Rep.mark(x:Rep)(k:Int):Rep:=⟨k,k+1,k+1+1,bn kY one x.text (k+1+1+1),lZ (k+1+1+1+(x.text.length:Nat)),bn Part.mark Part.cnt x.sent (k+1+1+1+(x.text.length:Nat)+1),bn Part.mark Part.cnt x.buf (k+1+1+1+(x.text.length:Nat)+1+(a8 Part.cnt x.sent:Nat))⟩
def Rep.cnt(x:Rep):Nat:=4+(x.text.length+(a8 Part.cnt x.sent+(a8 Part.cnt x.buf)))
theorem Rep.cnt_le(x:Rep):x.cnt<=11*(1+cE x):=by
 unfold Rep.cnt;have h0:=oC Part.cnt_le x.sent;have h1:=oC Part.cnt_le x.buf;simp only[cE];omega
noncomputable def Rep.markT(x:Rep)(k:Int):Rep:=⟨x.client,x.seq,x.rev,bn kY one x.text (k),x.has,bn Part.mark Part.cnt x.sent (k+(x.text.length:Nat)),bn Part.mark Part.cnt x.buf (k+(x.text.length:Nat)+(a8 Part.cnt x.sent:Nat))⟩
def Rep.cntT(x:Rep):Nat:=x.text.length+(a8 Part.cnt x.sent+(a8 Part.cnt x.buf))
structure Net where
 d:Doc
 reps:List Rep
def Net.row(x:Net):List CD:=[.v (.string x.d.name),vi x.d.fr,.s (x.d.text.map aN),.s (x.d.list.map Entry.row),.s (x.d.seen.map Seen.row),.s (x.reps.map Rep.row)]
def Net.res(x:Net):List (CD×Nat):=[(.v (.string x.d.name),1),(vi x.d.fr,1),(.s (x.d.text.map aN),1),(.s (x.d.list.map Entry.row),3),(.s (x.d.seen.map Seen.row),3),(.s (x.reps.map Rep.row),7)]
@[simp] theorem Net.row_len {x:Net}:x.row.length=6:=rfl
def Net.fits(x:Net):Prop:=x.d.fits/\(x.reps.length<=9223372036854775807/\∀y∈x.reps,y.fits)
def fj(x:Net):Nat:=cO x.d+(nL cE x.reps)
noncomputable def Net.markT(x:Net)(k:Int):Net:=⟨⟨x.d.name,x.d.fr,bn kY one x.d.text (k),bn Entry.mark Entry.cnt x.d.list (k+(x.d.text.length:Nat)),bn Seen.mark Seen.cnt x.d.seen (k+(x.d.text.length:Nat)+(a8 Entry.cnt x.d.list:Nat))⟩,bn Rep.mark Rep.cnt x.reps (k+(x.d.text.length:Nat)+(a8 Entry.cnt x.d.list:Nat)+(a8 Seen.cnt x.d.seen:Nat))⟩
def Net.cntT(x:Net):Nat:=x.d.text.length+(a8 Entry.cnt x.d.list+(a8 Seen.cnt x.d.seen+(a8 Rep.cnt x.reps)))
structure Event where
 kind:Int
 who:Int
 n:Int
 o:List Part
def Event.row(x:Event):List CD:=[vi x.kind,vi x.who,vi x.n,.s (x.o.map Part.row)]
def Event.res(x:Event):List (CD×Nat):=[(vi x.kind,1),(vi x.who,1),(vi x.n,1),(.s (x.o.map Part.row),3)]
@[simp] theorem Event.row_len {x:Event}:x.row.length=4:=rfl
def Event.fits(x:Event):Prop:=gR x.kind/\gR x.who/\gR x.n/\(x.o.length<=9223372036854775807/\∀y∈x.o,y.fits)
def mo(x:Event):Nat:=nL aM x.o
noncomputable def Event.mark(x:Event)(k:Int):Event:=⟨k,k+1,k+1+1,bn Part.mark Part.cnt x.o (k+1+1+1)⟩
def Event.cnt(x:Event):Nat:=3+(a8 Part.cnt x.o)
noncomputable def Event.markT(x:Event)(k:Int):Event:=⟨x.kind,x.who,x.n,bn Part.mark Part.cnt x.o (k)⟩
def Event.cntT(x:Event):Nat:=a8 Part.cnt x.o
structure Desk where
 h:Hub
 n:Net
def Desk.row(x:Desk):List CD:=[.v (.bool x.h.shut),.s (x.h.docs.map Doc.row),.s (x.h.subs.map Sub.row),vi x.h.last,.v (.string x.n.d.name),vi x.n.d.fr,.s (x.n.d.text.map aN),.s (x.n.d.list.map Entry.row),.s (x.n.d.seen.map Seen.row),.s (x.n.reps.map Rep.row)]
def Desk.res(x:Desk):List (CD×Nat):=[(.v (.bool x.h.shut),1),(.s (x.h.docs.map Doc.row),5),(.s (x.h.subs.map Sub.row),6),(vi x.h.last,1),(.v (.string x.n.d.name),1),(vi x.n.d.fr,1),(.s (x.n.d.text.map aN),1),(.s (x.n.d.list.map Entry.row),3),(.s (x.n.d.seen.map Seen.row),3),(.s (x.n.reps.map Rep.row),7)]
@[simp] theorem Desk.row_len {x:Desk}:x.row.length=10:=rfl
def Desk.fits(x:Desk):Prop:=x.h.fits/\x.n.fits
def gW(x:Desk):Nat:=eG x.h+(fj x.n)
noncomputable def Desk.markT(x:Desk)(k:Int):Desk:=⟨⟨x.h.shut,bn Doc.mark Doc.cnt x.h.docs (k),bn Sub.mark Sub.cnt x.h.subs (k+(a8 Doc.cnt x.h.docs:Nat)),x.h.last⟩,⟨⟨x.n.d.name,x.n.d.fr,bn kY one x.n.d.text (k+(a8 Doc.cnt x.h.docs:Nat)+(a8 Sub.cnt x.h.subs:Nat)),bn Entry.mark Entry.cnt x.n.d.list (k+(a8 Doc.cnt x.h.docs:Nat)+(a8 Sub.cnt x.h.subs:Nat)+(x.n.d.text.length:Nat)),bn Seen.mark Seen.cnt x.n.d.seen (k+(a8 Doc.cnt x.h.docs:Nat)+(a8 Sub.cnt x.h.subs:Nat)+(x.n.d.text.length:Nat)+(a8 Entry.cnt x.n.d.list:Nat))⟩,bn Rep.mark Rep.cnt x.n.reps (k+(a8 Doc.cnt x.h.docs:Nat)+(a8 Sub.cnt x.h.subs:Nat)+(x.n.d.text.length:Nat)+(a8 Entry.cnt x.n.d.list:Nat)+(a8 Seen.cnt x.n.d.seen:Nat))⟩⟩
def Desk.cntT(x:Desk):Nat:=a8 Doc.cnt x.h.docs+(a8 Sub.cnt x.h.subs+(x.n.d.text.length+(a8 Entry.cnt x.n.d.list+(a8 Seen.cnt x.n.d.seen+(a8 Rep.cnt x.n.reps)))))
theorem AD(x:Desk):x.cntT<=11*gW x:=by
 unfold Desk.cntT;have h0:=oC Doc.cnt_le x.h.docs;have h1:=oC Sub.cnt_le x.h.subs;have h2:=oC Entry.cnt_le x.n.d.list;have h3:=Gt (λa=>by have:=Seen.cnt_le a;omega) x.n.d.seen;have h4:=oC Rep.cnt_le x.n.reps;simp only[gW,eG,fj,cO];omega
theorem mix:Tryz.prog.follows .mixedOrders=true:=ai
theorem ED(l:List Int)(hl:l.length<=9223372036854775807)(left:Nat)(hf:left<=2^20):ar Tryz.prog 159 [.c (.s (l.map aN)),.c (vi left)] (.one (.c (vi (szR l.length left)) 1)):=by
 refine ar.intro' aq Tryz.func159 ai rfl rfl rfl (aj rfl) (λw0 base=>?_);exact UE
theorem Ev(l:List Int)(hl:l.length<=2^40):ar Tryz.prog 205 [.c (.s (l.map aN))] (.one (.c (.s (l.map aN)) 1)):=by
 refine ar.intro' aq Tryz.func205 ai rfl rfl rfl (aj rfl) (λw0 base=>?_);simp;refine⟨aa,λb=>?_⟩
 refine aU.intro eok (λi:Nat=>i<=l.length) (λi=>⟨22,0,[(4,.v (.int .i64 i)),(3,.sl 112 (some (b,0,l.length)) 1 0 l.length),(0,.ro (l.map aN))],
  [(112,.rows (some (b,0,l.length)) 1 (o9 aN [.v (.int .i64 0)] l i) true)]⟩) (λi=>l.length-i) 0 ab sN (λi hi=>?_)
 by_cases h:i<l.length
 ·simp[h,j7 hi]
  exact⟨i+1,aa,aa,aZ aa,nW (f:=aN) h⟩
 ·have:i=l.length:=by omega
  subst this;simp[I7,cut]
theorem Ge(a b:List Int)(hl:a.length<=2^40):ar Tryz.prog 257 [.c (.s (a.map aN)),.c (.s (b.map aN))] (.one (.c (vb (a=b)) 1)):=by
 refine ar.intro' aq Tryz.func257 ai rfl rfl rfl (aj rfl) (λw0 base=>?_);by_cases h:a.length=b.length
 ·simp[h]
  refine aU.intro eok (λi:Nat=>i<=a.length/\a.take i=b.take i) (λi=>⟨26,0,[(5,.v (.int .i64 i)),(1,.ro (b.map aN)),(0,.ro (a.map aN))],[]⟩) (λi=>a.length-i) 0 ab ab (λi hi=>?_);by_cases hlt:i<a.length
  ·simp[hlt]
   have hlt':i<b.length:=aa;refine cg.quiet eok mix ai ?_;simp[hlt,hlt'];refine Br.mk (λh1=>?_) (λh1=>?_)
   ·simp
    exact⟨i+1,⟨aa,AO hlt hlt' hi.2 (OX h1)⟩,aa,aZ aa⟩
   ·simp[eK]
    exact M0 hlt hlt' (λhe=>Vw h1 (by rw[he]))
  ·exact sV
 ·exact om
theorem tD(l:List Int)(k:Int)(h0:0<=k)(hk:k+l.length<=4611686018427387904):jS Tryz.prog 262 (.c (.s (l.map aN)) 1) k (k+l.length) (.c (.s ((bn kY one l k).map aN)) 1):=by
 refine jS.intro aq Tryz.func262 ai rfl rfl rfl ag (λw0 base=>?_);simp;intro H;refine aE eok (λi:Nat=>i<=l.length) (λi=>⟨19,0,[(5,.v (.int .i64 i)),(1,.v (.int .i64 (k+i))),(0,.ml 0 H 1 l.length)],[(0,.rows H 1 (eN kY one aN l k i) true)]⟩) (λi=>l.length-i) 0 ab (by simp[M8]) (λi hi=>Ent.refl ?_);by_cases h:i<l.length
 ·simp[h,eH]
  refine Ent.refl ⟨i+1,aa,aa,?_⟩;have e1:Go.IntKind.i64.wrap (k+(i:Int)+1)=k+((i+1:Nat):Int):=by rw[ah _ aa];omega
  have e2:Go.IntKind.i64.wrap ((i:Int)+1)=((i+1:Nat):Int):=aZ aa;simp[e1,e2];refine nR h ?_;simp[aN,Gs];omega
 ·have:i=l.length:=by omega
  subst this;simp[mq,bg]
theorem tO(l:List Int)(k:Int)(h0:0<=k)(hk:k+l.length<=4611686018427387904):ar Tryz.prog 266 [.c (.s ((bn kY one l k).map aN)),.c (vi k)] (.one (.c (vi (k+l.length)) 1)):=by
 refine ar.intro' aq Tryz.func266 ai rfl rfl rfl (aj rfl) (λw0 base=>?_);simp;refine aU.intro eok (λi:Nat=>i<=l.length) (λi=>⟨21,0,[(5,.v (.int .i64 i)),(1,.v (.int .i64 (k+i))),(0,.ro ((bn kY one l k).map aN))],[]⟩) (λi=>l.length-i) 0 ab ab (λi hi=>?_);by_cases h:i<l.length
 ·have e1:Go.IntKind.i64.wrap (k+(i:Int)+1)=k+((i+1:Nat):Int):=by rw[ah _ aa];omega
  have e2:Go.IntKind.i64.wrap ((i:Int)+1)=((i+1:Nat):Int):=aZ aa
  have hm:(bn kY one l k)[i]'(by rw[bg];exact h)=k+i:=by
   rw[mr h,Gs,gk,oZ aa]
  simp[h,bg,hm];refine⟨i+1,aa,aa,?_,?_⟩
  ·exact e2
  ·exact e1
 ·exact sY
end Go.Proofs.YtdeimojjhhdeaaaGreatDoor
