import Derived.Test.YtmfcmlldnjffeaaMG
import Derived.Test.YtmfcmlldnjffeaaRows
import Derived.Test.YtmfcmlldnjffeaaME
import Derived.IntWalk
import Derived.ProofKit
import Derived.Deep.Slices
import Derived.Test.YtmfcmlldnjffeaaMF
namespace Go.Proofs.Ytmfcmlldnjffeaa
open Go.AM
def ti2:TI:={ n:=1,zero:=[.v (.int .i64 0)],bytes:=8,kind:=some .i64 }
def ti3:TI:={ n:=1,zero:=[.v (.int .i64 0)],bytes:=8,kind:=some .i64 }
def ti4:TI:={ n:=1,zero:=[.v (.bool false)],bytes:=1,boo:=true }
def ti5:TI:={ n:=1,zero:=[.v (.int .u8 0)],bytes:=1,kind:=some .u8 }
def ti6:TI:={ n:=1,zero:=[.v (.int .u8 0)],bytes:=1,kind:=some .u8 }
def ti7:TI:={ agg:=true,n:=4,zero:=[.v (.int .i64 0),.v (.int .i64 0),.v (.bool false),.v (.int .u8 0)],fields:=[(0,1),(1,1),(2,1),(3,1)],fagg:=[false,false,false,false],bytes:=24,pln:=true }
def ti8:TI:={ agg:=true,n:=4,zero:=[.v (.int .i64 0),.v (.int .i64 0),.v (.bool false),.v (.int .u8 0)],fields:=[(0,1),(1,1),(2,1),(3,1)],fagg:=[false,false,false,false],bytes:=24,pln:=true }
def ti9:TI:={ n:=1,zero:=[.v (.string ⟨#[]⟩)],bytes:=16,str:=true }
def wQ:TI:={ n:=1,zero:=[.v (.string ⟨#[]⟩)],bytes:=16,str:=true }
def wP:TI:={ n:=1,zero:=[.v (.string ⟨#[]⟩)],bytes:=16,str:=true }
def wN:TI:={ n:=1,zero:=[.v (.int .u64 0)],bytes:=8,kind:=some .u64 }
def wM:TI:={ agg:=true,n:=2,zero:=[.v (.string ⟨#[]⟩),.v (.int .u64 0)],fields:=[(0,1),(1,1)],fagg:=[false,false],bytes:=24,pln:=true }
def wL:TI:={ agg:=true,n:=2,zero:=[.v (.string ⟨#[]⟩),.v (.int .u64 0)],fields:=[(0,1),(1,1)],fagg:=[false,false],bytes:=24,pln:=true }
def wK:TI:={ n:=1,zero:=[.v (.int .i32 0)],bytes:=4,kind:=some .i32 }
def wJ:TI:={ n:=1,zero:=[.nil],sl:=some 103,bytes:=24,pln:=false }
def wI:TI:={ n:=1,zero:=[.nil],sl:=some 108,bytes:=24,pln:=false }
def wH:TI:={ agg:=true,n:=4,zero:=[.v (.bool false),.nil,.nil,.v (.int .i64 0)],fields:=[(0,1),(1,1),(2,1),(3,1)],fagg:=[false,false,false,false],bytes:=64,pln:=false }
def wG:TI:={ agg:=true,n:=4,zero:=[.v (.bool false),.nil,.nil,.v (.int .i64 0)],fields:=[(0,1),(1,1),(2,1),(3,1)],fagg:=[false,false,false,false],bytes:=64,pln:=false }
def wD:TI:={ n:=1,zero:=[.nil],sl:=some 3,bytes:=24,pln:=false }
def wC:TI:={ n:=1,zero:=[.nil],sl:=some 74,bytes:=24,pln:=false }
def wB:TI:={ n:=1,zero:=[.nil],sl:=some 83,bytes:=24,pln:=false }
def wA:TI:={ agg:=true,n:=8,zero:=[.v (.bool false),.nil,.nil,.v (.int .i64 0),.nil,.nil,.nil,.v (.int .i64 0)],fields:=[(0,4),(4,1),(5,1),(6,1),(7,1)],fagg:=[true,false,false,false,false],bytes:=144,pln:=false }
def wz:TI:={ agg:=true,n:=8,zero:=[.v (.bool false),.nil,.nil,.v (.int .i64 0),.nil,.nil,.nil,.v (.int .i64 0)],fields:=[(0,4),(4,1),(5,1),(6,1),(7,1)],fagg:=[true,false,false,false,false],bytes:=144,pln:=false }
def wy:TI:={ n:=1,zero:=[.nil],sl:=some 113,bytes:=24,pln:=false }
def wx:TI:={ n:=1,zero:=[.nil],sl:=some 118,bytes:=24,pln:=false }
def ww:TI:={ agg:=true,n:=4,zero:=[.v (.bool false),.nil,.nil,.v (.int .i64 0)],fields:=[(0,1),(1,1),(2,1),(3,1)],fagg:=[false,false,false,false],bytes:=64,pln:=false }
def wv:TI:={ agg:=true,n:=4,zero:=[.v (.bool false),.nil,.nil,.v (.int .i64 0)],fields:=[(0,1),(1,1),(2,1),(3,1)],fagg:=[false,false,false,false],bytes:=64,pln:=false }
def wu:TI:={ n:=1,zero:=[.nil],sl:=some 86,bytes:=24,pln:=false }
def wt:TI:={ n:=1,zero:=[.nil],sl:=some 57,bytes:=24,pln:=false }
def wr:TI:={ agg:=true,n:=8,zero:=[.v (.bool false),.nil,.nil,.v (.int .i64 0),.nil,.nil,.nil,.v (.int .i64 0)],fields:=[(0,4),(4,1),(5,1),(6,1),(7,1)],fagg:=[true,false,false,false,false],bytes:=144,pln:=false }
def wq:TI:={ agg:=true,n:=8,zero:=[.v (.bool false),.nil,.nil,.v (.int .i64 0),.nil,.nil,.nil,.v (.int .i64 0)],fields:=[(0,4),(4,1),(5,1),(6,1),(7,1)],fagg:=[true,false,false,false,false],bytes:=144,pln:=false }
def wo:TI:={ n:=1,zero:=[.nil],sl:=some 131,bytes:=24,pln:=false }
def wl:TI:={ agg:=true,n:=7,zero:=[.v (.int .i64 0),.v (.string ⟨#[]⟩),.v (.int .i64 0),.v (.int .i64 0),.v (.int .i64 0),.nil,.nil],fields:=[(0,1),(1,1),(2,1),(3,1),(4,1),(5,1),(6,1)],fagg:=[false,false,false,false,false,false,false],bytes:=96,pln:=false }
def wk:TI:={ agg:=true,n:=7,zero:=[.v (.int .i64 0),.v (.string ⟨#[]⟩),.v (.int .i64 0),.v (.int .i64 0),.v (.int .i64 0),.nil,.nil],fields:=[(0,1),(1,1),(2,1),(3,1),(4,1),(5,1),(6,1)],fagg:=[false,false,false,false,false,false,false],bytes:=96,pln:=false }
def wj:TI:={ n:=1,zero:=[.nil],sl:=some 133,bytes:=24,pln:=false }
def wi:TI:={ agg:=true,n:=4,zero:=[.v (.int .i64 0),.v (.int .i64 0),.nil,.nil],fields:=[(0,1),(1,1),(2,1),(3,1)],fagg:=[false,false,false,false],bytes:=64,pln:=false }
def wh:TI:={ agg:=true,n:=4,zero:=[.v (.int .i64 0),.v (.int .i64 0),.nil,.nil],fields:=[(0,1),(1,1),(2,1),(3,1)],fagg:=[false,false,false,false],bytes:=64,pln:=false }
def we:TI:={ agg:=true,n:=15,zero:=[.v (.int .i64 0),.v (.string ⟨#[]⟩),.v (.int .i64 0),.v (.int .i64 0),.v (.int .i64 0),.nil,.nil,.v (.int .i64 0),.v (.int .i64 0),.v (.int .i64 0),.v (.int .i64 0),.v (.int .i64 0),.v (.int .i64 0),.nil,.nil],fields:=[(0,7),(7,1),(8,1),(9,1),(10,1),(11,4)],fagg:=[true,false,false,false,false,true],bytes:=192,pln:=false }
def wd:TI:={ agg:=true,n:=15,zero:=[.v (.int .i64 0),.v (.string ⟨#[]⟩),.v (.int .i64 0),.v (.int .i64 0),.v (.int .i64 0),.nil,.nil,.v (.int .i64 0),.v (.int .i64 0),.v (.int .i64 0),.v (.int .i64 0),.v (.int .i64 0),.v (.int .i64 0),.nil,.nil],fields:=[(0,7),(7,1),(8,1),(9,1),(10,1),(11,4)],fagg:=[true,false,false,false,false,true],bytes:=192,pln:=false }
def wc:TI:={ agg:=true,n:=2,zero:=[.v (.string ⟨#[]⟩),.nil],fields:=[(0,1),(1,1)],fagg:=[false,false],bytes:=40,pln:=false }
def v9:TI:={ agg:=true,n:=2,zero:=[.v (.string ⟨#[]⟩),.nil],fields:=[(0,1),(1,1)],fagg:=[false,false],bytes:=40,pln:=false }
def v8:TI:={ n:=1,zero:=[.nil],sl:=some 153,bytes:=24,pln:=false }
def v7:TI:={ agg:=true,n:=7,zero:=[.v (.int .i64 0),.v (.string ⟨#[]⟩),.v (.int .i64 0),.v (.int .i64 0),.v (.int .i64 0),.nil,.nil],fields:=[(0,1),(1,1),(2,1),(3,1),(4,1),(5,1),(6,1)],fagg:=[false,false,false,false,false,false,false],bytes:=96,pln:=false }
def v6:TI:={ agg:=true,n:=7,zero:=[.v (.int .i64 0),.v (.string ⟨#[]⟩),.v (.int .i64 0),.v (.int .i64 0),.v (.int .i64 0),.nil,.nil],fields:=[(0,1),(1,1),(2,1),(3,1),(4,1),(5,1),(6,1)],fagg:=[false,false,false,false,false,false,false],bytes:=96,pln:=false }
def v5:TI:={ n:=1,zero:=[.nil],sl:=some 151,bytes:=24,pln:=false }
def v4:TI:={ agg:=true,n:=4,zero:=[.v (.int .i64 0),.v (.int .i64 0),.nil,.nil],fields:=[(0,1),(1,1),(2,1),(3,1)],fagg:=[false,false,false,false],bytes:=64,pln:=false }
def v3:TI:={ agg:=true,n:=4,zero:=[.v (.int .i64 0),.v (.int .i64 0),.nil,.nil],fields:=[(0,1),(1,1),(2,1),(3,1)],fagg:=[false,false,false,false],bytes:=64,pln:=false }
def v2:TI:={ agg:=true,n:=15,zero:=[.v (.int .i64 0),.v (.string ⟨#[]⟩),.v (.int .i64 0),.v (.int .i64 0),.v (.int .i64 0),.nil,.nil,.v (.int .i64 0),.v (.int .i64 0),.v (.int .i64 0),.v (.int .i64 0),.v (.int .i64 0),.v (.int .i64 0),.nil,.nil],fields:=[(0,7),(7,1),(8,1),(9,1),(10,1),(11,4)],fagg:=[true,false,false,false,false,true],bytes:=192,pln:=false }
def vZ:TI:={ agg:=true,n:=15,zero:=[.v (.int .i64 0),.v (.string ⟨#[]⟩),.v (.int .i64 0),.v (.int .i64 0),.v (.int .i64 0),.nil,.nil,.v (.int .i64 0),.v (.int .i64 0),.v (.int .i64 0),.v (.int .i64 0),.v (.int .i64 0),.v (.int .i64 0),.nil,.nil],fields:=[(0,7),(7,1),(8,1),(9,1),(10,1),(11,4)],fagg:=[true,false,false,false,false,true],bytes:=192,pln:=false }
def vY:TI:={ agg:=true,n:=2,zero:=[.v (.string ⟨#[]⟩),.nil],fields:=[(0,1),(1,1)],fagg:=[false,false],bytes:=40,pln:=false }
def qk:TI:={ n:=1,zero:=[.nil],sl:=some 156,bytes:=24,pln:=false }
def qj:TI:={ agg:=true,n:=5,zero:=[.v (.string ⟨#[]⟩),.v (.int .i64 0),.nil,.nil,.nil],fields:=[(0,1),(1,1),(2,1),(3,1),(4,1)],fagg:=[false,false,false,false,false],bytes:=96,pln:=false }
def qi:TI:={ agg:=true,n:=5,zero:=[.v (.string ⟨#[]⟩),.v (.int .i64 0),.nil,.nil,.nil],fields:=[(0,1),(1,1),(2,1),(3,1),(4,1)],fagg:=[false,false,false,false,false],bytes:=96,pln:=false }
def qg:TI:={ agg:=true,n:=4,zero:=[.v (.int .i64 0),.v (.int .i64 0),.v (.bool false),.nil],fields:=[(0,1),(1,1),(2,1),(3,1)],fagg:=[false,false,false,false],bytes:=48,pln:=false }
def qf:TI:={ agg:=true,n:=4,zero:=[.v (.int .i64 0),.v (.int .i64 0),.v (.bool false),.nil],fields:=[(0,1),(1,1),(2,1),(3,1)],fagg:=[false,false,false,false],bytes:=48,pln:=false }
def qe:TI:={ agg:=true,n:=6,zero:=[.v (.int .i64 0),.v (.string ⟨#[]⟩),.v (.int .i64 0),.v (.int .i64 0),.v (.bool false),.nil],fields:=[(0,1),(1,1),(2,4)],fagg:=[false,false,true],bytes:=72,pln:=false }
def qd:TI:={ agg:=true,n:=6,zero:=[.v (.int .i64 0),.v (.string ⟨#[]⟩),.v (.int .i64 0),.v (.int .i64 0),.v (.bool false),.nil],fields:=[(0,1),(1,1),(2,4)],fagg:=[false,false,true],bytes:=72,pln:=false }
def qc:TI:={ n:=1,zero:=[.nil],sl:=some 148,bytes:=24,pln:=false }
def qb:TI:={ agg:=true,n:=5,zero:=[.v (.string ⟨#[]⟩),.v (.int .i64 0),.nil,.nil,.nil],fields:=[(0,1),(1,1),(2,1),(3,1),(4,1)],fagg:=[false,false,false,false,false],bytes:=96,pln:=false }
def qa:TI:={ agg:=true,n:=5,zero:=[.v (.string ⟨#[]⟩),.v (.int .i64 0),.nil,.nil,.nil],fields:=[(0,1),(1,1),(2,1),(3,1),(4,1)],fagg:=[false,false,false,false,false],bytes:=96,pln:=false }
def p9:TI:={ agg:=true,n:=4,zero:=[.v (.int .i64 0),.v (.int .i64 0),.v (.bool false),.nil],fields:=[(0,1),(1,1),(2,1),(3,1)],fagg:=[false,false,false,false],bytes:=48,pln:=false }
def p8:TI:={ agg:=true,n:=4,zero:=[.v (.int .i64 0),.v (.int .i64 0),.v (.bool false),.nil],fields:=[(0,1),(1,1),(2,1),(3,1)],fagg:=[false,false,false,false],bytes:=48,pln:=false }
def p7:TI:={ agg:=true,n:=6,zero:=[.v (.int .i64 0),.v (.string ⟨#[]⟩),.v (.int .i64 0),.v (.int .i64 0),.v (.bool false),.nil],fields:=[(0,1),(1,1),(2,4)],fagg:=[false,false,true],bytes:=72,pln:=false }
def p6:TI:={ agg:=true,n:=6,zero:=[.v (.int .i64 0),.v (.string ⟨#[]⟩),.v (.int .i64 0),.v (.int .i64 0),.v (.bool false),.nil],fields:=[(0,1),(1,1),(2,4)],fagg:=[false,false,true],bytes:=72,pln:=false }
def p5:TI:={ n:=1,zero:=[.nil],sl:=some 5,bytes:=24,pln:=false }
def p4:TI:={ agg:=true,n:=3,zero:=[.v (.int .i64 0),.v (.int .i64 0),.nil],fields:=[(0,1),(1,1),(2,1)],fagg:=[false,false,false],bytes:=40,pln:=false }
def p0:TI:={ agg:=true,n:=3,zero:=[.v (.int .i64 0),.v (.int .i64 0),.nil],fields:=[(0,1),(1,1),(2,1)],fagg:=[false,false,false],bytes:=40,pln:=false }
def pZ:TI:={ agg:=true,n:=3,zero:=[.v (.int .i64 0),.v (.int .i64 0),.nil],fields:=[(0,1),(1,1),(2,1)],fagg:=[false,false,false],bytes:=40,pln:=false }
def pY:TI:={ agg:=true,n:=3,zero:=[.v (.int .i64 0),.v (.int .i64 0),.nil],fields:=[(0,1),(1,1),(2,1)],fagg:=[false,false,false],bytes:=40,pln:=false }
def pX:TI:={ n:=1,zero:=[.v (.int .u64 0)],bytes:=8,kind:=some .u64 }
def pW:TI:={ agg:=true,n:=3,zero:=[.v (.int .i64 0),.v (.int .i64 0),.v (.int .i64 0)],fields:=[(0,1),(1,1),(2,1)],fagg:=[false,false,false],bytes:=24,pln:=true,ieq:=true }
def pV:TI:={ agg:=true,n:=3,zero:=[.v (.int .i64 0),.v (.int .i64 0),.v (.int .i64 0)],fields:=[(0,1),(1,1),(2,1)],fagg:=[false,false,false],bytes:=24,pln:=true,ieq:=true }
def pU:TI:={ agg:=true,n:=3,zero:=[.v (.int .i64 0),.v (.int .i64 0),.nil],fields:=[(0,1),(1,1),(2,1)],fagg:=[false,false,false],bytes:=40,pln:=false }
def pT:TI:={ agg:=true,n:=3,zero:=[.v (.int .i64 0),.v (.int .i64 0),.nil],fields:=[(0,1),(1,1),(2,1)],fagg:=[false,false,false],bytes:=40,pln:=false }
def pS:TI:={ agg:=true,n:=3,zero:=[.v (.int .i64 0),.v (.int .i64 0),.nil],fields:=[(0,1),(1,1),(2,1)],fagg:=[false,false,false],bytes:=40,pln:=false }
def pR:TI:={ agg:=true,n:=3,zero:=[.v (.int .i64 0),.v (.int .i64 0),.v (.int .i64 0)],fields:=[(0,1),(1,1),(2,1)],fagg:=[false,false,false],bytes:=24,pln:=true,ieq:=true }
def pQ:TI:={ n:=1,zero:=[.v (.int .u32 0)],bytes:=4,kind:=some .u32 }
def pP:TI:={ n:=1,zero:=[.v (.int .u8 0)],bytes:=1,kind:=some .u8 }
def pO:TI:={ n:=1,zero:=[.v (.int .u8 0)],bytes:=1,kind:=some .u8 }
def pN:TI:={ n:=1,zero:=[.v (.int .i32 0)],bytes:=4,kind:=some .i32 }
def pM:TI:={ n:=1,zero:=[.v (.int .i32 0)],bytes:=4,kind:=some .i32 }
def zw:List (Nat×TI):=[(2,ti2),(3,ti3),(4,ti4),(5,ti5),(6,ti6),(7,ti7),(8,ti8),(9,ti9),(10,wQ),(11,wP),(12,wN),(13,wM),(14,wL),(21,wK),(22,wJ),(23,wI),(24,wH),(25,wG),(26,wD),(27,wC),(28,wB),(29,wA),(30,wz),(33,wy),(34,wx),(35,ww),(36,wv),(37,wu),(38,wt),(39,wr),(40,wq),(50,wo),(51,wl),(52,wk),(53,wj),(54,wi),(55,wh),(56,we),(57,wd),(73,wc),(74,v9),(76,v8),(77,v7),(78,v6),(79,v5),(80,v4),(81,v3),(82,v2),(83,vZ),(86,vY),(101,qk),(102,qj),(103,qi),(105,qg),(106,qf),(107,qe),(108,qd),(111,qc),(112,qb),(113,qa),(115,p9),(116,p8),(117,p7),(118,p6),(129,p5),(130,p4),(131,p0),(132,pZ),(133,pY),(142,pX),(147,pW),(148,pV),(150,pU),(151,pT),(153,pS),(156,pR),(168,pQ),(169,pP),(170,pO),(173,pN),(174,pM)]
def tt:Nat->Option TI:=kK zw
theorem CP:tt 2=some ti2:=rfl
theorem CO:tt 3=some ti3:=rfl
theorem CN:tt 4=some ti4:=rfl
theorem CM:tt 5=some ti5:=rfl
theorem CL:tt 6=some ti6:=rfl
theorem CK:tt 7=some ti7:=rfl
theorem CJ:tt 8=some ti8:=rfl
theorem CI:tt 9=some ti9:=rfl
theorem Ad:tt 10=some wQ:=rfl
theorem Ac:tt 11=some wP:=rfl
theorem Ab:tt 12=some wN:=rfl
theorem Aa:tt 13=some wM:=rfl
theorem z9:tt 14=some wL:=rfl
theorem z8:tt 21=some wK:=rfl
theorem z7:tt 22=some wJ:=rfl
theorem z6:tt 23=some wI:=rfl
theorem z5:tt 24=some wH:=rfl
theorem z4:tt 25=some wG:=rfl
theorem z3:tt 26=some wD:=rfl
theorem z2:tt 27=some wC:=rfl
theorem z0:tt 28=some wB:=rfl
theorem zZ:tt 29=some wA:=rfl
theorem zY:tt 30=some wz:=rfl
theorem zX:tt 33=some wy:=rfl
theorem zW:tt 34=some wx:=rfl
theorem zV:tt 35=some ww:=rfl
theorem zU:tt 36=some wv:=rfl
theorem zT:tt 37=some wu:=rfl
theorem zS:tt 38=some wt:=rfl
theorem zR:tt 39=some wr:=rfl
theorem zQ:tt 40=some wq:=rfl
theorem zP:tt 50=some wo:=rfl
theorem zO:tt 51=some wl:=rfl
theorem zN:tt 52=some wk:=rfl
theorem zM:tt 53=some wj:=rfl
theorem zL:tt 54=some wi:=rfl
theorem zK:tt 55=some wh:=rfl
theorem zJ:tt 56=some we:=rfl
theorem zI:tt 57=some wd:=rfl
theorem zH:tt 73=some wc:=rfl
theorem zG:tt 74=some v9:=rfl
theorem zF:tt 76=some v8:=rfl
theorem zE:tt 77=some v7:=rfl
theorem zD:tt 78=some v6:=rfl
theorem zC:tt 79=some v5:=rfl
theorem zB:tt 80=some v4:=rfl
theorem zA:tt 81=some v3:=rfl
theorem zz:tt 82=some v2:=rfl
theorem zy:tt 83=some vZ:=rfl
theorem zx:tt 86=some vY:=rfl
theorem vT:tt 101=some qk:=rfl
theorem vS:tt 102=some qj:=rfl
theorem vR:tt 103=some qi:=rfl
theorem vQ:tt 105=some qg:=rfl
theorem vP:tt 106=some qf:=rfl
theorem vO:tt 107=some qe:=rfl
theorem vN:tt 108=some qd:=rfl
theorem vM:tt 111=some qc:=rfl
theorem vL:tt 112=some qb:=rfl
theorem vK:tt 113=some qa:=rfl
theorem vJ:tt 115=some p9:=rfl
theorem vI:tt 116=some p8:=rfl
theorem vH:tt 117=some p7:=rfl
theorem vG:tt 118=some p6:=rfl
theorem vF:tt 129=some p5:=rfl
theorem vE:tt 130=some p4:=rfl
theorem vD:tt 131=some p0:=rfl
theorem vC:tt 132=some pZ:=rfl
theorem vB:tt 133=some pY:=rfl
theorem vA:tt 142=some pX:=rfl
theorem vz:tt 147=some pW:=rfl
theorem vy:tt 148=some pV:=rfl
theorem vx:tt 150=some pU:=rfl
theorem vw:tt 151=some pT:=rfl
theorem vv:tt 153=some pS:=rfl
theorem vu:tt 156=some pR:=rfl
theorem vr:tt 168=some pQ:=rfl
theorem vq:tt 169=some pP:=rfl
theorem vp:tt 170=some pO:=rfl
theorem vo:tt 173=some pN:=rfl
theorem vn:tt 174=some pM:=rfl
theorem s6:(zw.all λp=>gI Try.prog p.1 p.2)=true:=by kernel_rfl
theorem an:∀ t ti,tt t=some ti->TIok Try.prog t ti:=ql s6
theorem eok {w0:World} {F G:Nat->Prop} {l:Bool}:EOk ⟨Try.prog,tt,w0,⟨F,G,l,λ_=>True⟩⟩:=⟨an,λ_ _=>trivial⟩
attribute [simp] ti2 ti3 ti4 ti5 ti6 ti7 ti8 ti9 wQ wP wN wM wL wK wJ wI wH wG wD wC wB wA wz wy wx ww wv wu wt wr wq wo wl wk wj wi wh we wd wc v9 v8 v7 v6 v5 v4 v3 v2 vZ vY qk qj qi qg qf qe qd qc qb qa p9 p8 p7 p6 p5 p4 p0 pZ pY pX pW pV pU pT pS pR pQ pP pO pN pM CP CO CN CM CL CK CJ CI Ad Ac Ab Aa z9 z8 z7 z6 z5 z4 z3 z2 z0 zZ zY zX zW zV zU zT zS zR zQ zP zO zN zM zL zK zJ zI zH zG zF zE zD zC zB zA zz zy zx vT vS vR vQ vP vO vN vM vL vK vJ vI vH vG vF vE vD vC vB vA vz vy vx vw vv vu vr vq vp vo vn
end Go.Proofs.Ytmfcmlldnjffeaa
namespace Go.AM
abbrev vi (n:Int):CD:=.v (.int .i64 n)
noncomputable abbrev vb (p:Prop):CD:=.v (.bool (dc p))
abbrev aw (n:Int):List CD:=[vi n]
theorem bW {α:Type} {a b:List α} {i:Nat} (h:i<a.length) (h':i<b.length) (ht:a.take i=b.take i) (he:a[i]=b[i]):a.take (i+1)=b.take (i+1):=by
 rw [<- List.take_append_getElem h,<- List.take_append_getElem h',ht,he]
theorem cz {α:Type} {a b:List α} {i:Nat} (h:a.length<=i) (hl:a.length=b.length) (ht:a.take i=b.take i):a=b:=by
 rwa [List.take_of_length_le h,List.take_of_length_le (by omega)] at ht
theorem ge {α:Type} {a b:List α} {i:Nat} (h:i<a.length) (h':i<b.length) (he:a[i]≠b[i]):a≠b:=by
 rintro rfl;exact he rfl
theorem eC {n:Nat} (h:n<=9223372036854775807):Go.IntKind.i64.wrap (n:Int)=n:=Go.IntWalk.i64_in _ (by omega)
theorem ar {n:Nat} (h:n<9223372036854775807):Go.IntKind.i64.wrap ((n:Int)+1)=((n+1:Nat):Int):=by rw [Go.IntWalk.i64_in _ (by omega)];omega
@[simp] theorem CR {a b:Nat}:((a:Int)+(b:Int)).toNat=a+b:=by omega
@[simp] theorem CQ {a n : Nat} : ((a : Int) + (OfNat.ofNat n : Int)).toNat = a + n := by
  show ((a:Int)+((n:Nat):Int)).toNat=a+n
  omega
@[simp] theorem C7 {a b:Nat}:(0:Int)<=(a:Int)+(b:Int):=by omega
@[simp] theorem C6 {a n : Nat} : (0 : Int) <= (a : Int) + (OfNat.ofNat n : Int) := by
  show (0:Int)<=(a:Int)+((n:Nat):Int)
  omega
@[simp] theorem Cn {α:Type} {f:α->List CD} {l:List α}:cut (l.map f) 0 l.length=l.map f:=nr (by simp)
attribute [simp] nr
@[simp] theorem Cm {n:Nat}:((n:Int)<0)=False:=by simp
open Go.RowKit Go.WideShapes Go.ChangeShapes
def il (P:Program):Nat->List Field->Option Nat
 |o,[]=>some o
 |o,f::fs=>if f.offset=o then il P (o+P.cellsOf f.type) fs else none
def okT (P:Program):Nat->TypeId->Bool
 |0,_=>false
 | D + 1, t => match P.underlying t with
   |some .bool=>true
   |some (.int _)=>true
   |some .string=>true
   |some (.slice e)=>decide (0<P.cellsOf e) && okT P D e
   |some (.struct fs)=>(il P 0 fs.toList == some (P.cellsOf t)) && fs.toList.all λf=>okT P D f.type
   |_=>false
def aV (P:Program):Nat->TypeId->List CD->Prop
 |0,_,_=>False
 | D + 1, t, ds => match P.underlying t with
   |some .bool=>∃ b,ds=[.v (.bool b)]
   |some (.int k)=>∃ n,ds=[.v (.int k n)]/\(Lit.int k n).wf=true
   |some .string=>∃ s:ByteArray,ds=[.v (.string s)]/\s.size<=maxLen
   |some (.slice e)=>∃ rows,ds=[.s rows]/\rows.length<=maxLen/\∀ row∈rows,row.length=P.cellsOf e/\aV P D e row
   |some (.struct fs)=>ds.length=P.cellsOf t/\∀ f∈fs.toList,aV P D f.type ((ds.drop f.offset).take (P.cellsOf f.type))
   |_=>False
def dy (w:World) (cs:List Value) (ds:List CD):Prop:=ds.length=cs.length/\∀ (j:Nat) (u:Value) (d:CD),cs[j]? = some u->ds[j]? = some d->Rd w false (λ_=>True) u d
theorem dy.one {w:World} {u:Value} {d:CD} (h:Rd w false (λ_=>True) u d):dy w [u] [d]:=by
 refine ⟨rfl,λj u' d' hu hd=>?_⟩
 cases j with
 |zero=>simp at hu hd;subst hu;subst hd;exact h
 |succ j=>simp at hu
theorem fg {P:Program} {w:World} {D:Nat} {cs:List Value}:∀ (fs:List Field) (o m:Nat),il P o fs=some m -> m <= cs.length ->
 (∀ f ∈ fs,∃ ds,dy w ((cs.drop f.offset).take (P.cellsOf f.type)) ds /\ aV P D f.type ds) ->
 ∃ ds,o<=m/\dy w ((cs.drop o).take (m - o)) ds/\∀ f∈fs,o<=f.offset/\aV P D f.type ((ds.drop (f.offset - o)).take (P.cellsOf f.type))
 | [], o, m, hc, _, _ => by
   simp only [il,Option.some.injEq] at hc;subst hc;exact ⟨[],Nat.le_refl _,by simp [dy],by simp⟩
 | f :: fs, o, m, hc, hm, hx => by
   simp only [il] at hc
   split at hc
   ·rename_i ho
    obtain ⟨ds,h1,h2,h3⟩:=fg fs _ m hc hm (λg hg=>hx g (List.mem_cons_of_mem _ hg));obtain ⟨d1,h4,h5⟩:=hx f (List.mem_cons_self ..);have hl:d1.length=P.cellsOf f.type:=by rw [h4.1];simp;omega
    refine ⟨d1++ds,by omega,⟨?_,λj u d hu hd=>?_⟩,λg hg=>?_⟩
    ·have:=h2.1
     simp at this ⊢;omega
    ·by_cases hj:j<P.cellsOf f.type
     ·rw [List.getElem?_append_left (by omega)] at hd
      refine h4.2 j u d ?_ hd;rw [List.getElem?_take,if_pos hj,ho];rw [List.getElem?_take] at hu
      split at hu
      ·exact hu
      ·simp at hu
     ·rw [List.getElem?_append_right (by omega),hl] at hd
      refine h2.2 _ u d ?_ hd;rw [List.getElem?_take] at hu ⊢
      split at hu
      ·rw [if_pos (by omega)]
       rw [List.getElem?_drop] at hu ⊢;rw [<- hu]
       congr 1
       omega
      ·simp at hu
    ·rcases List.mem_cons.1 hg with rfl|hg
     ·refine ⟨by omega,?_⟩
      rw [ho,Nat.sub_self,List.drop_zero,List.take_append_of_le_length (by omega),List.take_of_length_le (by omega)];exact h5
     ·obtain ⟨h6,h7⟩:=h3 g hg
      refine ⟨by omega,?_⟩
      have:(d1++ds).drop (g.offset - o)=ds.drop (g.offset - (o+P.cellsOf f.type)):=by
       rw [List.drop_append,List.drop_of_length_le (by omega),hl,List.nil_append]
       congr 1
       omega
      rw [this];exact h7
   ·simp at hc
theorem od {H:Type} {enc:TypeId×Value->H} {P:Program} {w:World} {base:Nat} {spare:Nat->Bool} {held:Bool} :
 ∀ (D:Nat) (t:TypeId) (cs:List Value) (x:DataW H×List MemPlace) (fuel:Nat),okT P D t=true->DataW.trod enc P w base spare held fuel t cs=some x->∃ ds,dy w cs ds/\aV P D t ds:=by
 intro D
 induction D with
 |zero=>intro t cs x fuel h;simp [okT] at h
 | succ D ih =>
   intro t cs x fuel hok h;unfold okT at hok
   split at hok
   ·rename_i hu
    obtain ⟨b,rfl,-⟩:=DataW.trod_bool hu h;exact ⟨[.v (.bool b)],dy.one (.plain rfl),by simp [aV,hu]⟩
   ·rename_i k hu
    obtain ⟨n,rfl,-,hw⟩:=DataW.trod_int hu h;exact ⟨[.v (.int k n)],dy.one (.plain rfl),by simp [aV,hu,hw]⟩
   ·rename_i hu
    obtain ⟨s,rfl,-,hs⟩:=DataW.trod_string hu h;exact ⟨[.v (.string s)],dy.one (.plain rfl),by simp [aV,hu,hs]⟩
   ·rename_i e hu
    simp only [Bool.and_eq_true,decide_eq_true_eq] at hok;obtain ⟨hpos,hok⟩:=hok;rcases DataW.trod_slice hu h with ⟨rfl,-⟩|⟨a,len,cap,elems,rest,n,-,rfl,-,-,hlc,hcm,hel,hi,-⟩
    ·exact ⟨[.s []],dy.one (.empty _ _ (λh=>by simp at h)),by simp [aV,hu]⟩
    ·have each:∀ i,i<len->∃ p:List Value×List CD,w.cells? base (a.add (i*P.cellsOf e)) (P.cellsOf e)=some p.1/\dy w p.1 p.2/\aV P D e p.2:=by
      intro i hlt;have h1:=hi i hlt;rw [List.getElem?_eq_getElem (by omega)] at h1;obtain ⟨c,h2,h3⟩:=Option.bind_eq_some_iff.1 h1;obtain ⟨ds,h4,h5⟩:=ih e c _ n hok h3;exact ⟨(c,ds),h2,h4,h5⟩
     by_cases hl0:len=0
     ·subst hl0
      exact ⟨[.s []],dy.one (.empty _ _ (λh=>by simp at h)),by simp [aV,hu]⟩
     ·obtain ⟨f,hf⟩:=Go.Deep.choose_lt each
      have cell:∀ i j,i<len->j<P.cellsOf e->w.cell? (a.add (i*P.cellsOf e+j))=(f i).1[j]?/\(f i).1.length=P.cellsOf e:=by
       intro i j hlt hj;obtain ⟨-,h2,h3⟩:=World.cells?_some (hf i hlt).1;exact ⟨by rw [<- h3 j hj,Go.Deep.add_add],h2⟩
      obtain ⟨b,off,spot⟩:=a
      have hb:∃ cs T fr,w.heap[b]? = some (.cells cs T fr)/\spot=none:=by
       obtain ⟨h1,h2⟩:=cell 0 0 (by omega) hpos;rw [List.getElem?_eq_getElem (by omega)] at h1;unfold World.cell? at h1;rw [block_add] at h1
       split at h1
       ·rename_i c T fr hh
        refine ⟨c,T,fr,hh,?_⟩
        cases spot with
        |none=>rfl
        |some s=>simp [Addr.add] at h1
       ·simp at h1
      obtain ⟨c,T,fr,hb,rfl⟩:=hb
      have at':∀ i j,i<len->j<P.cellsOf e->c[off+(i*P.cellsOf e+j)]? = (f i).1[j]?:=by
       intro i j hlt hj;rw [<- (cell i j hlt hj).1,aR];simp [World.cell?,hb]
      have hrows:((List.range len).map λi=>(f i).2).length=len:=by simp
      have hrd:=Rd.slice (w:=w) (x:=false) (S:=λ_=>True) b off cap (P.cellsOf e) c T fr ((List.range len).map λi=>(f i).2) (λ_ _ _=>True)
       (by rw [hrows];exact hlc) hcm hpos trivial hb (by
        rw [hrows];obtain ⟨m,rfl⟩:∃ m,len=m+1:=⟨len - 1,by omega⟩;have h1:=at' m (P.cellsOf e - 1) (by omega) (by omega);rw [List.getElem?_eq_getElem (by rw [(cell m (P.cellsOf e - 1) (by omega) (by omega)).2];omega)] at h1;have h2:=(Array.getElem?_eq_some_iff.1 h1).1;rw [Nat.succ_mul];omega) (λh=>by simp at h) (λ_ _ _ _=>⟨trivial,λh=>by simp at h⟩) (λh=>by simp at h)
       (λrow hrow=>by
        simp only [List.mem_map,List.mem_range] at hrow;obtain ⟨i,hlt,rfl⟩:=hrow;rw [(hf i hlt).2.1.1];exact (cell i 0 hlt hpos).2)
       (λi j row d h1 h2=>by
        have hlt:i<len:=by have:=(List.getElem?_eq_some_iff.1 h1).1;omega
        simp only [List.getElem?_map,List.getElem?_range hlt,Option.map_some,Option.some.injEq] at h1;subst h1
        have hj:j<P.cellsOf e:=by
         have:=(List.getElem?_eq_some_iff.1 h2).1;rw [(hf i hlt).2.1.1,(cell i 0 hlt hpos).2] at this;exact this
        have h3:=at' i j hlt hj;rw [List.getElem?_eq_getElem (by rw [(cell i j hlt hj).2];exact hj)] at h3
        have h4:c.getD (off+(i*P.cellsOf e+j)) undef=(f i).1[j]'(by rw [(cell i j hlt hj).2];exact hj):=by
         rw [Array.getD_eq_getD_getElem?,h3];rfl
        rw [h4];exact (hf i hlt).2.1.2 j _ d (List.getElem?_eq_getElem _) h2)
      rw [hrows] at hrd;refine ⟨[.s ((List.range len).map λi=>(f i).2)],dy.one hrd,?_⟩;simp only [aV,hu];refine ⟨_,rfl,by rw [hrows];omega,λrow hrow=>?_⟩;simp only [List.mem_map,List.mem_range] at hrow;obtain ⟨i,hlt,rfl⟩:=hrow;exact ⟨by rw [(hf i hlt).2.1.1];exact (cell i 0 hlt hpos).2,(hf i hlt).2.2⟩
   ·rename_i fs hu
    simp only [Bool.and_eq_true,beq_iff_eq,List.all_eq_true] at hok;obtain ⟨hc,hall⟩:=hok;obtain ⟨xs,n,-,-,hcl,hxl,hi⟩:=DataW.trod_struct hu h
    obtain ⟨ds,-,h1,h2⟩:=fg (w:=w) (D:=D) (cs:=cs) fs.toList 0 _ hc (by omega) (λf hf=>by
     obtain ⟨i,hlt,rfl⟩:=List.getElem_of_mem hf;have hlt':i<fs.size:=by simpa using hlt
     have h3:=hi i fs[i] (by simp [hlt']);rw [List.getElem?_eq_getElem (by omega)] at h3;exact ih _ _ _ n (hall _ hf) h3)
    rw [List.drop_zero,Nat.sub_zero,List.take_of_length_le (by omega)] at h1;refine ⟨ds,h1,?_⟩;simp only [aV,hu];refine ⟨by rw [h1.1,hcl],λf hf=>?_⟩;have:=(h2 f hf).2
    rwa [Nat.sub_zero] at this
   ·simp at hok
def lB (P:Program) (D:Nat) (t:TypeId):VD->Prop
 | .c d=>aV P D t [d]
 | .agg ds=>(∃ fs,P.underlying t=some (.struct fs))/\aV P D t ds
theorem qP {H:Type} {enc:TypeId×Value->H} {P:Program} {w:World} {base b0:Nat} {spare:Nat->Bool} {held:Bool} {r:Reach} {D:Nat} {t:TypeId} {v:Value} {d:DataW H} {ps:List MemPlace}
 (hok:okT P D t=true) (hval:Value.okWide P w r b0 t v) (h:DataW.Trod enc P w base spare held t v d ps):∃ vd,RdV w v vd/\lB P D t vd:=by
 obtain ⟨fuel,hf⟩:=h;obtain ⟨ds,hr,hfit⟩:=od D t _ _ fuel hok hf
 have one:v.cells = #[v]->(∀ fs,P.underlying t≠some (.struct fs))->∃ vd,RdV w v vd/\lB P D t vd:=by
  intro hc _;rw [hc] at hr;obtain ⟨hl,hr⟩:=hr
  cases ds with
  |nil=>simp at hl
  | cons d ds =>
    cases ds with
    |nil=>exact ⟨.c d,hr 0 v d rfl rfl,hfit⟩
    |cons _ _=>simp at hl
 cases D with
 |zero=>simp [okT] at hok
 | succ D =>
   unfold okT at hok
   split at hok
   ·rename_i hu
    obtain ⟨b,rfl⟩:=okWide_bool hu hval;exact one rfl (λfs h=>by rw [hu] at h;simp at h)
   ·rename_i k hu
    obtain ⟨n,rfl⟩:=okWide_int hu hval;exact one rfl (λfs h=>by rw [hu] at h;simp at h)
   ·rename_i hu
    obtain ⟨s,rfl⟩:=okWide_string hu hval;exact one rfl (λfs h=>by rw [hu] at h;simp at h)
   ·rename_i e hu
    obtain ⟨a,l,c,rfl⟩:=okWide_slice hu hval;exact one rfl (λfs h=>by rw [hu] at h;simp at h)
   ·rename_i fs hu
    obtain ⟨cs,rfl,-⟩:=okWide_struct hu hval;obtain ⟨hl,hr⟩:=hr;refine ⟨.agg ds,⟨cs,rfl,by simpa [Value.cells] using hl.symm,λj d hd=>?_⟩,⟨fs,hu⟩,hfit⟩
    have hj:j<cs.size:=by
     have:=(List.getElem?_eq_some_iff.1 hd).1;simp [Value.cells] at hl;omega
    have:=hr j cs[j] d (by simp [Value.cells,hj]) hd
    simpa [hj] using this
   ·simp at hok
def dl (P:Program) (D:Nat) (w:World):List TypeId->List Value->List VD->Prop
 | [],[],[]=>True
 |t::ts,v::vs,d::ds=>(RdV w v d/\lB P D t d)/\dl P D w ts vs ds
 |_,_,_=>False
theorem jk {H:Type} {enc:TypeId×Value->H} {P:Program} {w:World} {base b0:Nat} {spare:Nat->Bool} {held:Bool} {r:Reach} {D:Nat} :
 ∀ (ts : List TypeId) (vs : List Value) (ds : List (DataW H)) (ps : List MemPlace), (ts.all λt => okT P D t) = true -> (∀ (j : Nat) t v, ts[j]? = some t -> vs[j]? = some v -> Value.okWide P w r b0 t v) ->
   DataW.TrodAll enc P w base spare held ts vs ds ps->∃ vds,dl P D w ts vs vds
 | [], vs, ds, ps, _, _, h => by
   obtain ⟨rfl,-,-⟩:=trodAll_nil h;exact ⟨[],trivial⟩
 | t :: ts, vs, ds, ps, hok, hval, h => by
   obtain ⟨v,vs1,d,ds1,a,b,rfl,rfl,rfl,h1,h2⟩:=trodAll_cons h;simp only [List.all_cons,Bool.and_eq_true] at hok;obtain ⟨vds,h3⟩:=jk ts vs1 ds1 b hok.2 (λj t v ht hv=>hval (j+1) t v (by simpa using ht) (by simpa using hv)) h2;obtain ⟨vd,h4,h5⟩:=qP hok.1 (hval 0 t v rfl rfl) h1;exact ⟨vd::vds,⟨h4,h5⟩,h3⟩
theorem gD {P:Program} {D:Nat} {w:World}:∀ (ts:List TypeId) (vs:List Value) (vds:List VD),dl P D w ts vs vds->vs.length=vds.length/\∀ (i:Nat) vd,vds[i]? = some vd->RdV w (vs.toArray.getD i undef) vd
 | [],[],[],_=>⟨rfl,λi vd h=>by simp at h⟩
 | t :: ts, v :: vs, d :: ds, h => by
   obtain ⟨h1,h2⟩:=gD ts vs ds h.2;refine ⟨by simp [h1],λi vd hi=>?_⟩
   cases i with
   |zero=>simp at hi;subst hi;simpa using h.1.1
   |succ i=>simpa using h2 i vd (by simpa using hi)
theorem jc {H:Type} {enc:TypeId×Value->H} {P:Program} (hl:laidOutB P=true) {W W':World} (hb:Below W.heap.size W W') {sp:Nat->Bool} :
 ∀ (ts : List TypeId) (vs : List Value) (ds : List (DataW H)) (ps : List MemPlace), (ts.all λt => P.readableRec t && decide (t < P.types.size)) = true -> DataW.TrodAll enc P W 0 (λ_ => true) true ts vs ds ps ->
   (∀ x∈ps,x.block<W.heap.size)->(∀ x∈ps,sp x.block=true)->DataW.TrodAll enc P W' 0 sp true ts vs ds ps
 | [], vs, ds, ps, _, h, _, _ => by
   obtain ⟨rfl,rfl,rfl⟩:=trodAll_nil h;rfl
 | t :: ts, vs, ds, ps, hok, h, hlt, hsp => by
   obtain ⟨v,vs1,d,ds1,a,b,rfl,rfl,rfl,h1,h2⟩:=trodAll_cons h;simp only [List.all_cons,Bool.and_eq_true,decide_eq_true_eq] at hok;refine ⟨a,b,WideElems.Trod_stays hl hok.1.1 hok.1.2 h1 (λx hx=>hb.same (hlt x (by simp [hx]))) (λx hx=>hsp x (by simp [hx])),jc hl hb ts vs1 ds1 b (by simpa using hok.2) h2 (λx hx=>hlt x (by simp [hx])) (λx hx=>hsp x (by simp [hx])),rfl⟩
theorem ou {L:World->Prop} {H:Type} {enc:TypeId×Value->H} {P:Program} (hlaid:laidOutB P=true) {f:FuncId} {fn:Func} {s:ChangeSpec} {apart fresh handsOn:Bool} {D:Nat} {bt:TypeId}
 (hv:s.vars=[]) (hres:fn.resultTypes = #[bt]) (hbt:P.underlying bt=some .bool) (hokT:(fn.params.toList.all λt=>okT P D t)=true) (hread:(fn.params.toList.all λt=>P.readableRec t && decide (t<P.types.size))=true)
 (hs:∀ ds:List (DataW H),ds.length=fn.params.toList.length->s.fn H ds={ results:=[.lit (.bool true)],args:=ds })
 {W:World} {args:Array Value} {r:Reach} {b0:Nat} {ds gs:List (DataW H)} {before:List MemPlace}
 (hval:∀ (j:Nat) t v,fn.params[j]? = some t->args[j]? = some v->Value.okWide P W r b0 t v)
 (hW:DataW.Whole enc P fn.params.toList s.vars apart W args.toList ds gs before)
 (hLW:L W) (hwalk:∀ vds,dl P D W fn.params.toList args.toList vds->fI P L f vds (.one (.c (.v (.bool true)) 1))) :
 Calls P f args W λe W'=>∃ v,e=.returned v/\s.post enc P fn apart fresh handsOn false W args v W':=by
 have hW0:=hW;obtain ⟨p,q,hA,hV,rfl,hfz,hnd⟩:=hW;rw [hv] at hV;obtain ⟨rfl,rfl⟩:=trodVars_none hV;obtain ⟨vds,ho⟩:=jk (D:=D) fn.params.toList args.toList ds p hokT (λj t v ht hv=>hval j t v (by simpa using ht) (by simpa using hv)) hA;obtain ⟨hl,hr⟩:=gD _ _ _ ho
 have hlen:ds.length=fn.params.toList.length:=by
  have:∀ (ts:List TypeId) (vs:List Value) (ds:List (DataW H)) (ps:List MemPlace),DataW.TrodAll enc P W 0 (λ_=>true) true ts vs ds ps->ds.length=ts.length:=by
   intro ts
   induction ts with
   |nil=>intro vs ds ps h;obtain ⟨-,rfl,-⟩:=trodAll_nil h;rfl
   | cons t ts ih =>
     intro vs ds ps h;obtain ⟨v,vs1,d,ds1,a,b,rfl,rfl,rfl,h1,h2⟩:=trodAll_cons h;simp [ih _ _ _ h2]
  exact this _ _ _ _ hA
 refine ((hwalk vds ho).2 W hLW args (by simpa using hl) (λi vd hi=>by simpa using hr i vd hi)).mono ?_
 rintro e W' ⟨v,rfl,hb,hrr⟩
 have hv1:v=.bool true:=hrr.1;subst hv1;have hs':=hs ds hlen;refine ⟨_,rfl,ds,[],p,[],p,[],by simpa using hW0,?_,?_,?_,?_,λh=>by cases h⟩
 ·rw [List.append_nil,hs',hres]
  exact trodAll_mk1 (shut_bool hbt true)
 ·rw [List.append_nil,hs']
  have hlt:∀ x∈p,x.block<W.heap.size:=λx hx=>hW0.lt x (by simp [hx])
  exact jc hlaid hb _ _ _ _ hread hA hlt (λx hx=>by simpa using hlt x hx)
 ·rw [hv]
  have:(s.fn H (ds++[])).vars=[]:=by rw [List.append_nil,hs']
  rw [this];exact rfl
 ·exact hb.frame _
theorem rk {H:Type} {enc:TypeId×Value->H} {P:Program} (hlaid:laidOutB P=true) {f:FuncId} {fn:Func} {s:ChangeSpec} {apart fresh handsOn:Bool} {D:Nat} {bt:TypeId}
 (hv:s.vars=[]) (hres:fn.resultTypes = #[bt]) (hbt:P.underlying bt=some .bool) (hokT:(fn.params.toList.all λt=>okT P D t)=true) (hread:(fn.params.toList.all λt=>P.readableRec t && decide (t<P.types.size))=true)
 (hs:∀ ds:List (DataW H),ds.length=fn.params.toList.length->s.fn H ds={ results:=[.lit (.bool true)],args:=ds })
 {W:World} {args:Array Value} {r:Reach} {b0:Nat} {ds gs:List (DataW H)} {before:List MemPlace}
 (hval:∀ (j:Nat) t v,fn.params[j]? = some t->args[j]? = some v->Value.okWide P W r b0 t v)
 (hW:DataW.Whole enc P fn.params.toList s.vars apart W args.toList ds gs before)
 (hwalk:∀ vds,dl P D W fn.params.toList args.toList vds->ae P f vds (.one (.c (.v (.bool true)) 1))) :
 Calls P f args W λe W'=>∃ v,e=.returned v/\s.post enc P fn apart fresh handsOn false W args v W':=
 ou hlaid hv hres hbt hokT hread hs hval hW trivial hwalk
theorem vl {n:Int} (h:(Lit.int .i64 n).wf=true) : -9223372036854775808<=n/\n<=9223372036854775807:=by
 have:IntKind.i64.min = -9223372036854775808:=rfl;have h2:IntKind.i64.max=9223372036854775807:=rfl;simp only [Lit.wf,Bool.and_eq_true,decide_eq_true_eq] at h;omega
section
variable {P:Program} {D:Nat} {t e:TypeId} {vd:VD} {ds:List CD}
theorem rL {k:IntKind} (hu:P.underlying t=some (.int k)) (h:aV P D t ds):∃ n,ds=[.v (.int k n)]/\(Lit.int k n).wf=true:=by
 cases D with
 |zero=>exact h.elim
 |succ D=>simpa only [aV,hu] using h
theorem jq (hu:P.underlying t=some .bool) (h:aV P D t ds):∃ b,ds=[.v (.bool b)]:=by
 cases D with
 |zero=>exact h.elim
 |succ D=>simpa only [aV,hu] using h
theorem db (hu:P.underlying t=some .string) (h:aV P D t ds):∃ s:ByteArray,ds=[.v (.string s)]/\s.size<=maxLen:=by
 cases D with
 |zero=>exact h.elim
 |succ D=>simpa only [aV,hu] using h
theorem bI (hu:P.underlying t=some (.slice e)) (h:aV P D t ds):∃ rows,ds=[.s rows]/\rows.length<=maxLen/\∃ D',∀ row∈rows,row.length=P.cellsOf e/\aV P D' e row:=by
 cases D with
 |zero=>exact h.elim
 | succ D =>
   simp only [aV,hu] at h;obtain ⟨rows,h1,h2,h3⟩:=h;exact ⟨rows,h1,h2,D,h3⟩
theorem aK {fs:Array Field} (hu:P.underlying t=some (.struct fs)) (h:aV P D t ds):ds.length=P.cellsOf t/\∃ D',∀ f∈fs.toList,aV P D' f.type ((ds.drop f.offset).take (P.cellsOf f.type)):=by
 cases D with
 |zero=>exact h.elim
 | succ D =>
   simp only [aV,hu] at h;exact ⟨h.1,D,h.2⟩
theorem ce {α:Type} {f:α->List CD} {ok:α->Prop}:∀ (rows:List (List CD)),(∀ row∈rows,∃ x,row=f x/\ok x)->∃ l:List α,rows=l.map f/\∀ x∈l,ok x
 | [],_=>⟨[],rfl,by simp⟩
 | row :: rows, h => by
   obtain ⟨x,h1,h2⟩:=h row (List.mem_cons_self ..);obtain ⟨l,h3,h4⟩:=ce rows (λr hr=>h r (List.mem_cons_of_mem _ hr));exact ⟨x::l,by rw [h1,h3];rfl,by simpa using ⟨h2,h4⟩⟩
end
theorem dl.nil {P:Program} {D:Nat} {w:World} {vs:List Value} {vds:List VD} (h:dl P D w [] vs vds):vds=[]:=by
 cases vs with
 | nil => cases vds with
   |nil=>rfl
   |cons _ _=>exact h.elim
 |cons _ _=>exact h.elim
theorem dl.cons {P:Program} {D:Nat} {w:World} {t:TypeId} {ts:List TypeId} {vs:List Value} {vds:List VD} (h:dl P D w (t::ts) vs vds) :
 ∃ vd vds',vds=vd::vds'/\lB P D t vd/\∃ vs',dl P D w ts vs' vds':=by
 cases vs with
 |nil=>cases vds<;>exact h.elim
 | cons v vs => cases vds with
   |nil=>exact h.elim
   |cons d ds=>exact ⟨d,ds,rfl,h.1.2,vs,h.2⟩
def ai {α:Type} (mk:α->Int->α) (cn:α->Nat):List α->Int->List α
 | [],_=>[]
 |a::l,k=>mk a k::ai mk cn l (k+cn a)
def ak {α:Type} (cn:α->Nat):List α->Nat
 | []=>0
 |a::l=>cn a+ak cn l
section
variable {α:Type} {mk:α->Int->α} {cn:α->Nat}
theorem aj:∀ (l:List α) (k:Int),(ai mk cn l k).length=l.length
 | [],_=>rfl
 |a::l,k=>by simp [ai,aj l]
theorem gp:∀ (l m:List α),ak cn (l++m)=ak cn l+ak cn m
 | [],m=>by simp [ak]
 |a::l,m=>by simp [ak,gp l m];omega
theorem fk:∀ (l m:List α) (k:Int),ai mk cn (l++m) k=ai mk cn l k++ai mk cn m (k+ak cn l)
 | [],m,k=>by simp [ai,ak]
 | a :: l, m, k => by
   simp only [List.cons_append,ai,fk l m,ak];rw [show k+(cn a:Int)+(ak cn l:Nat)=k+((cn a+ak cn l:Nat):Int) by omega]
theorem aX {l:List α} {i:Nat} (h:i<l.length):ak cn (l.take (i+1))=ak cn (l.take i)+cn l[i]:=by
 rw [<- List.take_append_getElem h,gp];simp [ak]
theorem fx:∀ (l:List α) (i:Nat),ak cn (l.take i)<=ak cn l
 | [],i=>by simp
 |a::l,0=>by simp [ak]
 |a::l,i+1=>by simp only [List.take_succ_cons,ak];have:=fx l i;omega
theorem bu {l:List α} {i:Nat} (h:i<l.length):ak cn (l.take i)+cn l[i]<=ak cn l:=by
 rw [<- aX h];exact fx l (i+1)
theorem og {l:List α} {k:Int} {i:Nat} (h:i<l.length):(ai mk cn l k)[i]? = some (mk l[i] (k+ak cn (l.take i))):=by
 induction l generalizing k i with
 |nil=>simp at h
 | cons a l ih =>
   cases i with
   |zero=>simp [ai,ak]
   | succ i =>
     simp only [ai,List.getElem?_cons_succ,List.take_succ_cons,ak,List.getElem_cons_succ];rw [ih (by simpa using h)]
     congr 2
     omega
def ay (mk:α->Int->α) (cn:α->Nat) (f:α->List CD) (l:List α) (k:Int) (i:Nat):List (List CD):=(ai mk cn (l.take i) k++l.drop i).map f
variable {f:α->List CD} {l:List α} {k:Int} {i:Nat}
theorem cC:ay mk cn f l k 0=l.map f:=by simp [ay,ai]
theorem ab:(ay mk cn f l k i).length=l.length:=by simp [ay,aj];omega
theorem bG (h:l.length<=i):ay mk cn f l k i=(ai mk cn l k).map f:=by
 simp [ay,List.take_of_length_le h,List.drop_of_length_le h]
theorem bT (h:i<l.length):(ay mk cn f l k i).set i (f l[i])=ay mk cn f l k i:=by
 unfold ay
 apply List.ext_getElem?
 intro j;rw [List.getElem?_set]
 split
 ·rename_i hj
  subst hj;have hl:(ai mk cn (l.take i) k).length=i:=by rw [aj];simp;omega
  rw [if_pos (by simp [aj];omega)];simp only [List.map_append];rw [List.getElem?_append_right (by simp [hl])];simp [hl,h]
 ·rfl
theorem bF (h:i<l.length) {r:List CD} (hr:r=f (mk l[i] (k+ak cn (l.take i)))):(ay mk cn f l k i).set i r=ay mk cn f l k (i+1):=by
 subst hr;unfold ay;have hl:(ai mk cn (l.take i) k).length=i:=by rw [aj];simp;omega
 rw [<- List.take_append_getElem h,fk,List.drop_eq_getElem_cons h];simp only [List.map_append,List.map_cons,ai,List.map_nil,List.append_assoc];rw [List.set_append_right _ _ (by simp [hl])];simp [hl]
end
theorem aY {xs:List (List CD)} {i:Nat} {a:List CD} {g:List CD->List CD}:(xs.set i a).modify i g=xs.set i (g a):=by
 apply List.ext_getElem?
 intro j;rw [List.getElem?_modify,List.getElem?_set,List.getElem?_set];by_cases h:i=j
 ·subst h
  by_cases h2:i<xs.length<;>simp [h2]
 ·simp [h]
theorem aE {xs:List (List CD)} {i j:Nat} {a:List CD} {d:CD}:dV (xs.set i a) i j d=xs.set i (a.set j d):=aY
abbrev bq (_:Int) (k:Int):Int:=k
abbrev one {α:Type} (_:α):Nat:=1
theorem im {α:Type}:∀ (l:List α),ak one l=l.length
 | []=>rfl
 |a::l=>by simp [ak,one,im l];omega
end Go.AM
namespace Go.Proofs.Ytmfcmlldnjffeaa
open Go.AM
set_option maxRecDepth 20000
def br (n:Int):Prop:=-9223372036854775808<=n/\n<=9223372036854775807
def bz {α:Type} (f:α->Nat):List α->Nat
 | []=>0
 |a::l=>f a+bz f l
theorem cq {α:Type} {f:α->Nat}:∀ {l:List α} {i:Nat} (h:i<l.length),bz f (l.drop i)=f l[i]+bz f (l.drop (i+1))
 |a::l,0,_=>rfl
 |a::l,i+1,h=>by simpa using cq (l:=l) (i:=i) (by simpa using h)
theorem kp {α:Type} {f:α->Nat}:∀ {l:List α} {a:α},a∈l->f a<=bz f l
 | b :: l, a, h => by
   simp only [bz];rcases List.mem_cons.1 h with rfl|h
   ·omega
   ·have:=kp (f:=f) h;omega
def nL {α:Type} (f:α->Nat) (l:List α):Nat:=l.length+bz f l
theorem bi {α:Type} {f:α->Nat} {l:List α} {B:Nat} (h:nL f l<=B):l.length<=B:=by unfold nL at h;omega
theorem xA {α:Type} {f:α->Nat} {l:List α} {B:Nat} (h:nL f l<=B) {a:α} (ha:a∈l):f a<=B:=by have:=kp (f:=f) ha;unfold nL at h;omega
theorem cm {α:Type} {f:α->Nat} {l:List α} {B:Nat} (h:nL f l<=B) {i:Nat} (hi:i<l.length):f l[i]<=B:=xA h (List.getElem_mem hi)
def szR (n left:Nat):Int:=if n<=left then ((left - n:Nat):Int) else -1
theorem aA {n left:Nat} (h:n<=left):szR n left=((left - n:Nat):Int):=by simp [szR,h]
theorem ao {n left:Nat} (h:¬ n<=left):szR n left = -1:=by simp [szR,h]
theorem au {α:Type} {cn n:α->Nat} (h:∀ a,cn a<=11*(1+n a)):∀ l:List α,ak cn l<=11*nL n l
 | []=>by simp [ak]
 | a :: l => by
   have h1:=h a;have h2:=au h l;unfold nL at h2 ⊢;simp only [ak,List.length_cons,bz];omega
theorem ep {α:Type} {cn:α->Nat} (h:∀ a,cn a<=11):∀ l:List α,ak cn l<=11*l.length
 | []=>by simp [ak]
 | a :: l => by
   have h1:=h a;have h2:=ep h l;simp only [ak,List.length_cons];omega
theorem lZ {α:Type} {mk:α->Int->α} {cn:α->Nat} {l:List α} {k:Int} {i:Nat} (h:i<l.length):(ai mk cn l k)[i]'(by rw [aj];exact h)=mk l[i] (k+ak cn (l.take i)):=by
 have:=og (mk:=mk) (cn:=cn) (k:=k) h;rw [List.getElem?_eq_getElem (by rw [aj];exact h)] at this;exact Option.some.inj this
noncomputable def jl (k:Int):Bool:=dc (k.tmod 3=0)
def oT (n:Nat):List UInt8:=if h:n<10 then [UInt8.ofNat (48+n)] else oT (n / 10)++[UInt8.ofNat (48+n % 10)]
termination_by n
decreasing_by omega
def markT (k:Int):ByteArray:=⟨(109::oT k.toNat).toArray⟩
structure Part where
 kind:Int
 n:Int
 signs:List Int
 deriving Inhabited
def Part.row (x:Part):List CD:=[vi x.kind,vi x.n,.s (x.signs.map aw)]
def Part.res (x:Part):List (CD×Nat):=[(vi x.kind,1),(vi x.n,1),(.s (x.signs.map aw),1)]
@[simp] theorem Part.row_len {x:Part}:x.row.length=3:=rfl
def Part.fits (x:Part):Prop:=br x.kind/\br x.n/\(x.signs.length<=9223372036854775807/\∀ n∈x.signs,br n)
def aM (x:Part):Nat:=x.signs.length
noncomputable def Part.mark (x:Part) (k:Int):Part:=⟨k,k+1,ai bq one x.signs (k+1+1)⟩
def Part.cnt (x:Part):Nat:=2+(x.signs.length)
theorem Part.cnt_le (x:Part):x.cnt<=11*(1+aM x):=by
 unfold Part.cnt;simp only [aM];omega
noncomputable def Part.markT (x:Part) (k:Int):Part:=⟨x.kind,x.n,ai bq one x.signs (k)⟩
def Part.cntT (x:Part):Nat:=x.signs.length
theorem Part.cntT_le (x:Part):x.cntT<=11*aM x:=by
 unfold Part.cntT;simp only [aM];omega
structure Entry where
 client:Int
 seq:Int
 o:List Part
def Entry.row (x:Entry):List CD:=[vi x.client,vi x.seq,.s (x.o.map Part.row)]
def Entry.res (x:Entry):List (CD×Nat):=[(vi x.client,1),(vi x.seq,1),(.s (x.o.map Part.row),3)]
@[simp] theorem Entry.row_len {x:Entry}:x.row.length=3:=rfl
def Entry.fits (x:Entry):Prop:=br x.client/\br x.seq/\(x.o.length<=9223372036854775807/\∀ y∈x.o,y.fits)
def aB (x:Entry):Nat:=nL aM x.o
noncomputable def Entry.mark (x:Entry) (k:Int):Entry:=⟨k,k+1,ai Part.mark Part.cnt x.o (k+1+1)⟩
def Entry.cnt (x:Entry):Nat:=2+(ak Part.cnt x.o)
theorem Entry.cnt_le (x:Entry):x.cnt<=11*(1+aB x):=by
 unfold Entry.cnt;have h0:=au Part.cnt_le x.o;simp only [aB];omega
noncomputable def Entry.markT (x:Entry) (k:Int):Entry:=⟨x.client,x.seq,ai Part.mark Part.cnt x.o (k)⟩
def Entry.cntT (x:Entry):Nat:=ak Part.cnt x.o
theorem Entry.cntT_le (x:Entry):x.cntT<=11*aB x:=by
 unfold Entry.cntT;have h0:=au Part.cnt_le x.o;simp only [aB];omega
structure Seen where
 client:Int
 seq:Int
 rev:Int
def Seen.row (x:Seen):List CD:=[vi x.client,vi x.seq,vi x.rev]
def Seen.res (x:Seen):List (CD×Nat):=[(vi x.client,1),(vi x.seq,1),(vi x.rev,1)]
@[simp] theorem Seen.row_len {x:Seen}:x.row.length=3:=rfl
def Seen.fits (x:Seen):Prop:=br x.client/\br x.seq/\br x.rev
noncomputable def Seen.mark (_x:Seen) (k:Int):Seen:=⟨k,k+1,k+1+1⟩
def Seen.cnt (_x:Seen):Nat:=3
theorem Seen.cnt_le (x:Seen):x.cnt<=11*1:=by
 unfold Seen.cnt;omega
structure Doc where
 name:ByteArray
 fr:Int
 text:List Int
 list:List Entry
 seen:List Seen
def Doc.row (x:Doc):List CD:=[.v (.string x.name),vi x.fr,.s (x.text.map aw),.s (x.list.map Entry.row),.s (x.seen.map Seen.row)]
def Doc.res (x:Doc):List (CD×Nat):=[(.v (.string x.name),1),(vi x.fr,1),(.s (x.text.map aw),1),(.s (x.list.map Entry.row),3),(.s (x.seen.map Seen.row),3)]
@[simp] theorem Doc.row_len {x:Doc}:x.row.length=5:=rfl
def Doc.fits (x:Doc):Prop:=x.name.size<=9223372036854775807/\br x.fr/\(x.text.length<=9223372036854775807/\∀ n∈x.text,br n)/\(x.list.length<=9223372036854775807/\∀ y∈x.list,y.fits)/\(x.seen.length<=9223372036854775807/\∀ y∈x.seen,y.fits)
def bJ (x:Doc):Nat:=x.name.size+(x.text.length+(nL aB x.list+(x.seen.length)))
noncomputable def Doc.mark (x:Doc) (k:Int):Doc:=⟨markT (k),k+1,ai bq one x.text (k+1+1),ai Entry.mark Entry.cnt x.list (k+1+1+(x.text.length:Nat)),ai Seen.mark Seen.cnt x.seen (k+1+1+(x.text.length:Nat)+(ak Entry.cnt x.list:Nat))⟩
def Doc.cnt (x:Doc):Nat:=2+(x.text.length+(ak Entry.cnt x.list+(ak Seen.cnt x.seen)))
theorem Doc.cnt_le (x:Doc):x.cnt<=11*(1+bJ x):=by
 unfold Doc.cnt;have h0:=au Entry.cnt_le x.list;have h1:=ep (λa=>by have:=Seen.cnt_le a;omega) x.seen;simp only [bJ];omega
noncomputable def Doc.markT (x:Doc) (k:Int):Doc:=⟨x.name,x.fr,ai bq one x.text (k),ai Entry.mark Entry.cnt x.list (k+(x.text.length:Nat)),ai Seen.mark Seen.cnt x.seen (k+(x.text.length:Nat)+(ak Entry.cnt x.list:Nat))⟩
def Doc.cntT (x:Doc):Nat:=x.text.length+(ak Entry.cnt x.list+(ak Seen.cnt x.seen))
theorem Doc.cntT_le (x:Doc):x.cntT<=11*bJ x:=by
 unfold Doc.cntT;have h0:=au Entry.cnt_le x.list;have h1:=ep (λa=>by have:=Seen.cnt_le a;omega) x.seen;simp only [bJ];omega
structure Ring where
 cap:Int
 next:Int
 out:Bool
 list:List Entry
def Ring.row (x:Ring):List CD:=[vi x.cap,vi x.next,.v (.bool x.out),.s (x.list.map Entry.row)]
def Ring.res (x:Ring):List (CD×Nat):=[(vi x.cap,1),(vi x.next,1),(.v (.bool x.out),1),(.s (x.list.map Entry.row),3)]
@[simp] theorem Ring.row_len {x:Ring}:x.row.length=4:=rfl
def Ring.fits (x:Ring):Prop:=br x.cap/\br x.next/\True/\(x.list.length<=9223372036854775807/\∀ y∈x.list,y.fits)
def cl (x:Ring):Nat:=nL aB x.list
noncomputable def Ring.mark (x:Ring) (k:Int):Ring:=⟨k,k+1,jl (k+1+1),ai Entry.mark Entry.cnt x.list (k+1+1+1)⟩
def Ring.cnt (x:Ring):Nat:=3+(ak Entry.cnt x.list)
theorem Ring.cnt_le (x:Ring):x.cnt<=11*(1+cl x):=by
 unfold Ring.cnt;have h0:=au Entry.cnt_le x.list;simp only [cl];omega
noncomputable def Ring.markT (x:Ring) (k:Int):Ring:=⟨x.cap,x.next,x.out,ai Entry.mark Entry.cnt x.list (k)⟩
def Ring.cntT (x:Ring):Nat:=ak Entry.cnt x.list
theorem Ring.cntT_le (x:Ring):x.cntT<=11*cl x:=by
 unfold Ring.cntT;have h0:=au Entry.cnt_le x.list;simp only [cl];omega
structure Sub where
 id:Int
 doc:ByteArray
 r:Ring
def Sub.row (x:Sub):List CD:=[vi x.id,.v (.string x.doc),vi x.r.cap,vi x.r.next,.v (.bool x.r.out),.s (x.r.list.map Entry.row)]
def Sub.res (x:Sub):List (CD×Nat):=[(vi x.id,1),(.v (.string x.doc),1),(vi x.r.cap,1),(vi x.r.next,1),(.v (.bool x.r.out),1),(.s (x.r.list.map Entry.row),3)]
@[simp] theorem Sub.row_len {x:Sub}:x.row.length=6:=rfl
def Sub.fits (x:Sub):Prop:=br x.id/\x.doc.size<=9223372036854775807/\x.r.fits
def bS (x:Sub):Nat:=x.doc.size+(cl x.r)
noncomputable def Sub.mark (x:Sub) (k:Int):Sub:=⟨k,markT (k+1),⟨k+1+1,k+1+1+1,jl (k+1+1+1+1),ai Entry.mark Entry.cnt x.r.list (k+1+1+1+1+1)⟩⟩
def Sub.cnt (x:Sub):Nat:=5+(ak Entry.cnt x.r.list)
theorem Sub.cnt_le (x:Sub):x.cnt<=11*(1+bS x):=by
 unfold Sub.cnt;have h0:=au Entry.cnt_le x.r.list;simp only [bS,cl];omega
noncomputable def Sub.markT (x:Sub) (k:Int):Sub:=⟨x.id,x.doc,⟨x.r.cap,x.r.next,x.r.out,ai Entry.mark Entry.cnt x.r.list (k)⟩⟩
def Sub.cntT (x:Sub):Nat:=ak Entry.cnt x.r.list
theorem Sub.cntT_le (x:Sub):x.cntT<=11*bS x:=by
 unfold Sub.cntT;have h0:=au Entry.cnt_le x.r.list;simp only [bS,cl];omega
structure Hub where
 shut:Bool
 docs:List Doc
 subs:List Sub
 last:Int
def Hub.row (x:Hub):List CD:=[.v (.bool x.shut),.s (x.docs.map Doc.row),.s (x.subs.map Sub.row),vi x.last]
def Hub.res (x:Hub):List (CD×Nat):=[(.v (.bool x.shut),1),(.s (x.docs.map Doc.row),5),(.s (x.subs.map Sub.row),6),(vi x.last,1)]
@[simp] theorem Hub.row_len {x:Hub}:x.row.length=4:=rfl
def Hub.fits (x:Hub):Prop:=True/\(x.docs.length<=9223372036854775807/\∀ y∈x.docs,y.fits)/\(x.subs.length<=9223372036854775807/\∀ y∈x.subs,y.fits)/\br x.last
def dC (x:Hub):Nat:=nL bJ x.docs+(nL bS x.subs)
noncomputable def Hub.markT (x:Hub) (k:Int):Hub:=⟨x.shut,ai Doc.mark Doc.cnt x.docs (k),ai Sub.mark Sub.cnt x.subs (k+(ak Doc.cnt x.docs:Nat)),x.last⟩
def Hub.cntT (x:Hub):Nat:=ak Doc.cnt x.docs+(ak Sub.cnt x.subs)
theorem Hub.cntT_le (x:Hub):x.cntT<=11*dC x:=by
 unfold Hub.cntT;have h0:=au Doc.cnt_le x.docs;have h1:=au Sub.cnt_le x.subs;simp only [dC];omega
structure Call where
 kind:Int
 doc:ByteArray
 client:Int
 seq:Int
 n:Int
 o:List Part
 text:List Int
def Call.row (x:Call):List CD:=[vi x.kind,.v (.string x.doc),vi x.client,vi x.seq,vi x.n,.s (x.o.map Part.row),.s (x.text.map aw)]
def Call.res (x:Call):List (CD×Nat):=[(vi x.kind,1),(.v (.string x.doc),1),(vi x.client,1),(vi x.seq,1),(vi x.n,1),(.s (x.o.map Part.row),3),(.s (x.text.map aw),1)]
@[simp] theorem Call.row_len {x:Call}:x.row.length=7:=rfl
def Call.fits (x:Call):Prop:=br x.kind/\x.doc.size<=9223372036854775807/\br x.client/\br x.seq/\br x.n/\(x.o.length<=9223372036854775807/\∀ y∈x.o,y.fits)/\(x.text.length<=9223372036854775807/\∀ n∈x.text,br n)
def co (x:Call):Nat:=x.doc.size+(nL aM x.o+(x.text.length))
noncomputable def Call.mark (x:Call) (k:Int):Call:=⟨k,markT (k+1),k+1+1,k+1+1+1,k+1+1+1+1,ai Part.mark Part.cnt x.o (k+1+1+1+1+1),ai bq one x.text (k+1+1+1+1+1+(ak Part.cnt x.o:Nat))⟩
def Call.cnt (x:Call):Nat:=5+(ak Part.cnt x.o+(x.text.length))
theorem Call.cnt_le (x:Call):x.cnt<=11*(1+co x):=by
 unfold Call.cnt;have h0:=au Part.cnt_le x.o;simp only [co];omega
noncomputable def Call.markT (x:Call) (k:Int):Call:=⟨x.kind,x.doc,x.client,x.seq,x.n,ai Part.mark Part.cnt x.o (k),ai bq one x.text (k+(ak Part.cnt x.o:Nat))⟩
def Call.cntT (x:Call):Nat:=ak Part.cnt x.o+(x.text.length)
theorem Call.cntT_le (x:Call):x.cntT<=11*co x:=by
 unfold Call.cntT;have h0:=au Part.cnt_le x.o;simp only [co];omega
structure Answer where
 code:Int
 rev:Int
 text:List Int
 list:List Entry
def Answer.row (x:Answer):List CD:=[vi x.code,vi x.rev,.s (x.text.map aw),.s (x.list.map Entry.row)]
def Answer.res (x:Answer):List (CD×Nat):=[(vi x.code,1),(vi x.rev,1),(.s (x.text.map aw),1),(.s (x.list.map Entry.row),3)]
@[simp] theorem Answer.row_len {x:Answer}:x.row.length=4:=rfl
def Answer.fits (x:Answer):Prop:=br x.code/\br x.rev/\(x.text.length<=9223372036854775807/\∀ n∈x.text,br n)/\(x.list.length<=9223372036854775807/\∀ y∈x.list,y.fits)
def a8 (x:Answer):Nat:=x.text.length+(nL aB x.list)
noncomputable def Answer.mark (x:Answer) (k:Int):Answer:=⟨k,k+1,ai bq one x.text (k+1+1),ai Entry.mark Entry.cnt x.list (k+1+1+(x.text.length:Nat))⟩
def Answer.cnt (x:Answer):Nat:=2+(x.text.length+(ak Entry.cnt x.list))
theorem Answer.cnt_le (x:Answer):x.cnt<=11*(1+a8 x):=by
 unfold Answer.cnt;have h0:=au Entry.cnt_le x.list;simp only [a8];omega
noncomputable def Answer.markT (x:Answer) (k:Int):Answer:=⟨x.code,x.rev,ai bq one x.text (k),ai Entry.mark Entry.cnt x.list (k+(x.text.length:Nat))⟩
def Answer.cntT (x:Answer):Nat:=x.text.length+(ak Entry.cnt x.list)
theorem Answer.cntT_le (x:Answer):x.cntT<=11*a8 x:=by
 unfold Answer.cntT;have h0:=au Entry.cnt_le x.list;simp only [a8];omega
structure Task where
 c:Call
 pc:Int
 inv:Int
 lin:Int
 rs:Int
 a:Answer
def Task.row (x:Task):List CD:=[vi x.c.kind,.v (.string x.c.doc),vi x.c.client,vi x.c.seq,vi x.c.n,.s (x.c.o.map Part.row),.s (x.c.text.map aw),vi x.pc,vi x.inv,vi x.lin,vi x.rs,vi x.a.code,vi x.a.rev,.s (x.a.text.map aw),.s (x.a.list.map Entry.row)]
def Task.res (x:Task):List (CD×Nat):=[(vi x.c.kind,1),(.v (.string x.c.doc),1),(vi x.c.client,1),(vi x.c.seq,1),(vi x.c.n,1),(.s (x.c.o.map Part.row),3),(.s (x.c.text.map aw),1),(vi x.pc,1),(vi x.inv,1),(vi x.lin,1),(vi x.rs,1),(vi x.a.code,1),(vi x.a.rev,1),(.s (x.a.text.map aw),1),(.s (x.a.list.map Entry.row),3)]
@[simp] theorem Task.row_len {x:Task}:x.row.length=15:=rfl
def Task.fits (x:Task):Prop:=x.c.fits/\br x.pc/\br x.inv/\br x.lin/\br x.rs/\x.a.fits
def aW (x:Task):Nat:=co x.c+(a8 x.a)
noncomputable def Task.mark (x:Task) (k:Int):Task:=⟨⟨k,markT (k+1),k+1+1,k+1+1+1,k+1+1+1+1,ai Part.mark Part.cnt x.c.o (k+1+1+1+1+1),ai bq one x.c.text (k+1+1+1+1+1+(ak Part.cnt x.c.o:Nat))⟩,k+1+1+1+1+1+(ak Part.cnt x.c.o:Nat)+(x.c.text.length:Nat),k+1+1+1+1+1+(ak Part.cnt x.c.o:Nat)+(x.c.text.length:Nat)+1,k+1+1+1+1+1+(ak Part.cnt x.c.o:Nat)+(x.c.text.length:Nat)+1+1,k+1+1+1+1+1+(ak Part.cnt x.c.o:Nat)+(x.c.text.length:Nat)+1+1+1,⟨k+1+1+1+1+1+(ak Part.cnt x.c.o:Nat)+(x.c.text.length:Nat)+1+1+1+1,k+1+1+1+1+1+(ak Part.cnt x.c.o:Nat)+(x.c.text.length:Nat)+1+1+1+1+1,ai bq one x.a.text (k+1+1+1+1+1+(ak Part.cnt x.c.o:Nat)+(x.c.text.length:Nat)+1+1+1+1+1+1),ai Entry.mark Entry.cnt x.a.list (k+1+1+1+1+1+(ak Part.cnt x.c.o:Nat)+(x.c.text.length:Nat)+1+1+1+1+1+1+(x.a.text.length:Nat))⟩⟩
def Task.cnt (x:Task):Nat:=11+(ak Part.cnt x.c.o+(x.c.text.length+(x.a.text.length+(ak Entry.cnt x.a.list))))
theorem Task.cnt_le (x:Task):x.cnt<=11*(1+aW x):=by
 unfold Task.cnt;have h0:=au Part.cnt_le x.c.o;have h1:=au Entry.cnt_le x.a.list;simp only [aW,co,a8];omega
noncomputable def Task.markT (x:Task) (k:Int):Task:=⟨⟨x.c.kind,x.c.doc,x.c.client,x.c.seq,x.c.n,ai Part.mark Part.cnt x.c.o (k),ai bq one x.c.text (k+(ak Part.cnt x.c.o:Nat))⟩,x.pc,x.inv,x.lin,x.rs,⟨x.a.code,x.a.rev,ai bq one x.a.text (k+(ak Part.cnt x.c.o:Nat)+(x.c.text.length:Nat)),ai Entry.mark Entry.cnt x.a.list (k+(ak Part.cnt x.c.o:Nat)+(x.c.text.length:Nat)+(x.a.text.length:Nat))⟩⟩
def Task.cntT (x:Task):Nat:=ak Part.cnt x.c.o+(x.c.text.length+(x.a.text.length+(ak Entry.cnt x.a.list)))
theorem Task.cntT_le (x:Task):x.cntT<=11*aW x:=by
 unfold Task.cntT;have h0:=au Part.cnt_le x.c.o;have h1:=au Entry.cnt_le x.a.list;simp only [aW,co,a8];omega
structure Queue where
 doc:ByteArray
 list:List Int
def Queue.row (x:Queue):List CD:=[.v (.string x.doc),.s (x.list.map aw)]
def Queue.res (x:Queue):List (CD×Nat):=[(.v (.string x.doc),1),(.s (x.list.map aw),1)]
@[simp] theorem Queue.row_len {x:Queue}:x.row.length=2:=rfl
def Queue.fits (x:Queue):Prop:=x.doc.size<=9223372036854775807/\(x.list.length<=9223372036854775807/\∀ n∈x.list,br n)
def aG (x:Queue):Nat:=x.doc.size+(x.list.length)
noncomputable def Queue.mark (x:Queue) (k:Int):Queue:=⟨markT (k),ai bq one x.list (k+1)⟩
def Queue.cnt (x:Queue):Nat:=1+(x.list.length)
theorem Queue.cnt_le (x:Queue):x.cnt<=11*(1+aG x):=by
 unfold Queue.cnt;simp only [aG];omega
noncomputable def Queue.markT (x:Queue) (k:Int):Queue:=⟨x.doc,ai bq one x.list (k)⟩
def Queue.cntT (x:Queue):Nat:=x.list.length
theorem Queue.cntT_le (x:Queue):x.cntT<=11*aG x:=by
 unfold Queue.cntT;simp only [aG];omega
structure Wld where
 h:Hub
 locks:List Int
 queues:List Queue
 tasks:List Task
 step:Int
def Wld.row (x:Wld):List CD:=[.v (.bool x.h.shut),.s (x.h.docs.map Doc.row),.s (x.h.subs.map Sub.row),vi x.h.last,.s (x.locks.map aw),.s (x.queues.map Queue.row),.s (x.tasks.map Task.row),vi x.step]
def Wld.res (x:Wld):List (CD×Nat):=[(.v (.bool x.h.shut),1),(.s (x.h.docs.map Doc.row),5),(.s (x.h.subs.map Sub.row),6),(vi x.h.last,1),(.s (x.locks.map aw),1),(.s (x.queues.map Queue.row),2),(.s (x.tasks.map Task.row),15),(vi x.step,1)]
@[simp] theorem Wld.row_len {x:Wld}:x.row.length=8:=rfl
def Wld.fits (x:Wld):Prop:=x.h.fits/\(x.locks.length<=9223372036854775807/\∀ n∈x.locks,br n)/\(x.queues.length<=9223372036854775807/\∀ y∈x.queues,y.fits)/\(x.tasks.length<=9223372036854775807/\∀ y∈x.tasks,y.fits)/\br x.step
def be (x:Wld):Nat:=dC x.h+(x.locks.length+(nL aG x.queues+(nL aW x.tasks)))
noncomputable def Wld.markT (x:Wld) (k:Int):Wld:=⟨⟨x.h.shut,ai Doc.mark Doc.cnt x.h.docs (k),ai Sub.mark Sub.cnt x.h.subs (k+(ak Doc.cnt x.h.docs:Nat)),x.h.last⟩,ai bq one x.locks (k+(ak Doc.cnt x.h.docs:Nat)+(ak Sub.cnt x.h.subs:Nat)),ai Queue.mark Queue.cnt x.queues (k+(ak Doc.cnt x.h.docs:Nat)+(ak Sub.cnt x.h.subs:Nat)+(x.locks.length:Nat)),ai Task.mark Task.cnt x.tasks (k+(ak Doc.cnt x.h.docs:Nat)+(ak Sub.cnt x.h.subs:Nat)+(x.locks.length:Nat)+(ak Queue.cnt x.queues:Nat)),x.step⟩
def Wld.cntT (x:Wld):Nat:=ak Doc.cnt x.h.docs+(ak Sub.cnt x.h.subs+(x.locks.length+(ak Queue.cnt x.queues+(ak Task.cnt x.tasks))))
theorem Wld.cntT_le (x:Wld):x.cntT<=11*be x:=by
 unfold Wld.cntT;have h0:=au Doc.cnt_le x.h.docs;have h1:=au Sub.cnt_le x.h.subs;have h2:=au Queue.cnt_le x.queues;have h3:=au Task.cnt_le x.tasks;simp only [be,dC];omega
structure Rep where
 client:Int
 seq:Int
 rev:Int
 text:List Int
 has:Bool
 sent:List Part
 buf:List Part
def Rep.row (x:Rep):List CD:=[vi x.client,vi x.seq,vi x.rev,.s (x.text.map aw),.v (.bool x.has),.s (x.sent.map Part.row),.s (x.buf.map Part.row)]
def Rep.res (x:Rep):List (CD×Nat):=[(vi x.client,1),(vi x.seq,1),(vi x.rev,1),(.s (x.text.map aw),1),(.v (.bool x.has),1),(.s (x.sent.map Part.row),3),(.s (x.buf.map Part.row),3)]
@[simp] theorem Rep.row_len {x:Rep}:x.row.length=7:=rfl
def Rep.fits (x:Rep):Prop:=br x.client/\br x.seq/\br x.rev/\(x.text.length<=9223372036854775807/\∀ n∈x.text,br n)/\True/\(x.sent.length<=9223372036854775807/\∀ y∈x.sent,y.fits)/\(x.buf.length<=9223372036854775807/\∀ y∈x.buf,y.fits)
def ra (x:Rep):Nat:=x.text.length+(nL aM x.sent+(nL aM x.buf))
noncomputable def Rep.mark (x:Rep) (k:Int):Rep:=⟨k,k+1,k+1+1,ai bq one x.text (k+1+1+1),jl (k+1+1+1+(x.text.length:Nat)),ai Part.mark Part.cnt x.sent (k+1+1+1+(x.text.length:Nat)+1),ai Part.mark Part.cnt x.buf (k+1+1+1+(x.text.length:Nat)+1+(ak Part.cnt x.sent:Nat))⟩
def Rep.cnt (x:Rep):Nat:=4+(x.text.length+(ak Part.cnt x.sent+(ak Part.cnt x.buf)))
theorem Rep.cnt_le (x:Rep):x.cnt<=11*(1+ra x):=by
 unfold Rep.cnt;have h0:=au Part.cnt_le x.sent;have h1:=au Part.cnt_le x.buf;simp only [ra];omega
noncomputable def Rep.markT (x:Rep) (k:Int):Rep:=⟨x.client,x.seq,x.rev,ai bq one x.text (k),x.has,ai Part.mark Part.cnt x.sent (k+(x.text.length:Nat)),ai Part.mark Part.cnt x.buf (k+(x.text.length:Nat)+(ak Part.cnt x.sent:Nat))⟩
def Rep.cntT (x:Rep):Nat:=x.text.length+(ak Part.cnt x.sent+(ak Part.cnt x.buf))
theorem Rep.cntT_le (x:Rep):x.cntT<=11*ra x:=by
 unfold Rep.cntT;have h0:=au Part.cnt_le x.sent;have h1:=au Part.cnt_le x.buf;simp only [ra];omega
structure Net where
 d:Doc
 reps:List Rep
def Net.row (x:Net):List CD:=[.v (.string x.d.name),vi x.d.fr,.s (x.d.text.map aw),.s (x.d.list.map Entry.row),.s (x.d.seen.map Seen.row),.s (x.reps.map Rep.row)]
def Net.res (x:Net):List (CD×Nat):=[(.v (.string x.d.name),1),(vi x.d.fr,1),(.s (x.d.text.map aw),1),(.s (x.d.list.map Entry.row),3),(.s (x.d.seen.map Seen.row),3),(.s (x.reps.map Rep.row),7)]
@[simp] theorem Net.row_len {x:Net}:x.row.length=6:=rfl
def Net.fits (x:Net):Prop:=x.d.fits/\(x.reps.length<=9223372036854775807/\∀ y∈x.reps,y.fits)
def tO (x:Net):Nat:=bJ x.d+(nL ra x.reps)
noncomputable def Net.markT (x:Net) (k:Int):Net:=⟨⟨x.d.name,x.d.fr,ai bq one x.d.text (k),ai Entry.mark Entry.cnt x.d.list (k+(x.d.text.length:Nat)),ai Seen.mark Seen.cnt x.d.seen (k+(x.d.text.length:Nat)+(ak Entry.cnt x.d.list:Nat))⟩,ai Rep.mark Rep.cnt x.reps (k+(x.d.text.length:Nat)+(ak Entry.cnt x.d.list:Nat)+(ak Seen.cnt x.d.seen:Nat))⟩
def Net.cntT (x:Net):Nat:=x.d.text.length+(ak Entry.cnt x.d.list+(ak Seen.cnt x.d.seen+(ak Rep.cnt x.reps)))
theorem Net.cntT_le (x:Net):x.cntT<=11*tO x:=by
 unfold Net.cntT;have h0:=au Entry.cnt_le x.d.list;have h1:=ep (λa=>by have:=Seen.cnt_le a;omega) x.d.seen;have h2:=au Rep.cnt_le x.reps;simp only [tO,bJ];omega
structure Event where
 kind:Int
 who:Int
 n:Int
 o:List Part
def Event.row (x:Event):List CD:=[vi x.kind,vi x.who,vi x.n,.s (x.o.map Part.row)]
def Event.res (x:Event):List (CD×Nat):=[(vi x.kind,1),(vi x.who,1),(vi x.n,1),(.s (x.o.map Part.row),3)]
@[simp] theorem Event.row_len {x:Event}:x.row.length=4:=rfl
def Event.fits (x:Event):Prop:=br x.kind/\br x.who/\br x.n/\(x.o.length<=9223372036854775807/\∀ y∈x.o,y.fits)
def jL (x:Event):Nat:=nL aM x.o
noncomputable def Event.mark (x:Event) (k:Int):Event:=⟨k,k+1,k+1+1,ai Part.mark Part.cnt x.o (k+1+1+1)⟩
def Event.cnt (x:Event):Nat:=3+(ak Part.cnt x.o)
theorem Event.cnt_le (x:Event):x.cnt<=11*(1+jL x):=by
 unfold Event.cnt;have h0:=au Part.cnt_le x.o;simp only [jL];omega
noncomputable def Event.markT (x:Event) (k:Int):Event:=⟨x.kind,x.who,x.n,ai Part.mark Part.cnt x.o (k)⟩
def Event.cntT (x:Event):Nat:=ak Part.cnt x.o
theorem Event.cntT_le (x:Event):x.cntT<=11*jL x:=by
 unfold Event.cntT;have h0:=au Part.cnt_le x.o;simp only [jL];omega
structure Desk where
 h:Hub
 n:Net
def Desk.row (x:Desk):List CD:=[.v (.bool x.h.shut),.s (x.h.docs.map Doc.row),.s (x.h.subs.map Sub.row),vi x.h.last,.v (.string x.n.d.name),vi x.n.d.fr,.s (x.n.d.text.map aw),.s (x.n.d.list.map Entry.row),.s (x.n.d.seen.map Seen.row),.s (x.n.reps.map Rep.row)]
def Desk.res (x:Desk):List (CD×Nat):=[(.v (.bool x.h.shut),1),(.s (x.h.docs.map Doc.row),5),(.s (x.h.subs.map Sub.row),6),(vi x.h.last,1),(.v (.string x.n.d.name),1),(vi x.n.d.fr,1),(.s (x.n.d.text.map aw),1),(.s (x.n.d.list.map Entry.row),3),(.s (x.n.d.seen.map Seen.row),3),(.s (x.n.reps.map Rep.row),7)]
@[simp] theorem Desk.row_len {x:Desk}:x.row.length=10:=rfl
def Desk.fits (x:Desk):Prop:=x.h.fits/\x.n.fits
def vg (x:Desk):Nat:=dC x.h+(tO x.n)
noncomputable def Desk.markT (x:Desk) (k:Int):Desk:=⟨⟨x.h.shut,ai Doc.mark Doc.cnt x.h.docs (k),ai Sub.mark Sub.cnt x.h.subs (k+(ak Doc.cnt x.h.docs:Nat)),x.h.last⟩,⟨⟨x.n.d.name,x.n.d.fr,ai bq one x.n.d.text (k+(ak Doc.cnt x.h.docs:Nat)+(ak Sub.cnt x.h.subs:Nat)),ai Entry.mark Entry.cnt x.n.d.list (k+(ak Doc.cnt x.h.docs:Nat)+(ak Sub.cnt x.h.subs:Nat)+(x.n.d.text.length:Nat)),ai Seen.mark Seen.cnt x.n.d.seen (k+(ak Doc.cnt x.h.docs:Nat)+(ak Sub.cnt x.h.subs:Nat)+(x.n.d.text.length:Nat)+(ak Entry.cnt x.n.d.list:Nat))⟩,ai Rep.mark Rep.cnt x.n.reps (k+(ak Doc.cnt x.h.docs:Nat)+(ak Sub.cnt x.h.subs:Nat)+(x.n.d.text.length:Nat)+(ak Entry.cnt x.n.d.list:Nat)+(ak Seen.cnt x.n.d.seen:Nat))⟩⟩
def Desk.cntT (x:Desk):Nat:=ak Doc.cnt x.h.docs+(ak Sub.cnt x.h.subs+(x.n.d.text.length+(ak Entry.cnt x.n.d.list+(ak Seen.cnt x.n.d.seen+(ak Rep.cnt x.n.reps)))))
theorem Desk.cntT_le (x:Desk):x.cntT<=11*vg x:=by
 unfold Desk.cntT;have h0:=au Doc.cnt_le x.h.docs;have h1:=au Sub.cnt_le x.h.subs;have h2:=au Entry.cnt_le x.n.d.list;have h3:=ep (λa=>by have:=Seen.cnt_le a;omega) x.n.d.seen;have h4:=au Rep.cnt_le x.n.reps;simp only [vg,dC,tO,bJ];omega
theorem mix:Try.prog.follows .mixedOrders=true:=by kernel_rfl
theorem du (l:List Int) (hl:l.length<=9223372036854775807) (left:Nat) (hf:left<=2 ^ 20):ae Try.prog 14 [.c (.s (l.map aw)),.c (vi left)] (.one (.c (vi (szR l.length left)) 1)):=by
 refine aa an Try.func14 (by kernel_rfl) rfl rfl rfl (Nat.le_of_ble_eq_true rfl) (λw0 base=>?_);have hw:IntKind.i64.wrap ((left:Int) - (l.length:Int))=(left:Int) - l.length:=IntWalk.i64_in _ (by omega);simp [hw];by_cases h:l.length<=left
 ·have hz:¬ (left:Int) - l.length<0:=by omega
  simp [hz,aA h];omega
 ·have hz:(left:Int) - l.length<0:=by omega
  simp [hz,ao h]
theorem dt (l:List Int) (hl:l.length<=2 ^ 40):ae Try.prog 18 [.c (.s (l.map aw))] (.one (.c (.s (l.map aw)) 1)):=by
 refine aa an Try.func18 (by kernel_rfl) rfl rfl rfl (Nat.le_of_ble_eq_true rfl) (λw0 base=>?_);simp;refine ⟨by omega,λb=>?_⟩
 refine az.intro eok (λi:Nat=>i<=l.length) (λi=>⟨22,0,[(4,.v (.int .i64 i)),(3,.sl 112 (some (b,0,l.length)) 1 0 l.length),(0,.ro (l.map aw))],
  [(112,.rows (some (b,0,l.length)) 1 (cD aw [.v (.int .i64 0)] l i) true)]⟩) (λi=>l.length - i) 0 (by simp) (by simp [de]) (λi hi=>?_)
 by_cases h:i<l.length
 ·simp [h,bg hi]
  exact ⟨i+1,by omega,by omega,ar (by omega),bZ (f:=aw) h⟩
 ·have:i=l.length:=by omega
  subst this;simp [b7,cut]
theorem cj (a b:List Int) (hl:a.length<=2 ^ 40):ae Try.prog 8 [.c (.s (a.map aw)),.c (.s (b.map aw))] (.one (.c (vb (a=b)) 1)):=by
 refine aa an Try.func8 (by kernel_rfl) rfl rfl rfl (Nat.le_of_ble_eq_true rfl) (λw0 base=>?_);by_cases h:a.length=b.length
 ·simp [h]
  refine az.intro eok (λi:Nat=>i<=a.length/\a.take i=b.take i) (λi=>⟨26,0,[(5,.v (.int .i64 i)),(1,.ro (b.map aw)),(0,.ro (a.map aw))],[]⟩) (λi=>a.length - i) 0 (by simp) (by simp) (λi hi=>?_);by_cases hlt:i<a.length
  ·simp [hlt]
   have hlt':i<b.length:=by omega
   refine aD.quiet eok mix (by kernel_rfl) ?_;simp [hlt,hlt'];refine Br.mk (λh1=>?_) (λh1=>?_)
   ·simp
    exact ⟨i+1,⟨by omega,bW hlt hlt' hi.2 (ec h1)⟩,by omega,ar (by omega)⟩
   ·simp [cE]
    exact ge hlt hlt' (λhe=>gd h1 (by rw [he]))
  ·simp [hlt,en]
   exact cz (by omega) (by omega) hi.2
 ·have hz:¬ (a.length:Int)=b.length:=by omega
  simp [hz,cE];exact λh2=>absurd (by rw [h2]) h
theorem bU (l:List Int) (k:Int) (h0:0<=k) (hk:k+l.length<=4611686018427387904):bD Try.prog 11 (.c (.s (l.map aw)) 1) k (k+l.length) (.c (.s ((ai bq one l k).map aw)) 1):=by
 refine bD.intro an Try.func11 (by kernel_rfl) rfl rfl rfl (by decide) (λw0 base=>?_);simp;intro H;refine am eok (λi:Nat=>i<=l.length) (λi=>⟨19,0,[(5,.v (.int .i64 i)),(1,.v (.int .i64 (k+i))),(0,.ml 0 H 1 l.length)],[(0,.rows H 1 (ay bq one aw l k i) true)]⟩) (λi=>l.length - i) 0 (by simp) (by simp [cC]) (λi hi=>Ent.refl ?_);by_cases h:i<l.length
 ·simp [h,ab]
  refine Ent.refl ⟨i+1,by omega,by omega,?_⟩;have e1:Go.IntKind.i64.wrap (k+(i:Int)+1)=k+((i+1:Nat):Int):=by rw [Go.IntWalk.i64_in _ (by omega)];omega
  have e2:Go.IntKind.i64.wrap ((i:Int)+1)=((i+1:Nat):Int):=ar (by omega);simp [e1,e2];refine bF h ?_;simp [aw,im];omega
 ·have:i=l.length:=by omega
  subst this;simp [bG,aj]
theorem ib (l:List Int) (k:Int) (h0:0<=k) (hk:k+l.length<=4611686018427387904):ae Try.prog 12 [.c (.s ((ai bq one l k).map aw)),.c (vi k)] (.one (.c (vi (k+l.length)) 1)):=by
 refine aa an Try.func12 (by kernel_rfl) rfl rfl rfl (Nat.le_of_ble_eq_true rfl) (λw0 base=>?_);simp;refine az.intro eok (λi:Nat=>i<=l.length) (λi=>⟨21,0,[(5,.v (.int .i64 i)),(1,.v (.int .i64 (k+i))),(0,.ro ((ai bq one l k).map aw))],[]⟩) (λi=>l.length - i) 0 (by simp) (by simp) (λi hi=>?_);by_cases h:i<l.length
 ·have e1:Go.IntKind.i64.wrap (k+(i:Int)+1)=k+((i+1:Nat):Int):=by rw [Go.IntWalk.i64_in _ (by omega)];omega
  have e2:Go.IntKind.i64.wrap ((i:Int)+1)=((i+1:Nat):Int):=ar (by omega)
  have hm:(ai bq one l k)[i]'(by rw [aj];exact h)=k+i:=by
   rw [lZ h,im,List.length_take,Nat.min_eq_left (by omega)]
  simp [h,aj,hm];refine ⟨i+1,by omega,by omega,?_,?_⟩
  ·exact e2
  ·exact e1
 ·have:i=l.length:=by omega
  subst this;simp [aj]
end Go.Proofs.Ytmfcmlldnjffeaa
