import Derived.Test.YthckkpphnmmfdaaGreatDoorMG
import Derived.Test.YthckkpphnmmfdaaGreatDoorRows
import Derived.Test.YthckkpphnmmfdaaGreatDoorME
import Derived.IntWalk
import Derived.ProofKit
import Derived.Deep.Slices
import Derived.Test.YthckkpphnmmfdaaGreatDoorMF
namespace Go.Proofs.YthckkpphnmmfdaaGreatDoor
open Go.AM
def ti2:TI:={ n:=1,zero:=[.v (.int .i64 0)],bytes:=8,kind:=some .i64 }
def ti3:TI:={ n:=1,zero:=[.v (.int .i64 0)],bytes:=8,kind:=some .i64 }
def ti4:TI:={ n:=1,zero:=[.v (.bool false)],bytes:=1,boo:=true }
def ti5:TI:={ n:=1,zero:=[.v (.int .u8 0)],bytes:=1,kind:=some .u8 }
def ti6:TI:={ n:=1,zero:=[.v (.int .u8 0)],bytes:=1,kind:=some .u8 }
def ti7:TI:={ agg:=true,n:=4,zero:=[.v (.int .i64 0),.v (.int .i64 0),.v (.bool false),.v (.int .u8 0)],fields:=[(0,1),(1,1),(2,1),(3,1)],fagg:=[false,false,false,false],bytes:=24,pln:=true }
def ti8:TI:={ agg:=true,n:=4,zero:=[.v (.int .i64 0),.v (.int .i64 0),.v (.bool false),.v (.int .u8 0)],fields:=[(0,1),(1,1),(2,1),(3,1)],fagg:=[false,false,false,false],bytes:=24,pln:=true }
def ti9:TI:={ n:=1,zero:=[.v (.string ⟨#[]⟩)],bytes:=16,str:=true }
def wn:TI:={ n:=1,zero:=[.v (.string ⟨#[]⟩)],bytes:=16,str:=true }
def wm:TI:={ n:=1,zero:=[.v (.string ⟨#[]⟩)],bytes:=16,str:=true }
def wl:TI:={ n:=1,zero:=[.v (.int .u64 0)],bytes:=8,kind:=some .u64 }
def wk:TI:={ agg:=true,n:=2,zero:=[.v (.string ⟨#[]⟩),.v (.int .u64 0)],fields:=[(0,1),(1,1)],fagg:=[false,false],bytes:=24,pln:=true }
def wj:TI:={ agg:=true,n:=2,zero:=[.v (.string ⟨#[]⟩),.v (.int .u64 0)],fields:=[(0,1),(1,1)],fagg:=[false,false],bytes:=24,pln:=true }
def wi:TI:={ n:=1,zero:=[.v (.int .i32 0)],bytes:=4,kind:=some .i32 }
def wh:TI:={ n:=1,zero:=[.nil],sl:=some 102,bytes:=24,pln:=false }
def wg:TI:={ n:=1,zero:=[.nil],sl:=some 3,bytes:=24,pln:=false }
def we:TI:={ agg:=true,n:=7,zero:=[.v (.int .i64 0),.v (.string ⟨#[]⟩),.v (.int .i64 0),.v (.int .i64 0),.v (.int .i64 0),.nil,.nil],fields:=[(0,1),(1,1),(2,1),(3,1),(4,1),(5,1),(6,1)],fagg:=[false,false,false,false,false,false,false],bytes:=96,pln:=false }
def wd:TI:={ agg:=true,n:=7,zero:=[.v (.int .i64 0),.v (.string ⟨#[]⟩),.v (.int .i64 0),.v (.int .i64 0),.v (.int .i64 0),.nil,.nil],fields:=[(0,1),(1,1),(2,1),(3,1),(4,1),(5,1),(6,1)],fagg:=[false,false,false,false,false,false,false],bytes:=96,pln:=false }
def wc:TI:={ n:=1,zero:=[.nil],sl:=some 105,bytes:=24,pln:=false }
def wb:TI:={ agg:=true,n:=7,zero:=[.v (.int .i64 0),.v (.string ⟨#[]⟩),.v (.int .i64 0),.v (.int .i64 0),.v (.int .i64 0),.nil,.nil],fields:=[(0,1),(1,1),(2,1),(3,1),(4,1),(5,1),(6,1)],fagg:=[false,false,false,false,false,false,false],bytes:=96,pln:=false }
def wa:TI:={ agg:=true,n:=7,zero:=[.v (.int .i64 0),.v (.string ⟨#[]⟩),.v (.int .i64 0),.v (.int .i64 0),.v (.int .i64 0),.nil,.nil],fields:=[(0,1),(1,1),(2,1),(3,1),(4,1),(5,1),(6,1)],fagg:=[false,false,false,false,false,false,false],bytes:=96,pln:=false }
def v8:TI:={ agg:=true,n:=4,zero:=[.v (.int .i64 0),.v (.int .i64 0),.v (.int .i64 0),.nil],fields:=[(0,1),(1,1),(2,1),(3,1)],fagg:=[false,false,false,false],bytes:=48,pln:=false }
def v7:TI:={ agg:=true,n:=4,zero:=[.v (.int .i64 0),.v (.int .i64 0),.v (.int .i64 0),.nil],fields:=[(0,1),(1,1),(2,1),(3,1)],fagg:=[false,false,false,false],bytes:=48,pln:=false }
def v6:TI:={ n:=1,zero:=[.nil],sl:=some 5,bytes:=24,pln:=false }
def v1:TI:={ n:=1,zero:=[.nil],sl:=some 55,bytes:=24,pln:=false }
def vZ:TI:={ n:=1,zero:=[.nil],sl:=some 198,bytes:=24,pln:=false }
def vY:TI:={ agg:=true,n:=4,zero:=[.v (.bool false),.nil,.nil,.v (.int .i64 0)],fields:=[(0,1),(1,1),(2,1),(3,1)],fagg:=[false,false,false,false],bytes:=64,pln:=false }
def vX:TI:={ agg:=true,n:=4,zero:=[.v (.bool false),.nil,.nil,.v (.int .i64 0)],fields:=[(0,1),(1,1),(2,1),(3,1)],fagg:=[false,false,false,false],bytes:=64,pln:=false }
def vW:TI:={ n:=1,zero:=[.nil],sl:=some 30,bytes:=24,pln:=false }
def vV:TI:={ n:=1,zero:=[.nil],sl:=some 214,bytes:=24,pln:=false }
def vU:TI:={ n:=1,zero:=[.nil],sl:=some 155,bytes:=24,pln:=false }
def vT:TI:={ agg:=true,n:=5,zero:=[.v (.string ⟨#[]⟩),.v (.int .i64 0),.nil,.nil,.nil],fields:=[(0,1),(1,1),(2,1),(3,1),(4,1)],fagg:=[false,false,false,false,false],bytes:=96,pln:=false }
def vS:TI:={ agg:=true,n:=5,zero:=[.v (.string ⟨#[]⟩),.v (.int .i64 0),.nil,.nil,.nil],fields:=[(0,1),(1,1),(2,1),(3,1),(4,1)],fagg:=[false,false,false,false,false],bytes:=96,pln:=false }
def vR:TI:={ n:=1,zero:=[.nil],sl:=some 129,bytes:=24,pln:=false }
def vQ:TI:={ agg:=true,n:=6,zero:=[.v (.string ⟨#[]⟩),.v (.int .i64 0),.nil,.nil,.nil,.nil],fields:=[(0,5),(5,1)],fagg:=[true,false],bytes:=120,pln:=false }
def vP:TI:={ agg:=true,n:=6,zero:=[.v (.string ⟨#[]⟩),.v (.int .i64 0),.nil,.nil,.nil,.nil],fields:=[(0,5),(5,1)],fagg:=[true,false],bytes:=120,pln:=false }
def vO:TI:={ n:=1,zero:=[.nil],sl:=some 9,bytes:=24,pln:=false }
def vN:TI:={ agg:=true,n:=3,zero:=[.nil,.v (.int .i64 0),.v (.int .i64 0)],fields:=[(0,1),(1,1),(2,1)],fagg:=[false,false,false],bytes:=40,pln:=false }
def vM:TI:={ agg:=true,n:=3,zero:=[.nil,.v (.int .i64 0),.v (.int .i64 0)],fields:=[(0,1),(1,1),(2,1)],fagg:=[false,false,false],bytes:=40,pln:=false }
def qF:TI:={ agg:=true,n:=3,zero:=[.v (.int .i64 0),.v (.int .i64 0),.nil],fields:=[(0,1),(1,1),(2,1)],fagg:=[false,false,false],bytes:=40,pln:=false }
def qE:TI:={ agg:=true,n:=3,zero:=[.v (.int .i64 0),.v (.int .i64 0),.nil],fields:=[(0,1),(1,1),(2,1)],fagg:=[false,false,false],bytes:=40,pln:=false }
def qD:TI:={ agg:=true,n:=3,zero:=[.v (.int .i64 0),.v (.int .i64 0),.nil],fields:=[(0,1),(1,1),(2,1)],fagg:=[false,false,false],bytes:=40,pln:=false }
def qC:TI:={ agg:=true,n:=4,zero:=[.v (.int .i64 0),.v (.int .i64 0),.nil,.nil],fields:=[(0,1),(1,1),(2,1),(3,1)],fagg:=[false,false,false,false],bytes:=64,pln:=false }
def qB:TI:={ agg:=true,n:=4,zero:=[.v (.int .i64 0),.v (.int .i64 0),.nil,.nil],fields:=[(0,1),(1,1),(2,1),(3,1)],fagg:=[false,false,false,false],bytes:=64,pln:=false }
def qA:TI:={ agg:=true,n:=7,zero:=[.v (.int .i64 0),.v (.int .i64 0),.v (.int .i64 0),.nil,.v (.bool false),.nil,.nil],fields:=[(0,1),(1,1),(2,1),(3,1),(4,1),(5,1),(6,1)],fagg:=[false,false,false,false,false,false,false],bytes:=104,pln:=false }
def qz:TI:={ agg:=true,n:=7,zero:=[.v (.int .i64 0),.v (.int .i64 0),.v (.int .i64 0),.nil,.v (.bool false),.nil,.nil],fields:=[(0,1),(1,1),(2,1),(3,1),(4,1),(5,1),(6,1)],fagg:=[false,false,false,false,false,false,false],bytes:=104,pln:=false }
def qy:TI:={ agg:=true,n:=3,zero:=[.v (.int .i64 0),.v (.int .i64 0),.v (.int .i64 0)],fields:=[(0,1),(1,1),(2,1)],fagg:=[false,false,false],bytes:=24,pln:=true,ieq:=true }
def qx:TI:={ agg:=true,n:=3,zero:=[.v (.int .i64 0),.v (.int .i64 0),.v (.int .i64 0)],fields:=[(0,1),(1,1),(2,1)],fagg:=[false,false,false],bytes:=24,pln:=true,ieq:=true }
def qw:TI:={ agg:=true,n:=3,zero:=[.nil,.nil,.v (.int .i64 0)],fields:=[(0,1),(1,1),(2,1)],fagg:=[false,false,false],bytes:=56,pln:=false }
def qv:TI:={ agg:=true,n:=3,zero:=[.nil,.nil,.v (.int .i64 0)],fields:=[(0,1),(1,1),(2,1)],fagg:=[false,false,false],bytes:=56,pln:=false }
def qu:TI:={ agg:=true,n:=4,zero:=[.v (.int .i64 0),.v (.int .i64 0),.v (.bool false),.nil],fields:=[(0,1),(1,1),(2,1),(3,1)],fagg:=[false,false,false,false],bytes:=48,pln:=false }
def qt:TI:={ agg:=true,n:=4,zero:=[.v (.int .i64 0),.v (.int .i64 0),.v (.bool false),.nil],fields:=[(0,1),(1,1),(2,1),(3,1)],fagg:=[false,false,false,false],bytes:=48,pln:=false }
def qs:TI:={ agg:=true,n:=6,zero:=[.v (.int .i64 0),.v (.string ⟨#[]⟩),.v (.int .i64 0),.v (.int .i64 0),.v (.bool false),.nil],fields:=[(0,1),(1,1),(2,4)],fagg:=[false,false,true],bytes:=72,pln:=false }
def qr:TI:={ agg:=true,n:=6,zero:=[.v (.int .i64 0),.v (.string ⟨#[]⟩),.v (.int .i64 0),.v (.int .i64 0),.v (.bool false),.nil],fields:=[(0,1),(1,1),(2,4)],fagg:=[false,false,true],bytes:=72,pln:=false }
def qq:TI:={ n:=1,zero:=[.v (.int .u64 0)],bytes:=8,kind:=some .u64 }
def qp:TI:={ agg:=true,n:=3,zero:=[.v (.int .i64 0),.v (.int .i64 0),.nil],fields:=[(0,1),(1,1),(2,1)],fagg:=[false,false,false],bytes:=40,pln:=false }
def qo:TI:={ agg:=true,n:=3,zero:=[.v (.int .i64 0),.v (.int .i64 0),.nil],fields:=[(0,1),(1,1),(2,1)],fagg:=[false,false,false],bytes:=40,pln:=false }
def qn:TI:={ n:=1,zero:=[.v (.int .u64 0)],bytes:=8,kind:=some .u64 }
def ql:TI:={ n:=1,zero:=[.v (.int .i64 0)],bytes:=8,kind:=some .i64 }
def qk:TI:={ agg:=true,n:=3,zero:=[.nil,.v (.int .i64 0),.v (.int .i64 0)],fields:=[(0,1),(1,1),(2,1)],fagg:=[false,false,false],bytes:=40,pln:=false }
def qj:TI:={ agg:=true,n:=3,zero:=[.nil,.v (.int .i64 0),.v (.int .i64 0)],fields:=[(0,1),(1,1),(2,1)],fagg:=[false,false,false],bytes:=40,pln:=false }
def qi:TI:={ n:=1,zero:=[.v (.int .u32 0)],bytes:=4,kind:=some .u32 }
def qg:TI:={ agg:=true,n:=2,zero:=[.v (.int .u8 0),.v (.int .u8 0)],fields:=[(0,1),(1,1)],fagg:=[false,false],bytes:=2,pln:=true }
def qf:TI:={ agg:=true,n:=2,zero:=[.v (.int .u8 0),.v (.int .u8 0)],fields:=[(0,1),(1,1)],fagg:=[false,false],bytes:=2,pln:=true }
def qe:TI:={ n:=1,zero:=[.nil],sl:=some 28,bytes:=24,pln:=false }
def qd:TI:={ agg:=true,n:=1,zero:=[.v (.string ⟨#[]⟩)],fields:=[(0,1)],fagg:=[false],bytes:=16,pln:=true }
def qc:TI:={ agg:=true,n:=1,zero:=[.v (.string ⟨#[]⟩)],fields:=[(0,1)],fagg:=[false],bytes:=16,pln:=true }
def qb:TI:={ n:=1,zero:=[.v (.int .u8 0)],bytes:=1,kind:=some .u8 }
def qa:TI:={ n:=1,zero:=[.v (.int .u8 0)],bytes:=1,kind:=some .u8 }
def p9:TI:={ n:=1,zero:=[.v (.int .i32 0)],bytes:=4,kind:=some .i32 }
def p8:TI:={ n:=1,zero:=[.v (.int .i32 0)],bytes:=4,kind:=some .i32 }
def yY:List (Nat×TI):=[(2,ti2),(3,ti3),(4,ti4),(5,ti5),(6,ti6),(7,ti7),(8,ti8),(9,ti9),(10,wn),(11,wm),(12,wl),(13,wk),(14,wj),(21,wi),(22,wh),(23,wg),(24,we),(25,wd),(28,wc),(29,wb),(30,wa),(34,v8),(35,v7),(44,v6),(45,v1),(46,vZ),(47,vY),(48,vX),(50,vW),(52,vV),(53,vU),(54,vT),(55,vS),(56,vR),(57,vQ),(58,vP),(72,vO),(95,vN),(96,vM),(101,qF),(102,qE),(105,qD),(119,qC),(120,qB),(128,qA),(129,qz),(154,qy),(155,qx),(176,qw),(177,qv),(195,qu),(196,qt),(197,qs),(198,qr),(203,qq),(213,qp),(214,qo),(231,qn),(238,ql),(252,qk),(253,qj),(264,qi),(268,qg),(269,qf),(278,qe),(289,qd),(290,qc),(301,qb),(302,qa),(304,p9),(305,p8)]
def tt:Nat->Option TI:=lJ yY
theorem Ce:tt 2=some ti2:=rfl
theorem Cd:tt 3=some ti3:=rfl
theorem Cc:tt 4=some ti4:=rfl
theorem Cb:tt 5=some ti5:=rfl
theorem Ca:tt 6=some ti6:=rfl
theorem B9:tt 7=some ti7:=rfl
theorem B8:tt 8=some ti8:=rfl
theorem B7:tt 9=some ti9:=rfl
theorem zu:tt 10=some wn:=rfl
theorem zt:tt 11=some wm:=rfl
theorem zs:tt 12=some wl:=rfl
theorem zr:tt 13=some wk:=rfl
theorem zq:tt 14=some wj:=rfl
theorem zp:tt 21=some wi:=rfl
theorem zo:tt 22=some wh:=rfl
theorem zn:tt 23=some wg:=rfl
theorem zm:tt 24=some we:=rfl
theorem zl:tt 25=some wd:=rfl
theorem zk:tt 28=some wc:=rfl
theorem zj:tt 29=some wb:=rfl
theorem zi:tt 30=some wa:=rfl
theorem zh:tt 34=some v8:=rfl
theorem zg:tt 35=some v7:=rfl
theorem zf:tt 44=some v6:=rfl
theorem ze:tt 45=some v1:=rfl
theorem zd:tt 46=some vZ:=rfl
theorem zc:tt 47=some vY:=rfl
theorem zb:tt 48=some vX:=rfl
theorem za:tt 50=some vW:=rfl
theorem y9:tt 52=some vV:=rfl
theorem y8:tt 53=some vU:=rfl
theorem y7:tt 54=some vT:=rfl
theorem y6:tt 55=some vS:=rfl
theorem y5:tt 56=some vR:=rfl
theorem y4:tt 57=some vQ:=rfl
theorem y3:tt 58=some vP:=rfl
theorem y2:tt 72=some vO:=rfl
theorem y1:tt 95=some vN:=rfl
theorem yZ:tt 96=some vM:=rfl
theorem vG:tt 101=some qF:=rfl
theorem vF:tt 102=some qE:=rfl
theorem vE:tt 105=some qD:=rfl
theorem vD:tt 119=some qC:=rfl
theorem vC:tt 120=some qB:=rfl
theorem vB:tt 128=some qA:=rfl
theorem vA:tt 129=some qz:=rfl
theorem vz:tt 154=some qy:=rfl
theorem vy:tt 155=some qx:=rfl
theorem vx:tt 176=some qw:=rfl
theorem vw:tt 177=some qv:=rfl
theorem vv:tt 195=some qu:=rfl
theorem vu:tt 196=some qt:=rfl
theorem vr:tt 197=some qs:=rfl
theorem vq:tt 198=some qr:=rfl
theorem vp:tt 203=some qq:=rfl
theorem vo:tt 213=some qp:=rfl
theorem vn:tt 214=some qo:=rfl
theorem vm:tt 231=some qn:=rfl
theorem vl:tt 238=some ql:=rfl
theorem vk:tt 252=some qk:=rfl
theorem vj:tt 253=some qj:=rfl
theorem vh:tt 264=some qi:=rfl
theorem vg:tt 268=some qg:=rfl
theorem vf:tt 269=some qf:=rfl
theorem ve:tt 278=some qe:=rfl
theorem vc:tt 289=some qd:=rfl
theorem va:tt 290=some qc:=rfl
theorem u9:tt 301=some qb:=rfl
theorem u7:tt 302=some qa:=rfl
theorem u6:tt 304=some p9:=rfl
theorem u5:tt 305=some p8:=rfl
theorem s6:(yY.all λp=>gI Tryz.prog p.1 p.2)=true:=by kernel_rfl
theorem al:∀ t ti,tt t=some ti->TIok Tryz.prog t ti:=qG s6
theorem eok {w0:World} {F G:Nat->Prop} {l:Bool}:EOk ⟨Tryz.prog,tt,w0,⟨F,G,l,λ_=>True⟩⟩:=⟨al,λ_ _=>trivial⟩
attribute [simp] ti2 ti3 ti4 ti5 ti6 ti7 ti8 ti9 wn wm wl wk wj wi wh wg we wd wc wb wa v8 v7 v6 v1 vZ vY vX vW vV vU vT vS vR vQ vP vO vN vM qF qE qD qC qB qA qz qy qx qw qv qu qt qs qr qq qp qo qn ql qk qj qi qg qf qe qd qc qb qa p9 p8 Ce Cd Cc Cb Ca B9 B8 B7 zu zt zs zr zq zp zo zn zm zl zk zj zi zh zg zf ze zd zc zb za y9 y8 y7 y6 y5 y4 y3 y2 y1 yZ vG vF vE vD vC vB vA vz vy vx vw vv vu vr vq vp vo vn vm vl vk vj vh vg vf ve vc va u9 u7 u6 u5
end Go.Proofs.YthckkpphnmmfdaaGreatDoor
namespace Go.AM
abbrev vi (n:Int):CD:=.v (.int .i64 n)
noncomputable abbrev vb (p:Prop):CD:=.v (.bool (dc p))
abbrev aJ (n:Int):List CD:=[vi n]
theorem l8 {p q:Prop} (h:p ↔ q):dc p=dc q:=by rw [propext h]
theorem ez {α:Type} {a b:List α} {i:Nat} (h:i<a.length) (h':i<b.length) (ht:a.take i=b.take i) (he:a[i]=b[i]):a.take (i+1)=b.take (i+1):=by
 rw [<- List.take_append_getElem h,<- List.take_append_getElem h',ht,he]
theorem e8 {α:Type} {a b:List α} {i:Nat} (h:a.length<=i) (hl:a.length=b.length) (ht:a.take i=b.take i):a=b:=by
 rwa [List.take_of_length_le h,List.take_of_length_le (by omega)] at ht
theorem nX {α:Type} {a b:List α} {i:Nat} (h:i<a.length) (h':i<b.length) (he:a[i]≠b[i]):a≠b:=by
 rintro rfl;exact he rfl
theorem kz {n:Nat} (h:n<=9223372036854775807):Go.IntKind.i64.wrap (n:Int)=n:=Go.IntWalk.i64_in _ (by omega)
theorem aA {n:Nat} (h:n<9223372036854775807):Go.IntKind.i64.wrap ((n:Int)+1)=((n+1:Nat):Int):=by rw [Go.IntWalk.i64_in _ (by omega)];omega
@[simp] theorem Cg {a b:Nat}:((a:Int)+(b:Int)).toNat=a+b:=by omega
@[simp] theorem Cf {a n : Nat} : ((a : Int) + (OfNat.ofNat n : Int)).toNat = a + n := by
  show ((a:Int)+((n:Nat):Int)).toNat=a+n
  omega
@[simp] theorem Cs {a b:Nat}:(0:Int)<=(a:Int)+(b:Int):=by omega
@[simp] theorem Cr {a n : Nat} : (0 : Int) <= (a : Int) + (OfNat.ofNat n : Int) := by
  show (0:Int)<=(a:Int)+((n:Nat):Int)
  omega
@[simp] theorem BO {α:Type} {f:α->List CD} {l:List α}:cut (l.map f) 0 l.length=l.map f:=ov (by simp)
attribute [simp] ov
@[simp] theorem BN {n:Nat}:((n:Int)<0)=False:=by simp
open Go.RowKit Go.WideShapes Go.ChangeShapes
def iv (P:Program):Nat->List Field->Option Nat
 |o,[]=>some o
 |o,f::fs=>if f.offset=o then iv P (o+P.cellsOf f.type) fs else none
def okT (P:Program):Nat->TypeId->Bool
 |0,_=>false
 | D + 1, t => match P.underlying t with
   |some .bool=>true
   |some (.int _)=>true
   |some .string=>true
   |some (.slice e)=>decide (0<P.cellsOf e) && okT P D e
   |some (.struct fs)=>(iv P 0 fs.toList == some (P.cellsOf t)) && fs.toList.all λf=>okT P D f.type
   |_=>false
def ce (P:Program):Nat->TypeId->List CD->Prop
 |0,_,_=>False
 | D + 1, t, ds => match P.underlying t with
   |some .bool=>∃ b,ds=[.v (.bool b)]
   |some (.int k)=>∃ n,ds=[.v (.int k n)]/\(Lit.int k n).wf=true
   |some .string=>∃ s:ByteArray,ds=[.v (.string s)]/\s.size<=maxLen
   |some (.slice e)=>∃ rows,ds=[.s rows]/\rows.length<=maxLen/\∀ row∈rows,row.length=P.cellsOf e/\ce P D e row
   |some (.struct fs)=>ds.length=P.cellsOf t/\∀ f∈fs.toList,ce P D f.type ((ds.drop f.offset).take (P.cellsOf f.type))
   |_=>False
def dF (w:World) (cs:List Value) (ds:List CD):Prop:=ds.length=cs.length/\∀ (j:Nat) (u:Value) (d:CD),cs[j]? = some u->ds[j]? = some d->Rd w false (λ_=>True) u d
theorem dF.one {w:World} {u:Value} {d:CD} (h:Rd w false (λ_=>True) u d):dF w [u] [d]:=by
 refine ⟨rfl,λj u' d' hu hd=>?_⟩
 cases j with
 |zero=>simp at hu hd;subst hu;subst hd;exact h
 |succ j=>simp at hu
theorem fc {P:Program} {w:World} {D:Nat} {cs:List Value}:∀ (fs:List Field) (o m:Nat),iv P o fs=some m -> m <= cs.length ->
 (∀ f ∈ fs,∃ ds,dF w ((cs.drop f.offset).take (P.cellsOf f.type)) ds /\ ce P D f.type ds) ->
 ∃ ds,o<=m/\dF w ((cs.drop o).take (m - o)) ds/\∀ f∈fs,o<=f.offset/\ce P D f.type ((ds.drop (f.offset - o)).take (P.cellsOf f.type))
 | [], o, m, hc, _, _ => by
   simp only [iv,Option.some.injEq] at hc;subst hc;exact ⟨[],Nat.le_refl _,by simp [dF],by simp⟩
 | f :: fs, o, m, hc, hm, hx => by
   simp only [iv] at hc
   split at hc
   ·rename_i ho
    obtain ⟨ds,h1,h2,h3⟩:=fc fs _ m hc hm (λg hg=>hx g (List.mem_cons_of_mem _ hg));obtain ⟨d1,h4,h5⟩:=hx f (List.mem_cons_self ..);have hl:d1.length=P.cellsOf f.type:=by rw [h4.1];simp;omega
    refine ⟨d1++ds,by omega,⟨?_,λj u d hu hd=>?_⟩,λg hg=>?_⟩
    ·have:=h2.1
     simp at this ⊢;omega
    ·by_cases hj:j<P.cellsOf f.type
     ·rw [List.getElem?_append_left (by omega)] at hd
      refine h4.2 j u d ?_ hd;rw [List.getElem?_take,if_pos hj,ho];rw [List.getElem?_take] at hu
      split at hu
      ·exact hu
      ·simp at hu
     ·rw [List.getElem?_append_right (by omega),hl] at hd
      refine h2.2 _ u d ?_ hd;rw [List.getElem?_take] at hu ⊢
      split at hu
      ·rw [if_pos (by omega)]
       rw [List.getElem?_drop] at hu ⊢;rw [<- hu]
       congr 1
       omega
      ·simp at hu
    ·rcases List.mem_cons.1 hg with rfl|hg
     ·refine ⟨by omega,?_⟩
      rw [ho,Nat.sub_self,List.drop_zero,List.take_append_of_le_length (by omega),List.take_of_length_le (by omega)];exact h5
     ·obtain ⟨h6,h7⟩:=h3 g hg
      refine ⟨by omega,?_⟩
      have:(d1++ds).drop (g.offset - o)=ds.drop (g.offset - (o+P.cellsOf f.type)):=by
       rw [List.drop_append,List.drop_of_length_le (by omega),hl,List.nil_append]
       congr 1
       omega
      rw [this];exact h7
   ·simp at hc
theorem oQ {H:Type} {enc:TypeId×Value->H} {P:Program} {w:World} {base:Nat} {spare:Nat->Bool} {held:Bool} :
 ∀ (D:Nat) (t:TypeId) (cs:List Value) (x:DataW H×List MemPlace) (fuel:Nat),okT P D t=true->DataW.trod enc P w base spare held fuel t cs=some x->∃ ds,dF w cs ds/\ce P D t ds:=by
 intro D
 induction D with
 |zero=>intro t cs x fuel h;simp [okT] at h
 | succ D ih =>
   intro t cs x fuel hok h;unfold okT at hok
   split at hok
   ·rename_i hu
    obtain ⟨b,rfl,-⟩:=DataW.trod_bool hu h;exact ⟨[.v (.bool b)],dF.one (.plain rfl),by simp [ce,hu]⟩
   ·rename_i k hu
    obtain ⟨n,rfl,-,hw⟩:=DataW.trod_int hu h;exact ⟨[.v (.int k n)],dF.one (.plain rfl),by simp [ce,hu,hw]⟩
   ·rename_i hu
    obtain ⟨s,rfl,-,hs⟩:=DataW.trod_string hu h;exact ⟨[.v (.string s)],dF.one (.plain rfl),by simp [ce,hu,hs]⟩
   ·rename_i e hu
    simp only [Bool.and_eq_true,decide_eq_true_eq] at hok;obtain ⟨hpos,hok⟩:=hok;rcases DataW.trod_slice hu h with ⟨rfl,-⟩|⟨a,len,cap,elems,rest,n,-,rfl,-,-,hlc,hcm,hel,hi,-⟩
    ·exact ⟨[.s []],dF.one (.empty _ _ (λh=>by simp at h)),by simp [ce,hu]⟩
    ·have each:∀ i,i<len->∃ p:List Value×List CD,w.cells? base (a.add (i*P.cellsOf e)) (P.cellsOf e)=some p.1/\dF w p.1 p.2/\ce P D e p.2:=by
      intro i hlt;have h1:=hi i hlt;rw [List.getElem?_eq_getElem (by omega)] at h1;obtain ⟨c,h2,h3⟩:=Option.bind_eq_some_iff.1 h1;obtain ⟨ds,h4,h5⟩:=ih e c _ n hok h3;exact ⟨(c,ds),h2,h4,h5⟩
     by_cases hl0:len=0
     ·subst hl0
      exact ⟨[.s []],dF.one (.empty _ _ (λh=>by simp at h)),by simp [ce,hu]⟩
     ·obtain ⟨f,hf⟩:=Go.Deep.choose_lt each
      have cell:∀ i j,i<len->j<P.cellsOf e->w.cell? (a.add (i*P.cellsOf e+j))=(f i).1[j]?/\(f i).1.length=P.cellsOf e:=by
       intro i j hlt hj;obtain ⟨-,h2,h3⟩:=World.cells?_some (hf i hlt).1;exact ⟨by rw [<- h3 j hj,Go.Deep.add_add],h2⟩
      obtain ⟨b,off,spot⟩:=a
      have hb:∃ cs T fr,w.heap[b]? = some (.cells cs T fr)/\spot=none:=by
       obtain ⟨h1,h2⟩:=cell 0 0 (by omega) hpos;rw [List.getElem?_eq_getElem (by omega)] at h1;unfold World.cell? at h1;rw [block_add] at h1
       split at h1
       ·rename_i c T fr hh
        refine ⟨c,T,fr,hh,?_⟩
        cases spot with
        |none=>rfl
        |some s=>simp [Addr.add] at h1
       ·simp at h1
      obtain ⟨c,T,fr,hb,rfl⟩:=hb
      have at':∀ i j,i<len->j<P.cellsOf e->c[off+(i*P.cellsOf e+j)]? = (f i).1[j]?:=by
       intro i j hlt hj;rw [<- (cell i j hlt hj).1,aV];simp [World.cell?,hb]
      have hrows:((List.range len).map λi=>(f i).2).length=len:=by simp
      have hrd:=Rd.slice (w:=w) (x:=false) (S:=λ_=>True) b off cap (P.cellsOf e) c T fr ((List.range len).map λi=>(f i).2) (λ_ _ _=>True)
       (by rw [hrows];exact hlc) hcm hpos trivial hb (by
        rw [hrows];obtain ⟨m,rfl⟩:∃ m,len=m+1:=⟨len - 1,by omega⟩;have h1:=at' m (P.cellsOf e - 1) (by omega) (by omega);rw [List.getElem?_eq_getElem (by rw [(cell m (P.cellsOf e - 1) (by omega) (by omega)).2];omega)] at h1;have h2:=(Array.getElem?_eq_some_iff.1 h1).1;rw [Nat.succ_mul];omega) (λh=>by simp at h) (λ_ _ _ _=>⟨trivial,λh=>by simp at h⟩) (λh=>by simp at h)
       (λrow hrow=>by
        simp only [List.mem_map,List.mem_range] at hrow;obtain ⟨i,hlt,rfl⟩:=hrow;rw [(hf i hlt).2.1.1];exact (cell i 0 hlt hpos).2)
       (λi j row d h1 h2=>by
        have hlt:i<len:=by have:=(List.getElem?_eq_some_iff.1 h1).1;omega
        simp only [List.getElem?_map,List.getElem?_range hlt,Option.map_some,Option.some.injEq] at h1;subst h1
        have hj:j<P.cellsOf e:=by
         have:=(List.getElem?_eq_some_iff.1 h2).1;rw [(hf i hlt).2.1.1,(cell i 0 hlt hpos).2] at this;exact this
        have h3:=at' i j hlt hj;rw [List.getElem?_eq_getElem (by rw [(cell i j hlt hj).2];exact hj)] at h3
        have h4:c.getD (off+(i*P.cellsOf e+j)) undef=(f i).1[j]'(by rw [(cell i j hlt hj).2];exact hj):=by
         rw [Array.getD_eq_getD_getElem?,h3];rfl
        rw [h4];exact (hf i hlt).2.1.2 j _ d (List.getElem?_eq_getElem _) h2)
      rw [hrows] at hrd;refine ⟨[.s ((List.range len).map λi=>(f i).2)],dF.one hrd,?_⟩;simp only [ce,hu];refine ⟨_,rfl,by rw [hrows];omega,λrow hrow=>?_⟩;simp only [List.mem_map,List.mem_range] at hrow;obtain ⟨i,hlt,rfl⟩:=hrow;exact ⟨by rw [(hf i hlt).2.1.1];exact (cell i 0 hlt hpos).2,(hf i hlt).2.2⟩
   ·rename_i fs hu
    simp only [Bool.and_eq_true,beq_iff_eq,List.all_eq_true] at hok;obtain ⟨hc,hall⟩:=hok;obtain ⟨xs,n,-,-,hcl,hxl,hi⟩:=DataW.trod_struct hu h
    obtain ⟨ds,-,h1,h2⟩:=fc (w:=w) (D:=D) (cs:=cs) fs.toList 0 _ hc (by omega) (λf hf=>by
     obtain ⟨i,hlt,rfl⟩:=List.getElem_of_mem hf;have hlt':i<fs.size:=by simpa using hlt
     have h3:=hi i fs[i] (by simp [hlt']);rw [List.getElem?_eq_getElem (by omega)] at h3;exact ih _ _ _ n (hall _ hf) h3)
    rw [List.drop_zero,Nat.sub_zero,List.take_of_length_le (by omega)] at h1;refine ⟨ds,h1,?_⟩;simp only [ce,hu];refine ⟨by rw [h1.1,hcl],λf hf=>?_⟩;have:=(h2 f hf).2
    rwa [Nat.sub_zero] at this
   ·simp at hok
def mr (P:Program) (D:Nat) (t:TypeId):VD->Prop
 | .c d=>ce P D t [d]
 | .agg ds=>(∃ fs,P.underlying t=some (.struct fs))/\ce P D t ds
theorem q9 {H:Type} {enc:TypeId×Value->H} {P:Program} {w:World} {base b0:Nat} {spare:Nat->Bool} {held:Bool} {r:Reach} {D:Nat} {t:TypeId} {v:Value} {d:DataW H} {ps:List MemPlace}
 (hok:okT P D t=true) (hval:Value.okWide P w r b0 t v) (h:DataW.Trod enc P w base spare held t v d ps):∃ vd,RdV w v vd/\mr P D t vd:=by
 obtain ⟨fuel,hf⟩:=h;obtain ⟨ds,hr,hfit⟩:=oQ D t _ _ fuel hok hf
 have one:v.cells = #[v]->(∀ fs,P.underlying t≠some (.struct fs))->∃ vd,RdV w v vd/\mr P D t vd:=by
  intro hc _;rw [hc] at hr;obtain ⟨hl,hr⟩:=hr
  cases ds with
  |nil=>simp at hl
  | cons d ds =>
    cases ds with
    |nil=>exact ⟨.c d,hr 0 v d rfl rfl,hfit⟩
    |cons _ _=>simp at hl
 cases D with
 |zero=>simp [okT] at hok
 | succ D =>
   unfold okT at hok
   split at hok
   ·rename_i hu
    obtain ⟨b,rfl⟩:=okWide_bool hu hval;exact one rfl (λfs h=>by rw [hu] at h;simp at h)
   ·rename_i k hu
    obtain ⟨n,rfl⟩:=okWide_int hu hval;exact one rfl (λfs h=>by rw [hu] at h;simp at h)
   ·rename_i hu
    obtain ⟨s,rfl⟩:=okWide_string hu hval;exact one rfl (λfs h=>by rw [hu] at h;simp at h)
   ·rename_i e hu
    obtain ⟨a,l,c,rfl⟩:=okWide_slice hu hval;exact one rfl (λfs h=>by rw [hu] at h;simp at h)
   ·rename_i fs hu
    obtain ⟨cs,rfl,-⟩:=okWide_struct hu hval;obtain ⟨hl,hr⟩:=hr;refine ⟨.agg ds,⟨cs,rfl,by simpa [Value.cells] using hl.symm,λj d hd=>?_⟩,⟨fs,hu⟩,hfit⟩
    have hj:j<cs.size:=by
     have:=(List.getElem?_eq_some_iff.1 hd).1;simp [Value.cells] at hl;omega
    have:=hr j cs[j] d (by simp [Value.cells,hj]) hd
    simpa [hj] using this
   ·simp at hok
def dG (P:Program) (D:Nat) (w:World):List TypeId->List Value->List VD->Prop
 | [],[],[]=>True
 |t::ts,v::vs,d::ds=>(RdV w v d/\mr P D t d)/\dG P D w ts vs ds
 |_,_,_=>False
theorem jz {H:Type} {enc:TypeId×Value->H} {P:Program} {w:World} {base b0:Nat} {spare:Nat->Bool} {held:Bool} {r:Reach} {D:Nat} :
 ∀ (ts : List TypeId) (vs : List Value) (ds : List (DataW H)) (ps : List MemPlace), (ts.all λt => okT P D t) = true -> (∀ (j : Nat) t v, ts[j]? = some t -> vs[j]? = some v -> Value.okWide P w r b0 t v) ->
   DataW.TrodAll enc P w base spare held ts vs ds ps->∃ vds,dG P D w ts vs vds
 | [], vs, ds, ps, _, _, h => by
   obtain ⟨rfl,-,-⟩:=trodAll_nil h;exact ⟨[],trivial⟩
 | t :: ts, vs, ds, ps, hok, hval, h => by
   obtain ⟨v,vs1,d,ds1,a,b,rfl,rfl,rfl,h1,h2⟩:=trodAll_cons h;simp only [List.all_cons,Bool.and_eq_true] at hok;obtain ⟨vds,h3⟩:=jz ts vs1 ds1 b hok.2 (λj t v ht hv=>hval (j+1) t v (by simpa using ht) (by simpa using hv)) h2;obtain ⟨vd,h4,h5⟩:=q9 hok.1 (hval 0 t v rfl rfl) h1;exact ⟨vd::vds,⟨h4,h5⟩,h3⟩
theorem gA {P:Program} {D:Nat} {w:World}:∀ (ts:List TypeId) (vs:List Value) (vds:List VD),dG P D w ts vs vds->vs.length=vds.length/\∀ (i:Nat) vd,vds[i]? = some vd->RdV w (vs.toArray.getD i undef) vd
 | [],[],[],_=>⟨rfl,λi vd h=>by simp at h⟩
 | t :: ts, v :: vs, d :: ds, h => by
   obtain ⟨h1,h2⟩:=gA ts vs ds h.2;refine ⟨by simp [h1],λi vd hi=>?_⟩
   cases i with
   |zero=>simp at hi;subst hi;simpa using h.1.1
   |succ i=>simpa using h2 i vd (by simpa using hi)
theorem jo {H:Type} {enc:TypeId×Value->H} {P:Program} (hl:laidOutB P=true) {W W':World} (hb:Below W.heap.size W W') {sp:Nat->Bool} :
 ∀ (ts : List TypeId) (vs : List Value) (ds : List (DataW H)) (ps : List MemPlace), (ts.all λt => P.readableRec t && decide (t < P.types.size)) = true -> DataW.TrodAll enc P W 0 (λ_ => true) true ts vs ds ps ->
   (∀ x∈ps,x.block<W.heap.size)->(∀ x∈ps,sp x.block=true)->DataW.TrodAll enc P W' 0 sp true ts vs ds ps
 | [], vs, ds, ps, _, h, _, _ => by
   obtain ⟨rfl,rfl,rfl⟩:=trodAll_nil h;rfl
 | t :: ts, vs, ds, ps, hok, h, hlt, hsp => by
   obtain ⟨v,vs1,d,ds1,a,b,rfl,rfl,rfl,h1,h2⟩:=trodAll_cons h;simp only [List.all_cons,Bool.and_eq_true,decide_eq_true_eq] at hok;refine ⟨a,b,WideElems.Trod_stays hl hok.1.1 hok.1.2 h1 (λx hx=>hb.same (hlt x (by simp [hx]))) (λx hx=>hsp x (by simp [hx])),jo hl hb ts vs1 ds1 b (by simpa using hok.2) h2 (λx hx=>hlt x (by simp [hx])) (λx hx=>hsp x (by simp [hx])),rfl⟩
theorem o5 {L:World->Prop} {H:Type} {enc:TypeId×Value->H} {P:Program} (hlaid:laidOutB P=true) {f:FuncId} {fn:Func} {s:ChangeSpec} {apart fresh handsOn:Bool} {D:Nat} {bt:TypeId}
 (hv:s.vars=[]) (hres:fn.resultTypes = #[bt]) (hbt:P.underlying bt=some .bool) (hokT:(fn.params.toList.all λt=>okT P D t)=true) (hread:(fn.params.toList.all λt=>P.readableRec t && decide (t<P.types.size))=true)
 (hs:∀ ds:List (DataW H),ds.length=fn.params.toList.length->s.fn H ds={ results:=[.lit (.bool true)],args:=ds })
 {W:World} {args:Array Value} {r:Reach} {b0:Nat} {ds gs:List (DataW H)} {before:List MemPlace}
 (hval:∀ (j:Nat) t v,fn.params[j]? = some t->args[j]? = some v->Value.okWide P W r b0 t v)
 (hW:DataW.Whole enc P fn.params.toList s.vars apart W args.toList ds gs before)
 (hLW:L W) (hwalk:∀ vds,dG P D W fn.params.toList args.toList vds->ba P L f vds (.one (.c (.v (.bool true)) 1))) :
 Calls P f args W λe W'=>∃ v,e=.returned v/\s.post enc P fn apart fresh handsOn false W args v W':=by
 have hW0:=hW;obtain ⟨p,q,hA,hV,rfl,hfz,hnd⟩:=hW;rw [hv] at hV;obtain ⟨rfl,rfl⟩:=trodVars_none hV;obtain ⟨vds,ho⟩:=jz (D:=D) fn.params.toList args.toList ds p hokT (λj t v ht hv=>hval j t v (by simpa using ht) (by simpa using hv)) hA;obtain ⟨hl,hr⟩:=gA _ _ _ ho
 have hlen:ds.length=fn.params.toList.length:=by
  have:∀ (ts:List TypeId) (vs:List Value) (ds:List (DataW H)) (ps:List MemPlace),DataW.TrodAll enc P W 0 (λ_=>true) true ts vs ds ps->ds.length=ts.length:=by
   intro ts
   induction ts with
   |nil=>intro vs ds ps h;obtain ⟨-,rfl,-⟩:=trodAll_nil h;rfl
   | cons t ts ih =>
     intro vs ds ps h;obtain ⟨v,vs1,d,ds1,a,b,rfl,rfl,rfl,h1,h2⟩:=trodAll_cons h;simp [ih _ _ _ h2]
  exact this _ _ _ _ hA
 refine ((hwalk vds ho).2 W hLW args (by simpa using hl) (λi vd hi=>by simpa using hr i vd hi)).mono ?_
 rintro e W' ⟨v,rfl,hb,hrr⟩
 have hv1:v=.bool true:=hrr.1;subst hv1;have hs':=hs ds hlen;refine ⟨_,rfl,ds,[],p,[],p,[],by simpa using hW0,?_,?_,?_,?_,λh=>by cases h⟩
 ·rw [List.append_nil,hs',hres]
  exact trodAll_mk1 (shut_bool hbt true)
 ·rw [List.append_nil,hs']
  have hlt:∀ x∈p,x.block<W.heap.size:=λx hx=>hW0.lt x (by simp [hx])
  exact jo hlaid hb _ _ _ _ hread hA hlt (λx hx=>by simpa using hlt x hx)
 ·rw [hv]
  have:(s.fn H (ds++[])).vars=[]:=by rw [List.append_nil,hs']
  rw [this];exact rfl
 ·exact hb.frame _
theorem u3 {n:Int} (h:(Lit.int .i64 n).wf=true) : -9223372036854775808<=n/\n<=9223372036854775807:=by
 have:IntKind.i64.min = -9223372036854775808:=rfl;have h2:IntKind.i64.max=9223372036854775807:=rfl;simp only [Lit.wf,Bool.and_eq_true,decide_eq_true_eq] at h;omega
section
variable {P:Program} {D:Nat} {t e:TypeId} {vd:VD} {ds:List CD}
theorem r4 {k:IntKind} (hu:P.underlying t=some (.int k)) (h:ce P D t ds):∃ n,ds=[.v (.int k n)]/\(Lit.int k n).wf=true:=by
 cases D with
 |zero=>exact h.elim
 |succ D=>simpa only [ce,hu] using h
theorem l0 (hu:P.underlying t=some .string) (h:ce P D t ds):∃ s:ByteArray,ds=[.v (.string s)]/\s.size<=maxLen:=by
 cases D with
 |zero=>exact h.elim
 |succ D=>simpa only [ce,hu] using h
theorem im (hu:P.underlying t=some (.slice e)) (h:ce P D t ds):∃ rows,ds=[.s rows]/\rows.length<=maxLen/\∃ D',∀ row∈rows,row.length=P.cellsOf e/\ce P D' e row:=by
 cases D with
 |zero=>exact h.elim
 | succ D =>
   simp only [ce,hu] at h;obtain ⟨rows,h1,h2,h3⟩:=h;exact ⟨rows,h1,h2,D,h3⟩
theorem eo {fs:Array Field} (hu:P.underlying t=some (.struct fs)) (h:ce P D t ds):ds.length=P.cellsOf t/\∃ D',∀ f∈fs.toList,ce P D' f.type ((ds.drop f.offset).take (P.cellsOf f.type)):=by
 cases D with
 |zero=>exact h.elim
 | succ D =>
   simp only [ce,hu] at h;exact ⟨h.1,D,h.2⟩
theorem hI {α:Type} {f:α->List CD} {ok:α->Prop}:∀ (rows:List (List CD)),(∀ row∈rows,∃ x,row=f x/\ok x)->∃ l:List α,rows=l.map f/\∀ x∈l,ok x
 | [],_=>⟨[],rfl,by simp⟩
 | row :: rows, h => by
   obtain ⟨x,h1,h2⟩:=h row (List.mem_cons_self ..);obtain ⟨l,h3,h4⟩:=hI rows (λr hr=>h r (List.mem_cons_of_mem _ hr));exact ⟨x::l,by rw [h1,h3];rfl,by simpa using ⟨h2,h4⟩⟩
end
theorem dG.nil {P:Program} {D:Nat} {w:World} {vs:List Value} {vds:List VD} (h:dG P D w [] vs vds):vds=[]:=by
 cases vs with
 | nil => cases vds with
   |nil=>rfl
   |cons _ _=>exact h.elim
 |cons _ _=>exact h.elim
theorem dG.cons {P:Program} {D:Nat} {w:World} {t:TypeId} {ts:List TypeId} {vs:List Value} {vds:List VD} (h:dG P D w (t::ts) vs vds) :
 ∃ vd vds',vds=vd::vds'/\mr P D t vd/\∃ vs',dG P D w ts vs' vds':=by
 cases vs with
 |nil=>cases vds<;>exact h.elim
 | cons v vs => cases vds with
   |nil=>exact h.elim
   |cons d ds=>exact ⟨d,ds,rfl,h.1.2,vs,h.2⟩
section
variable {α:Type} {mk:α->Int->α} {cn:α->Nat}
variable {f:α->List CD} {l:List α} {k:Int} {i:Nat}
end
abbrev one {α:Type} (_:α):Nat:=1
end Go.AM
namespace Go.Proofs.YthckkpphnmmfdaaGreatDoor
open Go.AM
set_option maxRecDepth 20000
def bv (n:Int):Prop:=-9223372036854775808<=n/\n<=9223372036854775807
def gW {α:Type} (f:α->Nat):List α->Nat
 | []=>0
 |a::l=>f a+gW f l
theorem jn {α:Type} {f:α->Nat}:∀ {l:List α} {i:Nat} (h:i<l.length),gW f (l.drop i)=f l[i]+gW f (l.drop (i+1))
 |a::l,0,_=>rfl
 |a::l,i+1,h=>by simpa using jn (l:=l) (i:=i) (by simpa using h)
theorem lk {α:Type} {f:α->Nat}:∀ {l:List α} {a:α},a∈l->f a<=gW f l
 | b :: l, a, h => by
   simp only [gW];rcases List.mem_cons.1 h with rfl|h
   ·omega
   ·have:=lk (f:=f) h;omega
def nL {α:Type} (f:α->Nat) (l:List α):Nat:=l.length+gW f l
theorem eS {α:Type} {f:α->Nat} {l:List α} {B:Nat} (h:nL f l<=B):l.length<=B:=by unfold nL at h;omega
theorem rm {α:Type} {f:α->Nat} {l:List α} {B:Nat} (h:nL f l<=B) {a:α} (ha:a∈l):f a<=B:=by have:=lk (f:=f) ha;unfold nL at h;omega
theorem nY {α:Type} {f:α->Nat} {l:List α} {B:Nat} (h:nL f l<=B) {i:Nat} (hi:i<l.length):f l[i]<=B:=rm h (List.getElem_mem hi)
def szR (n left:Nat):Int:=if n<=left then ((left - n:Nat):Int) else -1
theorem eb {n left:Nat} (h:n<=left):szR n left=((left - n:Nat):Int):=by simp [szR,h]
theorem cK {n left:Nat} (h:¬ n<=left):szR n left = -1:=by simp [szR,h]
structure Part where
 kind:Int
 n:Int
 signs:List Int
 deriving Inhabited
def Part.row (x:Part):List CD:=[vi x.kind,vi x.n,.s (x.signs.map aJ)]
def Part.res (x:Part):List (CD×Nat):=[(vi x.kind,1),(vi x.n,1),(.s (x.signs.map aJ),1)]
@[simp] theorem Part.row_len {x:Part}:x.row.length=3:=rfl
def Part.fits (x:Part):Prop:=bv x.kind/\bv x.n/\(x.signs.length<=9223372036854775807/\∀ n∈x.signs,bv n)
def aE (x:Part):Nat:=x.signs.length
structure Entry where
 client:Int
 seq:Int
 o:List Part
def Entry.row (x:Entry):List CD:=[vi x.client,vi x.seq,.s (x.o.map Part.row)]
def Entry.res (x:Entry):List (CD×Nat):=[(vi x.client,1),(vi x.seq,1),(.s (x.o.map Part.row),3)]
@[simp] theorem Entry.row_len {x:Entry}:x.row.length=3:=rfl
def Entry.fits (x:Entry):Prop:=bv x.client/\bv x.seq/\(x.o.length<=9223372036854775807/\∀ y∈x.o,y.fits)
structure Seen where
 client:Int
 seq:Int
 rev:Int
def Seen.row (x:Seen):List CD:=[vi x.client,vi x.seq,vi x.rev]
def Seen.res (x:Seen):List (CD×Nat):=[(vi x.client,1),(vi x.seq,1),(vi x.rev,1)]
@[simp] theorem Seen.row_len {x:Seen}:x.row.length=3:=rfl
def Seen.fits (x:Seen):Prop:=bv x.client/\bv x.seq/\bv x.rev
structure Doc where
 name:ByteArray
 fr:Int
 text:List Int
 list:List Entry
 seen:List Seen
def Doc.row (x:Doc):List CD:=[.v (.string x.name),vi x.fr,.s (x.text.map aJ),.s (x.list.map Entry.row),.s (x.seen.map Seen.row)]
def Doc.res (x:Doc):List (CD×Nat):=[(.v (.string x.name),1),(vi x.fr,1),(.s (x.text.map aJ),1),(.s (x.list.map Entry.row),3),(.s (x.seen.map Seen.row),3)]
@[simp] theorem Doc.row_len {x:Doc}:x.row.length=5:=rfl
def Doc.fits (x:Doc):Prop:=x.name.size<=9223372036854775807/\bv x.fr/\(x.text.length<=9223372036854775807/\∀ n∈x.text,bv n)/\(x.list.length<=9223372036854775807/\∀ y∈x.list,y.fits)/\(x.seen.length<=9223372036854775807/\∀ y∈x.seen,y.fits)
structure Ring where
 cap:Int
 next:Int
 out:Bool
 list:List Entry
def Ring.row (x:Ring):List CD:=[vi x.cap,vi x.next,.v (.bool x.out),.s (x.list.map Entry.row)]
def Ring.res (x:Ring):List (CD×Nat):=[(vi x.cap,1),(vi x.next,1),(.v (.bool x.out),1),(.s (x.list.map Entry.row),3)]
@[simp] theorem Ring.row_len {x:Ring}:x.row.length=4:=rfl
def Ring.fits (x:Ring):Prop:=bv x.cap/\bv x.next/\True/\(x.list.length<=9223372036854775807/\∀ y∈x.list,y.fits)
structure Sub where
 id:Int
 doc:ByteArray
 r:Ring
def Sub.row (x:Sub):List CD:=[vi x.id,.v (.string x.doc),vi x.r.cap,vi x.r.next,.v (.bool x.r.out),.s (x.r.list.map Entry.row)]
def Sub.res (x:Sub):List (CD×Nat):=[(vi x.id,1),(.v (.string x.doc),1),(vi x.r.cap,1),(vi x.r.next,1),(.v (.bool x.r.out),1),(.s (x.r.list.map Entry.row),3)]
@[simp] theorem Sub.row_len {x:Sub}:x.row.length=6:=rfl
def Sub.fits (x:Sub):Prop:=bv x.id/\x.doc.size<=9223372036854775807/\x.r.fits
structure Hub where
 shut:Bool
 docs:List Doc
 subs:List Sub
 last:Int
def Hub.row (x:Hub):List CD:=[.v (.bool x.shut),.s (x.docs.map Doc.row),.s (x.subs.map Sub.row),vi x.last]
def Hub.res (x:Hub):List (CD×Nat):=[(.v (.bool x.shut),1),(.s (x.docs.map Doc.row),5),(.s (x.subs.map Sub.row),6),(vi x.last,1)]
@[simp] theorem Hub.row_len {x:Hub}:x.row.length=4:=rfl
def Hub.fits (x:Hub):Prop:=True/\(x.docs.length<=9223372036854775807/\∀ y∈x.docs,y.fits)/\(x.subs.length<=9223372036854775807/\∀ y∈x.subs,y.fits)/\bv x.last
structure Call where
 kind:Int
 doc:ByteArray
 client:Int
 seq:Int
 n:Int
 o:List Part
 text:List Int
def Call.row (x:Call):List CD:=[vi x.kind,.v (.string x.doc),vi x.client,vi x.seq,vi x.n,.s (x.o.map Part.row),.s (x.text.map aJ)]
def Call.res (x:Call):List (CD×Nat):=[(vi x.kind,1),(.v (.string x.doc),1),(vi x.client,1),(vi x.seq,1),(vi x.n,1),(.s (x.o.map Part.row),3),(.s (x.text.map aJ),1)]
@[simp] theorem Call.row_len {x:Call}:x.row.length=7:=rfl
def Call.fits (x:Call):Prop:=bv x.kind/\x.doc.size<=9223372036854775807/\bv x.client/\bv x.seq/\bv x.n/\(x.o.length<=9223372036854775807/\∀ y∈x.o,y.fits)/\(x.text.length<=9223372036854775807/\∀ n∈x.text,bv n)
def bK (x:Call):Nat:=x.doc.size+(nL aE x.o+(x.text.length))
structure Answer where
 code:Int
 rev:Int
 text:List Int
 list:List Entry
def Answer.row (x:Answer):List CD:=[vi x.code,vi x.rev,.s (x.text.map aJ),.s (x.list.map Entry.row)]
def Answer.res (x:Answer):List (CD×Nat):=[(vi x.code,1),(vi x.rev,1),(.s (x.text.map aJ),1),(.s (x.list.map Entry.row),3)]
@[simp] theorem Answer.row_len {x:Answer}:x.row.length=4:=rfl
def Answer.fits (x:Answer):Prop:=bv x.code/\bv x.rev/\(x.text.length<=9223372036854775807/\∀ n∈x.text,bv n)/\(x.list.length<=9223372036854775807/\∀ y∈x.list,y.fits)
structure Task where
 c:Call
 pc:Int
 inv:Int
 lin:Int
 rs:Int
 a:Answer
def Task.row (x:Task):List CD:=[vi x.c.kind,.v (.string x.c.doc),vi x.c.client,vi x.c.seq,vi x.c.n,.s (x.c.o.map Part.row),.s (x.c.text.map aJ),vi x.pc,vi x.inv,vi x.lin,vi x.rs,vi x.a.code,vi x.a.rev,.s (x.a.text.map aJ),.s (x.a.list.map Entry.row)]
def Task.res (x:Task):List (CD×Nat):=[(vi x.c.kind,1),(.v (.string x.c.doc),1),(vi x.c.client,1),(vi x.c.seq,1),(vi x.c.n,1),(.s (x.c.o.map Part.row),3),(.s (x.c.text.map aJ),1),(vi x.pc,1),(vi x.inv,1),(vi x.lin,1),(vi x.rs,1),(vi x.a.code,1),(vi x.a.rev,1),(.s (x.a.text.map aJ),1),(.s (x.a.list.map Entry.row),3)]
@[simp] theorem Task.row_len {x:Task}:x.row.length=15:=rfl
def Task.fits (x:Task):Prop:=x.c.fits/\bv x.pc/\bv x.inv/\bv x.lin/\bv x.rs/\x.a.fits
structure Queue where
 doc:ByteArray
 list:List Int
def Queue.row (x:Queue):List CD:=[.v (.string x.doc),.s (x.list.map aJ)]
def Queue.res (x:Queue):List (CD×Nat):=[(.v (.string x.doc),1),(.s (x.list.map aJ),1)]
@[simp] theorem Queue.row_len {x:Queue}:x.row.length=2:=rfl
def Queue.fits (x:Queue):Prop:=x.doc.size<=9223372036854775807/\(x.list.length<=9223372036854775807/\∀ n∈x.list,bv n)
structure Wld where
 h:Hub
 locks:List Int
 queues:List Queue
 tasks:List Task
 step:Int
def Wld.row (x:Wld):List CD:=[.v (.bool x.h.shut),.s (x.h.docs.map Doc.row),.s (x.h.subs.map Sub.row),vi x.h.last,.s (x.locks.map aJ),.s (x.queues.map Queue.row),.s (x.tasks.map Task.row),vi x.step]
def Wld.res (x:Wld):List (CD×Nat):=[(.v (.bool x.h.shut),1),(.s (x.h.docs.map Doc.row),5),(.s (x.h.subs.map Sub.row),6),(vi x.h.last,1),(.s (x.locks.map aJ),1),(.s (x.queues.map Queue.row),2),(.s (x.tasks.map Task.row),15),(vi x.step,1)]
@[simp] theorem Wld.row_len {x:Wld}:x.row.length=8:=rfl
def Wld.fits (x:Wld):Prop:=x.h.fits/\(x.locks.length<=9223372036854775807/\∀ n∈x.locks,bv n)/\(x.queues.length<=9223372036854775807/\∀ y∈x.queues,y.fits)/\(x.tasks.length<=9223372036854775807/\∀ y∈x.tasks,y.fits)/\bv x.step
structure Rep where
 client:Int
 seq:Int
 rev:Int
 text:List Int
 has:Bool
 sent:List Part
 buf:List Part
def Rep.row (x:Rep):List CD:=[vi x.client,vi x.seq,vi x.rev,.s (x.text.map aJ),.v (.bool x.has),.s (x.sent.map Part.row),.s (x.buf.map Part.row)]
def Rep.res (x:Rep):List (CD×Nat):=[(vi x.client,1),(vi x.seq,1),(vi x.rev,1),(.s (x.text.map aJ),1),(.v (.bool x.has),1),(.s (x.sent.map Part.row),3),(.s (x.buf.map Part.row),3)]
@[simp] theorem Rep.row_len {x:Rep}:x.row.length=7:=rfl
def Rep.fits (x:Rep):Prop:=bv x.client/\bv x.seq/\bv x.rev/\(x.text.length<=9223372036854775807/\∀ n∈x.text,bv n)/\True/\(x.sent.length<=9223372036854775807/\∀ y∈x.sent,y.fits)/\(x.buf.length<=9223372036854775807/\∀ y∈x.buf,y.fits)
structure Net where
 d:Doc
 reps:List Rep
def Net.row (x:Net):List CD:=[.v (.string x.d.name),vi x.d.fr,.s (x.d.text.map aJ),.s (x.d.list.map Entry.row),.s (x.d.seen.map Seen.row),.s (x.reps.map Rep.row)]
def Net.res (x:Net):List (CD×Nat):=[(.v (.string x.d.name),1),(vi x.d.fr,1),(.s (x.d.text.map aJ),1),(.s (x.d.list.map Entry.row),3),(.s (x.d.seen.map Seen.row),3),(.s (x.reps.map Rep.row),7)]
@[simp] theorem Net.row_len {x:Net}:x.row.length=6:=rfl
def Net.fits (x:Net):Prop:=x.d.fits/\(x.reps.length<=9223372036854775807/\∀ y∈x.reps,y.fits)
structure Event where
 kind:Int
 who:Int
 n:Int
 o:List Part
def Event.row (x:Event):List CD:=[vi x.kind,vi x.who,vi x.n,.s (x.o.map Part.row)]
def Event.res (x:Event):List (CD×Nat):=[(vi x.kind,1),(vi x.who,1),(vi x.n,1),(.s (x.o.map Part.row),3)]
@[simp] theorem Event.row_len {x:Event}:x.row.length=4:=rfl
def Event.fits (x:Event):Prop:=bv x.kind/\bv x.who/\bv x.n/\(x.o.length<=9223372036854775807/\∀ y∈x.o,y.fits)
structure Desk where
 h:Hub
 n:Net
def Desk.row (x:Desk):List CD:=[.v (.bool x.h.shut),.s (x.h.docs.map Doc.row),.s (x.h.subs.map Sub.row),vi x.h.last,.v (.string x.n.d.name),vi x.n.d.fr,.s (x.n.d.text.map aJ),.s (x.n.d.list.map Entry.row),.s (x.n.d.seen.map Seen.row),.s (x.n.reps.map Rep.row)]
def Desk.res (x:Desk):List (CD×Nat):=[(.v (.bool x.h.shut),1),(.s (x.h.docs.map Doc.row),5),(.s (x.h.subs.map Sub.row),6),(vi x.h.last,1),(.v (.string x.n.d.name),1),(vi x.n.d.fr,1),(.s (x.n.d.text.map aJ),1),(.s (x.n.d.list.map Entry.row),3),(.s (x.n.d.seen.map Seen.row),3),(.s (x.n.reps.map Rep.row),7)]
@[simp] theorem Desk.row_len {x:Desk}:x.row.length=10:=rfl
def Desk.fits (x:Desk):Prop:=x.h.fits/\x.n.fits
theorem mix:Tryz.prog.follows .mixedOrders=true:=by kernel_rfl
theorem lj (l:List Int) (hl:l.length<=9223372036854775807) (left:Nat) (hf:left<=2 ^ 20):ak Tryz.prog 27 [.c (.s (l.map aJ)),.c (vi left)] (.one (.c (vi (szR l.length left)) 1)):=by
 refine ak.intro' al Tryz.func27 (by kernel_rfl) rfl rfl rfl (Nat.le_of_ble_eq_true rfl) (λw0 base=>?_);have hw:IntKind.i64.wrap ((left:Int) - (l.length:Int))=(left:Int) - l.length:=IntWalk.i64_in _ (by omega);simp [hw];by_cases h:l.length<=left
 ·have hz:¬ (left:Int) - l.length<0:=by omega
  simp [hz,eb h];omega
 ·have hz:(left:Int) - l.length<0:=by omega
  simp [hz,cK h]
theorem lh (l:List Int) (hl:l.length<=2 ^ 40):ak Tryz.prog 40 [.c (.s (l.map aJ))] (.one (.c (.s (l.map aJ)) 1)):=by
 refine ak.intro' al Tryz.func40 (by kernel_rfl) rfl rfl rfl (Nat.le_of_ble_eq_true rfl) (λw0 base=>?_);simp;refine ⟨by omega,λb=>?_⟩
 refine aQ.intro eok (λi:Nat=>i<=l.length) (λi=>⟨22,0,[(4,.v (.int .i64 i)),(3,.sl 112 (some (b,0,l.length)) 1 0 l.length),(0,.ro (l.map aJ))],
  [(112,.rows (some (b,0,l.length)) 1 (ep aJ [.v (.int .i64 0)] l i) true)]⟩) (λi=>l.length - i) 0 (by simp) (by simp [oq]) (λi hi=>?_)
 by_cases h:i<l.length
 ·simp [h,fp hi]
  exact ⟨i+1,by omega,by omega,aA (by omega),jL (f:=aJ) h⟩
 ·have:i=l.length:=by omega
  subst this;simp [jM,cut]
theorem l4 (a b:List Int) (hl:a.length<=2 ^ 40):ak Tryz.prog 51 [.c (.s (a.map aJ)),.c (.s (b.map aJ))] (.one (.c (vb (a=b)) 1)):=by
 refine ak.intro' al Tryz.func51 (by kernel_rfl) rfl rfl rfl (Nat.le_of_ble_eq_true rfl) (λw0 base=>?_);by_cases h:a.length=b.length
 ·simp [h]
  refine aQ.intro eok (λi:Nat=>i<=a.length/\a.take i=b.take i) (λi=>⟨26,0,[(5,.v (.int .i64 i)),(1,.ro (b.map aJ)),(0,.ro (a.map aJ))],[]⟩) (λi=>a.length - i) 0 (by simp) (by simp) (λi hi=>?_);by_cases hlt:i<a.length
  ·simp [hlt]
   have hlt':i<b.length:=by omega
   refine ay.quiet eok mix (by kernel_rfl) ?_;simp [hlt,hlt'];refine Br.mk (λh1=>?_) (λh1=>?_)
   ·simp
    exact ⟨i+1,⟨by omega,ez hlt hlt' hi.2 (eh h1)⟩,by omega,aA (by omega)⟩
   ·simp [bM]
    exact nX hlt hlt' (λhe=>gb h1 (by rw [he]))
  ·simp [hlt,eq]
   exact e8 (by omega) (by omega) hi.2
 ·have hz:¬ (a.length:Int)=b.length:=by omega
  simp [hz,bM];exact λh2=>absurd (by rw [h2]) h
end Go.Proofs.YthckkpphnmmfdaaGreatDoor
