import Derived.Test.YthckkpphnmmfdaaGreatDoorMG
import Derived.Test.YthckkpphnmmfdaaGreatDoorRows
import Derived.Test.YthckkpphnmmfdaaGreatDoorME
import Derived.IntWalk
import Derived.ProofKit
import Derived.Deep.Slices
import Derived.Test.YthckkpphnmmfdaaGreatDoorMF
namespace Go.Proofs.YthckkpphnmmfdaaGreatDoor
open Go.AM
def ti2:TI:={ n:=1,zero:=[.v (.int .i64 0)],bytes:=8,kind:=some .i64 }
def ti3:TI:={ n:=1,zero:=[.v (.int .i64 0)],bytes:=8,kind:=some .i64 }
def ti4:TI:={ n:=1,zero:=[.v (.bool false)],bytes:=1,boo:=true }
def ti5:TI:={ n:=1,zero:=[.v (.int .u8 0)],bytes:=1,kind:=some .u8 }
def ti6:TI:={ n:=1,zero:=[.v (.int .u8 0)],bytes:=1,kind:=some .u8 }
def ti7:TI:={ agg:=true,n:=4,zero:=[.v (.int .i64 0),.v (.int .i64 0),.v (.bool false),.v (.int .u8 0)],fields:=[(0,1),(1,1),(2,1),(3,1)],fagg:=[false,false,false,false],bytes:=24,pln:=true }
def ti8:TI:={ agg:=true,n:=4,zero:=[.v (.int .i64 0),.v (.int .i64 0),.v (.bool false),.v (.int .u8 0)],fields:=[(0,1),(1,1),(2,1),(3,1)],fagg:=[false,false,false,false],bytes:=24,pln:=true }
def ti9:TI:={ n:=1,zero:=[.v (.string ⟨#[]⟩)],bytes:=16,str:=true }
def Ak:TI:={ n:=1,zero:=[.v (.string ⟨#[]⟩)],bytes:=16,str:=true }
def Aj:TI:={ n:=1,zero:=[.v (.string ⟨#[]⟩)],bytes:=16,str:=true }
def Ai:TI:={ n:=1,zero:=[.v (.int .u64 0)],bytes:=8,kind:=some .u64 }
def Ah:TI:={ agg:=true,n:=2,zero:=[.v (.string ⟨#[]⟩),.v (.int .u64 0)],fields:=[(0,1),(1,1)],fagg:=[false,false],bytes:=24,pln:=true }
def Ag:TI:={ agg:=true,n:=2,zero:=[.v (.string ⟨#[]⟩),.v (.int .u64 0)],fields:=[(0,1),(1,1)],fagg:=[false,false],bytes:=24,pln:=true }
def Af:TI:={ n:=1,zero:=[.v (.int .i32 0)],bytes:=4,kind:=some .i32 }
def Ae:TI:={ n:=1,zero:=[.nil],sl:=some 102,bytes:=24,pln:=false }
def Ad:TI:={ n:=1,zero:=[.nil],sl:=some 3,bytes:=24,pln:=false }
def Ac:TI:={ agg:=true,n:=7,zero:=[.v (.int .i64 0),.v (.string ⟨#[]⟩),.v (.int .i64 0),.v (.int .i64 0),.v (.int .i64 0),.nil,.nil],fields:=[(0,1),(1,1),(2,1),(3,1),(4,1),(5,1),(6,1)],fagg:=[false,false,false,false,false,false,false],bytes:=96,pln:=false }
def Ab:TI:={ agg:=true,n:=7,zero:=[.v (.int .i64 0),.v (.string ⟨#[]⟩),.v (.int .i64 0),.v (.int .i64 0),.v (.int .i64 0),.nil,.nil],fields:=[(0,1),(1,1),(2,1),(3,1),(4,1),(5,1),(6,1)],fagg:=[false,false,false,false,false,false,false],bytes:=96,pln:=false }
def Aa:TI:={ n:=1,zero:=[.nil],sl:=some 105,bytes:=24,pln:=false }
def z8:TI:={ agg:=true,n:=7,zero:=[.v (.int .i64 0),.v (.string ⟨#[]⟩),.v (.int .i64 0),.v (.int .i64 0),.v (.int .i64 0),.nil,.nil],fields:=[(0,1),(1,1),(2,1),(3,1),(4,1),(5,1),(6,1)],fagg:=[false,false,false,false,false,false,false],bytes:=96,pln:=false }
def z7:TI:={ agg:=true,n:=7,zero:=[.v (.int .i64 0),.v (.string ⟨#[]⟩),.v (.int .i64 0),.v (.int .i64 0),.v (.int .i64 0),.nil,.nil],fields:=[(0,1),(1,1),(2,1),(3,1),(4,1),(5,1),(6,1)],fagg:=[false,false,false,false,false,false,false],bytes:=96,pln:=false }
def zZ:TI:={ agg:=true,n:=4,zero:=[.v (.int .i64 0),.v (.int .i64 0),.v (.int .i64 0),.nil],fields:=[(0,1),(1,1),(2,1),(3,1)],fagg:=[false,false,false,false],bytes:=48,pln:=false }
def zY:TI:={ agg:=true,n:=4,zero:=[.v (.int .i64 0),.v (.int .i64 0),.v (.int .i64 0),.nil],fields:=[(0,1),(1,1),(2,1),(3,1)],fagg:=[false,false,false,false],bytes:=48,pln:=false }
def zX:TI:={ n:=1,zero:=[.nil],sl:=some 5,bytes:=24,pln:=false }
def zW:TI:={ n:=1,zero:=[.nil],sl:=some 55,bytes:=24,pln:=false }
def zV:TI:={ n:=1,zero:=[.nil],sl:=some 198,bytes:=24,pln:=false }
def zU:TI:={ agg:=true,n:=4,zero:=[.v (.bool false),.nil,.nil,.v (.int .i64 0)],fields:=[(0,1),(1,1),(2,1),(3,1)],fagg:=[false,false,false,false],bytes:=64,pln:=false }
def zT:TI:={ agg:=true,n:=4,zero:=[.v (.bool false),.nil,.nil,.v (.int .i64 0)],fields:=[(0,1),(1,1),(2,1),(3,1)],fagg:=[false,false,false,false],bytes:=64,pln:=false }
def zS:TI:={ n:=1,zero:=[.nil],sl:=some 30,bytes:=24,pln:=false }
def zR:TI:={ n:=1,zero:=[.nil],sl:=some 214,bytes:=24,pln:=false }
def zQ:TI:={ n:=1,zero:=[.nil],sl:=some 155,bytes:=24,pln:=false }
def zP:TI:={ agg:=true,n:=5,zero:=[.v (.string ⟨#[]⟩),.v (.int .i64 0),.nil,.nil,.nil],fields:=[(0,1),(1,1),(2,1),(3,1),(4,1)],fagg:=[false,false,false,false,false],bytes:=96,pln:=false }
def zO:TI:={ agg:=true,n:=5,zero:=[.v (.string ⟨#[]⟩),.v (.int .i64 0),.nil,.nil,.nil],fields:=[(0,1),(1,1),(2,1),(3,1),(4,1)],fagg:=[false,false,false,false,false],bytes:=96,pln:=false }
def zN:TI:={ n:=1,zero:=[.nil],sl:=some 129,bytes:=24,pln:=false }
def zM:TI:={ agg:=true,n:=6,zero:=[.v (.string ⟨#[]⟩),.v (.int .i64 0),.nil,.nil,.nil,.nil],fields:=[(0,5),(5,1)],fagg:=[true,false],bytes:=120,pln:=false }
def zL:TI:={ agg:=true,n:=6,zero:=[.v (.string ⟨#[]⟩),.v (.int .i64 0),.nil,.nil,.nil,.nil],fields:=[(0,5),(5,1)],fagg:=[true,false],bytes:=120,pln:=false }
def zK:TI:={ n:=1,zero:=[.nil],sl:=some 9,bytes:=24,pln:=false }
def zJ:TI:={ agg:=true,n:=3,zero:=[.nil,.v (.int .i64 0),.v (.int .i64 0)],fields:=[(0,1),(1,1),(2,1)],fagg:=[false,false,false],bytes:=40,pln:=false }
def zI:TI:={ agg:=true,n:=3,zero:=[.nil,.v (.int .i64 0),.v (.int .i64 0)],fields:=[(0,1),(1,1),(2,1)],fagg:=[false,false,false],bytes:=40,pln:=false }
def uN:TI:={ agg:=true,n:=3,zero:=[.v (.int .i64 0),.v (.int .i64 0),.nil],fields:=[(0,1),(1,1),(2,1)],fagg:=[false,false,false],bytes:=40,pln:=false }
def uM:TI:={ agg:=true,n:=3,zero:=[.v (.int .i64 0),.v (.int .i64 0),.nil],fields:=[(0,1),(1,1),(2,1)],fagg:=[false,false,false],bytes:=40,pln:=false }
def uL:TI:={ agg:=true,n:=3,zero:=[.v (.int .i64 0),.v (.int .i64 0),.nil],fields:=[(0,1),(1,1),(2,1)],fagg:=[false,false,false],bytes:=40,pln:=false }
def uK:TI:={ agg:=true,n:=4,zero:=[.v (.int .i64 0),.v (.int .i64 0),.nil,.nil],fields:=[(0,1),(1,1),(2,1),(3,1)],fagg:=[false,false,false,false],bytes:=64,pln:=false }
def uJ:TI:={ agg:=true,n:=4,zero:=[.v (.int .i64 0),.v (.int .i64 0),.nil,.nil],fields:=[(0,1),(1,1),(2,1),(3,1)],fagg:=[false,false,false,false],bytes:=64,pln:=false }
def uI:TI:={ agg:=true,n:=7,zero:=[.v (.int .i64 0),.v (.int .i64 0),.v (.int .i64 0),.nil,.v (.bool false),.nil,.nil],fields:=[(0,1),(1,1),(2,1),(3,1),(4,1),(5,1),(6,1)],fagg:=[false,false,false,false,false,false,false],bytes:=104,pln:=false }
def uH:TI:={ agg:=true,n:=7,zero:=[.v (.int .i64 0),.v (.int .i64 0),.v (.int .i64 0),.nil,.v (.bool false),.nil,.nil],fields:=[(0,1),(1,1),(2,1),(3,1),(4,1),(5,1),(6,1)],fagg:=[false,false,false,false,false,false,false],bytes:=104,pln:=false }
def uG:TI:={ agg:=true,n:=3,zero:=[.v (.int .i64 0),.v (.int .i64 0),.v (.int .i64 0)],fields:=[(0,1),(1,1),(2,1)],fagg:=[false,false,false],bytes:=24,pln:=true,ieq:=true }
def uF:TI:={ agg:=true,n:=3,zero:=[.v (.int .i64 0),.v (.int .i64 0),.v (.int .i64 0)],fields:=[(0,1),(1,1),(2,1)],fagg:=[false,false,false],bytes:=24,pln:=true,ieq:=true }
def uE:TI:={ agg:=true,n:=3,zero:=[.nil,.nil,.v (.int .i64 0)],fields:=[(0,1),(1,1),(2,1)],fagg:=[false,false,false],bytes:=56,pln:=false }
def uD:TI:={ agg:=true,n:=3,zero:=[.nil,.nil,.v (.int .i64 0)],fields:=[(0,1),(1,1),(2,1)],fagg:=[false,false,false],bytes:=56,pln:=false }
def uC:TI:={ agg:=true,n:=4,zero:=[.v (.int .i64 0),.v (.int .i64 0),.v (.bool false),.nil],fields:=[(0,1),(1,1),(2,1),(3,1)],fagg:=[false,false,false,false],bytes:=48,pln:=false }
def uB:TI:={ agg:=true,n:=4,zero:=[.v (.int .i64 0),.v (.int .i64 0),.v (.bool false),.nil],fields:=[(0,1),(1,1),(2,1),(3,1)],fagg:=[false,false,false,false],bytes:=48,pln:=false }
def uA:TI:={ agg:=true,n:=6,zero:=[.v (.int .i64 0),.v (.string ⟨#[]⟩),.v (.int .i64 0),.v (.int .i64 0),.v (.bool false),.nil],fields:=[(0,1),(1,1),(2,4)],fagg:=[false,false,true],bytes:=72,pln:=false }
def uz:TI:={ agg:=true,n:=6,zero:=[.v (.int .i64 0),.v (.string ⟨#[]⟩),.v (.int .i64 0),.v (.int .i64 0),.v (.bool false),.nil],fields:=[(0,1),(1,1),(2,4)],fagg:=[false,false,true],bytes:=72,pln:=false }
def uy:TI:={ n:=1,zero:=[.v (.int .u64 0)],bytes:=8,kind:=some .u64 }
def ux:TI:={ agg:=true,n:=3,zero:=[.v (.int .i64 0),.v (.int .i64 0),.nil],fields:=[(0,1),(1,1),(2,1)],fagg:=[false,false,false],bytes:=40,pln:=false }
def uw:TI:={ agg:=true,n:=3,zero:=[.v (.int .i64 0),.v (.int .i64 0),.nil],fields:=[(0,1),(1,1),(2,1)],fagg:=[false,false,false],bytes:=40,pln:=false }
def uv:TI:={ n:=1,zero:=[.v (.int .u64 0)],bytes:=8,kind:=some .u64 }
def uu:TI:={ n:=1,zero:=[.v (.int .i64 0)],bytes:=8,kind:=some .i64 }
def ut:TI:={ agg:=true,n:=3,zero:=[.nil,.v (.int .i64 0),.v (.int .i64 0)],fields:=[(0,1),(1,1),(2,1)],fagg:=[false,false,false],bytes:=40,pln:=false }
def ur:TI:={ agg:=true,n:=3,zero:=[.nil,.v (.int .i64 0),.v (.int .i64 0)],fields:=[(0,1),(1,1),(2,1)],fagg:=[false,false,false],bytes:=40,pln:=false }
def uq:TI:={ n:=1,zero:=[.v (.int .u32 0)],bytes:=4,kind:=some .u32 }
def uo:TI:={ agg:=true,n:=2,zero:=[.v (.int .u8 0),.v (.int .u8 0)],fields:=[(0,1),(1,1)],fagg:=[false,false],bytes:=2,pln:=true }
def um:TI:={ agg:=true,n:=2,zero:=[.v (.int .u8 0),.v (.int .u8 0)],fields:=[(0,1),(1,1)],fagg:=[false,false],bytes:=2,pln:=true }
def ul:TI:={ n:=1,zero:=[.nil],sl:=some 28,bytes:=24,pln:=false }
def uk:TI:={ agg:=true,n:=1,zero:=[.v (.string ⟨#[]⟩)],fields:=[(0,1)],fagg:=[false],bytes:=16,pln:=true }
def uj:TI:={ agg:=true,n:=1,zero:=[.v (.string ⟨#[]⟩)],fields:=[(0,1)],fagg:=[false],bytes:=16,pln:=true }
def ui:TI:={ n:=1,zero:=[.v (.int .u8 0)],bytes:=1,kind:=some .u8 }
def ug:TI:={ n:=1,zero:=[.v (.int .u8 0)],bytes:=1,kind:=some .u8 }
def uf:TI:={ n:=1,zero:=[.v (.int .i32 0)],bytes:=4,kind:=some .i32 }
def ue:TI:={ n:=1,zero:=[.v (.int .i32 0)],bytes:=4,kind:=some .i32 }
def CI:List (Nat×TI):=[(2,ti2),(3,ti3),(4,ti4),(5,ti5),(6,ti6),(7,ti7),(8,ti8),(9,ti9),(10,Ak),(11,Aj),(12,Ai),(13,Ah),(14,Ag),(21,Af),(22,Ae),(23,Ad),(24,Ac),(25,Ab),(28,Aa),(29,z8),(30,z7),(34,zZ),(35,zY),(44,zX),(45,zW),(46,zV),(47,zU),(48,zT),(50,zS),(52,zR),(53,zQ),(54,zP),(55,zO),(56,zN),(57,zM),(58,zL),(72,zK),(95,zJ),(96,zI),(101,uN),(102,uM),(105,uL),(119,uK),(120,uJ),(128,uI),(129,uH),(154,uG),(155,uF),(176,uE),(177,uD),(195,uC),(196,uB),(197,uA),(198,uz),(203,uy),(213,ux),(214,uw),(231,uv),(238,uu),(252,ut),(253,ur),(264,uq),(268,uo),(269,um),(278,ul),(289,uk),(290,uj),(301,ui),(302,ug),(304,uf),(305,ue)]
def tt:Nat->Option TI:=o9 CI
theorem FQ:tt 2=some ti2:=rfl
theorem FP:tt 3=some ti3:=rfl
theorem FO:tt 4=some ti4:=rfl
theorem FN:tt 5=some ti5:=rfl
theorem FM:tt 6=some ti6:=rfl
theorem FL:tt 7=some ti7:=rfl
theorem FK:tt 8=some ti8:=rfl
theorem FJ:tt 9=some ti9:=rfl
theorem Df:tt 10=some Ak:=rfl
theorem De:tt 11=some Aj:=rfl
theorem Dd:tt 12=some Ai:=rfl
theorem Dc:tt 13=some Ah:=rfl
theorem Db:tt 14=some Ag:=rfl
theorem Da:tt 21=some Af:=rfl
theorem C9:tt 22=some Ae:=rfl
theorem C8:tt 23=some Ad:=rfl
theorem C7:tt 24=some Ac:=rfl
theorem C6:tt 25=some Ab:=rfl
theorem C5:tt 28=some Aa:=rfl
theorem C4:tt 29=some z8:=rfl
theorem C3:tt 30=some z7:=rfl
theorem C2:tt 34=some zZ:=rfl
theorem C1:tt 35=some zY:=rfl
theorem CZ:tt 44=some zX:=rfl
theorem CY:tt 45=some zW:=rfl
theorem CX:tt 46=some zV:=rfl
theorem CW:tt 47=some zU:=rfl
theorem CV:tt 48=some zT:=rfl
theorem CU:tt 50=some zS:=rfl
theorem CT:tt 52=some zR:=rfl
theorem CS:tt 53=some zQ:=rfl
theorem CQ:tt 54=some zP:=rfl
theorem CP:tt 55=some zO:=rfl
theorem CO:tt 56=some zN:=rfl
theorem CN:tt 57=some zM:=rfl
theorem CM:tt 58=some zL:=rfl
theorem CL:tt 72=some zK:=rfl
theorem CK:tt 95=some zJ:=rfl
theorem CJ:tt 96=some zI:=rfl
theorem zB:tt 101=some uN:=rfl
theorem zA:tt 102=some uM:=rfl
theorem zz:tt 105=some uL:=rfl
theorem zy:tt 119=some uK:=rfl
theorem zx:tt 120=some uJ:=rfl
theorem zw:tt 128=some uI:=rfl
theorem zu:tt 129=some uH:=rfl
theorem zt:tt 154=some uG:=rfl
theorem zs:tt 155=some uF:=rfl
theorem zr:tt 176=some uE:=rfl
theorem zq:tt 177=some uD:=rfl
theorem zp:tt 195=some uC:=rfl
theorem zo:tt 196=some uB:=rfl
theorem zn:tt 197=some uA:=rfl
theorem zm:tt 198=some uz:=rfl
theorem zl:tt 203=some uy:=rfl
theorem zk:tt 213=some ux:=rfl
theorem zj:tt 214=some uw:=rfl
theorem zi:tt 231=some uv:=rfl
theorem zh:tt 238=some uu:=rfl
theorem zg:tt 252=some ut:=rfl
theorem zf:tt 253=some ur:=rfl
theorem ze:tt 264=some uq:=rfl
theorem zd:tt 268=some uo:=rfl
theorem zc:tt 269=some um:=rfl
theorem zb:tt 278=some ul:=rfl
theorem za:tt 289=some uk:=rfl
theorem y9:tt 290=some uj:=rfl
theorem y8:tt 301=some ui:=rfl
theorem y7:tt 302=some ug:=rfl
theorem y6:tt 304=some uf:=rfl
theorem y5:tt 305=some ue:=rfl
theorem xc:(CI.all λp=>jK Tryz.prog p.1 p.2)=true:=by kernel_rfl
theorem aq:∀ t ti,tt t=some ti->TIok Tryz.prog t ti:=uQ xc
theorem eok {w0:World} {F G:Nat->Prop} {l:Bool}:EOk ⟨Tryz.prog,tt,w0,⟨F,G,l,λ_=>True⟩⟩:=⟨aq,λ_ _=>trivial⟩
attribute [simp] ti2 ti3 ti4 ti5 ti6 ti7 ti8 ti9 Ak Aj Ai Ah Ag Af Ae Ad Ac Ab Aa z8 z7 zZ zY zX zW zV zU zT zS zR zQ zP zO zN zM zL zK zJ zI uN uM uL uK uJ uI uH uG uF uE uD uC uB uA uz uy ux uw uv uu ut ur uq uo um ul uk uj ui ug uf ue FQ FP FO FN FM FL FK FJ Df De Dd Dc Db Da C9 C8 C7 C6 C5 C4 C3 C2 C1 CZ CY CX CW CV CU CT CS CQ CP CO CN CM CL CK CJ zB zA zz zy zx zw zu zt zs zr zq zp zo zn zm zl zk zj zi zh zg zf ze zd zc zb za y9 y8 y7 y6 y5
end Go.Proofs.YthckkpphnmmfdaaGreatDoor
namespace Go.AM
abbrev vi (n:Int):CD:=.v (.int .i64 n)
noncomputable abbrev vb (p:Prop):CD:=.v (.bool (dc p))
abbrev bb (n:Int):List CD:=[vi n]
theorem pJ {p q:Prop} (h:p ↔ q):dc p=dc q:=by rw [propext h]
theorem dR {α:Type} {a b:List α} {i:Nat} (h:i<a.length) (h':i<b.length) (ht:a.take i=b.take i) (he:a[i]=b[i]):a.take (i+1)=b.take (i+1):=by
 rw [<- List.take_append_getElem h,<- List.take_append_getElem h',ht,he]
theorem eD {α:Type} {a b:List α} {i:Nat} (h:a.length<=i) (hl:a.length=b.length) (ht:a.take i=b.take i):a=b:=by
 rwa [List.take_of_length_le h,List.take_of_length_le (by omega)] at ht
theorem jb {α:Type} {a b:List α} {i:Nat} (h:i<a.length) (h':i<b.length) (he:a[i]≠b[i]):a≠b:=by
 rintro rfl;exact he rfl
theorem r2 {n:Nat} (h:n<=9223372036854775807):Go.IntKind.i64.wrap (n:Int)=n:=Go.IntWalk.i64_in _ (by omega)
theorem aB {n:Nat} (h:n<9223372036854775807):Go.IntKind.i64.wrap ((n:Int)+1)=((n+1:Nat):Int):=by rw [Go.IntWalk.i64_in _ (by omega)];omega
@[simp] theorem FT {a b:Nat}:((a:Int)+(b:Int)).toNat=a+b:=by omega
@[simp] theorem FS {a n : Nat} : ((a : Int) + (OfNat.ofNat n : Int)).toNat = a + n := by
  show ((a:Int)+((n:Nat):Int)).toNat=a+n
  omega
@[simp] theorem F9 {a b:Nat}:(0:Int)<=(a:Int)+(b:Int):=by omega
@[simp] theorem F8 {a n : Nat} : (0 : Int) <= (a : Int) + (OfNat.ofNat n : Int) := by
  show (0:Int)<=(a:Int)+((n:Nat):Int)
  omega
@[simp] theorem Fq {α:Type} {f:α->List CD} {l:List α}:cut (l.map f) 0 l.length=l.map f:=r8 (by simp)
attribute [simp] r8
@[simp] theorem Fp {n:Nat}:((n:Int)<0)=False:=by simp
open Go.RowKit Go.WideShapes Go.ChangeShapes
def kY (P:Program):Nat->List Field->Option Nat
 |o,[]=>some o
 |o,f::fs=>if f.offset=o then kY P (o+P.cellsOf f.type) fs else none
def okT (P:Program):Nat->TypeId->Bool
 |0,_=>false
 | D + 1, t => match P.underlying t with
   |some .bool=>true
   |some (.int _)=>true
   |some .string=>true
   |some (.slice e)=>decide (0<P.cellsOf e) && okT P D e
   |some (.struct fs)=>(kY P 0 fs.toList == some (P.cellsOf t)) && fs.toList.all λf=>okT P D f.type
   |_=>false
def fx (P:Program):Nat->TypeId->List CD->Prop
 |0,_,_=>False
 | D + 1, t, ds => match P.underlying t with
   |some .bool=>∃ b,ds=[.v (.bool b)]
   |some (.int k)=>∃ n,ds=[.v (.int k n)]/\(Lit.int k n).wf=true
   |some .string=>∃ s:ByteArray,ds=[.v (.string s)]/\s.size<=maxLen
   |some (.slice e)=>∃ rows,ds=[.s rows]/\rows.length<=maxLen/\∀ row∈rows,row.length=P.cellsOf e/\fx P D e row
   |some (.struct fs)=>ds.length=P.cellsOf t/\∀ f∈fs.toList,fx P D f.type ((ds.drop f.offset).take (P.cellsOf f.type))
   |_=>False
def eM (w:World) (cs:List Value) (ds:List CD):Prop:=ds.length=cs.length/\∀ (j:Nat) (u:Value) (d:CD),cs[j]? = some u->ds[j]? = some d->Rd w false (λ_=>True) u d
theorem eM.one {w:World} {u:Value} {d:CD} (h:Rd w false (λ_=>True) u d):eM w [u] [d]:=by
 refine ⟨rfl,λj u' d' hu hd=>?_⟩
 cases j with
 |zero=>simp at hu hd;subst hu;subst hd;exact h
 |succ j=>simp at hu
theorem gQ {P:Program} {w:World} {D:Nat} {cs:List Value}:∀ (fs:List Field) (o m:Nat),kY P o fs=some m -> m <= cs.length ->
 (∀ f ∈ fs,∃ ds,eM w ((cs.drop f.offset).take (P.cellsOf f.type)) ds /\ fx P D f.type ds) ->
 ∃ ds,o<=m/\eM w ((cs.drop o).take (m - o)) ds/\∀ f∈fs,o<=f.offset/\fx P D f.type ((ds.drop (f.offset - o)).take (P.cellsOf f.type))
 | [], o, m, hc, _, _ => by
   simp only [kY,Option.some.injEq] at hc;subst hc;exact ⟨[],Nat.le_refl _,by simp [eM],by simp⟩
 | f :: fs, o, m, hc, hm, hx => by
   simp only [kY] at hc
   split at hc
   ·rename_i ho
    obtain ⟨ds,h1,h2,h3⟩:=gQ fs _ m hc hm (λg hg=>hx g (List.mem_cons_of_mem _ hg));obtain ⟨d1,h4,h5⟩:=hx f (List.mem_cons_self ..);have hl:d1.length=P.cellsOf f.type:=by rw [h4.1];simp;omega
    refine ⟨d1++ds,by omega,⟨?_,λj u d hu hd=>?_⟩,λg hg=>?_⟩
    ·have:=h2.1
     simp at this ⊢;omega
    ·by_cases hj:j<P.cellsOf f.type
     ·rw [List.getElem?_append_left (by omega)] at hd
      refine h4.2 j u d ?_ hd;rw [List.getElem?_take,if_pos hj,ho];rw [List.getElem?_take] at hu
      split at hu
      ·exact hu
      ·simp at hu
     ·rw [List.getElem?_append_right (by omega),hl] at hd
      refine h2.2 _ u d ?_ hd;rw [List.getElem?_take] at hu ⊢
      split at hu
      ·rw [if_pos (by omega)]
       rw [List.getElem?_drop] at hu ⊢;rw [<- hu]
       congr 1
       omega
      ·simp at hu
    ·rcases List.mem_cons.1 hg with rfl|hg
     ·refine ⟨by omega,?_⟩
      rw [ho,Nat.sub_self,List.drop_zero,List.take_append_of_le_length (by omega),List.take_of_length_le (by omega)];exact h5
     ·obtain ⟨h6,h7⟩:=h3 g hg
      refine ⟨by omega,?_⟩
      have:(d1++ds).drop (g.offset - o)=ds.drop (g.offset - (o+P.cellsOf f.type)):=by
       rw [List.drop_append,List.drop_of_length_le (by omega),hl,List.nil_append]
       congr 1
       omega
      rw [this];exact h7
   ·simp at hc
theorem sA {H:Type} {enc:TypeId×Value->H} {P:Program} {w:World} {base:Nat} {spare:Nat->Bool} {held:Bool} :
 ∀ (D:Nat) (t:TypeId) (cs:List Value) (x:DataW H×List MemPlace) (fuel:Nat),okT P D t=true->DataW.trod enc P w base spare held fuel t cs=some x->∃ ds,eM w cs ds/\fx P D t ds:=by
 intro D
 induction D with
 |zero=>intro t cs x fuel h;simp [okT] at h
 | succ D ih =>
   intro t cs x fuel hok h;unfold okT at hok
   split at hok
   ·rename_i hu
    obtain ⟨b,rfl,-⟩:=DataW.trod_bool hu h;exact ⟨[.v (.bool b)],eM.one (.plain rfl),by simp [fx,hu]⟩
   ·rename_i k hu
    obtain ⟨n,rfl,-,hw⟩:=DataW.trod_int hu h;exact ⟨[.v (.int k n)],eM.one (.plain rfl),by simp [fx,hu,hw]⟩
   ·rename_i hu
    obtain ⟨s,rfl,-,hs⟩:=DataW.trod_string hu h;exact ⟨[.v (.string s)],eM.one (.plain rfl),by simp [fx,hu,hs]⟩
   ·rename_i e hu
    simp only [Bool.and_eq_true,decide_eq_true_eq] at hok;obtain ⟨hpos,hok⟩:=hok;rcases DataW.trod_slice hu h with ⟨rfl,-⟩|⟨a,len,cap,elems,rest,n,-,rfl,-,-,hlc,hcm,hel,hi,-⟩
    ·exact ⟨[.s []],eM.one (.empty _ _ (λh=>by simp at h)),by simp [fx,hu]⟩
    ·have each:∀ i,i<len->∃ p:List Value×List CD,w.cells? base (a.add (i*P.cellsOf e)) (P.cellsOf e)=some p.1/\eM w p.1 p.2/\fx P D e p.2:=by
      intro i hlt;have h1:=hi i hlt;rw [List.getElem?_eq_getElem (by omega)] at h1;obtain ⟨c,h2,h3⟩:=Option.bind_eq_some_iff.1 h1;obtain ⟨ds,h4,h5⟩:=ih e c _ n hok h3;exact ⟨(c,ds),h2,h4,h5⟩
     by_cases hl0:len=0
     ·subst hl0
      exact ⟨[.s []],eM.one (.empty _ _ (λh=>by simp at h)),by simp [fx,hu]⟩
     ·obtain ⟨f,hf⟩:=Go.Deep.choose_lt each
      have cell:∀ i j,i<len->j<P.cellsOf e->w.cell? (a.add (i*P.cellsOf e+j))=(f i).1[j]?/\(f i).1.length=P.cellsOf e:=by
       intro i j hlt hj;obtain ⟨-,h2,h3⟩:=World.cells?_some (hf i hlt).1;exact ⟨by rw [<- h3 j hj,Go.Deep.add_add],h2⟩
      obtain ⟨b,off,spot⟩:=a
      have hb:∃ cs T fr,w.heap[b]? = some (.cells cs T fr)/\spot=none:=by
       obtain ⟨h1,h2⟩:=cell 0 0 (by omega) hpos;rw [List.getElem?_eq_getElem (by omega)] at h1;unfold World.cell? at h1;rw [block_add] at h1
       split at h1
       ·rename_i c T fr hh
        refine ⟨c,T,fr,hh,?_⟩
        cases spot with
        |none=>rfl
        |some s=>simp [Addr.add] at h1
       ·simp at h1
      obtain ⟨c,T,fr,hb,rfl⟩:=hb
      have at':∀ i j,i<len->j<P.cellsOf e->c[off+(i*P.cellsOf e+j)]? = (f i).1[j]?:=by
       intro i j hlt hj;rw [<- (cell i j hlt hj).1,bH];simp [World.cell?,hb]
      have hrows:((List.range len).map λi=>(f i).2).length=len:=by simp
      have hrd:=Rd.slice (w:=w) (x:=false) (S:=λ_=>True) b off cap (P.cellsOf e) c T fr ((List.range len).map λi=>(f i).2) (λ_ _ _=>True)
       (by rw [hrows];exact hlc) hcm hpos trivial hb (by
        rw [hrows];obtain ⟨m,rfl⟩:∃ m,len=m+1:=⟨len - 1,by omega⟩;have h1:=at' m (P.cellsOf e - 1) (by omega) (by omega);rw [List.getElem?_eq_getElem (by rw [(cell m (P.cellsOf e - 1) (by omega) (by omega)).2];omega)] at h1;have h2:=(Array.getElem?_eq_some_iff.1 h1).1;rw [Nat.succ_mul];omega) (λh=>by simp at h) (λ_ _ _ _=>⟨trivial,λh=>by simp at h⟩) (λh=>by simp at h)
       (λrow hrow=>by
        simp only [List.mem_map,List.mem_range] at hrow;obtain ⟨i,hlt,rfl⟩:=hrow;rw [(hf i hlt).2.1.1];exact (cell i 0 hlt hpos).2)
       (λi j row d h1 h2=>by
        have hlt:i<len:=by have:=(List.getElem?_eq_some_iff.1 h1).1;omega
        simp only [List.getElem?_map,List.getElem?_range hlt,Option.map_some,Option.some.injEq] at h1;subst h1
        have hj:j<P.cellsOf e:=by
         have:=(List.getElem?_eq_some_iff.1 h2).1;rw [(hf i hlt).2.1.1,(cell i 0 hlt hpos).2] at this;exact this
        have h3:=at' i j hlt hj;rw [List.getElem?_eq_getElem (by rw [(cell i j hlt hj).2];exact hj)] at h3
        have h4:c.getD (off+(i*P.cellsOf e+j)) undef=(f i).1[j]'(by rw [(cell i j hlt hj).2];exact hj):=by
         rw [Array.getD_eq_getD_getElem?,h3];rfl
        rw [h4];exact (hf i hlt).2.1.2 j _ d (List.getElem?_eq_getElem _) h2)
      rw [hrows] at hrd;refine ⟨[.s ((List.range len).map λi=>(f i).2)],eM.one hrd,?_⟩;simp only [fx,hu];refine ⟨_,rfl,by rw [hrows];omega,λrow hrow=>?_⟩;simp only [List.mem_map,List.mem_range] at hrow;obtain ⟨i,hlt,rfl⟩:=hrow;exact ⟨by rw [(hf i hlt).2.1.1];exact (cell i 0 hlt hpos).2,(hf i hlt).2.2⟩
   ·rename_i fs hu
    simp only [Bool.and_eq_true,beq_iff_eq,List.all_eq_true] at hok;obtain ⟨hc,hall⟩:=hok;obtain ⟨xs,n,-,-,hcl,hxl,hi⟩:=DataW.trod_struct hu h
    obtain ⟨ds,-,h1,h2⟩:=gQ (w:=w) (D:=D) (cs:=cs) fs.toList 0 _ hc (by omega) (λf hf=>by
     obtain ⟨i,hlt,rfl⟩:=List.getElem_of_mem hf;have hlt':i<fs.size:=by simpa using hlt
     have h3:=hi i fs[i] (by simp [hlt']);rw [List.getElem?_eq_getElem (by omega)] at h3;exact ih _ _ _ n (hall _ hf) h3)
    rw [List.drop_zero,Nat.sub_zero,List.take_of_length_le (by omega)] at h1;refine ⟨ds,h1,?_⟩;simp only [fx,hu];refine ⟨by rw [h1.1,hcl],λf hf=>?_⟩;have:=(h2 f hf).2
    rwa [Nat.sub_zero] at this
   ·simp at hok
def p7 (P:Program) (D:Nat) (t:TypeId):VD->Prop
 | .c d=>fx P D t [d]
 | .agg ds=>(∃ fs,P.underlying t=some (.struct fs))/\fx P D t ds
theorem u9 {H:Type} {enc:TypeId×Value->H} {P:Program} {w:World} {base b0:Nat} {spare:Nat->Bool} {held:Bool} {r:Reach} {D:Nat} {t:TypeId} {v:Value} {d:DataW H} {ps:List MemPlace}
 (hok:okT P D t=true) (hval:Value.okWide P w r b0 t v) (h:DataW.Trod enc P w base spare held t v d ps):∃ vd,RdV w v vd/\p7 P D t vd:=by
 obtain ⟨fuel,hf⟩:=h;obtain ⟨ds,hr,hfit⟩:=sA D t _ _ fuel hok hf
 have one:v.cells = #[v]->(∀ fs,P.underlying t≠some (.struct fs))->∃ vd,RdV w v vd/\p7 P D t vd:=by
  intro hc _;rw [hc] at hr;obtain ⟨hl,hr⟩:=hr
  cases ds with
  |nil=>simp at hl
  | cons d ds =>
    cases ds with
    |nil=>exact ⟨.c d,hr 0 v d rfl rfl,hfit⟩
    |cons _ _=>simp at hl
 cases D with
 |zero=>simp [okT] at hok
 | succ D =>
   unfold okT at hok
   split at hok
   ·rename_i hu
    obtain ⟨b,rfl⟩:=okWide_bool hu hval;exact one rfl (λfs h=>by rw [hu] at h;simp at h)
   ·rename_i k hu
    obtain ⟨n,rfl⟩:=okWide_int hu hval;exact one rfl (λfs h=>by rw [hu] at h;simp at h)
   ·rename_i hu
    obtain ⟨s,rfl⟩:=okWide_string hu hval;exact one rfl (λfs h=>by rw [hu] at h;simp at h)
   ·rename_i e hu
    obtain ⟨a,l,c,rfl⟩:=okWide_slice hu hval;exact one rfl (λfs h=>by rw [hu] at h;simp at h)
   ·rename_i fs hu
    obtain ⟨cs,rfl,-⟩:=okWide_struct hu hval;obtain ⟨hl,hr⟩:=hr;refine ⟨.agg ds,⟨cs,rfl,by simpa [Value.cells] using hl.symm,λj d hd=>?_⟩,⟨fs,hu⟩,hfit⟩
    have hj:j<cs.size:=by
     have:=(List.getElem?_eq_some_iff.1 hd).1;simp [Value.cells] at hl;omega
    have:=hr j cs[j] d (by simp [Value.cells,hj]) hd
    simpa [hj] using this
   ·simp at hok
def eN (P:Program) (D:Nat) (w:World):List TypeId->List Value->List VD->Prop
 | [],[],[]=>True
 |t::ts,v::vs,d::ds=>(RdV w v d/\p7 P D t d)/\eN P D w ts vs ds
 |_,_,_=>False
theorem mu {H:Type} {enc:TypeId×Value->H} {P:Program} {w:World} {base b0:Nat} {spare:Nat->Bool} {held:Bool} {r:Reach} {D:Nat} :
 ∀ (ts : List TypeId) (vs : List Value) (ds : List (DataW H)) (ps : List MemPlace), (ts.all λt => okT P D t) = true -> (∀ (j : Nat) t v, ts[j]? = some t -> vs[j]? = some v -> Value.okWide P w r b0 t v) ->
   DataW.TrodAll enc P w base spare held ts vs ds ps->∃ vds,eN P D w ts vs vds
 | [], vs, ds, ps, _, _, h => by
   obtain ⟨rfl,-,-⟩:=trodAll_nil h;exact ⟨[],trivial⟩
 | t :: ts, vs, ds, ps, hok, hval, h => by
   obtain ⟨v,vs1,d,ds1,a,b,rfl,rfl,rfl,h1,h2⟩:=trodAll_cons h;simp only [List.all_cons,Bool.and_eq_true] at hok;obtain ⟨vds,h3⟩:=mu ts vs1 ds1 b hok.2 (λj t v ht hv=>hval (j+1) t v (by simpa using ht) (by simpa using hv)) h2;obtain ⟨vd,h4,h5⟩:=u9 hok.1 (hval 0 t v rfl rfl) h1;exact ⟨vd::vds,⟨h4,h5⟩,h3⟩
theorem jA {P:Program} {D:Nat} {w:World}:∀ (ts:List TypeId) (vs:List Value) (vds:List VD),eN P D w ts vs vds->vs.length=vds.length/\∀ (i:Nat) vd,vds[i]? = some vd->RdV w (vs.toArray.getD i undef) vd
 | [],[],[],_=>⟨rfl,λi vd h=>by simp at h⟩
 | t :: ts, v :: vs, d :: ds, h => by
   obtain ⟨h1,h2⟩:=jA ts vs ds h.2;refine ⟨by simp [h1],λi vd hi=>?_⟩
   cases i with
   |zero=>simp at hi;subst hi;simpa using h.1.1
   |succ i=>simpa using h2 i vd (by simpa using hi)
theorem md {H:Type} {enc:TypeId×Value->H} {P:Program} (hl:laidOutB P=true) {W W':World} (hb:Below W.heap.size W W') {sp:Nat->Bool} :
 ∀ (ts : List TypeId) (vs : List Value) (ds : List (DataW H)) (ps : List MemPlace), (ts.all λt => P.readableRec t && decide (t < P.types.size)) = true -> DataW.TrodAll enc P W 0 (λ_ => true) true ts vs ds ps ->
   (∀ x∈ps,x.block<W.heap.size)->(∀ x∈ps,sp x.block=true)->DataW.TrodAll enc P W' 0 sp true ts vs ds ps
 | [], vs, ds, ps, _, h, _, _ => by
   obtain ⟨rfl,rfl,rfl⟩:=trodAll_nil h;rfl
 | t :: ts, vs, ds, ps, hok, h, hlt, hsp => by
   obtain ⟨v,vs1,d,ds1,a,b,rfl,rfl,rfl,h1,h2⟩:=trodAll_cons h;simp only [List.all_cons,Bool.and_eq_true,decide_eq_true_eq] at hok;refine ⟨a,b,WideElems.Trod_stays hl hok.1.1 hok.1.2 h1 (λx hx=>hb.same (hlt x (by simp [hx]))) (λx hx=>hsp x (by simp [hx])),md hl hb ts vs1 ds1 b (by simpa using hok.2) h2 (λx hx=>hlt x (by simp [hx])) (λx hx=>hsp x (by simp [hx])),rfl⟩
theorem sS {L:World->Prop} {H:Type} {enc:TypeId×Value->H} {P:Program} (hlaid:laidOutB P=true) {f:FuncId} {fn:Func} {s:ChangeSpec} {apart fresh handsOn:Bool} {D:Nat} {bt:TypeId}
 (hv:s.vars=[]) (hres:fn.resultTypes = #[bt]) (hbt:P.underlying bt=some .bool) (hokT:(fn.params.toList.all λt=>okT P D t)=true) (hread:(fn.params.toList.all λt=>P.readableRec t && decide (t<P.types.size))=true)
 (hs:∀ ds:List (DataW H),ds.length=fn.params.toList.length->s.fn H ds={ results:=[.lit (.bool true)],args:=ds })
 {W:World} {args:Array Value} {r:Reach} {b0:Nat} {ds gs:List (DataW H)} {before:List MemPlace}
 (hval:∀ (j:Nat) t v,fn.params[j]? = some t->args[j]? = some v->Value.okWide P W r b0 t v)
 (hW:DataW.Whole enc P fn.params.toList s.vars apart W args.toList ds gs before)
 (hLW:L W) (hwalk:∀ vds,eN P D W fn.params.toList args.toList vds->aW P L f vds (.one (.c (.v (.bool true)) 1))) :
 Calls P f args W λe W'=>∃ v,e=.returned v/\s.post enc P fn apart fresh handsOn false W args v W':=by
 have hW0:=hW;obtain ⟨p,q,hA,hV,rfl,hfz,hnd⟩:=hW;rw [hv] at hV;obtain ⟨rfl,rfl⟩:=trodVars_none hV;obtain ⟨vds,ho⟩:=mu (D:=D) fn.params.toList args.toList ds p hokT (λj t v ht hv=>hval j t v (by simpa using ht) (by simpa using hv)) hA;obtain ⟨hl,hr⟩:=jA _ _ _ ho
 have hlen:ds.length=fn.params.toList.length:=by
  have:∀ (ts:List TypeId) (vs:List Value) (ds:List (DataW H)) (ps:List MemPlace),DataW.TrodAll enc P W 0 (λ_=>true) true ts vs ds ps->ds.length=ts.length:=by
   intro ts
   induction ts with
   |nil=>intro vs ds ps h;obtain ⟨-,rfl,-⟩:=trodAll_nil h;rfl
   | cons t ts ih =>
     intro vs ds ps h;obtain ⟨v,vs1,d,ds1,a,b,rfl,rfl,rfl,h1,h2⟩:=trodAll_cons h;simp [ih _ _ _ h2]
  exact this _ _ _ _ hA
 refine ((hwalk vds ho).2 W hLW args (by simpa using hl) (λi vd hi=>by simpa using hr i vd hi)).mono ?_
 rintro e W' ⟨v,rfl,hb,hrr⟩
 have hv1:v=.bool true:=hrr.1;subst hv1;have hs':=hs ds hlen;refine ⟨_,rfl,ds,[],p,[],p,[],by simpa using hW0,?_,?_,?_,?_,λh=>by cases h⟩
 ·rw [List.append_nil,hs',hres]
  exact trodAll_mk1 (shut_bool hbt true)
 ·rw [List.append_nil,hs']
  have hlt:∀ x∈p,x.block<W.heap.size:=λx hx=>hW0.lt x (by simp [hx])
  exact md hlaid hb _ _ _ _ hread hA hlt (λx hx=>by simpa using hlt x hx)
 ·rw [hv]
  have:(s.fn H (ds++[])).vars=[]:=by rw [List.append_nil,hs']
  rw [this];exact rfl
 ·exact hb.frame _
section
variable {P:Program} {D:Nat} {t e:TypeId} {vd:VD} {ds:List CD}
theorem pw (hu:P.underlying t=some .string) (h:fx P D t ds):∃ s:ByteArray,ds=[.v (.string s)]/\s.size<=maxLen:=by
 cases D with
 |zero=>exact h.elim
 |succ D=>simpa only [fx,hu] using h
theorem yj {de:TypeDesc} (hu:P.underlying t=some de) (hn:∀ fs,de≠.struct fs) (h:p7 P D t vd):∃ d,vd=.c d/\fx P D t [d]:=by
 cases vd with
 |c d=>exact ⟨d,rfl,h⟩
 | agg ds =>
   obtain ⟨⟨fs,h1⟩,-⟩:=h;rw [hu] at h1;simp only [Option.some.injEq] at h1;exact absurd h1 (hn fs)
end
theorem eN.nil {P:Program} {D:Nat} {w:World} {vs:List Value} {vds:List VD} (h:eN P D w [] vs vds):vds=[]:=by
 cases vs with
 | nil => cases vds with
   |nil=>rfl
   |cons _ _=>exact h.elim
 |cons _ _=>exact h.elim
theorem eN.cons {P:Program} {D:Nat} {w:World} {t:TypeId} {ts:List TypeId} {vs:List Value} {vds:List VD} (h:eN P D w (t::ts) vs vds) :
 ∃ vd vds',vds=vd::vds'/\p7 P D t vd/\∃ vs',eN P D w ts vs' vds':=by
 cases vs with
 |nil=>cases vds<;>exact h.elim
 | cons v vs => cases vds with
   |nil=>exact h.elim
   |cons d ds=>exact ⟨d,ds,rfl,h.1.2,vs,h.2⟩
def aw {α:Type} (mk:α->Int->α) (cn:α->Nat):List α->Int->List α
 | [],_=>[]
 |a::l,k=>mk a k::aw mk cn l (k+cn a)
def ay {α:Type} (cn:α->Nat):List α->Nat
 | []=>0
 |a::l=>cn a+ay cn l
section
variable {α:Type} {mk:α->Int->α} {cn:α->Nat}
theorem aJ:∀ (l:List α) (k:Int),(aw mk cn l k).length=l.length
 | [],_=>rfl
 |a::l,k=>by simp [aw,aJ l]
theorem jo:∀ (l m:List α),ay cn (l++m)=ay cn l+ay cn m
 | [],m=>by simp [ay]
 |a::l,m=>by simp [ay,jo l m];omega
theorem gY:∀ (l m:List α) (k:Int),aw mk cn (l++m) k=aw mk cn l k++aw mk cn m (k+ay cn l)
 | [],m,k=>by simp [aw,ay]
 | a :: l, m, k => by
   simp only [List.cons_append,aw,gY l m,ay];rw [show k+(cn a:Int)+(ay cn l:Nat)=k+((cn a+ay cn l:Nat):Int) by omega]
theorem ey {l:List α} {i:Nat} (h:i<l.length):ay cn (l.take (i+1))=ay cn (l.take i)+cn l[i]:=by
 rw [<- List.take_append_getElem h,jo];simp [ay]
theorem ik:∀ (l:List α) (i:Nat),ay cn (l.take i)<=ay cn l
 | [],i=>by simp
 |a::l,0=>by simp [ay]
 |a::l,i+1=>by simp only [List.take_succ_cons,ay];have:=ik l i;omega
theorem il {l:List α} {i:Nat} (h:i<l.length):ay cn (l.take i)+cn l[i]<=ay cn l:=by
 rw [<- ey h];exact ik l (i+1)
theorem sJ {l:List α} {k:Int} {i:Nat} (h:i<l.length):(aw mk cn l k)[i]? = some (mk l[i] (k+ay cn (l.take i))):=by
 induction l generalizing k i with
 |nil=>simp at h
 | cons a l ih =>
   cases i with
   |zero=>simp [aw,ay]
   | succ i =>
     simp only [aw,List.getElem?_cons_succ,List.take_succ_cons,ay,List.getElem_cons_succ];rw [ih (by simpa using h)]
     congr 2
     omega
def cL (mk:α->Int->α) (cn:α->Nat) (f:α->List CD) (l:List α) (k:Int) (i:Nat):List (List CD):=(aw mk cn (l.take i) k++l.drop i).map f
variable {f:α->List CD} {l:List α} {k:Int} {i:Nat}
theorem o5:cL mk cn f l k 0=l.map f:=by simp [cL,aw]
theorem dy:(cL mk cn f l k i).length=l.length:=by simp [cL,aJ];omega
theorem kA (h:l.length<=i):cL mk cn f l k i=(aw mk cn l k).map f:=by
 simp [cL,List.take_of_length_le h,List.drop_of_length_le h]
theorem qA (h:i<l.length):(cL mk cn f l k i).set i (f l[i])=cL mk cn f l k i:=by
 unfold cL
 apply List.ext_getElem?
 intro j;rw [List.getElem?_set]
 split
 ·rename_i hj
  subst hj;have hl:(aw mk cn (l.take i) k).length=i:=by rw [aJ];simp;omega
  rw [if_pos (by simp [aJ];omega)];simp only [List.map_append];rw [List.getElem?_append_right (by simp [hl])];simp [hl,h]
 ·rfl
theorem kz (h:i<l.length) {r:List CD} (hr:r=f (mk l[i] (k+ay cn (l.take i)))):(cL mk cn f l k i).set i r=cL mk cn f l k (i+1):=by
 subst hr;unfold cL;have hl:(aw mk cn (l.take i) k).length=i:=by rw [aJ];simp;omega
 rw [<- List.take_append_getElem h,gY,List.drop_eq_getElem_cons h];simp only [List.map_append,List.map_cons,aw,List.map_nil,List.append_assoc];rw [List.set_append_right _ _ (by simp [hl])];simp [hl]
end
theorem ku {xs:List (List CD)} {i:Nat} {a:List CD} {g:List CD->List CD}:(xs.set i a).modify i g=xs.set i (g a):=by
 apply List.ext_getElem?
 intro j;rw [List.getElem?_modify,List.getElem?_set,List.getElem?_set];by_cases h:i=j
 ·subst h
  by_cases h2:i<xs.length<;>simp [h2]
 ·simp [h]
theorem oG {xs:List (List CD)} {i j:Nat} {a:List CD} {d:CD}:fF (xs.set i a) i j d=xs.set i (a.set j d):=ku
abbrev dK (_:Int) (k:Int):Int:=k
abbrev one {α:Type} (_:α):Nat:=1
theorem kZ {α:Type}:∀ (l:List α),ay one l=l.length
 | []=>rfl
 |a::l=>by simp [ay,one,kZ l];omega
end Go.AM
namespace Go.Proofs.YthckkpphnmmfdaaGreatDoor
open Go.AM
set_option maxRecDepth 20000
def cD {α:Type} (f:α->Nat):List α->Nat
 | []=>0
 |a::l=>f a+cD f l
theorem oA {α:Type} {f:α->Nat}:∀ {l:List α} {a:α},a∈l->f a<=cD f l
 | b :: l, a, h => by
   simp only [cD];rcases List.mem_cons.1 h with rfl|h
   ·omega
   ·have:=oA (f:=f) h;omega
def nL {α:Type} (f:α->Nat) (l:List α):Nat:=l.length+cD f l
theorem e6 {α:Type} {f:α->Nat} {l:List α} {B:Nat} (h:nL f l<=B):l.length<=B:=by unfold nL at h;omega
theorem qz {α:Type} {f:α->Nat} {l:List α} {B:Nat} (h:nL f l<=B) {a:α} (ha:a∈l):f a<=B:=by have:=oA (f:=f) ha;unfold nL at h;omega
theorem oW {α:Type} {f:α->Nat} {l:List α} {B:Nat} (h:nL f l<=B) {i:Nat} (hi:i<l.length):f l[i]<=B:=qz h (List.getElem_mem hi)
theorem aO {α:Type} {cn n:α->Nat} (h:∀ a,cn a<=11*(1+n a)):∀ l:List α,ay cn l<=11*nL n l
 | []=>by simp [ay]
 | a :: l => by
   have h1:=h a;have h2:=aO h l;unfold nL at h2 ⊢;simp only [ay,List.length_cons,cD];omega
theorem fT {α:Type} {cn:α->Nat} (h:∀ a,cn a<=11):∀ l:List α,ay cn l<=11*l.length
 | []=>by simp [ay]
 | a :: l => by
   have h1:=h a;have h2:=fT h l;simp only [ay,List.length_cons];omega
theorem kB {α:Type} {mk:α->Int->α} {cn:α->Nat} {l:List α} {k:Int} {i:Nat} (h:i<l.length):(aw mk cn l k)[i]'(by rw [aJ];exact h)=mk l[i] (k+ay cn (l.take i)):=by
 have:=sJ (mk:=mk) (cn:=cn) (k:=k) h;rw [List.getElem?_eq_getElem (by rw [aJ];exact h)] at this;exact Option.some.inj this
noncomputable def vu (k:Int):Bool:=dc (k.tmod 3=0)
def D7 (n:Nat):List UInt8:=if h:n<10 then [UInt8.ofNat (48+n)] else D7 (n / 10)++[UInt8.ofNat (48+n % 10)]
termination_by n
decreasing_by omega
def markT (k:Int):ByteArray:=⟨(109::D7 k.toNat).toArray⟩
structure Part where
 kind:Int
 n:Int
 signs:List Int
 deriving Inhabited
def Part.row (x:Part):List CD:=[vi x.kind,vi x.n,.s (x.signs.map bb)]
def Part.res (x:Part):List (CD×Nat):=[(vi x.kind,1),(vi x.n,1),(.s (x.signs.map bb),1)]
@[simp] theorem Part.row_len {x:Part}:x.row.length=3:=rfl
def aL (x:Part):Nat:=x.signs.length
noncomputable def Part.mark (x:Part) (k:Int):Part:=⟨k,k+1,aw dK one x.signs (k+1+1)⟩
def Part.cnt (x:Part):Nat:=2+(x.signs.length)
theorem Part.cnt_le (x:Part):x.cnt<=11*(1+aL x):=by
 unfold Part.cnt;simp only [aL];omega
noncomputable def Part.markT (x:Part) (k:Int):Part:=⟨x.kind,x.n,aw dK one x.signs (k)⟩
def Part.cntT (x:Part):Nat:=x.signs.length
theorem Part.cntT_le (x:Part):x.cntT<=11*aL x:=by
 unfold Part.cntT;simp only [aL];omega
structure Entry where
 client:Int
 seq:Int
 o:List Part
def Entry.row (x:Entry):List CD:=[vi x.client,vi x.seq,.s (x.o.map Part.row)]
def Entry.res (x:Entry):List (CD×Nat):=[(vi x.client,1),(vi x.seq,1),(.s (x.o.map Part.row),3)]
@[simp] theorem Entry.row_len {x:Entry}:x.row.length=3:=rfl
def gz (x:Entry):Nat:=nL aL x.o
noncomputable def Entry.mark (x:Entry) (k:Int):Entry:=⟨k,k+1,aw Part.mark Part.cnt x.o (k+1+1)⟩
def Entry.cnt (x:Entry):Nat:=2+(ay Part.cnt x.o)
theorem Entry.cnt_le (x:Entry):x.cnt<=11*(1+gz x):=by
 unfold Entry.cnt;have h0:=aO Part.cnt_le x.o;simp only [gz];omega
noncomputable def Entry.markT (x:Entry) (k:Int):Entry:=⟨x.client,x.seq,aw Part.mark Part.cnt x.o (k)⟩
def Entry.cntT (x:Entry):Nat:=ay Part.cnt x.o
theorem Entry.cntT_le (x:Entry):x.cntT<=11*gz x:=by
 unfold Entry.cntT;have h0:=aO Part.cnt_le x.o;simp only [gz];omega
structure Seen where
 client:Int
 seq:Int
 rev:Int
def Seen.row (x:Seen):List CD:=[vi x.client,vi x.seq,vi x.rev]
def Seen.res (x:Seen):List (CD×Nat):=[(vi x.client,1),(vi x.seq,1),(vi x.rev,1)]
@[simp] theorem Seen.row_len {x:Seen}:x.row.length=3:=rfl
noncomputable def Seen.mark (_x:Seen) (k:Int):Seen:=⟨k,k+1,k+1+1⟩
def Seen.cnt (_x:Seen):Nat:=3
theorem Seen.cnt_le (x:Seen):x.cnt<=11*1:=by
 unfold Seen.cnt;omega
structure Doc where
 name:ByteArray
 fr:Int
 text:List Int
 list:List Entry
 seen:List Seen
def Doc.row (x:Doc):List CD:=[.v (.string x.name),vi x.fr,.s (x.text.map bb),.s (x.list.map Entry.row),.s (x.seen.map Seen.row)]
def Doc.res (x:Doc):List (CD×Nat):=[(.v (.string x.name),1),(vi x.fr,1),(.s (x.text.map bb),1),(.s (x.list.map Entry.row),3),(.s (x.seen.map Seen.row),3)]
@[simp] theorem Doc.row_len {x:Doc}:x.row.length=5:=rfl
def oX (x:Doc):Nat:=x.name.size+(x.text.length+(nL gz x.list+(x.seen.length)))
noncomputable def Doc.mark (x:Doc) (k:Int):Doc:=⟨markT (k),k+1,aw dK one x.text (k+1+1),aw Entry.mark Entry.cnt x.list (k+1+1+(x.text.length:Nat)),aw Seen.mark Seen.cnt x.seen (k+1+1+(x.text.length:Nat)+(ay Entry.cnt x.list:Nat))⟩
def Doc.cnt (x:Doc):Nat:=2+(x.text.length+(ay Entry.cnt x.list+(ay Seen.cnt x.seen)))
theorem Doc.cnt_le (x:Doc):x.cnt<=11*(1+oX x):=by
 unfold Doc.cnt;have h0:=aO Entry.cnt_le x.list;have h1:=fT (λa=>by have:=Seen.cnt_le a;omega) x.seen;simp only [oX];omega
noncomputable def Doc.markT (x:Doc) (k:Int):Doc:=⟨x.name,x.fr,aw dK one x.text (k),aw Entry.mark Entry.cnt x.list (k+(x.text.length:Nat)),aw Seen.mark Seen.cnt x.seen (k+(x.text.length:Nat)+(ay Entry.cnt x.list:Nat))⟩
def Doc.cntT (x:Doc):Nat:=x.text.length+(ay Entry.cnt x.list+(ay Seen.cnt x.seen))
theorem Doc.cntT_le (x:Doc):x.cntT<=11*oX x:=by
 unfold Doc.cntT;have h0:=aO Entry.cnt_le x.list;have h1:=fT (λa=>by have:=Seen.cnt_le a;omega) x.seen;simp only [oX];omega
structure Ring where
 cap:Int
 next:Int
 out:Bool
 list:List Entry
def Ring.row (x:Ring):List CD:=[vi x.cap,vi x.next,.v (.bool x.out),.s (x.list.map Entry.row)]
def Ring.res (x:Ring):List (CD×Nat):=[(vi x.cap,1),(vi x.next,1),(.v (.bool x.out),1),(.s (x.list.map Entry.row),3)]
@[simp] theorem Ring.row_len {x:Ring}:x.row.length=4:=rfl
def kr (x:Ring):Nat:=nL gz x.list
noncomputable def Ring.mark (x:Ring) (k:Int):Ring:=⟨k,k+1,vu (k+1+1),aw Entry.mark Entry.cnt x.list (k+1+1+1)⟩
def Ring.cnt (x:Ring):Nat:=3+(ay Entry.cnt x.list)
theorem Ring.cnt_le (x:Ring):x.cnt<=11*(1+kr x):=by
 unfold Ring.cnt;have h0:=aO Entry.cnt_le x.list;simp only [kr];omega
noncomputable def Ring.markT (x:Ring) (k:Int):Ring:=⟨x.cap,x.next,x.out,aw Entry.mark Entry.cnt x.list (k)⟩
def Ring.cntT (x:Ring):Nat:=ay Entry.cnt x.list
theorem Ring.cntT_le (x:Ring):x.cntT<=11*kr x:=by
 unfold Ring.cntT;have h0:=aO Entry.cnt_le x.list;simp only [kr];omega
structure Sub where
 id:Int
 doc:ByteArray
 r:Ring
def Sub.row (x:Sub):List CD:=[vi x.id,.v (.string x.doc),vi x.r.cap,vi x.r.next,.v (.bool x.r.out),.s (x.r.list.map Entry.row)]
def Sub.res (x:Sub):List (CD×Nat):=[(vi x.id,1),(.v (.string x.doc),1),(vi x.r.cap,1),(vi x.r.next,1),(.v (.bool x.r.out),1),(.s (x.r.list.map Entry.row),3)]
@[simp] theorem Sub.row_len {x:Sub}:x.row.length=6:=rfl
def vq (x:Sub):Nat:=x.doc.size+(kr x.r)
noncomputable def Sub.mark (x:Sub) (k:Int):Sub:=⟨k,markT (k+1),⟨k+1+1,k+1+1+1,vu (k+1+1+1+1),aw Entry.mark Entry.cnt x.r.list (k+1+1+1+1+1)⟩⟩
def Sub.cnt (x:Sub):Nat:=5+(ay Entry.cnt x.r.list)
theorem Sub.cnt_le (x:Sub):x.cnt<=11*(1+vq x):=by
 unfold Sub.cnt;have h0:=aO Entry.cnt_le x.r.list;simp only [vq,kr];omega
noncomputable def Sub.markT (x:Sub) (k:Int):Sub:=⟨x.id,x.doc,⟨x.r.cap,x.r.next,x.r.out,aw Entry.mark Entry.cnt x.r.list (k)⟩⟩
def Sub.cntT (x:Sub):Nat:=ay Entry.cnt x.r.list
theorem Sub.cntT_le (x:Sub):x.cntT<=11*vq x:=by
 unfold Sub.cntT;have h0:=aO Entry.cnt_le x.r.list;simp only [vq,kr];omega
structure Hub where
 shut:Bool
 docs:List Doc
 subs:List Sub
 last:Int
def Hub.row (x:Hub):List CD:=[.v (.bool x.shut),.s (x.docs.map Doc.row),.s (x.subs.map Sub.row),vi x.last]
def Hub.res (x:Hub):List (CD×Nat):=[(.v (.bool x.shut),1),(.s (x.docs.map Doc.row),5),(.s (x.subs.map Sub.row),6),(vi x.last,1)]
@[simp] theorem Hub.row_len {x:Hub}:x.row.length=4:=rfl
def sH (x:Hub):Nat:=nL oX x.docs+(nL vq x.subs)
noncomputable def Hub.markT (x:Hub) (k:Int):Hub:=⟨x.shut,aw Doc.mark Doc.cnt x.docs (k),aw Sub.mark Sub.cnt x.subs (k+(ay Doc.cnt x.docs:Nat)),x.last⟩
def Hub.cntT (x:Hub):Nat:=ay Doc.cnt x.docs+(ay Sub.cnt x.subs)
theorem Hub.cntT_le (x:Hub):x.cntT<=11*sH x:=by
 unfold Hub.cntT;have h0:=aO Doc.cnt_le x.docs;have h1:=aO Sub.cnt_le x.subs;simp only [sH];omega
structure Call where
 kind:Int
 doc:ByteArray
 client:Int
 seq:Int
 n:Int
 o:List Part
 text:List Int
def Call.row (x:Call):List CD:=[vi x.kind,.v (.string x.doc),vi x.client,vi x.seq,vi x.n,.s (x.o.map Part.row),.s (x.text.map bb)]
def Call.res (x:Call):List (CD×Nat):=[(vi x.kind,1),(.v (.string x.doc),1),(vi x.client,1),(vi x.seq,1),(vi x.n,1),(.s (x.o.map Part.row),3),(.s (x.text.map bb),1)]
@[simp] theorem Call.row_len {x:Call}:x.row.length=7:=rfl
def bS (x:Call):Nat:=x.doc.size+(nL aL x.o+(x.text.length))
noncomputable def Call.mark (x:Call) (k:Int):Call:=⟨k,markT (k+1),k+1+1,k+1+1+1,k+1+1+1+1,aw Part.mark Part.cnt x.o (k+1+1+1+1+1),aw dK one x.text (k+1+1+1+1+1+(ay Part.cnt x.o:Nat))⟩
def Call.cnt (x:Call):Nat:=5+(ay Part.cnt x.o+(x.text.length))
theorem Call.cnt_le (x:Call):x.cnt<=11*(1+bS x):=by
 unfold Call.cnt;have h0:=aO Part.cnt_le x.o;simp only [bS];omega
noncomputable def Call.markT (x:Call) (k:Int):Call:=⟨x.kind,x.doc,x.client,x.seq,x.n,aw Part.mark Part.cnt x.o (k),aw dK one x.text (k+(ay Part.cnt x.o:Nat))⟩
def Call.cntT (x:Call):Nat:=ay Part.cnt x.o+(x.text.length)
theorem Call.cntT_le (x:Call):x.cntT<=11*bS x:=by
 unfold Call.cntT;have h0:=aO Part.cnt_le x.o;simp only [bS];omega
structure Answer where
 code:Int
 rev:Int
 text:List Int
 list:List Entry
def Answer.row (x:Answer):List CD:=[vi x.code,vi x.rev,.s (x.text.map bb),.s (x.list.map Entry.row)]
def Answer.res (x:Answer):List (CD×Nat):=[(vi x.code,1),(vi x.rev,1),(.s (x.text.map bb),1),(.s (x.list.map Entry.row),3)]
@[simp] theorem Answer.row_len {x:Answer}:x.row.length=4:=rfl
def e7 (x:Answer):Nat:=x.text.length+(nL gz x.list)
noncomputable def Answer.mark (x:Answer) (k:Int):Answer:=⟨k,k+1,aw dK one x.text (k+1+1),aw Entry.mark Entry.cnt x.list (k+1+1+(x.text.length:Nat))⟩
def Answer.cnt (x:Answer):Nat:=2+(x.text.length+(ay Entry.cnt x.list))
theorem Answer.cnt_le (x:Answer):x.cnt<=11*(1+e7 x):=by
 unfold Answer.cnt;have h0:=aO Entry.cnt_le x.list;simp only [e7];omega
noncomputable def Answer.markT (x:Answer) (k:Int):Answer:=⟨x.code,x.rev,aw dK one x.text (k),aw Entry.mark Entry.cnt x.list (k+(x.text.length:Nat))⟩
def Answer.cntT (x:Answer):Nat:=x.text.length+(ay Entry.cnt x.list)
theorem Answer.cntT_le (x:Answer):x.cntT<=11*e7 x:=by
 unfold Answer.cntT;have h0:=aO Entry.cnt_le x.list;simp only [e7];omega
structure Task where
 c:Call
 pc:Int
 inv:Int
 lin:Int
 rs:Int
 a:Answer
def Task.row (x:Task):List CD:=[vi x.c.kind,.v (.string x.c.doc),vi x.c.client,vi x.c.seq,vi x.c.n,.s (x.c.o.map Part.row),.s (x.c.text.map bb),vi x.pc,vi x.inv,vi x.lin,vi x.rs,vi x.a.code,vi x.a.rev,.s (x.a.text.map bb),.s (x.a.list.map Entry.row)]
def Task.res (x:Task):List (CD×Nat):=[(vi x.c.kind,1),(.v (.string x.c.doc),1),(vi x.c.client,1),(vi x.c.seq,1),(vi x.c.n,1),(.s (x.c.o.map Part.row),3),(.s (x.c.text.map bb),1),(vi x.pc,1),(vi x.inv,1),(vi x.lin,1),(vi x.rs,1),(vi x.a.code,1),(vi x.a.rev,1),(.s (x.a.text.map bb),1),(.s (x.a.list.map Entry.row),3)]
@[simp] theorem Task.row_len {x:Task}:x.row.length=15:=rfl
def oS (x:Task):Nat:=bS x.c+(e7 x.a)
noncomputable def Task.mark (x:Task) (k:Int):Task:=⟨⟨k,markT (k+1),k+1+1,k+1+1+1,k+1+1+1+1,aw Part.mark Part.cnt x.c.o (k+1+1+1+1+1),aw dK one x.c.text (k+1+1+1+1+1+(ay Part.cnt x.c.o:Nat))⟩,k+1+1+1+1+1+(ay Part.cnt x.c.o:Nat)+(x.c.text.length:Nat),k+1+1+1+1+1+(ay Part.cnt x.c.o:Nat)+(x.c.text.length:Nat)+1,k+1+1+1+1+1+(ay Part.cnt x.c.o:Nat)+(x.c.text.length:Nat)+1+1,k+1+1+1+1+1+(ay Part.cnt x.c.o:Nat)+(x.c.text.length:Nat)+1+1+1,⟨k+1+1+1+1+1+(ay Part.cnt x.c.o:Nat)+(x.c.text.length:Nat)+1+1+1+1,k+1+1+1+1+1+(ay Part.cnt x.c.o:Nat)+(x.c.text.length:Nat)+1+1+1+1+1,aw dK one x.a.text (k+1+1+1+1+1+(ay Part.cnt x.c.o:Nat)+(x.c.text.length:Nat)+1+1+1+1+1+1),aw Entry.mark Entry.cnt x.a.list (k+1+1+1+1+1+(ay Part.cnt x.c.o:Nat)+(x.c.text.length:Nat)+1+1+1+1+1+1+(x.a.text.length:Nat))⟩⟩
def Task.cnt (x:Task):Nat:=11+(ay Part.cnt x.c.o+(x.c.text.length+(x.a.text.length+(ay Entry.cnt x.a.list))))
theorem Task.cnt_le (x:Task):x.cnt<=11*(1+oS x):=by
 unfold Task.cnt;have h0:=aO Part.cnt_le x.c.o;have h1:=aO Entry.cnt_le x.a.list;simp only [oS,bS,e7];omega
noncomputable def Task.markT (x:Task) (k:Int):Task:=⟨⟨x.c.kind,x.c.doc,x.c.client,x.c.seq,x.c.n,aw Part.mark Part.cnt x.c.o (k),aw dK one x.c.text (k+(ay Part.cnt x.c.o:Nat))⟩,x.pc,x.inv,x.lin,x.rs,⟨x.a.code,x.a.rev,aw dK one x.a.text (k+(ay Part.cnt x.c.o:Nat)+(x.c.text.length:Nat)),aw Entry.mark Entry.cnt x.a.list (k+(ay Part.cnt x.c.o:Nat)+(x.c.text.length:Nat)+(x.a.text.length:Nat))⟩⟩
def Task.cntT (x:Task):Nat:=ay Part.cnt x.c.o+(x.c.text.length+(x.a.text.length+(ay Entry.cnt x.a.list)))
theorem Task.cntT_le (x:Task):x.cntT<=11*oS x:=by
 unfold Task.cntT;have h0:=aO Part.cnt_le x.c.o;have h1:=aO Entry.cnt_le x.a.list;simp only [oS,bS,e7];omega
structure Queue where
 doc:ByteArray
 list:List Int
def Queue.row (x:Queue):List CD:=[.v (.string x.doc),.s (x.list.map bb)]
def Queue.res (x:Queue):List (CD×Nat):=[(.v (.string x.doc),1),(.s (x.list.map bb),1)]
@[simp] theorem Queue.row_len {x:Queue}:x.row.length=2:=rfl
def kt (x:Queue):Nat:=x.doc.size+(x.list.length)
noncomputable def Queue.mark (x:Queue) (k:Int):Queue:=⟨markT (k),aw dK one x.list (k+1)⟩
def Queue.cnt (x:Queue):Nat:=1+(x.list.length)
theorem Queue.cnt_le (x:Queue):x.cnt<=11*(1+kt x):=by
 unfold Queue.cnt;simp only [kt];omega
noncomputable def Queue.markT (x:Queue) (k:Int):Queue:=⟨x.doc,aw dK one x.list (k)⟩
def Queue.cntT (x:Queue):Nat:=x.list.length
theorem Queue.cntT_le (x:Queue):x.cntT<=11*kt x:=by
 unfold Queue.cntT;simp only [kt];omega
structure Wld where
 h:Hub
 locks:List Int
 queues:List Queue
 tasks:List Task
 step:Int
def Wld.row (x:Wld):List CD:=[.v (.bool x.h.shut),.s (x.h.docs.map Doc.row),.s (x.h.subs.map Sub.row),vi x.h.last,.s (x.locks.map bb),.s (x.queues.map Queue.row),.s (x.tasks.map Task.row),vi x.step]
def Wld.res (x:Wld):List (CD×Nat):=[(.v (.bool x.h.shut),1),(.s (x.h.docs.map Doc.row),5),(.s (x.h.subs.map Sub.row),6),(vi x.h.last,1),(.s (x.locks.map bb),1),(.s (x.queues.map Queue.row),2),(.s (x.tasks.map Task.row),15),(vi x.step,1)]
@[simp] theorem Wld.row_len {x:Wld}:x.row.length=8:=rfl
def vp (x:Wld):Nat:=sH x.h+(x.locks.length+(nL kt x.queues+(nL oS x.tasks)))
noncomputable def Wld.markT (x:Wld) (k:Int):Wld:=⟨⟨x.h.shut,aw Doc.mark Doc.cnt x.h.docs (k),aw Sub.mark Sub.cnt x.h.subs (k+(ay Doc.cnt x.h.docs:Nat)),x.h.last⟩,aw dK one x.locks (k+(ay Doc.cnt x.h.docs:Nat)+(ay Sub.cnt x.h.subs:Nat)),aw Queue.mark Queue.cnt x.queues (k+(ay Doc.cnt x.h.docs:Nat)+(ay Sub.cnt x.h.subs:Nat)+(x.locks.length:Nat)),aw Task.mark Task.cnt x.tasks (k+(ay Doc.cnt x.h.docs:Nat)+(ay Sub.cnt x.h.subs:Nat)+(x.locks.length:Nat)+(ay Queue.cnt x.queues:Nat)),x.step⟩
def Wld.cntT (x:Wld):Nat:=ay Doc.cnt x.h.docs+(ay Sub.cnt x.h.subs+(x.locks.length+(ay Queue.cnt x.queues+(ay Task.cnt x.tasks))))
theorem Wld.cntT_le (x:Wld):x.cntT<=11*vp x:=by
 unfold Wld.cntT;have h0:=aO Doc.cnt_le x.h.docs;have h1:=aO Sub.cnt_le x.h.subs;have h2:=aO Queue.cnt_le x.queues;have h3:=aO Task.cnt_le x.tasks;simp only [vp,sH];omega
structure Rep where
 client:Int
 seq:Int
 rev:Int
 text:List Int
 has:Bool
 sent:List Part
 buf:List Part
def Rep.row (x:Rep):List CD:=[vi x.client,vi x.seq,vi x.rev,.s (x.text.map bb),.v (.bool x.has),.s (x.sent.map Part.row),.s (x.buf.map Part.row)]
def Rep.res (x:Rep):List (CD×Nat):=[(vi x.client,1),(vi x.seq,1),(vi x.rev,1),(.s (x.text.map bb),1),(.v (.bool x.has),1),(.s (x.sent.map Part.row),3),(.s (x.buf.map Part.row),3)]
@[simp] theorem Rep.row_len {x:Rep}:x.row.length=7:=rfl
def vr (x:Rep):Nat:=x.text.length+(nL aL x.sent+(nL aL x.buf))
noncomputable def Rep.mark (x:Rep) (k:Int):Rep:=⟨k,k+1,k+1+1,aw dK one x.text (k+1+1+1),vu (k+1+1+1+(x.text.length:Nat)),aw Part.mark Part.cnt x.sent (k+1+1+1+(x.text.length:Nat)+1),aw Part.mark Part.cnt x.buf (k+1+1+1+(x.text.length:Nat)+1+(ay Part.cnt x.sent:Nat))⟩
def Rep.cnt (x:Rep):Nat:=4+(x.text.length+(ay Part.cnt x.sent+(ay Part.cnt x.buf)))
theorem Rep.cnt_le (x:Rep):x.cnt<=11*(1+vr x):=by
 unfold Rep.cnt;have h0:=aO Part.cnt_le x.sent;have h1:=aO Part.cnt_le x.buf;simp only [vr];omega
noncomputable def Rep.markT (x:Rep) (k:Int):Rep:=⟨x.client,x.seq,x.rev,aw dK one x.text (k),x.has,aw Part.mark Part.cnt x.sent (k+(x.text.length:Nat)),aw Part.mark Part.cnt x.buf (k+(x.text.length:Nat)+(ay Part.cnt x.sent:Nat))⟩
def Rep.cntT (x:Rep):Nat:=x.text.length+(ay Part.cnt x.sent+(ay Part.cnt x.buf))
theorem Rep.cntT_le (x:Rep):x.cntT<=11*vr x:=by
 unfold Rep.cntT;have h0:=aO Part.cnt_le x.sent;have h1:=aO Part.cnt_le x.buf;simp only [vr];omega
structure Net where
 d:Doc
 reps:List Rep
def Net.row (x:Net):List CD:=[.v (.string x.d.name),vi x.d.fr,.s (x.d.text.map bb),.s (x.d.list.map Entry.row),.s (x.d.seen.map Seen.row),.s (x.reps.map Rep.row)]
def Net.res (x:Net):List (CD×Nat):=[(.v (.string x.d.name),1),(vi x.d.fr,1),(.s (x.d.text.map bb),1),(.s (x.d.list.map Entry.row),3),(.s (x.d.seen.map Seen.row),3),(.s (x.reps.map Rep.row),7)]
@[simp] theorem Net.row_len {x:Net}:x.row.length=6:=rfl
def xG (x:Net):Nat:=oX x.d+(nL vr x.reps)
noncomputable def Net.markT (x:Net) (k:Int):Net:=⟨⟨x.d.name,x.d.fr,aw dK one x.d.text (k),aw Entry.mark Entry.cnt x.d.list (k+(x.d.text.length:Nat)),aw Seen.mark Seen.cnt x.d.seen (k+(x.d.text.length:Nat)+(ay Entry.cnt x.d.list:Nat))⟩,aw Rep.mark Rep.cnt x.reps (k+(x.d.text.length:Nat)+(ay Entry.cnt x.d.list:Nat)+(ay Seen.cnt x.d.seen:Nat))⟩
def Net.cntT (x:Net):Nat:=x.d.text.length+(ay Entry.cnt x.d.list+(ay Seen.cnt x.d.seen+(ay Rep.cnt x.reps)))
theorem Net.cntT_le (x:Net):x.cntT<=11*xG x:=by
 unfold Net.cntT;have h0:=aO Entry.cnt_le x.d.list;have h1:=fT (λa=>by have:=Seen.cnt_le a;omega) x.d.seen;have h2:=aO Rep.cnt_le x.reps;simp only [xG,oX];omega
structure Event where
 kind:Int
 who:Int
 n:Int
 o:List Part
def Event.row (x:Event):List CD:=[vi x.kind,vi x.who,vi x.n,.s (x.o.map Part.row)]
def Event.res (x:Event):List (CD×Nat):=[(vi x.kind,1),(vi x.who,1),(vi x.n,1),(.s (x.o.map Part.row),3)]
@[simp] theorem Event.row_len {x:Event}:x.row.length=4:=rfl
def nr (x:Event):Nat:=nL aL x.o
noncomputable def Event.mark (x:Event) (k:Int):Event:=⟨k,k+1,k+1+1,aw Part.mark Part.cnt x.o (k+1+1+1)⟩
def Event.cnt (x:Event):Nat:=3+(ay Part.cnt x.o)
theorem Event.cnt_le (x:Event):x.cnt<=11*(1+nr x):=by
 unfold Event.cnt;have h0:=aO Part.cnt_le x.o;simp only [nr];omega
noncomputable def Event.markT (x:Event) (k:Int):Event:=⟨x.kind,x.who,x.n,aw Part.mark Part.cnt x.o (k)⟩
def Event.cntT (x:Event):Nat:=ay Part.cnt x.o
theorem Event.cntT_le (x:Event):x.cntT<=11*nr x:=by
 unfold Event.cntT;have h0:=aO Part.cnt_le x.o;simp only [nr];omega
structure Desk where
 h:Hub
 n:Net
def Desk.row (x:Desk):List CD:=[.v (.bool x.h.shut),.s (x.h.docs.map Doc.row),.s (x.h.subs.map Sub.row),vi x.h.last,.v (.string x.n.d.name),vi x.n.d.fr,.s (x.n.d.text.map bb),.s (x.n.d.list.map Entry.row),.s (x.n.d.seen.map Seen.row),.s (x.n.reps.map Rep.row)]
def Desk.res (x:Desk):List (CD×Nat):=[(.v (.bool x.h.shut),1),(.s (x.h.docs.map Doc.row),5),(.s (x.h.subs.map Sub.row),6),(vi x.h.last,1),(.v (.string x.n.d.name),1),(vi x.n.d.fr,1),(.s (x.n.d.text.map bb),1),(.s (x.n.d.list.map Entry.row),3),(.s (x.n.d.seen.map Seen.row),3),(.s (x.n.reps.map Rep.row),7)]
@[simp] theorem Desk.row_len {x:Desk}:x.row.length=10:=rfl
def yX (x:Desk):Nat:=sH x.h+(xG x.n)
noncomputable def Desk.markT (x:Desk) (k:Int):Desk:=⟨⟨x.h.shut,aw Doc.mark Doc.cnt x.h.docs (k),aw Sub.mark Sub.cnt x.h.subs (k+(ay Doc.cnt x.h.docs:Nat)),x.h.last⟩,⟨⟨x.n.d.name,x.n.d.fr,aw dK one x.n.d.text (k+(ay Doc.cnt x.h.docs:Nat)+(ay Sub.cnt x.h.subs:Nat)),aw Entry.mark Entry.cnt x.n.d.list (k+(ay Doc.cnt x.h.docs:Nat)+(ay Sub.cnt x.h.subs:Nat)+(x.n.d.text.length:Nat)),aw Seen.mark Seen.cnt x.n.d.seen (k+(ay Doc.cnt x.h.docs:Nat)+(ay Sub.cnt x.h.subs:Nat)+(x.n.d.text.length:Nat)+(ay Entry.cnt x.n.d.list:Nat))⟩,aw Rep.mark Rep.cnt x.n.reps (k+(ay Doc.cnt x.h.docs:Nat)+(ay Sub.cnt x.h.subs:Nat)+(x.n.d.text.length:Nat)+(ay Entry.cnt x.n.d.list:Nat)+(ay Seen.cnt x.n.d.seen:Nat))⟩⟩
def Desk.cntT (x:Desk):Nat:=ay Doc.cnt x.h.docs+(ay Sub.cnt x.h.subs+(x.n.d.text.length+(ay Entry.cnt x.n.d.list+(ay Seen.cnt x.n.d.seen+(ay Rep.cnt x.n.reps)))))
theorem Desk.cntT_le (x:Desk):x.cntT<=11*yX x:=by
 unfold Desk.cntT;have h0:=aO Doc.cnt_le x.h.docs;have h1:=aO Sub.cnt_le x.h.subs;have h2:=aO Entry.cnt_le x.n.d.list;have h3:=fT (λa=>by have:=Seen.cnt_le a;omega) x.n.d.seen;have h4:=aO Rep.cnt_le x.n.reps;simp only [yX,sH,xG,oX];omega
theorem mix:Tryz.prog.follows .mixedOrders=true:=by kernel_rfl
theorem pD (a b:List Int) (hl:a.length<=2 ^ 40):az Tryz.prog 51 [.c (.s (a.map bb)),.c (.s (b.map bb))] (.one (.c (vb (a=b)) 1)):=by
 refine az.intro' aq Tryz.func51 (by kernel_rfl) rfl rfl rfl (Nat.le_of_ble_eq_true rfl) (λw0 base=>?_);by_cases h:a.length=b.length
 ·simp [h]
  refine aV.intro eok (λi:Nat=>i<=a.length/\a.take i=b.take i) (λi=>⟨26,0,[(5,.v (.int .i64 i)),(1,.ro (b.map bb)),(0,.ro (a.map bb))],[]⟩) (λi=>a.length - i) 0 (by simp) (by simp) (λi hi=>?_);by_cases hlt:i<a.length
  ·simp [hlt]
   have hlt':i<b.length:=by omega
   refine aX.quiet eok mix (by kernel_rfl) ?_;simp [hlt,hlt'];refine Br.mk (λh1=>?_) (λh1=>?_)
   ·simp
    exact ⟨i+1,⟨by omega,dR hlt hlt' hi.2 (eZ h1)⟩,by omega,aB (by omega)⟩
   ·simp [bT]
    exact jb hlt hlt' (λhe=>gT h1 (by rw [he]))
  ·simp [hlt,ex]
   exact eD (by omega) (by omega) hi.2
 ·have hz:¬ (a.length:Int)=b.length:=by omega
  simp [hz,bT];exact λh2=>absurd (by rw [h2]) h
theorem kC (l:List Int) (k:Int) (h0:0<=k) (hk:k+l.length<=4611686018427387904):gn Tryz.prog 66 (.c (.s (l.map bb)) 1) k (k+l.length) (.c (.s ((aw dK one l k).map bb)) 1):=by
 refine gn.intro aq Tryz.func66 (by kernel_rfl) rfl rfl rfl (by decide) (λw0 base=>?_);simp;intro H;refine aK eok (λi:Nat=>i<=l.length) (λi=>⟨19,0,[(5,.v (.int .i64 i)),(1,.v (.int .i64 (k+i))),(0,.ml 0 H 1 l.length)],[(0,.rows H 1 (cL dK one bb l k i) true)]⟩) (λi=>l.length - i) 0 (by simp) (by simp [o5]) (λi hi=>Ent.refl ?_);by_cases h:i<l.length
 ·simp [h,dy]
  refine Ent.refl ⟨i+1,by omega,by omega,?_⟩;have e1:Go.IntKind.i64.wrap (k+(i:Int)+1)=k+((i+1:Nat):Int):=by rw [Go.IntWalk.i64_in _ (by omega)];omega
  have e2:Go.IntKind.i64.wrap ((i:Int)+1)=((i+1:Nat):Int):=aB (by omega);simp [e1,e2];refine kz h ?_;simp [bb,kZ];omega
 ·have:i=l.length:=by omega
  subst this;simp [kA,aJ]
theorem kQ (l:List Int) (k:Int) (h0:0<=k) (hk:k+l.length<=4611686018427387904):az Tryz.prog 67 [.c (.s ((aw dK one l k).map bb)),.c (vi k)] (.one (.c (vi (k+l.length)) 1)):=by
 refine az.intro' aq Tryz.func67 (by kernel_rfl) rfl rfl rfl (Nat.le_of_ble_eq_true rfl) (λw0 base=>?_);simp;refine aV.intro eok (λi:Nat=>i<=l.length) (λi=>⟨21,0,[(5,.v (.int .i64 i)),(1,.v (.int .i64 (k+i))),(0,.ro ((aw dK one l k).map bb))],[]⟩) (λi=>l.length - i) 0 (by simp) (by simp) (λi hi=>?_);by_cases h:i<l.length
 ·have e1:Go.IntKind.i64.wrap (k+(i:Int)+1)=k+((i+1:Nat):Int):=by rw [Go.IntWalk.i64_in _ (by omega)];omega
  have e2:Go.IntKind.i64.wrap ((i:Int)+1)=((i+1:Nat):Int):=aB (by omega)
  have hm:(aw dK one l k)[i]'(by rw [aJ];exact h)=k+i:=by
   rw [kB h,kZ,List.length_take,Nat.min_eq_left (by omega)]
  simp [h,aJ,hm];refine ⟨i+1,by omega,by omega,?_,?_⟩
  ·exact e2
  ·exact e1
 ·have:i=l.length:=by omega
  subst this;simp [aJ]
end Go.Proofs.YthckkpphnmmfdaaGreatDoor
