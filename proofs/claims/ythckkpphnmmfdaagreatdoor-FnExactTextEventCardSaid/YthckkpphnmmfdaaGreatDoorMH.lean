import Derived.Test.YthckkpphnmmfdaaGreatDoorMG
import Derived.Test.YthckkpphnmmfdaaGreatDoorRows
import Derived.Test.YthckkpphnmmfdaaGreatDoorME
import Derived.IntWalk
import Derived.ProofKit
import Derived.Deep.Slices
import Derived.Test.YthckkpphnmmfdaaGreatDoorMF
namespace Go.Proofs.YthckkpphnmmfdaaGreatDoor
open Go.AM
def ti2:TI:={ n:=1,zero:=[.v (.int .i64 0)],bytes:=8,kind:=some .i64 }
def ti3:TI:={ n:=1,zero:=[.v (.int .i64 0)],bytes:=8,kind:=some .i64 }
def ti4:TI:={ n:=1,zero:=[.v (.bool false)],bytes:=1,boo:=true }
def ti5:TI:={ n:=1,zero:=[.v (.int .u8 0)],bytes:=1,kind:=some .u8 }
def ti6:TI:={ n:=1,zero:=[.v (.int .u8 0)],bytes:=1,kind:=some .u8 }
def ti7:TI:={ agg:=true,n:=4,zero:=[.v (.int .i64 0),.v (.int .i64 0),.v (.bool false),.v (.int .u8 0)],fields:=[(0,1),(1,1),(2,1),(3,1)],fagg:=[false,false,false,false],bytes:=24,pln:=true }
def ti8:TI:={ agg:=true,n:=4,zero:=[.v (.int .i64 0),.v (.int .i64 0),.v (.bool false),.v (.int .u8 0)],fields:=[(0,1),(1,1),(2,1),(3,1)],fagg:=[false,false,false,false],bytes:=24,pln:=true }
def ti9:TI:={ n:=1,zero:=[.v (.string ⟨#[]⟩)],bytes:=16,str:=true }
def ze:TI:={ n:=1,zero:=[.v (.string ⟨#[]⟩)],bytes:=16,str:=true }
def zd:TI:={ n:=1,zero:=[.v (.string ⟨#[]⟩)],bytes:=16,str:=true }
def zc:TI:={ n:=1,zero:=[.v (.int .u64 0)],bytes:=8,kind:=some .u64 }
def zb:TI:={ agg:=true,n:=2,zero:=[.v (.string ⟨#[]⟩),.v (.int .u64 0)],fields:=[(0,1),(1,1)],fagg:=[false,false],bytes:=24,pln:=true }
def za:TI:={ agg:=true,n:=2,zero:=[.v (.string ⟨#[]⟩),.v (.int .u64 0)],fields:=[(0,1),(1,1)],fagg:=[false,false],bytes:=24,pln:=true }
def y9:TI:={ n:=1,zero:=[.v (.int .i32 0)],bytes:=4,kind:=some .i32 }
def y8:TI:={ n:=1,zero:=[.nil],sl:=some 102,bytes:=24,pln:=false }
def y7:TI:={ n:=1,zero:=[.nil],sl:=some 3,bytes:=24,pln:=false }
def y6:TI:={ agg:=true,n:=7,zero:=[.v (.int .i64 0),.v (.string ⟨#[]⟩),.v (.int .i64 0),.v (.int .i64 0),.v (.int .i64 0),.nil,.nil],fields:=[(0,1),(1,1),(2,1),(3,1),(4,1),(5,1),(6,1)],fagg:=[false,false,false,false,false,false,false],bytes:=96,pln:=false }
def y5:TI:={ agg:=true,n:=7,zero:=[.v (.int .i64 0),.v (.string ⟨#[]⟩),.v (.int .i64 0),.v (.int .i64 0),.v (.int .i64 0),.nil,.nil],fields:=[(0,1),(1,1),(2,1),(3,1),(4,1),(5,1),(6,1)],fagg:=[false,false,false,false,false,false,false],bytes:=96,pln:=false }
def y4:TI:={ n:=1,zero:=[.nil],sl:=some 105,bytes:=24,pln:=false }
def y3:TI:={ agg:=true,n:=7,zero:=[.v (.int .i64 0),.v (.string ⟨#[]⟩),.v (.int .i64 0),.v (.int .i64 0),.v (.int .i64 0),.nil,.nil],fields:=[(0,1),(1,1),(2,1),(3,1),(4,1),(5,1),(6,1)],fagg:=[false,false,false,false,false,false,false],bytes:=96,pln:=false }
def yZ:TI:={ agg:=true,n:=7,zero:=[.v (.int .i64 0),.v (.string ⟨#[]⟩),.v (.int .i64 0),.v (.int .i64 0),.v (.int .i64 0),.nil,.nil],fields:=[(0,1),(1,1),(2,1),(3,1),(4,1),(5,1),(6,1)],fagg:=[false,false,false,false,false,false,false],bytes:=96,pln:=false }
def yY:TI:={ agg:=true,n:=4,zero:=[.v (.int .i64 0),.v (.int .i64 0),.v (.int .i64 0),.nil],fields:=[(0,1),(1,1),(2,1),(3,1)],fagg:=[false,false,false,false],bytes:=48,pln:=false }
def yX:TI:={ agg:=true,n:=4,zero:=[.v (.int .i64 0),.v (.int .i64 0),.v (.int .i64 0),.nil],fields:=[(0,1),(1,1),(2,1),(3,1)],fagg:=[false,false,false,false],bytes:=48,pln:=false }
def yW:TI:={ n:=1,zero:=[.nil],sl:=some 5,bytes:=24,pln:=false }
def yV:TI:={ n:=1,zero:=[.nil],sl:=some 55,bytes:=24,pln:=false }
def yU:TI:={ n:=1,zero:=[.nil],sl:=some 198,bytes:=24,pln:=false }
def yT:TI:={ agg:=true,n:=4,zero:=[.v (.bool false),.nil,.nil,.v (.int .i64 0)],fields:=[(0,1),(1,1),(2,1),(3,1)],fagg:=[false,false,false,false],bytes:=64,pln:=false }
def yS:TI:={ agg:=true,n:=4,zero:=[.v (.bool false),.nil,.nil,.v (.int .i64 0)],fields:=[(0,1),(1,1),(2,1),(3,1)],fagg:=[false,false,false,false],bytes:=64,pln:=false }
def yR:TI:={ n:=1,zero:=[.nil],sl:=some 30,bytes:=24,pln:=false }
def yQ:TI:={ n:=1,zero:=[.nil],sl:=some 214,bytes:=24,pln:=false }
def yP:TI:={ n:=1,zero:=[.nil],sl:=some 155,bytes:=24,pln:=false }
def yO:TI:={ agg:=true,n:=5,zero:=[.v (.string ⟨#[]⟩),.v (.int .i64 0),.nil,.nil,.nil],fields:=[(0,1),(1,1),(2,1),(3,1),(4,1)],fagg:=[false,false,false,false,false],bytes:=96,pln:=false }
def yN:TI:={ agg:=true,n:=5,zero:=[.v (.string ⟨#[]⟩),.v (.int .i64 0),.nil,.nil,.nil],fields:=[(0,1),(1,1),(2,1),(3,1),(4,1)],fagg:=[false,false,false,false,false],bytes:=96,pln:=false }
def yM:TI:={ n:=1,zero:=[.nil],sl:=some 129,bytes:=24,pln:=false }
def yL:TI:={ agg:=true,n:=6,zero:=[.v (.string ⟨#[]⟩),.v (.int .i64 0),.nil,.nil,.nil,.nil],fields:=[(0,5),(5,1)],fagg:=[true,false],bytes:=120,pln:=false }
def yK:TI:={ agg:=true,n:=6,zero:=[.v (.string ⟨#[]⟩),.v (.int .i64 0),.nil,.nil,.nil,.nil],fields:=[(0,5),(5,1)],fagg:=[true,false],bytes:=120,pln:=false }
def yJ:TI:={ n:=1,zero:=[.nil],sl:=some 9,bytes:=24,pln:=false }
def yI:TI:={ agg:=true,n:=3,zero:=[.nil,.v (.int .i64 0),.v (.int .i64 0)],fields:=[(0,1),(1,1),(2,1)],fagg:=[false,false,false],bytes:=40,pln:=false }
def yH:TI:={ agg:=true,n:=3,zero:=[.nil,.v (.int .i64 0),.v (.int .i64 0)],fields:=[(0,1),(1,1),(2,1)],fagg:=[false,false,false],bytes:=40,pln:=false }
def tD:TI:={ agg:=true,n:=3,zero:=[.v (.int .i64 0),.v (.int .i64 0),.nil],fields:=[(0,1),(1,1),(2,1)],fagg:=[false,false,false],bytes:=40,pln:=false }
def tC:TI:={ agg:=true,n:=3,zero:=[.v (.int .i64 0),.v (.int .i64 0),.nil],fields:=[(0,1),(1,1),(2,1)],fagg:=[false,false,false],bytes:=40,pln:=false }
def tB:TI:={ agg:=true,n:=3,zero:=[.v (.int .i64 0),.v (.int .i64 0),.nil],fields:=[(0,1),(1,1),(2,1)],fagg:=[false,false,false],bytes:=40,pln:=false }
def tA:TI:={ agg:=true,n:=4,zero:=[.v (.int .i64 0),.v (.int .i64 0),.nil,.nil],fields:=[(0,1),(1,1),(2,1),(3,1)],fagg:=[false,false,false,false],bytes:=64,pln:=false }
def tx:TI:={ agg:=true,n:=4,zero:=[.v (.int .i64 0),.v (.int .i64 0),.nil,.nil],fields:=[(0,1),(1,1),(2,1),(3,1)],fagg:=[false,false,false,false],bytes:=64,pln:=false }
def tw:TI:={ agg:=true,n:=7,zero:=[.v (.int .i64 0),.v (.int .i64 0),.v (.int .i64 0),.nil,.v (.bool false),.nil,.nil],fields:=[(0,1),(1,1),(2,1),(3,1),(4,1),(5,1),(6,1)],fagg:=[false,false,false,false,false,false,false],bytes:=104,pln:=false }
def tv:TI:={ agg:=true,n:=7,zero:=[.v (.int .i64 0),.v (.int .i64 0),.v (.int .i64 0),.nil,.v (.bool false),.nil,.nil],fields:=[(0,1),(1,1),(2,1),(3,1),(4,1),(5,1),(6,1)],fagg:=[false,false,false,false,false,false,false],bytes:=104,pln:=false }
def tu:TI:={ agg:=true,n:=3,zero:=[.v (.int .i64 0),.v (.int .i64 0),.v (.int .i64 0)],fields:=[(0,1),(1,1),(2,1)],fagg:=[false,false,false],bytes:=24,pln:=true,ieq:=true }
def tq:TI:={ agg:=true,n:=3,zero:=[.v (.int .i64 0),.v (.int .i64 0),.v (.int .i64 0)],fields:=[(0,1),(1,1),(2,1)],fagg:=[false,false,false],bytes:=24,pln:=true,ieq:=true }
def tp:TI:={ agg:=true,n:=3,zero:=[.nil,.nil,.v (.int .i64 0)],fields:=[(0,1),(1,1),(2,1)],fagg:=[false,false,false],bytes:=56,pln:=false }
def to:TI:={ agg:=true,n:=3,zero:=[.nil,.nil,.v (.int .i64 0)],fields:=[(0,1),(1,1),(2,1)],fagg:=[false,false,false],bytes:=56,pln:=false }
def tl:TI:={ agg:=true,n:=4,zero:=[.v (.int .i64 0),.v (.int .i64 0),.v (.bool false),.nil],fields:=[(0,1),(1,1),(2,1),(3,1)],fagg:=[false,false,false,false],bytes:=48,pln:=false }
def tk:TI:={ agg:=true,n:=4,zero:=[.v (.int .i64 0),.v (.int .i64 0),.v (.bool false),.nil],fields:=[(0,1),(1,1),(2,1),(3,1)],fagg:=[false,false,false,false],bytes:=48,pln:=false }
def tj:TI:={ agg:=true,n:=6,zero:=[.v (.int .i64 0),.v (.string ⟨#[]⟩),.v (.int .i64 0),.v (.int .i64 0),.v (.bool false),.nil],fields:=[(0,1),(1,1),(2,4)],fagg:=[false,false,true],bytes:=72,pln:=false }
def th:TI:={ agg:=true,n:=6,zero:=[.v (.int .i64 0),.v (.string ⟨#[]⟩),.v (.int .i64 0),.v (.int .i64 0),.v (.bool false),.nil],fields:=[(0,1),(1,1),(2,4)],fagg:=[false,false,true],bytes:=72,pln:=false }
def tg:TI:={ n:=1,zero:=[.v (.int .u64 0)],bytes:=8,kind:=some .u64 }
def tf:TI:={ agg:=true,n:=3,zero:=[.v (.int .i64 0),.v (.int .i64 0),.nil],fields:=[(0,1),(1,1),(2,1)],fagg:=[false,false,false],bytes:=40,pln:=false }
def td:TI:={ agg:=true,n:=3,zero:=[.v (.int .i64 0),.v (.int .i64 0),.nil],fields:=[(0,1),(1,1),(2,1)],fagg:=[false,false,false],bytes:=40,pln:=false }
def tc:TI:={ n:=1,zero:=[.v (.int .u64 0)],bytes:=8,kind:=some .u64 }
def ta:TI:={ n:=1,zero:=[.v (.int .i64 0)],bytes:=8,kind:=some .i64 }
def s9:TI:={ agg:=true,n:=3,zero:=[.nil,.v (.int .i64 0),.v (.int .i64 0)],fields:=[(0,1),(1,1),(2,1)],fagg:=[false,false,false],bytes:=40,pln:=false }
def s8:TI:={ agg:=true,n:=3,zero:=[.nil,.v (.int .i64 0),.v (.int .i64 0)],fields:=[(0,1),(1,1),(2,1)],fagg:=[false,false,false],bytes:=40,pln:=false }
def s7:TI:={ n:=1,zero:=[.v (.int .u32 0)],bytes:=4,kind:=some .u32 }
def s6:TI:={ agg:=true,n:=2,zero:=[.v (.int .u8 0),.v (.int .u8 0)],fields:=[(0,1),(1,1)],fagg:=[false,false],bytes:=2,pln:=true }
def s5:TI:={ agg:=true,n:=2,zero:=[.v (.int .u8 0),.v (.int .u8 0)],fields:=[(0,1),(1,1)],fagg:=[false,false],bytes:=2,pln:=true }
def s4:TI:={ n:=1,zero:=[.nil],sl:=some 28,bytes:=24,pln:=false }
def s3:TI:={ agg:=true,n:=1,zero:=[.v (.string ⟨#[]⟩)],fields:=[(0,1)],fagg:=[false],bytes:=16,pln:=true }
def s1:TI:={ agg:=true,n:=1,zero:=[.v (.string ⟨#[]⟩)],fields:=[(0,1)],fagg:=[false],bytes:=16,pln:=true }
def s0:TI:={ n:=1,zero:=[.v (.int .u8 0)],bytes:=1,kind:=some .u8 }
def sZ:TI:={ n:=1,zero:=[.v (.int .u8 0)],bytes:=1,kind:=some .u8 }
def sY:TI:={ n:=1,zero:=[.v (.int .i32 0)],bytes:=4,kind:=some .i32 }
def sX:TI:={ n:=1,zero:=[.v (.int .i32 0)],bytes:=4,kind:=some .i32 }
def BJ:List (Nat×TI):=[(2,ti2),(3,ti3),(4,ti4),(5,ti5),(6,ti6),(7,ti7),(8,ti8),(9,ti9),(10,ze),(11,zd),(12,zc),(13,zb),(14,za),(21,y9),(22,y8),(23,y7),(24,y6),(25,y5),(28,y4),(29,y3),(30,yZ),(34,yY),(35,yX),(44,yW),(45,yV),(46,yU),(47,yT),(48,yS),(50,yR),(52,yQ),(53,yP),(54,yO),(55,yN),(56,yM),(57,yL),(58,yK),(72,yJ),(95,yI),(96,yH),(101,tD),(102,tC),(105,tB),(119,tA),(120,tx),(128,tw),(129,tv),(154,tu),(155,tq),(176,tp),(177,to),(195,tl),(196,tk),(197,tj),(198,th),(203,tg),(213,tf),(214,td),(231,tc),(238,ta),(252,s9),(253,s8),(264,s7),(268,s6),(269,s5),(278,s4),(289,s3),(290,s1),(301,s0),(302,sZ),(304,sY),(305,sX)]
def tt:Nat->Option TI:=oe BJ
theorem ER:tt 2=some ti2:=rfl
theorem EQ:tt 3=some ti3:=rfl
theorem EP:tt 4=some ti4:=rfl
theorem EO:tt 5=some ti5:=rfl
theorem EN:tt 6=some ti6:=rfl
theorem EM:tt 7=some ti7:=rfl
theorem EL:tt 8=some ti8:=rfl
theorem EK:tt 9=some ti9:=rfl
theorem Ce:tt 10=some ze:=rfl
theorem Cd:tt 11=some zd:=rfl
theorem Cc:tt 12=some zc:=rfl
theorem Cb:tt 13=some zb:=rfl
theorem Ca:tt 14=some za:=rfl
theorem B9:tt 21=some y9:=rfl
theorem B8:tt 22=some y8:=rfl
theorem B7:tt 23=some y7:=rfl
theorem B6:tt 24=some y6:=rfl
theorem B5:tt 25=some y5:=rfl
theorem B4:tt 28=some y4:=rfl
theorem B3:tt 29=some y3:=rfl
theorem B2:tt 30=some yZ:=rfl
theorem B1:tt 34=some yY:=rfl
theorem B0:tt 35=some yX:=rfl
theorem BZ:tt 44=some yW:=rfl
theorem BY:tt 45=some yV:=rfl
theorem BX:tt 46=some yU:=rfl
theorem BW:tt 47=some yT:=rfl
theorem BV:tt 48=some yS:=rfl
theorem BU:tt 50=some yR:=rfl
theorem BT:tt 52=some yQ:=rfl
theorem BS:tt 53=some yP:=rfl
theorem BR:tt 54=some yO:=rfl
theorem BQ:tt 55=some yN:=rfl
theorem BP:tt 56=some yM:=rfl
theorem BO:tt 57=some yL:=rfl
theorem BN:tt 58=some yK:=rfl
theorem BM:tt 72=some yJ:=rfl
theorem BL:tt 95=some yI:=rfl
theorem BK:tt 96=some yH:=rfl
theorem yA:tt 101=some tD:=rfl
theorem yz:tt 102=some tC:=rfl
theorem yy:tt 105=some tB:=rfl
theorem yx:tt 119=some tA:=rfl
theorem yw:tt 120=some tx:=rfl
theorem yv:tt 128=some tw:=rfl
theorem yu:tt 129=some tv:=rfl
theorem yt:tt 154=some tu:=rfl
theorem yr:tt 155=some tq:=rfl
theorem yq:tt 176=some tp:=rfl
theorem yp:tt 177=some to:=rfl
theorem yo:tt 195=some tl:=rfl
theorem yn:tt 196=some tk:=rfl
theorem ym:tt 197=some tj:=rfl
theorem yl:tt 198=some th:=rfl
theorem yk:tt 203=some tg:=rfl
theorem yj:tt 213=some tf:=rfl
theorem yi:tt 214=some td:=rfl
theorem yh:tt 231=some tc:=rfl
theorem yg:tt 238=some ta:=rfl
theorem yf:tt 252=some s9:=rfl
theorem ye:tt 253=some s8:=rfl
theorem yd:tt 264=some s7:=rfl
theorem yc:tt 268=some s6:=rfl
theorem yb:tt 269=some s5:=rfl
theorem ya:tt 278=some s4:=rfl
theorem x9:tt 289=some s3:=rfl
theorem x8:tt 290=some s1:=rfl
theorem x7:tt 301=some s0:=rfl
theorem x6:tt 302=some sZ:=rfl
theorem x5:tt 304=some sY:=rfl
theorem x4:tt 305=some sX:=rfl
theorem vX:(BJ.all λp=>jq Tryz.prog p.1 p.2)=true:=by kernel_rfl
theorem aq:∀ t ti,tt t=some ti->TIok Tryz.prog t ti:=tG vX
theorem eok {w0:World} {F G:Nat->Prop} {l:Bool}:EOk ⟨Tryz.prog,tt,w0,⟨F,G,l,λ_=>True⟩⟩:=⟨aq,λ_ _=>trivial⟩
attribute [simp] ti2 ti3 ti4 ti5 ti6 ti7 ti8 ti9 ze zd zc zb za y9 y8 y7 y6 y5 y4 y3 yZ yY yX yW yV yU yT yS yR yQ yP yO yN yM yL yK yJ yI yH tD tC tB tA tx tw tv tu tq tp to tl tk tj th tg tf td tc ta s9 s8 s7 s6 s5 s4 s3 s1 s0 sZ sY sX ER EQ EP EO EN EM EL EK Ce Cd Cc Cb Ca B9 B8 B7 B6 B5 B4 B3 B2 B1 B0 BZ BY BX BW BV BU BT BS BR BQ BP BO BN BM BL BK yA yz yy yx yw yv yu yt yr yq yp yo yn ym yl yk yj yi yh yg yf ye yd yc yb ya x9 x8 x7 x6 x5 x4
end Go.Proofs.YthckkpphnmmfdaaGreatDoor
namespace Go.AM
abbrev vi (n:Int):CD:=.v (.int .i64 n)
noncomputable abbrev vb (p:Prop):CD:=.v (.bool (dc p))
abbrev aU (n:Int):List CD:=[vi n]
theorem oV {p q:Prop} (h:p ↔ q):dc p=dc q:=by rw [propext h]
theorem fx {α:Type} {a b:List α} {i:Nat} (h:i<a.length) (h':i<b.length) (ht:a.take i=b.take i) (he:a[i]=b[i]):a.take (i+1)=b.take (i+1):=by
 rw [<- List.take_append_getElem h,<- List.take_append_getElem h',ht,he]
theorem gj {α:Type} {a b:List α} {i:Nat} (h:a.length<=i) (hl:a.length=b.length) (ht:a.take i=b.take i):a=b:=by
 rwa [List.take_of_length_le h,List.take_of_length_le (by omega)] at ht
theorem lU {α:Type} {a b:List α} {i:Nat} (h:i<a.length) (h':i<b.length) (he:a[i]≠b[i]):a≠b:=by
 rintro rfl;exact he rfl
theorem qV {n:Nat} (h:n<=9223372036854775807):Go.IntKind.i64.wrap (n:Int)=n:=Go.IntWalk.i64_in _ (by omega)
theorem au {n:Nat} (h:n<9223372036854775807):Go.IntKind.i64.wrap ((n:Int)+1)=((n+1:Nat):Int):=by rw [Go.IntWalk.i64_in _ (by omega)];omega
@[simp] theorem ET {a b:Nat}:((a:Int)+(b:Int)).toNat=a+b:=by omega
@[simp] theorem ES {a n : Nat} : ((a : Int) + (OfNat.ofNat n : Int)).toNat = a + n := by
  show ((a:Int)+((n:Nat):Int)).toNat=a+n
  omega
@[simp] theorem E9 {a b:Nat}:(0:Int)<=(a:Int)+(b:Int):=by omega
@[simp] theorem E8 {a n : Nat} : (0 : Int) <= (a : Int) + (OfNat.ofNat n : Int) := by
  show (0:Int)<=(a:Int)+((n:Nat):Int)
  omega
@[simp] theorem Eq {α:Type} {f:α->List CD} {l:List α}:cut (l.map f) 0 l.length=l.map f:=q7 (by simp)
attribute [simp] q7
@[simp] theorem Ep {n:Nat}:((n:Int)<0)=False:=by simp
open Go.RowKit Go.WideShapes Go.ChangeShapes
def kw (P:Program):Nat->List Field->Option Nat
 |o,[]=>some o
 |o,f::fs=>if f.offset=o then kw P (o+P.cellsOf f.type) fs else none
def okT (P:Program):Nat->TypeId->Bool
 |0,_=>false
 | D + 1, t => match P.underlying t with
   |some .bool=>true
   |some (.int _)=>true
   |some .string=>true
   |some (.slice e)=>decide (0<P.cellsOf e) && okT P D e
   |some (.struct fs)=>(kw P 0 fs.toList == some (P.cellsOf t)) && fs.toList.all λf=>okT P D f.type
   |_=>false
def eW (P:Program):Nat->TypeId->List CD->Prop
 |0,_,_=>False
 | D + 1, t, ds => match P.underlying t with
   |some .bool=>∃ b,ds=[.v (.bool b)]
   |some (.int k)=>∃ n,ds=[.v (.int k n)]/\(Lit.int k n).wf=true
   |some .string=>∃ s:ByteArray,ds=[.v (.string s)]/\s.size<=maxLen
   |some (.slice e)=>∃ rows,ds=[.s rows]/\rows.length<=maxLen/\∀ row∈rows,row.length=P.cellsOf e/\eW P D e row
   |some (.struct fs)=>ds.length=P.cellsOf t/\∀ f∈fs.toList,eW P D f.type ((ds.drop f.offset).take (P.cellsOf f.type))
   |_=>False
def eq (w:World) (cs:List Value) (ds:List CD):Prop:=ds.length=cs.length/\∀ (j:Nat) (u:Value) (d:CD),cs[j]? = some u->ds[j]? = some d->Rd w false (λ_=>True) u d
theorem eq.one {w:World} {u:Value} {d:CD} (h:Rd w false (λ_=>True) u d):eq w [u] [d]:=by
 refine ⟨rfl,λj u' d' hu hd=>?_⟩
 cases j with
 |zero=>simp at hu hd;subst hu;subst hd;exact h
 |succ j=>simp at hu
theorem gq {P:Program} {w:World} {D:Nat} {cs:List Value}:∀ (fs:List Field) (o m:Nat),kw P o fs=some m -> m <= cs.length ->
 (∀ f ∈ fs,∃ ds,eq w ((cs.drop f.offset).take (P.cellsOf f.type)) ds /\ eW P D f.type ds) ->
 ∃ ds,o<=m/\eq w ((cs.drop o).take (m - o)) ds/\∀ f∈fs,o<=f.offset/\eW P D f.type ((ds.drop (f.offset - o)).take (P.cellsOf f.type))
 | [], o, m, hc, _, _ => by
   simp only [kw,Option.some.injEq] at hc;subst hc;exact ⟨[],Nat.le_refl _,by simp [eq],by simp⟩
 | f :: fs, o, m, hc, hm, hx => by
   simp only [kw] at hc
   split at hc
   ·rename_i ho
    obtain ⟨ds,h1,h2,h3⟩:=gq fs _ m hc hm (λg hg=>hx g (List.mem_cons_of_mem _ hg));obtain ⟨d1,h4,h5⟩:=hx f (List.mem_cons_self ..);have hl:d1.length=P.cellsOf f.type:=by rw [h4.1];simp;omega
    refine ⟨d1++ds,by omega,⟨?_,λj u d hu hd=>?_⟩,λg hg=>?_⟩
    ·have:=h2.1
     simp at this ⊢;omega
    ·by_cases hj:j<P.cellsOf f.type
     ·rw [List.getElem?_append_left (by omega)] at hd
      refine h4.2 j u d ?_ hd;rw [List.getElem?_take,if_pos hj,ho];rw [List.getElem?_take] at hu
      split at hu
      ·exact hu
      ·simp at hu
     ·rw [List.getElem?_append_right (by omega),hl] at hd
      refine h2.2 _ u d ?_ hd;rw [List.getElem?_take] at hu ⊢
      split at hu
      ·rw [if_pos (by omega)]
       rw [List.getElem?_drop] at hu ⊢;rw [<- hu]
       congr 1
       omega
      ·simp at hu
    ·rcases List.mem_cons.1 hg with rfl|hg
     ·refine ⟨by omega,?_⟩
      rw [ho,Nat.sub_self,List.drop_zero,List.take_append_of_le_length (by omega),List.take_of_length_le (by omega)];exact h5
     ·obtain ⟨h6,h7⟩:=h3 g hg
      refine ⟨by omega,?_⟩
      have:(d1++ds).drop (g.offset - o)=ds.drop (g.offset - (o+P.cellsOf f.type)):=by
       rw [List.drop_append,List.drop_of_length_le (by omega),hl,List.nil_append]
       congr 1
       omega
      rw [this];exact h7
   ·simp at hc
theorem rz {H:Type} {enc:TypeId×Value->H} {P:Program} {w:World} {base:Nat} {spare:Nat->Bool} {held:Bool} :
 ∀ (D:Nat) (t:TypeId) (cs:List Value) (x:DataW H×List MemPlace) (fuel:Nat),okT P D t=true->DataW.trod enc P w base spare held fuel t cs=some x->∃ ds,eq w cs ds/\eW P D t ds:=by
 intro D
 induction D with
 |zero=>intro t cs x fuel h;simp [okT] at h
 | succ D ih =>
   intro t cs x fuel hok h;unfold okT at hok
   split at hok
   ·rename_i hu
    obtain ⟨b,rfl,-⟩:=DataW.trod_bool hu h;exact ⟨[.v (.bool b)],eq.one (.plain rfl),by simp [eW,hu]⟩
   ·rename_i k hu
    obtain ⟨n,rfl,-,hw⟩:=DataW.trod_int hu h;exact ⟨[.v (.int k n)],eq.one (.plain rfl),by simp [eW,hu,hw]⟩
   ·rename_i hu
    obtain ⟨s,rfl,-,hs⟩:=DataW.trod_string hu h;exact ⟨[.v (.string s)],eq.one (.plain rfl),by simp [eW,hu,hs]⟩
   ·rename_i e hu
    simp only [Bool.and_eq_true,decide_eq_true_eq] at hok;obtain ⟨hpos,hok⟩:=hok;rcases DataW.trod_slice hu h with ⟨rfl,-⟩|⟨a,len,cap,elems,rest,n,-,rfl,-,-,hlc,hcm,hel,hi,-⟩
    ·exact ⟨[.s []],eq.one (.empty _ _ (λh=>by simp at h)),by simp [eW,hu]⟩
    ·have each:∀ i,i<len->∃ p:List Value×List CD,w.cells? base (a.add (i*P.cellsOf e)) (P.cellsOf e)=some p.1/\eq w p.1 p.2/\eW P D e p.2:=by
      intro i hlt;have h1:=hi i hlt;rw [List.getElem?_eq_getElem (by omega)] at h1;obtain ⟨c,h2,h3⟩:=Option.bind_eq_some_iff.1 h1;obtain ⟨ds,h4,h5⟩:=ih e c _ n hok h3;exact ⟨(c,ds),h2,h4,h5⟩
     by_cases hl0:len=0
     ·subst hl0
      exact ⟨[.s []],eq.one (.empty _ _ (λh=>by simp at h)),by simp [eW,hu]⟩
     ·obtain ⟨f,hf⟩:=Go.Deep.choose_lt each
      have cell:∀ i j,i<len->j<P.cellsOf e->w.cell? (a.add (i*P.cellsOf e+j))=(f i).1[j]?/\(f i).1.length=P.cellsOf e:=by
       intro i j hlt hj;obtain ⟨-,h2,h3⟩:=World.cells?_some (hf i hlt).1;exact ⟨by rw [<- h3 j hj,Go.Deep.add_add],h2⟩
      obtain ⟨b,off,spot⟩:=a
      have hb:∃ cs T fr,w.heap[b]? = some (.cells cs T fr)/\spot=none:=by
       obtain ⟨h1,h2⟩:=cell 0 0 (by omega) hpos;rw [List.getElem?_eq_getElem (by omega)] at h1;unfold World.cell? at h1;rw [block_add] at h1
       split at h1
       ·rename_i c T fr hh
        refine ⟨c,T,fr,hh,?_⟩
        cases spot with
        |none=>rfl
        |some s=>simp [Addr.add] at h1
       ·simp at h1
      obtain ⟨c,T,fr,hb,rfl⟩:=hb
      have at':∀ i j,i<len->j<P.cellsOf e->c[off+(i*P.cellsOf e+j)]? = (f i).1[j]?:=by
       intro i j hlt hj;rw [<- (cell i j hlt hj).1,bd];simp [World.cell?,hb]
      have hrows:((List.range len).map λi=>(f i).2).length=len:=by simp
      have hrd:=Rd.slice (w:=w) (x:=false) (S:=λ_=>True) b off cap (P.cellsOf e) c T fr ((List.range len).map λi=>(f i).2) (λ_ _ _=>True)
       (by rw [hrows];exact hlc) hcm hpos trivial hb (by
        rw [hrows];obtain ⟨m,rfl⟩:∃ m,len=m+1:=⟨len - 1,by omega⟩;have h1:=at' m (P.cellsOf e - 1) (by omega) (by omega);rw [List.getElem?_eq_getElem (by rw [(cell m (P.cellsOf e - 1) (by omega) (by omega)).2];omega)] at h1;have h2:=(Array.getElem?_eq_some_iff.1 h1).1;rw [Nat.succ_mul];omega) (λh=>by simp at h) (λ_ _ _ _=>⟨trivial,λh=>by simp at h⟩) (λh=>by simp at h)
       (λrow hrow=>by
        simp only [List.mem_map,List.mem_range] at hrow;obtain ⟨i,hlt,rfl⟩:=hrow;rw [(hf i hlt).2.1.1];exact (cell i 0 hlt hpos).2)
       (λi j row d h1 h2=>by
        have hlt:i<len:=by have:=(List.getElem?_eq_some_iff.1 h1).1;omega
        simp only [List.getElem?_map,List.getElem?_range hlt,Option.map_some,Option.some.injEq] at h1;subst h1
        have hj:j<P.cellsOf e:=by
         have:=(List.getElem?_eq_some_iff.1 h2).1;rw [(hf i hlt).2.1.1,(cell i 0 hlt hpos).2] at this;exact this
        have h3:=at' i j hlt hj;rw [List.getElem?_eq_getElem (by rw [(cell i j hlt hj).2];exact hj)] at h3
        have h4:c.getD (off+(i*P.cellsOf e+j)) undef=(f i).1[j]'(by rw [(cell i j hlt hj).2];exact hj):=by
         rw [Array.getD_eq_getD_getElem?,h3];rfl
        rw [h4];exact (hf i hlt).2.1.2 j _ d (List.getElem?_eq_getElem _) h2)
      rw [hrows] at hrd;refine ⟨[.s ((List.range len).map λi=>(f i).2)],eq.one hrd,?_⟩;simp only [eW,hu];refine ⟨_,rfl,by rw [hrows];omega,λrow hrow=>?_⟩;simp only [List.mem_map,List.mem_range] at hrow;obtain ⟨i,hlt,rfl⟩:=hrow;exact ⟨by rw [(hf i hlt).2.1.1];exact (cell i 0 hlt hpos).2,(hf i hlt).2.2⟩
   ·rename_i fs hu
    simp only [Bool.and_eq_true,beq_iff_eq,List.all_eq_true] at hok;obtain ⟨hc,hall⟩:=hok;obtain ⟨xs,n,-,-,hcl,hxl,hi⟩:=DataW.trod_struct hu h
    obtain ⟨ds,-,h1,h2⟩:=gq (w:=w) (D:=D) (cs:=cs) fs.toList 0 _ hc (by omega) (λf hf=>by
     obtain ⟨i,hlt,rfl⟩:=List.getElem_of_mem hf;have hlt':i<fs.size:=by simpa using hlt
     have h3:=hi i fs[i] (by simp [hlt']);rw [List.getElem?_eq_getElem (by omega)] at h3;exact ih _ _ _ n (hall _ hf) h3)
    rw [List.drop_zero,Nat.sub_zero,List.take_of_length_le (by omega)] at h1;refine ⟨ds,h1,?_⟩;simp only [eW,hu];refine ⟨by rw [h1.1,hcl],λf hf=>?_⟩;have:=(h2 f hf).2
    rwa [Nat.sub_zero] at this
   ·simp at hok
def pg (P:Program) (D:Nat) (t:TypeId):VD->Prop
 | .c d=>eW P D t [d]
 | .agg ds=>(∃ fs,P.underlying t=some (.struct fs))/\eW P D t ds
theorem t6 {H:Type} {enc:TypeId×Value->H} {P:Program} {w:World} {base b0:Nat} {spare:Nat->Bool} {held:Bool} {r:Reach} {D:Nat} {t:TypeId} {v:Value} {d:DataW H} {ps:List MemPlace}
 (hok:okT P D t=true) (hval:Value.okWide P w r b0 t v) (h:DataW.Trod enc P w base spare held t v d ps):∃ vd,RdV w v vd/\pg P D t vd:=by
 obtain ⟨fuel,hf⟩:=h;obtain ⟨ds,hr,hfit⟩:=rz D t _ _ fuel hok hf
 have one:v.cells = #[v]->(∀ fs,P.underlying t≠some (.struct fs))->∃ vd,RdV w v vd/\pg P D t vd:=by
  intro hc _;rw [hc] at hr;obtain ⟨hl,hr⟩:=hr
  cases ds with
  |nil=>simp at hl
  | cons d ds =>
    cases ds with
    |nil=>exact ⟨.c d,hr 0 v d rfl rfl,hfit⟩
    |cons _ _=>simp at hl
 cases D with
 |zero=>simp [okT] at hok
 | succ D =>
   unfold okT at hok
   split at hok
   ·rename_i hu
    obtain ⟨b,rfl⟩:=okWide_bool hu hval;exact one rfl (λfs h=>by rw [hu] at h;simp at h)
   ·rename_i k hu
    obtain ⟨n,rfl⟩:=okWide_int hu hval;exact one rfl (λfs h=>by rw [hu] at h;simp at h)
   ·rename_i hu
    obtain ⟨s,rfl⟩:=okWide_string hu hval;exact one rfl (λfs h=>by rw [hu] at h;simp at h)
   ·rename_i e hu
    obtain ⟨a,l,c,rfl⟩:=okWide_slice hu hval;exact one rfl (λfs h=>by rw [hu] at h;simp at h)
   ·rename_i fs hu
    obtain ⟨cs,rfl,-⟩:=okWide_struct hu hval;obtain ⟨hl,hr⟩:=hr;refine ⟨.agg ds,⟨cs,rfl,by simpa [Value.cells] using hl.symm,λj d hd=>?_⟩,⟨fs,hu⟩,hfit⟩
    have hj:j<cs.size:=by
     have:=(List.getElem?_eq_some_iff.1 hd).1;simp [Value.cells] at hl;omega
    have:=hr j cs[j] d (by simp [Value.cells,hj]) hd
    simpa [hj] using this
   ·simp at hok
def er (P:Program) (D:Nat) (w:World):List TypeId->List Value->List VD->Prop
 | [],[],[]=>True
 |t::ts,v::vs,d::ds=>(RdV w v d/\pg P D t d)/\er P D w ts vs ds
 |_,_,_=>False
theorem lQ {H:Type} {enc:TypeId×Value->H} {P:Program} {w:World} {base b0:Nat} {spare:Nat->Bool} {held:Bool} {r:Reach} {D:Nat} :
 ∀ (ts : List TypeId) (vs : List Value) (ds : List (DataW H)) (ps : List MemPlace), (ts.all λt => okT P D t) = true -> (∀ (j : Nat) t v, ts[j]? = some t -> vs[j]? = some v -> Value.okWide P w r b0 t v) ->
   DataW.TrodAll enc P w base spare held ts vs ds ps->∃ vds,er P D w ts vs vds
 | [], vs, ds, ps, _, _, h => by
   obtain ⟨rfl,-,-⟩:=trodAll_nil h;exact ⟨[],trivial⟩
 | t :: ts, vs, ds, ps, hok, hval, h => by
   obtain ⟨v,vs1,d,ds1,a,b,rfl,rfl,rfl,h1,h2⟩:=trodAll_cons h;simp only [List.all_cons,Bool.and_eq_true] at hok;obtain ⟨vds,h3⟩:=lQ ts vs1 ds1 b hok.2 (λj t v ht hv=>hval (j+1) t v (by simpa using ht) (by simpa using hv)) h2;obtain ⟨vd,h4,h5⟩:=t6 hok.1 (hval 0 t v rfl rfl) h1;exact ⟨vd::vds,⟨h4,h5⟩,h3⟩
theorem ja {P:Program} {D:Nat} {w:World}:∀ (ts:List TypeId) (vs:List Value) (vds:List VD),er P D w ts vs vds->vs.length=vds.length/\∀ (i:Nat) vd,vds[i]? = some vd->RdV w (vs.toArray.getD i undef) vd
 | [],[],[],_=>⟨rfl,λi vd h=>by simp at h⟩
 | t :: ts, v :: vs, d :: ds, h => by
   obtain ⟨h1,h2⟩:=ja ts vs ds h.2;refine ⟨by simp [h1],λi vd hi=>?_⟩
   cases i with
   |zero=>simp at hi;subst hi;simpa using h.1.1
   |succ i=>simpa using h2 i vd (by simpa using hi)
theorem lC {H:Type} {enc:TypeId×Value->H} {P:Program} (hl:laidOutB P=true) {W W':World} (hb:Below W.heap.size W W') {sp:Nat->Bool} :
 ∀ (ts : List TypeId) (vs : List Value) (ds : List (DataW H)) (ps : List MemPlace), (ts.all λt => P.readableRec t && decide (t < P.types.size)) = true -> DataW.TrodAll enc P W 0 (λ_ => true) true ts vs ds ps ->
   (∀ x∈ps,x.block<W.heap.size)->(∀ x∈ps,sp x.block=true)->DataW.TrodAll enc P W' 0 sp true ts vs ds ps
 | [], vs, ds, ps, _, h, _, _ => by
   obtain ⟨rfl,rfl,rfl⟩:=trodAll_nil h;rfl
 | t :: ts, vs, ds, ps, hok, h, hlt, hsp => by
   obtain ⟨v,vs1,d,ds1,a,b,rfl,rfl,rfl,h1,h2⟩:=trodAll_cons h;simp only [List.all_cons,Bool.and_eq_true,decide_eq_true_eq] at hok;refine ⟨a,b,WideElems.Trod_stays hl hok.1.1 hok.1.2 h1 (λx hx=>hb.same (hlt x (by simp [hx]))) (λx hx=>hsp x (by simp [hx])),lC hl hb ts vs1 ds1 b (by simpa using hok.2) h2 (λx hx=>hlt x (by simp [hx])) (λx hx=>hsp x (by simp [hx])),rfl⟩
theorem rP {L:World->Prop} {H:Type} {enc:TypeId×Value->H} {P:Program} (hlaid:laidOutB P=true) {f:FuncId} {fn:Func} {s:ChangeSpec} {apart fresh handsOn:Bool} {D:Nat} {bt:TypeId}
 (hv:s.vars=[]) (hres:fn.resultTypes = #[bt]) (hbt:P.underlying bt=some .bool) (hokT:(fn.params.toList.all λt=>okT P D t)=true) (hread:(fn.params.toList.all λt=>P.readableRec t && decide (t<P.types.size))=true)
 (hs:∀ ds:List (DataW H),ds.length=fn.params.toList.length->s.fn H ds={ results:=[.lit (.bool true)],args:=ds })
 {W:World} {args:Array Value} {r:Reach} {b0:Nat} {ds gs:List (DataW H)} {before:List MemPlace}
 (hval:∀ (j:Nat) t v,fn.params[j]? = some t->args[j]? = some v->Value.okWide P W r b0 t v)
 (hW:DataW.Whole enc P fn.params.toList s.vars apart W args.toList ds gs before)
 (hLW:L W) (hwalk:∀ vds,er P D W fn.params.toList args.toList vds->aK P L f vds (.one (.c (.v (.bool true)) 1))) :
 Calls P f args W λe W'=>∃ v,e=.returned v/\s.post enc P fn apart fresh handsOn false W args v W':=by
 have hW0:=hW;obtain ⟨p,q,hA,hV,rfl,hfz,hnd⟩:=hW;rw [hv] at hV;obtain ⟨rfl,rfl⟩:=trodVars_none hV;obtain ⟨vds,ho⟩:=lQ (D:=D) fn.params.toList args.toList ds p hokT (λj t v ht hv=>hval j t v (by simpa using ht) (by simpa using hv)) hA;obtain ⟨hl,hr⟩:=ja _ _ _ ho
 have hlen:ds.length=fn.params.toList.length:=by
  have:∀ (ts:List TypeId) (vs:List Value) (ds:List (DataW H)) (ps:List MemPlace),DataW.TrodAll enc P W 0 (λ_=>true) true ts vs ds ps->ds.length=ts.length:=by
   intro ts
   induction ts with
   |nil=>intro vs ds ps h;obtain ⟨-,rfl,-⟩:=trodAll_nil h;rfl
   | cons t ts ih =>
     intro vs ds ps h;obtain ⟨v,vs1,d,ds1,a,b,rfl,rfl,rfl,h1,h2⟩:=trodAll_cons h;simp [ih _ _ _ h2]
  exact this _ _ _ _ hA
 refine ((hwalk vds ho).2 W hLW args (by simpa using hl) (λi vd hi=>by simpa using hr i vd hi)).mono ?_
 rintro e W' ⟨v,rfl,hb,hrr⟩
 have hv1:v=.bool true:=hrr.1;subst hv1;have hs':=hs ds hlen;refine ⟨_,rfl,ds,[],p,[],p,[],by simpa using hW0,?_,?_,?_,?_,λh=>by cases h⟩
 ·rw [List.append_nil,hs',hres]
  exact trodAll_mk1 (shut_bool hbt true)
 ·rw [List.append_nil,hs']
  have hlt:∀ x∈p,x.block<W.heap.size:=λx hx=>hW0.lt x (by simp [hx])
  exact lC hlaid hb _ _ _ _ hread hA hlt (λx hx=>by simpa using hlt x hx)
 ·rw [hv]
  have:(s.fn H (ds++[])).vars=[]:=by rw [List.append_nil,hs']
  rw [this];exact rfl
 ·exact hb.frame _
section
variable {P:Program} {D:Nat} {t e:TypeId} {vd:VD} {ds:List CD}
theorem oJ (hu:P.underlying t=some .string) (h:eW P D t ds):∃ s:ByteArray,ds=[.v (.string s)]/\s.size<=maxLen:=by
 cases D with
 |zero=>exact h.elim
 |succ D=>simpa only [eW,hu] using h
theorem xi {de:TypeDesc} (hu:P.underlying t=some de) (hn:∀ fs,de≠.struct fs) (h:pg P D t vd):∃ d,vd=.c d/\eW P D t [d]:=by
 cases vd with
 |c d=>exact ⟨d,rfl,h⟩
 | agg ds =>
   obtain ⟨⟨fs,h1⟩,-⟩:=h;rw [hu] at h1;simp only [Option.some.injEq] at h1;exact absurd h1 (hn fs)
end
theorem er.nil {P:Program} {D:Nat} {w:World} {vs:List Value} {vds:List VD} (h:er P D w [] vs vds):vds=[]:=by
 cases vs with
 | nil => cases vds with
   |nil=>rfl
   |cons _ _=>exact h.elim
 |cons _ _=>exact h.elim
theorem er.cons {P:Program} {D:Nat} {w:World} {t:TypeId} {ts:List TypeId} {vs:List Value} {vds:List VD} (h:er P D w (t::ts) vs vds) :
 ∃ vd vds',vds=vd::vds'/\pg P D t vd/\∃ vs',er P D w ts vs' vds':=by
 cases vs with
 |nil=>cases vds<;>exact h.elim
 | cons v vs => cases vds with
   |nil=>exact h.elim
   |cons d ds=>exact ⟨d,ds,rfl,h.1.2,vs,h.2⟩
def am {α:Type} (mk:α->Int->α) (cn:α->Nat):List α->Int->List α
 | [],_=>[]
 |a::l,k=>mk a k::am mk cn l (k+cn a)
def ao {α:Type} (cn:α->Nat):List α->Nat
 | []=>0
 |a::l=>cn a+ao cn l
section
variable {α:Type} {mk:α->Int->α} {cn:α->Nat}
theorem ay:∀ (l:List α) (k:Int),(am mk cn l k).length=l.length
 | [],_=>rfl
 |a::l,k=>by simp [am,ay l]
theorem iS:∀ (l m:List α),ao cn (l++m)=ao cn l+ao cn m
 | [],m=>by simp [ao]
 |a::l,m=>by simp [ao,iS l m];omega
theorem gB:∀ (l m:List α) (k:Int),am mk cn (l++m) k=am mk cn l k++am mk cn m (k+ao cn l)
 | [],m,k=>by simp [am,ao]
 | a :: l, m, k => by
   simp only [List.cons_append,am,gB l m,ao];rw [show k+(cn a:Int)+(ao cn l:Nat)=k+((cn a+ao cn l:Nat):Int) by omega]
theorem ed {l:List α} {i:Nat} (h:i<l.length):ao cn (l.take (i+1))=ao cn (l.take i)+cn l[i]:=by
 rw [<- List.take_append_getElem h,iS];simp [ao]
theorem gQ:∀ (l:List α) (i:Nat),ao cn (l.take i)<=ao cn l
 | [],i=>by simp
 |a::l,0=>by simp [ao]
 |a::l,i+1=>by simp only [List.take_succ_cons,ao];have:=gQ l i;omega
theorem gR {l:List α} {i:Nat} (h:i<l.length):ao cn (l.take i)+cn l[i]<=ao cn l:=by
 rw [<- ed h];exact gQ l (i+1)
theorem rH {l:List α} {k:Int} {i:Nat} (h:i<l.length):(am mk cn l k)[i]? = some (mk l[i] (k+ao cn (l.take i))):=by
 induction l generalizing k i with
 |nil=>simp at h
 | cons a l ih =>
   cases i with
   |zero=>simp [am,ao]
   | succ i =>
     simp only [am,List.getElem?_cons_succ,List.take_succ_cons,ao,List.getElem_cons_succ];rw [ih (by simpa using h)]
     congr 2
     omega
def cq (mk:α->Int->α) (cn:α->Nat) (f:α->List CD) (l:List α) (k:Int) (i:Nat):List (List CD):=(am mk cn (l.take i) k++l.drop i).map f
variable {f:α->List CD} {l:List α} {k:Int} {i:Nat}
theorem n9:cq mk cn f l k 0=l.map f:=by simp [cq,am]
theorem dh:(cq mk cn f l k i).length=l.length:=by simp [cq,ay];omega
theorem j7 (h:l.length<=i):cq mk cn f l k i=(am mk cn l k).map f:=by
 simp [cq,List.take_of_length_le h,List.drop_of_length_le h]
theorem pI (h:i<l.length):(cq mk cn f l k i).set i (f l[i])=cq mk cn f l k i:=by
 unfold cq
 apply List.ext_getElem?
 intro j;rw [List.getElem?_set]
 split
 ·rename_i hj
  subst hj;have hl:(am mk cn (l.take i) k).length=i:=by rw [ay];simp;omega
  rw [if_pos (by simp [ay];omega)];simp only [List.map_append];rw [List.getElem?_append_right (by simp [hl])];simp [hl,h]
 ·rfl
theorem j6 (h:i<l.length) {r:List CD} (hr:r=f (mk l[i] (k+ao cn (l.take i)))):(cq mk cn f l k i).set i r=cq mk cn f l k (i+1):=by
 subst hr;unfold cq;have hl:(am mk cn (l.take i) k).length=i:=by rw [ay];simp;omega
 rw [<- List.take_append_getElem h,gB,List.drop_eq_getElem_cons h];simp only [List.map_append,List.map_cons,am,List.map_nil,List.append_assoc];rw [List.set_append_right _ _ (by simp [hl])];simp [hl]
end
theorem j3 {xs:List (List CD)} {i:Nat} {a:List CD} {g:List CD->List CD}:(xs.set i a).modify i g=xs.set i (g a):=by
 apply List.ext_getElem?
 intro j;rw [List.getElem?_modify,List.getElem?_set,List.getElem?_set];by_cases h:i=j
 ·subst h
  by_cases h2:i<xs.length<;>simp [h2]
 ·simp [h]
theorem nR {xs:List (List CD)} {i j:Nat} {a:List CD} {d:CD}:e6 (xs.set i a) i j d=xs.set i (a.set j d):=j3
abbrev dq (_:Int) (k:Int):Int:=k
abbrev one {α:Type} (_:α):Nat:=1
theorem kz {α:Type}:∀ (l:List α),ao one l=l.length
 | []=>rfl
 |a::l=>by simp [ao,one,kz l];omega
end Go.AM
namespace Go.Proofs.YthckkpphnmmfdaaGreatDoor
open Go.AM
set_option maxRecDepth 20000
def cg {α:Type} (f:α->Nat):List α->Nat
 | []=>0
 |a::l=>f a+cg f l
theorem nN {α:Type} {f:α->Nat}:∀ {l:List α} {a:α},a∈l->f a<=cg f l
 | b :: l, a, h => by
   simp only [cg];rcases List.mem_cons.1 h with rfl|h
   ·omega
   ·have:=nN (f:=f) h;omega
def nL {α:Type} (f:α->Nat) (l:List α):Nat:=l.length+cg f l
theorem fd {α:Type} {f:α->Nat} {l:List α} {B:Nat} (h:nL f l<=B):l.length<=B:=by unfold nL at h;omega
theorem uo {α:Type} {f:α->Nat} {l:List α} {B:Nat} (h:nL f l<=B) {a:α} (ha:a∈l):f a<=B:=by have:=nN (f:=f) ha;unfold nL at h;omega
theorem n7 {α:Type} {f:α->Nat} {l:List α} {B:Nat} (h:nL f l<=B) {i:Nat} (hi:i<l.length):f l[i]<=B:=uo h (List.getElem_mem hi)
theorem aB {α:Type} {cn n:α->Nat} (h:∀ a,cn a<=11*(1+n a)):∀ l:List α,ao cn l<=11*nL n l
 | []=>by simp [ao]
 | a :: l => by
   have h1:=h a;have h2:=aB h l;unfold nL at h2 ⊢;simp only [ao,List.length_cons,cg];omega
theorem fm {α:Type} {cn:α->Nat} (h:∀ a,cn a<=11):∀ l:List α,ao cn l<=11*l.length
 | []=>by simp [ao]
 | a :: l => by
   have h1:=h a;have h2:=fm h l;simp only [ao,List.length_cons];omega
theorem j8 {α:Type} {mk:α->Int->α} {cn:α->Nat} {l:List α} {k:Int} {i:Nat} (h:i<l.length):(am mk cn l k)[i]'(by rw [ay];exact h)=mk l[i] (k+ao cn (l.take i)):=by
 have:=rH (mk:=mk) (cn:=cn) (k:=k) h;rw [List.getElem?_eq_getElem (by rw [ay];exact h)] at this;exact Option.some.inj this
noncomputable def uq (k:Int):Bool:=dc (k.tmod 3=0)
def Da (n:Nat):List UInt8:=if h:n<10 then [UInt8.ofNat (48+n)] else Da (n / 10)++[UInt8.ofNat (48+n % 10)]
termination_by n
decreasing_by omega
def markT (k:Int):ByteArray:=⟨(109::Da k.toNat).toArray⟩
structure Part where
 kind:Int
 n:Int
 signs:List Int
 deriving Inhabited
def Part.row (x:Part):List CD:=[vi x.kind,vi x.n,.s (x.signs.map aU)]
def Part.res (x:Part):List (CD×Nat):=[(vi x.kind,1),(vi x.n,1),(.s (x.signs.map aU),1)]
@[simp] theorem Part.row_len {x:Part}:x.row.length=3:=rfl
def az (x:Part):Nat:=x.signs.length
noncomputable def Part.mark (x:Part) (k:Int):Part:=⟨k,k+1,am dq one x.signs (k+1+1)⟩
def Part.cnt (x:Part):Nat:=2+(x.signs.length)
theorem Part.cnt_le (x:Part):x.cnt<=11*(1+az x):=by
 unfold Part.cnt;simp only [az];omega
noncomputable def Part.markT (x:Part) (k:Int):Part:=⟨x.kind,x.n,am dq one x.signs (k)⟩
def Part.cntT (x:Part):Nat:=x.signs.length
theorem Part.cntT_le (x:Part):x.cntT<=11*az x:=by
 unfold Part.cntT;simp only [az];omega
structure Entry where
 client:Int
 seq:Int
 o:List Part
def Entry.row (x:Entry):List CD:=[vi x.client,vi x.seq,.s (x.o.map Part.row)]
def Entry.res (x:Entry):List (CD×Nat):=[(vi x.client,1),(vi x.seq,1),(.s (x.o.map Part.row),3)]
@[simp] theorem Entry.row_len {x:Entry}:x.row.length=3:=rfl
def f9 (x:Entry):Nat:=nL az x.o
noncomputable def Entry.mark (x:Entry) (k:Int):Entry:=⟨k,k+1,am Part.mark Part.cnt x.o (k+1+1)⟩
def Entry.cnt (x:Entry):Nat:=2+(ao Part.cnt x.o)
theorem Entry.cnt_le (x:Entry):x.cnt<=11*(1+f9 x):=by
 unfold Entry.cnt;have h0:=aB Part.cnt_le x.o;simp only [f9];omega
noncomputable def Entry.markT (x:Entry) (k:Int):Entry:=⟨x.client,x.seq,am Part.mark Part.cnt x.o (k)⟩
def Entry.cntT (x:Entry):Nat:=ao Part.cnt x.o
theorem Entry.cntT_le (x:Entry):x.cntT<=11*f9 x:=by
 unfold Entry.cntT;have h0:=aB Part.cnt_le x.o;simp only [f9];omega
structure Seen where
 client:Int
 seq:Int
 rev:Int
def Seen.row (x:Seen):List CD:=[vi x.client,vi x.seq,vi x.rev]
def Seen.res (x:Seen):List (CD×Nat):=[(vi x.client,1),(vi x.seq,1),(vi x.rev,1)]
@[simp] theorem Seen.row_len {x:Seen}:x.row.length=3:=rfl
noncomputable def Seen.mark (_x:Seen) (k:Int):Seen:=⟨k,k+1,k+1+1⟩
def Seen.cnt (_x:Seen):Nat:=3
theorem Seen.cnt_le (x:Seen):x.cnt<=11*1:=by
 unfold Seen.cnt;omega
structure Doc where
 name:ByteArray
 fr:Int
 text:List Int
 list:List Entry
 seen:List Seen
def Doc.row (x:Doc):List CD:=[.v (.string x.name),vi x.fr,.s (x.text.map aU),.s (x.list.map Entry.row),.s (x.seen.map Seen.row)]
def Doc.res (x:Doc):List (CD×Nat):=[(.v (.string x.name),1),(vi x.fr,1),(.s (x.text.map aU),1),(.s (x.list.map Entry.row),3),(.s (x.seen.map Seen.row),3)]
@[simp] theorem Doc.row_len {x:Doc}:x.row.length=5:=rfl
def n8 (x:Doc):Nat:=x.name.size+(x.text.length+(nL f9 x.list+(x.seen.length)))
noncomputable def Doc.mark (x:Doc) (k:Int):Doc:=⟨markT (k),k+1,am dq one x.text (k+1+1),am Entry.mark Entry.cnt x.list (k+1+1+(x.text.length:Nat)),am Seen.mark Seen.cnt x.seen (k+1+1+(x.text.length:Nat)+(ao Entry.cnt x.list:Nat))⟩
def Doc.cnt (x:Doc):Nat:=2+(x.text.length+(ao Entry.cnt x.list+(ao Seen.cnt x.seen)))
theorem Doc.cnt_le (x:Doc):x.cnt<=11*(1+n8 x):=by
 unfold Doc.cnt;have h0:=aB Entry.cnt_le x.list;have h1:=fm (λa=>by have:=Seen.cnt_le a;omega) x.seen;simp only [n8];omega
noncomputable def Doc.markT (x:Doc) (k:Int):Doc:=⟨x.name,x.fr,am dq one x.text (k),am Entry.mark Entry.cnt x.list (k+(x.text.length:Nat)),am Seen.mark Seen.cnt x.seen (k+(x.text.length:Nat)+(ao Entry.cnt x.list:Nat))⟩
def Doc.cntT (x:Doc):Nat:=x.text.length+(ao Entry.cnt x.list+(ao Seen.cnt x.seen))
theorem Doc.cntT_le (x:Doc):x.cntT<=11*n8 x:=by
 unfold Doc.cntT;have h0:=aB Entry.cnt_le x.list;have h1:=fm (λa=>by have:=Seen.cnt_le a;omega) x.seen;simp only [n8];omega
structure Ring where
 cap:Int
 next:Int
 out:Bool
 list:List Entry
def Ring.row (x:Ring):List CD:=[vi x.cap,vi x.next,.v (.bool x.out),.s (x.list.map Entry.row)]
def Ring.res (x:Ring):List (CD×Nat):=[(vi x.cap,1),(vi x.next,1),(.v (.bool x.out),1),(.s (x.list.map Entry.row),3)]
@[simp] theorem Ring.row_len {x:Ring}:x.row.length=4:=rfl
def jX (x:Ring):Nat:=nL f9 x.list
noncomputable def Ring.mark (x:Ring) (k:Int):Ring:=⟨k,k+1,uq (k+1+1),am Entry.mark Entry.cnt x.list (k+1+1+1)⟩
def Ring.cnt (x:Ring):Nat:=3+(ao Entry.cnt x.list)
theorem Ring.cnt_le (x:Ring):x.cnt<=11*(1+jX x):=by
 unfold Ring.cnt;have h0:=aB Entry.cnt_le x.list;simp only [jX];omega
noncomputable def Ring.markT (x:Ring) (k:Int):Ring:=⟨x.cap,x.next,x.out,am Entry.mark Entry.cnt x.list (k)⟩
def Ring.cntT (x:Ring):Nat:=ao Entry.cnt x.list
theorem Ring.cntT_le (x:Ring):x.cntT<=11*jX x:=by
 unfold Ring.cntT;have h0:=aB Entry.cnt_le x.list;simp only [jX];omega
structure Sub where
 id:Int
 doc:ByteArray
 r:Ring
def Sub.row (x:Sub):List CD:=[vi x.id,.v (.string x.doc),vi x.r.cap,vi x.r.next,.v (.bool x.r.out),.s (x.r.list.map Entry.row)]
def Sub.res (x:Sub):List (CD×Nat):=[(vi x.id,1),(.v (.string x.doc),1),(vi x.r.cap,1),(vi x.r.next,1),(.v (.bool x.r.out),1),(.s (x.r.list.map Entry.row),3)]
@[simp] theorem Sub.row_len {x:Sub}:x.row.length=6:=rfl
def ul (x:Sub):Nat:=x.doc.size+(jX x.r)
noncomputable def Sub.mark (x:Sub) (k:Int):Sub:=⟨k,markT (k+1),⟨k+1+1,k+1+1+1,uq (k+1+1+1+1),am Entry.mark Entry.cnt x.r.list (k+1+1+1+1+1)⟩⟩
def Sub.cnt (x:Sub):Nat:=5+(ao Entry.cnt x.r.list)
theorem Sub.cnt_le (x:Sub):x.cnt<=11*(1+ul x):=by
 unfold Sub.cnt;have h0:=aB Entry.cnt_le x.r.list;simp only [ul,jX];omega
noncomputable def Sub.markT (x:Sub) (k:Int):Sub:=⟨x.id,x.doc,⟨x.r.cap,x.r.next,x.r.out,am Entry.mark Entry.cnt x.r.list (k)⟩⟩
def Sub.cntT (x:Sub):Nat:=ao Entry.cnt x.r.list
theorem Sub.cntT_le (x:Sub):x.cntT<=11*ul x:=by
 unfold Sub.cntT;have h0:=aB Entry.cnt_le x.r.list;simp only [ul,jX];omega
structure Hub where
 shut:Bool
 docs:List Doc
 subs:List Sub
 last:Int
def Hub.row (x:Hub):List CD:=[.v (.bool x.shut),.s (x.docs.map Doc.row),.s (x.subs.map Sub.row),vi x.last]
def Hub.res (x:Hub):List (CD×Nat):=[(.v (.bool x.shut),1),(.s (x.docs.map Doc.row),5),(.s (x.subs.map Sub.row),6),(vi x.last,1)]
@[simp] theorem Hub.row_len {x:Hub}:x.row.length=4:=rfl
def rF (x:Hub):Nat:=nL n8 x.docs+(nL ul x.subs)
noncomputable def Hub.markT (x:Hub) (k:Int):Hub:=⟨x.shut,am Doc.mark Doc.cnt x.docs (k),am Sub.mark Sub.cnt x.subs (k+(ao Doc.cnt x.docs:Nat)),x.last⟩
def Hub.cntT (x:Hub):Nat:=ao Doc.cnt x.docs+(ao Sub.cnt x.subs)
theorem Hub.cntT_le (x:Hub):x.cntT<=11*rF x:=by
 unfold Hub.cntT;have h0:=aB Doc.cnt_le x.docs;have h1:=aB Sub.cnt_le x.subs;simp only [rF];omega
structure Call where
 kind:Int
 doc:ByteArray
 client:Int
 seq:Int
 n:Int
 o:List Part
 text:List Int
def Call.row (x:Call):List CD:=[vi x.kind,.v (.string x.doc),vi x.client,vi x.seq,vi x.n,.s (x.o.map Part.row),.s (x.text.map aU)]
def Call.res (x:Call):List (CD×Nat):=[(vi x.kind,1),(.v (.string x.doc),1),(vi x.client,1),(vi x.seq,1),(vi x.n,1),(.s (x.o.map Part.row),3),(.s (x.text.map aU),1)]
@[simp] theorem Call.row_len {x:Call}:x.row.length=7:=rfl
def j0 (x:Call):Nat:=x.doc.size+(nL az x.o+(x.text.length))
noncomputable def Call.mark (x:Call) (k:Int):Call:=⟨k,markT (k+1),k+1+1,k+1+1+1,k+1+1+1+1,am Part.mark Part.cnt x.o (k+1+1+1+1+1),am dq one x.text (k+1+1+1+1+1+(ao Part.cnt x.o:Nat))⟩
def Call.cnt (x:Call):Nat:=5+(ao Part.cnt x.o+(x.text.length))
theorem Call.cnt_le (x:Call):x.cnt<=11*(1+j0 x):=by
 unfold Call.cnt;have h0:=aB Part.cnt_le x.o;simp only [j0];omega
noncomputable def Call.markT (x:Call) (k:Int):Call:=⟨x.kind,x.doc,x.client,x.seq,x.n,am Part.mark Part.cnt x.o (k),am dq one x.text (k+(ao Part.cnt x.o:Nat))⟩
def Call.cntT (x:Call):Nat:=ao Part.cnt x.o+(x.text.length)
theorem Call.cntT_le (x:Call):x.cntT<=11*j0 x:=by
 unfold Call.cntT;have h0:=aB Part.cnt_le x.o;simp only [j0];omega
structure Answer where
 code:Int
 rev:Int
 text:List Int
 list:List Entry
def Answer.row (x:Answer):List CD:=[vi x.code,vi x.rev,.s (x.text.map aU),.s (x.list.map Entry.row)]
def Answer.res (x:Answer):List (CD×Nat):=[(vi x.code,1),(vi x.rev,1),(.s (x.text.map aU),1),(.s (x.list.map Entry.row),3)]
@[simp] theorem Answer.row_len {x:Answer}:x.row.length=4:=rfl
def eA (x:Answer):Nat:=x.text.length+(nL f9 x.list)
noncomputable def Answer.mark (x:Answer) (k:Int):Answer:=⟨k,k+1,am dq one x.text (k+1+1),am Entry.mark Entry.cnt x.list (k+1+1+(x.text.length:Nat))⟩
def Answer.cnt (x:Answer):Nat:=2+(x.text.length+(ao Entry.cnt x.list))
theorem Answer.cnt_le (x:Answer):x.cnt<=11*(1+eA x):=by
 unfold Answer.cnt;have h0:=aB Entry.cnt_le x.list;simp only [eA];omega
noncomputable def Answer.markT (x:Answer) (k:Int):Answer:=⟨x.code,x.rev,am dq one x.text (k),am Entry.mark Entry.cnt x.list (k+(x.text.length:Nat))⟩
def Answer.cntT (x:Answer):Nat:=x.text.length+(ao Entry.cnt x.list)
theorem Answer.cntT_le (x:Answer):x.cntT<=11*eA x:=by
 unfold Answer.cntT;have h0:=aB Entry.cnt_le x.list;simp only [eA];omega
structure Task where
 c:Call
 pc:Int
 inv:Int
 lin:Int
 rs:Int
 a:Answer
def Task.row (x:Task):List CD:=[vi x.c.kind,.v (.string x.c.doc),vi x.c.client,vi x.c.seq,vi x.c.n,.s (x.c.o.map Part.row),.s (x.c.text.map aU),vi x.pc,vi x.inv,vi x.lin,vi x.rs,vi x.a.code,vi x.a.rev,.s (x.a.text.map aU),.s (x.a.list.map Entry.row)]
def Task.res (x:Task):List (CD×Nat):=[(vi x.c.kind,1),(.v (.string x.c.doc),1),(vi x.c.client,1),(vi x.c.seq,1),(vi x.c.n,1),(.s (x.c.o.map Part.row),3),(.s (x.c.text.map aU),1),(vi x.pc,1),(vi x.inv,1),(vi x.lin,1),(vi x.rs,1),(vi x.a.code,1),(vi x.a.rev,1),(.s (x.a.text.map aU),1),(.s (x.a.list.map Entry.row),3)]
@[simp] theorem Task.row_len {x:Task}:x.row.length=15:=rfl
def n4 (x:Task):Nat:=j0 x.c+(eA x.a)
noncomputable def Task.mark (x:Task) (k:Int):Task:=⟨⟨k,markT (k+1),k+1+1,k+1+1+1,k+1+1+1+1,am Part.mark Part.cnt x.c.o (k+1+1+1+1+1),am dq one x.c.text (k+1+1+1+1+1+(ao Part.cnt x.c.o:Nat))⟩,k+1+1+1+1+1+(ao Part.cnt x.c.o:Nat)+(x.c.text.length:Nat),k+1+1+1+1+1+(ao Part.cnt x.c.o:Nat)+(x.c.text.length:Nat)+1,k+1+1+1+1+1+(ao Part.cnt x.c.o:Nat)+(x.c.text.length:Nat)+1+1,k+1+1+1+1+1+(ao Part.cnt x.c.o:Nat)+(x.c.text.length:Nat)+1+1+1,⟨k+1+1+1+1+1+(ao Part.cnt x.c.o:Nat)+(x.c.text.length:Nat)+1+1+1+1,k+1+1+1+1+1+(ao Part.cnt x.c.o:Nat)+(x.c.text.length:Nat)+1+1+1+1+1,am dq one x.a.text (k+1+1+1+1+1+(ao Part.cnt x.c.o:Nat)+(x.c.text.length:Nat)+1+1+1+1+1+1),am Entry.mark Entry.cnt x.a.list (k+1+1+1+1+1+(ao Part.cnt x.c.o:Nat)+(x.c.text.length:Nat)+1+1+1+1+1+1+(x.a.text.length:Nat))⟩⟩
def Task.cnt (x:Task):Nat:=11+(ao Part.cnt x.c.o+(x.c.text.length+(x.a.text.length+(ao Entry.cnt x.a.list))))
theorem Task.cnt_le (x:Task):x.cnt<=11*(1+n4 x):=by
 unfold Task.cnt;have h0:=aB Part.cnt_le x.c.o;have h1:=aB Entry.cnt_le x.a.list;simp only [n4,j0,eA];omega
noncomputable def Task.markT (x:Task) (k:Int):Task:=⟨⟨x.c.kind,x.c.doc,x.c.client,x.c.seq,x.c.n,am Part.mark Part.cnt x.c.o (k),am dq one x.c.text (k+(ao Part.cnt x.c.o:Nat))⟩,x.pc,x.inv,x.lin,x.rs,⟨x.a.code,x.a.rev,am dq one x.a.text (k+(ao Part.cnt x.c.o:Nat)+(x.c.text.length:Nat)),am Entry.mark Entry.cnt x.a.list (k+(ao Part.cnt x.c.o:Nat)+(x.c.text.length:Nat)+(x.a.text.length:Nat))⟩⟩
def Task.cntT (x:Task):Nat:=ao Part.cnt x.c.o+(x.c.text.length+(x.a.text.length+(ao Entry.cnt x.a.list)))
theorem Task.cntT_le (x:Task):x.cntT<=11*n4 x:=by
 unfold Task.cntT;have h0:=aB Part.cnt_le x.c.o;have h1:=aB Entry.cnt_le x.a.list;simp only [n4,j0,eA];omega
structure Queue where
 doc:ByteArray
 list:List Int
def Queue.row (x:Queue):List CD:=[.v (.string x.doc),.s (x.list.map aU)]
def Queue.res (x:Queue):List (CD×Nat):=[(.v (.string x.doc),1),(.s (x.list.map aU),1)]
@[simp] theorem Queue.row_len {x:Queue}:x.row.length=2:=rfl
def jY (x:Queue):Nat:=x.doc.size+(x.list.length)
noncomputable def Queue.mark (x:Queue) (k:Int):Queue:=⟨markT (k),am dq one x.list (k+1)⟩
def Queue.cnt (x:Queue):Nat:=1+(x.list.length)
theorem Queue.cnt_le (x:Queue):x.cnt<=11*(1+jY x):=by
 unfold Queue.cnt;simp only [jY];omega
noncomputable def Queue.markT (x:Queue) (k:Int):Queue:=⟨x.doc,am dq one x.list (k)⟩
def Queue.cntT (x:Queue):Nat:=x.list.length
theorem Queue.cntT_le (x:Queue):x.cntT<=11*jY x:=by
 unfold Queue.cntT;simp only [jY];omega
structure Wld where
 h:Hub
 locks:List Int
 queues:List Queue
 tasks:List Task
 step:Int
def Wld.row (x:Wld):List CD:=[.v (.bool x.h.shut),.s (x.h.docs.map Doc.row),.s (x.h.subs.map Sub.row),vi x.h.last,.s (x.locks.map aU),.s (x.queues.map Queue.row),.s (x.tasks.map Task.row),vi x.step]
def Wld.res (x:Wld):List (CD×Nat):=[(.v (.bool x.h.shut),1),(.s (x.h.docs.map Doc.row),5),(.s (x.h.subs.map Sub.row),6),(vi x.h.last,1),(.s (x.locks.map aU),1),(.s (x.queues.map Queue.row),2),(.s (x.tasks.map Task.row),15),(vi x.step,1)]
@[simp] theorem Wld.row_len {x:Wld}:x.row.length=8:=rfl
def uk (x:Wld):Nat:=rF x.h+(x.locks.length+(nL jY x.queues+(nL n4 x.tasks)))
noncomputable def Wld.markT (x:Wld) (k:Int):Wld:=⟨⟨x.h.shut,am Doc.mark Doc.cnt x.h.docs (k),am Sub.mark Sub.cnt x.h.subs (k+(ao Doc.cnt x.h.docs:Nat)),x.h.last⟩,am dq one x.locks (k+(ao Doc.cnt x.h.docs:Nat)+(ao Sub.cnt x.h.subs:Nat)),am Queue.mark Queue.cnt x.queues (k+(ao Doc.cnt x.h.docs:Nat)+(ao Sub.cnt x.h.subs:Nat)+(x.locks.length:Nat)),am Task.mark Task.cnt x.tasks (k+(ao Doc.cnt x.h.docs:Nat)+(ao Sub.cnt x.h.subs:Nat)+(x.locks.length:Nat)+(ao Queue.cnt x.queues:Nat)),x.step⟩
def Wld.cntT (x:Wld):Nat:=ao Doc.cnt x.h.docs+(ao Sub.cnt x.h.subs+(x.locks.length+(ao Queue.cnt x.queues+(ao Task.cnt x.tasks))))
theorem Wld.cntT_le (x:Wld):x.cntT<=11*uk x:=by
 unfold Wld.cntT;have h0:=aB Doc.cnt_le x.h.docs;have h1:=aB Sub.cnt_le x.h.subs;have h2:=aB Queue.cnt_le x.queues;have h3:=aB Task.cnt_le x.tasks;simp only [uk,rF];omega
structure Rep where
 client:Int
 seq:Int
 rev:Int
 text:List Int
 has:Bool
 sent:List Part
 buf:List Part
def Rep.row (x:Rep):List CD:=[vi x.client,vi x.seq,vi x.rev,.s (x.text.map aU),.v (.bool x.has),.s (x.sent.map Part.row),.s (x.buf.map Part.row)]
def Rep.res (x:Rep):List (CD×Nat):=[(vi x.client,1),(vi x.seq,1),(vi x.rev,1),(.s (x.text.map aU),1),(.v (.bool x.has),1),(.s (x.sent.map Part.row),3),(.s (x.buf.map Part.row),3)]
@[simp] theorem Rep.row_len {x:Rep}:x.row.length=7:=rfl
def um (x:Rep):Nat:=x.text.length+(nL az x.sent+(nL az x.buf))
noncomputable def Rep.mark (x:Rep) (k:Int):Rep:=⟨k,k+1,k+1+1,am dq one x.text (k+1+1+1),uq (k+1+1+1+(x.text.length:Nat)),am Part.mark Part.cnt x.sent (k+1+1+1+(x.text.length:Nat)+1),am Part.mark Part.cnt x.buf (k+1+1+1+(x.text.length:Nat)+1+(ao Part.cnt x.sent:Nat))⟩
def Rep.cnt (x:Rep):Nat:=4+(x.text.length+(ao Part.cnt x.sent+(ao Part.cnt x.buf)))
theorem Rep.cnt_le (x:Rep):x.cnt<=11*(1+um x):=by
 unfold Rep.cnt;have h0:=aB Part.cnt_le x.sent;have h1:=aB Part.cnt_le x.buf;simp only [um];omega
noncomputable def Rep.markT (x:Rep) (k:Int):Rep:=⟨x.client,x.seq,x.rev,am dq one x.text (k),x.has,am Part.mark Part.cnt x.sent (k+(x.text.length:Nat)),am Part.mark Part.cnt x.buf (k+(x.text.length:Nat)+(ao Part.cnt x.sent:Nat))⟩
def Rep.cntT (x:Rep):Nat:=x.text.length+(ao Part.cnt x.sent+(ao Part.cnt x.buf))
theorem Rep.cntT_le (x:Rep):x.cntT<=11*um x:=by
 unfold Rep.cntT;have h0:=aB Part.cnt_le x.sent;have h1:=aB Part.cnt_le x.buf;simp only [um];omega
structure Net where
 d:Doc
 reps:List Rep
def Net.row (x:Net):List CD:=[.v (.string x.d.name),vi x.d.fr,.s (x.d.text.map aU),.s (x.d.list.map Entry.row),.s (x.d.seen.map Seen.row),.s (x.reps.map Rep.row)]
def Net.res (x:Net):List (CD×Nat):=[(.v (.string x.d.name),1),(vi x.d.fr,1),(.s (x.d.text.map aU),1),(.s (x.d.list.map Entry.row),3),(.s (x.d.seen.map Seen.row),3),(.s (x.reps.map Rep.row),7)]
@[simp] theorem Net.row_len {x:Net}:x.row.length=6:=rfl
def wA (x:Net):Nat:=n8 x.d+(nL um x.reps)
noncomputable def Net.markT (x:Net) (k:Int):Net:=⟨⟨x.d.name,x.d.fr,am dq one x.d.text (k),am Entry.mark Entry.cnt x.d.list (k+(x.d.text.length:Nat)),am Seen.mark Seen.cnt x.d.seen (k+(x.d.text.length:Nat)+(ao Entry.cnt x.d.list:Nat))⟩,am Rep.mark Rep.cnt x.reps (k+(x.d.text.length:Nat)+(ao Entry.cnt x.d.list:Nat)+(ao Seen.cnt x.d.seen:Nat))⟩
def Net.cntT (x:Net):Nat:=x.d.text.length+(ao Entry.cnt x.d.list+(ao Seen.cnt x.d.seen+(ao Rep.cnt x.reps)))
theorem Net.cntT_le (x:Net):x.cntT<=11*wA x:=by
 unfold Net.cntT;have h0:=aB Entry.cnt_le x.d.list;have h1:=fm (λa=>by have:=Seen.cnt_le a;omega) x.d.seen;have h2:=aB Rep.cnt_le x.reps;simp only [wA,n8];omega
structure Event where
 kind:Int
 who:Int
 n:Int
 o:List Part
def Event.row (x:Event):List CD:=[vi x.kind,vi x.who,vi x.n,.s (x.o.map Part.row)]
def Event.res (x:Event):List (CD×Nat):=[(vi x.kind,1),(vi x.who,1),(vi x.n,1),(.s (x.o.map Part.row),3)]
@[simp] theorem Event.row_len {x:Event}:x.row.length=4:=rfl
def bE (x:Event):Nat:=nL az x.o
noncomputable def Event.mark (x:Event) (k:Int):Event:=⟨k,k+1,k+1+1,am Part.mark Part.cnt x.o (k+1+1+1)⟩
def Event.cnt (x:Event):Nat:=3+(ao Part.cnt x.o)
theorem Event.cnt_le (x:Event):x.cnt<=11*(1+bE x):=by
 unfold Event.cnt;have h0:=aB Part.cnt_le x.o;simp only [bE];omega
noncomputable def Event.markT (x:Event) (k:Int):Event:=⟨x.kind,x.who,x.n,am Part.mark Part.cnt x.o (k)⟩
def Event.cntT (x:Event):Nat:=ao Part.cnt x.o
theorem Event.cntT_le (x:Event):x.cntT<=11*bE x:=by
 unfold Event.cntT;have h0:=aB Part.cnt_le x.o;simp only [bE];omega
structure Desk where
 h:Hub
 n:Net
def Desk.row (x:Desk):List CD:=[.v (.bool x.h.shut),.s (x.h.docs.map Doc.row),.s (x.h.subs.map Sub.row),vi x.h.last,.v (.string x.n.d.name),vi x.n.d.fr,.s (x.n.d.text.map aU),.s (x.n.d.list.map Entry.row),.s (x.n.d.seen.map Seen.row),.s (x.n.reps.map Rep.row)]
def Desk.res (x:Desk):List (CD×Nat):=[(.v (.bool x.h.shut),1),(.s (x.h.docs.map Doc.row),5),(.s (x.h.subs.map Sub.row),6),(vi x.h.last,1),(.v (.string x.n.d.name),1),(vi x.n.d.fr,1),(.s (x.n.d.text.map aU),1),(.s (x.n.d.list.map Entry.row),3),(.s (x.n.d.seen.map Seen.row),3),(.s (x.n.reps.map Rep.row),7)]
@[simp] theorem Desk.row_len {x:Desk}:x.row.length=10:=rfl
def xX (x:Desk):Nat:=rF x.h+(wA x.n)
noncomputable def Desk.markT (x:Desk) (k:Int):Desk:=⟨⟨x.h.shut,am Doc.mark Doc.cnt x.h.docs (k),am Sub.mark Sub.cnt x.h.subs (k+(ao Doc.cnt x.h.docs:Nat)),x.h.last⟩,⟨⟨x.n.d.name,x.n.d.fr,am dq one x.n.d.text (k+(ao Doc.cnt x.h.docs:Nat)+(ao Sub.cnt x.h.subs:Nat)),am Entry.mark Entry.cnt x.n.d.list (k+(ao Doc.cnt x.h.docs:Nat)+(ao Sub.cnt x.h.subs:Nat)+(x.n.d.text.length:Nat)),am Seen.mark Seen.cnt x.n.d.seen (k+(ao Doc.cnt x.h.docs:Nat)+(ao Sub.cnt x.h.subs:Nat)+(x.n.d.text.length:Nat)+(ao Entry.cnt x.n.d.list:Nat))⟩,am Rep.mark Rep.cnt x.n.reps (k+(ao Doc.cnt x.h.docs:Nat)+(ao Sub.cnt x.h.subs:Nat)+(x.n.d.text.length:Nat)+(ao Entry.cnt x.n.d.list:Nat)+(ao Seen.cnt x.n.d.seen:Nat))⟩⟩
def Desk.cntT (x:Desk):Nat:=ao Doc.cnt x.h.docs+(ao Sub.cnt x.h.subs+(x.n.d.text.length+(ao Entry.cnt x.n.d.list+(ao Seen.cnt x.n.d.seen+(ao Rep.cnt x.n.reps)))))
theorem Desk.cntT_le (x:Desk):x.cntT<=11*xX x:=by
 unfold Desk.cntT;have h0:=aB Doc.cnt_le x.h.docs;have h1:=aB Sub.cnt_le x.h.subs;have h2:=aB Entry.cnt_le x.n.d.list;have h3:=fm (λa=>by have:=Seen.cnt_le a;omega) x.n.d.seen;have h4:=aB Rep.cnt_le x.n.reps;simp only [xX,rF,wA,n8];omega
theorem mix:Tryz.prog.follows .mixedOrders=true:=by kernel_rfl
theorem u7 (a b:List Int) (hl:a.length<=2 ^ 40):ax Tryz.prog 51 [.c (.s (a.map aU)),.c (.s (b.map aU))] (.one (.c (vb (a=b)) 1)):=by
 refine ax.intro' aq Tryz.func51 (by kernel_rfl) rfl rfl rfl (Nat.le_of_ble_eq_true rfl) (λw0 base=>?_);by_cases h:a.length=b.length
 ·simp [h]
  refine aL.intro eok (λi:Nat=>i<=a.length/\a.take i=b.take i) (λi=>⟨26,0,[(5,.v (.int .i64 i)),(1,.ro (b.map aU)),(0,.ro (a.map aU))],[]⟩) (λi=>a.length - i) 0 (by simp) (by simp) (λi hi=>?_);by_cases hlt:i<a.length
  ·simp [hlt]
   have hlt':i<b.length:=by omega
   refine aN.quiet eok mix (by kernel_rfl) ?_;simp [hlt,hlt'];refine Br.mk (λh1=>?_) (λh1=>?_)
   ·simp
    exact ⟨i+1,⟨by omega,fx hlt hlt' hi.2 (fZ h1)⟩,by omega,au (by omega)⟩
   ·simp [bV]
    exact lU hlt hlt' (λhe=>jU h1 (by rw [he]))
  ·simp [hlt,fl]
   exact gj (by omega) (by omega) hi.2
 ·have hz:¬ (a.length:Int)=b.length:=by omega
  simp [hz,bV];exact λh2=>absurd (by rw [h2]) h
theorem pJ (l:List Int) (k:Int) (h0:0<=k) (hk:k+l.length<=4611686018427387904):fU Tryz.prog 66 (.c (.s (l.map aU)) 1) k (k+l.length) (.c (.s ((am dq one l k).map aU)) 1):=by
 refine fU.intro aq Tryz.func66 (by kernel_rfl) rfl rfl rfl (by decide) (λw0 base=>?_);simp;intro H;refine aD eok (λi:Nat=>i<=l.length) (λi=>⟨19,0,[(5,.v (.int .i64 i)),(1,.v (.int .i64 (k+i))),(0,.ml 0 H 1 l.length)],[(0,.rows H 1 (cq dq one aU l k i) true)]⟩) (λi=>l.length - i) 0 (by simp) (by simp [n9]) (λi hi=>Ent.refl ?_);by_cases h:i<l.length
 ·simp [h,dh]
  refine Ent.refl ⟨i+1,by omega,by omega,?_⟩;have e1:Go.IntKind.i64.wrap (k+(i:Int)+1)=k+((i+1:Nat):Int):=by rw [Go.IntWalk.i64_in _ (by omega)];omega
  have e2:Go.IntKind.i64.wrap ((i:Int)+1)=((i+1:Nat):Int):=au (by omega);simp [e1,e2];refine j6 h ?_;simp [aU,kz];omega
 ·have:i=l.length:=by omega
  subst this;simp [j7,ay]
theorem pU (l:List Int) (k:Int) (h0:0<=k) (hk:k+l.length<=4611686018427387904):ax Tryz.prog 67 [.c (.s ((am dq one l k).map aU)),.c (vi k)] (.one (.c (vi (k+l.length)) 1)):=by
 refine ax.intro' aq Tryz.func67 (by kernel_rfl) rfl rfl rfl (Nat.le_of_ble_eq_true rfl) (λw0 base=>?_);simp;refine aL.intro eok (λi:Nat=>i<=l.length) (λi=>⟨21,0,[(5,.v (.int .i64 i)),(1,.v (.int .i64 (k+i))),(0,.ro ((am dq one l k).map aU))],[]⟩) (λi=>l.length - i) 0 (by simp) (by simp) (λi hi=>?_);by_cases h:i<l.length
 ·have e1:Go.IntKind.i64.wrap (k+(i:Int)+1)=k+((i+1:Nat):Int):=by rw [Go.IntWalk.i64_in _ (by omega)];omega
  have e2:Go.IntKind.i64.wrap ((i:Int)+1)=((i+1:Nat):Int):=au (by omega)
  have hm:(am dq one l k)[i]'(by rw [ay];exact h)=k+i:=by
   rw [j8 h,kz,List.length_take,Nat.min_eq_left (by omega)]
  simp [h,ay,hm];refine ⟨i+1,by omega,by omega,?_,?_⟩
  ·exact e2
  ·exact e1
 ·have:i=l.length:=by omega
  subst this;simp [ay]
end Go.Proofs.YthckkpphnmmfdaaGreatDoor
