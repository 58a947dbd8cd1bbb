import Derived.Test.YthckkpphnmmfdaaGreatDoorMG
import Derived.Test.YthckkpphnmmfdaaGreatDoorRows
import Derived.Test.YthckkpphnmmfdaaGreatDoorME
import Derived.IntWalk
import Derived.ProofKit
import Derived.Deep.Slices
import Derived.Test.YthckkpphnmmfdaaGreatDoorMF
namespace Go.Proofs.YthckkpphnmmfdaaGreatDoor
open Go.AM
def ti2:TI:={ n:=1,zero:=[.v (.int .i64 0)],bytes:=8,kind:=some .i64 }
def ti3:TI:={ n:=1,zero:=[.v (.int .i64 0)],bytes:=8,kind:=some .i64 }
def ti4:TI:={ n:=1,zero:=[.v (.bool false)],bytes:=1,boo:=true }
def ti5:TI:={ n:=1,zero:=[.v (.int .u8 0)],bytes:=1,kind:=some .u8 }
def ti6:TI:={ n:=1,zero:=[.v (.int .u8 0)],bytes:=1,kind:=some .u8 }
def ti7:TI:={ agg:=true,n:=4,zero:=[.v (.int .i64 0),.v (.int .i64 0),.v (.bool false),.v (.int .u8 0)],fields:=[(0,1),(1,1),(2,1),(3,1)],fagg:=[false,false,false,false],bytes:=24,pln:=true }
def ti8:TI:={ agg:=true,n:=4,zero:=[.v (.int .i64 0),.v (.int .i64 0),.v (.bool false),.v (.int .u8 0)],fields:=[(0,1),(1,1),(2,1),(3,1)],fagg:=[false,false,false,false],bytes:=24,pln:=true }
def ti9:TI:={ n:=1,zero:=[.v (.string ⟨#[]⟩)],bytes:=16,str:=true }
def Lv:TI:={ n:=1,zero:=[.v (.string ⟨#[]⟩)],bytes:=16,str:=true }
def Lu:TI:={ n:=1,zero:=[.v (.string ⟨#[]⟩)],bytes:=16,str:=true }
def Lt:TI:={ n:=1,zero:=[.v (.int .u64 0)],bytes:=8,kind:=some .u64 }
def Ls:TI:={ agg:=true,n:=2,zero:=[.v (.string ⟨#[]⟩),.v (.int .u64 0)],fields:=[(0,1),(1,1)],fagg:=[false,false],bytes:=24,pln:=true }
def Lr:TI:={ agg:=true,n:=2,zero:=[.v (.string ⟨#[]⟩),.v (.int .u64 0)],fields:=[(0,1),(1,1)],fagg:=[false,false],bytes:=24,pln:=true }
def Lq:TI:={ n:=1,zero:=[.v (.int .i32 0)],bytes:=4,kind:=some .i32 }
def Lp:TI:={ n:=1,zero:=[.nil],sl:=some 102,bytes:=24,pln:=false }
def Lo:TI:={ n:=1,zero:=[.nil],sl:=some 3,bytes:=24,pln:=false }
def Ln:TI:={ agg:=true,n:=7,zero:=[.v (.int .i64 0),.v (.string ⟨#[]⟩),.v (.int .i64 0),.v (.int .i64 0),.v (.int .i64 0),.nil,.nil],fields:=[(0,1),(1,1),(2,1),(3,1),(4,1),(5,1),(6,1)],fagg:=[false,false,false,false,false,false,false],bytes:=96,pln:=false }
def Lm:TI:={ agg:=true,n:=7,zero:=[.v (.int .i64 0),.v (.string ⟨#[]⟩),.v (.int .i64 0),.v (.int .i64 0),.v (.int .i64 0),.nil,.nil],fields:=[(0,1),(1,1),(2,1),(3,1),(4,1),(5,1),(6,1)],fagg:=[false,false,false,false,false,false,false],bytes:=96,pln:=false }
def Ll:TI:={ n:=1,zero:=[.nil],sl:=some 105,bytes:=24,pln:=false }
def Lk:TI:={ agg:=true,n:=7,zero:=[.v (.int .i64 0),.v (.string ⟨#[]⟩),.v (.int .i64 0),.v (.int .i64 0),.v (.int .i64 0),.nil,.nil],fields:=[(0,1),(1,1),(2,1),(3,1),(4,1),(5,1),(6,1)],fagg:=[false,false,false,false,false,false,false],bytes:=96,pln:=false }
def Lj:TI:={ agg:=true,n:=7,zero:=[.v (.int .i64 0),.v (.string ⟨#[]⟩),.v (.int .i64 0),.v (.int .i64 0),.v (.int .i64 0),.nil,.nil],fields:=[(0,1),(1,1),(2,1),(3,1),(4,1),(5,1),(6,1)],fagg:=[false,false,false,false,false,false,false],bytes:=96,pln:=false }
def Li:TI:={ agg:=true,n:=4,zero:=[.v (.int .i64 0),.v (.int .i64 0),.v (.int .i64 0),.nil],fields:=[(0,1),(1,1),(2,1),(3,1)],fagg:=[false,false,false,false],bytes:=48,pln:=false }
def Lh:TI:={ agg:=true,n:=4,zero:=[.v (.int .i64 0),.v (.int .i64 0),.v (.int .i64 0),.nil],fields:=[(0,1),(1,1),(2,1),(3,1)],fagg:=[false,false,false,false],bytes:=48,pln:=false }
def Lg:TI:={ n:=1,zero:=[.nil],sl:=some 5,bytes:=24,pln:=false }
def Lf:TI:={ n:=1,zero:=[.nil],sl:=some 55,bytes:=24,pln:=false }
def Le:TI:={ n:=1,zero:=[.nil],sl:=some 198,bytes:=24,pln:=false }
def Ld:TI:={ agg:=true,n:=4,zero:=[.v (.bool false),.nil,.nil,.v (.int .i64 0)],fields:=[(0,1),(1,1),(2,1),(3,1)],fagg:=[false,false,false,false],bytes:=64,pln:=false }
def Lc:TI:={ agg:=true,n:=4,zero:=[.v (.bool false),.nil,.nil,.v (.int .i64 0)],fields:=[(0,1),(1,1),(2,1),(3,1)],fagg:=[false,false,false,false],bytes:=64,pln:=false }
def Lb:TI:={ n:=1,zero:=[.nil],sl:=some 30,bytes:=24,pln:=false }
def La:TI:={ n:=1,zero:=[.nil],sl:=some 214,bytes:=24,pln:=false }
def K9:TI:={ n:=1,zero:=[.nil],sl:=some 155,bytes:=24,pln:=false }
def K8:TI:={ agg:=true,n:=5,zero:=[.v (.string ⟨#[]⟩),.v (.int .i64 0),.nil,.nil,.nil],fields:=[(0,1),(1,1),(2,1),(3,1),(4,1)],fagg:=[false,false,false,false,false],bytes:=96,pln:=false }
def K7:TI:={ agg:=true,n:=5,zero:=[.v (.string ⟨#[]⟩),.v (.int .i64 0),.nil,.nil,.nil],fields:=[(0,1),(1,1),(2,1),(3,1),(4,1)],fagg:=[false,false,false,false,false],bytes:=96,pln:=false }
def K4:TI:={ n:=1,zero:=[.nil],sl:=some 129,bytes:=24,pln:=false }
def K0:TI:={ agg:=true,n:=6,zero:=[.v (.string ⟨#[]⟩),.v (.int .i64 0),.nil,.nil,.nil,.nil],fields:=[(0,5),(5,1)],fagg:=[true,false],bytes:=120,pln:=false }
def KZ:TI:={ agg:=true,n:=6,zero:=[.v (.string ⟨#[]⟩),.v (.int .i64 0),.nil,.nil,.nil,.nil],fields:=[(0,5),(5,1)],fagg:=[true,false],bytes:=120,pln:=false }
def KY:TI:={ n:=1,zero:=[.nil],sl:=some 9,bytes:=24,pln:=false }
def KX:TI:={ agg:=true,n:=3,zero:=[.nil,.v (.int .i64 0),.v (.int .i64 0)],fields:=[(0,1),(1,1),(2,1)],fagg:=[false,false,false],bytes:=40,pln:=false }
def KW:TI:={ agg:=true,n:=3,zero:=[.nil,.v (.int .i64 0),.v (.int .i64 0)],fields:=[(0,1),(1,1),(2,1)],fagg:=[false,false,false],bytes:=40,pln:=false }
def Fq:TI:={ agg:=true,n:=3,zero:=[.v (.int .i64 0),.v (.int .i64 0),.nil],fields:=[(0,1),(1,1),(2,1)],fagg:=[false,false,false],bytes:=40,pln:=false }
def Fp:TI:={ agg:=true,n:=3,zero:=[.v (.int .i64 0),.v (.int .i64 0),.nil],fields:=[(0,1),(1,1),(2,1)],fagg:=[false,false,false],bytes:=40,pln:=false }
def Fo:TI:={ agg:=true,n:=3,zero:=[.v (.int .i64 0),.v (.int .i64 0),.nil],fields:=[(0,1),(1,1),(2,1)],fagg:=[false,false,false],bytes:=40,pln:=false }
def Fn:TI:={ agg:=true,n:=4,zero:=[.v (.int .i64 0),.v (.int .i64 0),.nil,.nil],fields:=[(0,1),(1,1),(2,1),(3,1)],fagg:=[false,false,false,false],bytes:=64,pln:=false }
def Fm:TI:={ agg:=true,n:=4,zero:=[.v (.int .i64 0),.v (.int .i64 0),.nil,.nil],fields:=[(0,1),(1,1),(2,1),(3,1)],fagg:=[false,false,false,false],bytes:=64,pln:=false }
def Fl:TI:={ agg:=true,n:=7,zero:=[.v (.int .i64 0),.v (.int .i64 0),.v (.int .i64 0),.nil,.v (.bool false),.nil,.nil],fields:=[(0,1),(1,1),(2,1),(3,1),(4,1),(5,1),(6,1)],fagg:=[false,false,false,false,false,false,false],bytes:=104,pln:=false }
def Fk:TI:={ agg:=true,n:=7,zero:=[.v (.int .i64 0),.v (.int .i64 0),.v (.int .i64 0),.nil,.v (.bool false),.nil,.nil],fields:=[(0,1),(1,1),(2,1),(3,1),(4,1),(5,1),(6,1)],fagg:=[false,false,false,false,false,false,false],bytes:=104,pln:=false }
def Fj:TI:={ agg:=true,n:=3,zero:=[.v (.int .i64 0),.v (.int .i64 0),.v (.int .i64 0)],fields:=[(0,1),(1,1),(2,1)],fagg:=[false,false,false],bytes:=24,pln:=true,ieq:=true }
def Fi:TI:={ agg:=true,n:=3,zero:=[.v (.int .i64 0),.v (.int .i64 0),.v (.int .i64 0)],fields:=[(0,1),(1,1),(2,1)],fagg:=[false,false,false],bytes:=24,pln:=true,ieq:=true }
def Fh:TI:={ agg:=true,n:=3,zero:=[.nil,.nil,.v (.int .i64 0)],fields:=[(0,1),(1,1),(2,1)],fagg:=[false,false,false],bytes:=56,pln:=false }
def Fg:TI:={ agg:=true,n:=3,zero:=[.nil,.nil,.v (.int .i64 0)],fields:=[(0,1),(1,1),(2,1)],fagg:=[false,false,false],bytes:=56,pln:=false }
def Ff:TI:={ agg:=true,n:=4,zero:=[.v (.int .i64 0),.v (.int .i64 0),.v (.bool false),.nil],fields:=[(0,1),(1,1),(2,1),(3,1)],fagg:=[false,false,false,false],bytes:=48,pln:=false }
def Fe:TI:={ agg:=true,n:=4,zero:=[.v (.int .i64 0),.v (.int .i64 0),.v (.bool false),.nil],fields:=[(0,1),(1,1),(2,1),(3,1)],fagg:=[false,false,false,false],bytes:=48,pln:=false }
def Fd:TI:={ agg:=true,n:=6,zero:=[.v (.int .i64 0),.v (.string ⟨#[]⟩),.v (.int .i64 0),.v (.int .i64 0),.v (.bool false),.nil],fields:=[(0,1),(1,1),(2,4)],fagg:=[false,false,true],bytes:=72,pln:=false }
def Fc:TI:={ agg:=true,n:=6,zero:=[.v (.int .i64 0),.v (.string ⟨#[]⟩),.v (.int .i64 0),.v (.int .i64 0),.v (.bool false),.nil],fields:=[(0,1),(1,1),(2,4)],fagg:=[false,false,true],bytes:=72,pln:=false }
def Fb:TI:={ n:=1,zero:=[.v (.int .u64 0)],bytes:=8,kind:=some .u64 }
def Fa:TI:={ agg:=true,n:=3,zero:=[.v (.int .i64 0),.v (.int .i64 0),.nil],fields:=[(0,1),(1,1),(2,1)],fagg:=[false,false,false],bytes:=40,pln:=false }
def E9:TI:={ agg:=true,n:=3,zero:=[.v (.int .i64 0),.v (.int .i64 0),.nil],fields:=[(0,1),(1,1),(2,1)],fagg:=[false,false,false],bytes:=40,pln:=false }
def E8:TI:={ n:=1,zero:=[.v (.int .u64 0)],bytes:=8,kind:=some .u64 }
def E7:TI:={ n:=1,zero:=[.v (.int .i64 0)],bytes:=8,kind:=some .i64 }
def E6:TI:={ agg:=true,n:=3,zero:=[.nil,.v (.int .i64 0),.v (.int .i64 0)],fields:=[(0,1),(1,1),(2,1)],fagg:=[false,false,false],bytes:=40,pln:=false }
def E5:TI:={ agg:=true,n:=3,zero:=[.nil,.v (.int .i64 0),.v (.int .i64 0)],fields:=[(0,1),(1,1),(2,1)],fagg:=[false,false,false],bytes:=40,pln:=false }
def E4:TI:={ n:=1,zero:=[.v (.int .u32 0)],bytes:=4,kind:=some .u32 }
def E3:TI:={ agg:=true,n:=2,zero:=[.v (.int .u8 0),.v (.int .u8 0)],fields:=[(0,1),(1,1)],fagg:=[false,false],bytes:=2,pln:=true }
def EZ:TI:={ agg:=true,n:=2,zero:=[.v (.int .u8 0),.v (.int .u8 0)],fields:=[(0,1),(1,1)],fagg:=[false,false],bytes:=2,pln:=true }
def EY:TI:={ n:=1,zero:=[.nil],sl:=some 28,bytes:=24,pln:=false }
def EX:TI:={ agg:=true,n:=1,zero:=[.v (.string ⟨#[]⟩)],fields:=[(0,1)],fagg:=[false],bytes:=16,pln:=true }
def EW:TI:={ agg:=true,n:=1,zero:=[.v (.string ⟨#[]⟩)],fields:=[(0,1)],fagg:=[false],bytes:=16,pln:=true }
def EV:TI:={ n:=1,zero:=[.v (.int .u8 0)],bytes:=1,kind:=some .u8 }
def EU:TI:={ n:=1,zero:=[.v (.int .u8 0)],bytes:=1,kind:=some .u8 }
def ET:TI:={ n:=1,zero:=[.v (.int .i32 0)],bytes:=4,kind:=some .i32 }
def ES:TI:={ n:=1,zero:=[.v (.int .i32 0)],bytes:=4,kind:=some .i32 }
def Oa:List (Nat×TI):=[(2,ti2),(3,ti3),(4,ti4),(5,ti5),(6,ti6),(7,ti7),(8,ti8),(9,ti9),(10,Lv),(11,Lu),(12,Lt),(13,Ls),(14,Lr),(21,Lq),(22,Lp),(23,Lo),(24,Ln),(25,Lm),(28,Ll),(29,Lk),(30,Lj),(34,Li),(35,Lh),(44,Lg),(45,Lf),(46,Le),(47,Ld),(48,Lc),(50,Lb),(52,La),(53,K9),(54,K8),(55,K7),(56,K4),(57,K0),(58,KZ),(72,KY),(95,KX),(96,KW),(101,Fq),(102,Fp),(105,Fo),(119,Fn),(120,Fm),(128,Fl),(129,Fk),(154,Fj),(155,Fi),(176,Fh),(177,Fg),(195,Ff),(196,Fe),(197,Fd),(198,Fc),(203,Fb),(213,Fa),(214,E9),(231,E8),(238,E7),(252,E6),(253,E5),(264,E4),(268,E3),(269,EZ),(278,EY),(289,EX),(290,EW),(301,EV),(302,EU),(304,ET),(305,ES)]
def tt:Nat->Option TI:=yO Oa
theorem Rt:tt 2=some ti2:=rfl
theorem Rs:tt 3=some ti3:=rfl
theorem Rr:tt 4=some ti4:=rfl
theorem Rq:tt 5=some ti5:=rfl
theorem Rp:tt 6=some ti6:=rfl
theorem Ro:tt 7=some ti7:=rfl
theorem Rn:tt 8=some ti8:=rfl
theorem Rm:tt 9=some ti9:=rfl
theorem OI:tt 10=some Lv:=rfl
theorem OH:tt 11=some Lu:=rfl
theorem OG:tt 12=some Lt:=rfl
theorem OF:tt 13=some Ls:=rfl
theorem OE:tt 14=some Lr:=rfl
theorem OD:tt 21=some Lq:=rfl
theorem OC:tt 22=some Lp:=rfl
theorem OB:tt 23=some Lo:=rfl
theorem OA:tt 24=some Ln:=rfl
theorem Oz:tt 25=some Lm:=rfl
theorem Oy:tt 28=some Ll:=rfl
theorem Ox:tt 29=some Lk:=rfl
theorem Ow:tt 30=some Lj:=rfl
theorem Ov:tt 34=some Li:=rfl
theorem Ou:tt 35=some Lh:=rfl
theorem Ot:tt 44=some Lg:=rfl
theorem Oq:tt 45=some Lf:=rfl
theorem Oo:tt 46=some Le:=rfl
theorem On:tt 47=some Ld:=rfl
theorem Om:tt 48=some Lc:=rfl
theorem Ol:tt 50=some Lb:=rfl
theorem Ok:tt 52=some La:=rfl
theorem Oj:tt 53=some K9:=rfl
theorem Oi:tt 54=some K8:=rfl
theorem Oh:tt 55=some K7:=rfl
theorem Og:tt 56=some K4:=rfl
theorem Of:tt 57=some K0:=rfl
theorem Oe:tt 58=some KZ:=rfl
theorem Od:tt 72=some KY:=rfl
theorem Oc:tt 95=some KX:=rfl
theorem Ob:tt 96=some KW:=rfl
theorem KO:tt 101=some Fq:=rfl
theorem KN:tt 102=some Fp:=rfl
theorem KM:tt 105=some Fo:=rfl
theorem KK:tt 119=some Fn:=rfl
theorem KJ:tt 120=some Fm:=rfl
theorem KH:tt 128=some Fl:=rfl
theorem KG:tt 129=some Fk:=rfl
theorem KF:tt 154=some Fj:=rfl
theorem KE:tt 155=some Fi:=rfl
theorem KD:tt 176=some Fh:=rfl
theorem KC:tt 177=some Fg:=rfl
theorem KB:tt 195=some Ff:=rfl
theorem Kz:tt 196=some Fe:=rfl
theorem Ky:tt 197=some Fd:=rfl
theorem Kx:tt 198=some Fc:=rfl
theorem Kw:tt 203=some Fb:=rfl
theorem Kv:tt 213=some Fa:=rfl
theorem Ku:tt 214=some E9:=rfl
theorem Kt:tt 231=some E8:=rfl
theorem Ks:tt 238=some E7:=rfl
theorem Kr:tt 252=some E6:=rfl
theorem Kq:tt 253=some E5:=rfl
theorem Kp:tt 264=some E4:=rfl
theorem Ko:tt 268=some E3:=rfl
theorem Kn:tt 269=some EZ:=rfl
theorem Km:tt 278=some EY:=rfl
theorem Kl:tt 289=some EX:=rfl
theorem Kk:tt 290=some EW:=rfl
theorem Kj:tt 301=some EV:=rfl
theorem Ki:tt 302=some EU:=rfl
theorem Kh:tt 304=some ET:=rfl
theorem Kg:tt 305=some ES:=rfl
theorem If:(Oa.all λp=>rc Tryz.prog p.1 p.2)=true:=by kernel_rfl
theorem ag:∀ t ti,tt t=some ti->TIok Tryz.prog t ti:=Fs If
theorem eok {w0:World} {F G:Nat->Prop} {l:Bool}:EOk ⟨Tryz.prog,tt,w0,⟨F,G,l,λ_=>True⟩⟩:=⟨ag,λ_ _=>trivial⟩
attribute [simp] ti2 ti3 ti4 ti5 ti6 ti7 ti8 ti9 Lv Lu Lt Ls Lr Lq Lp Lo Ln Lm Ll Lk Lj Li Lh Lg Lf Le Ld Lc Lb La K9 K8 K7 K4 K0 KZ KY KX KW Fq Fp Fo Fn Fm Fl Fk Fj Fi Fh Fg Ff Fe Fd Fc Fb Fa E9 E8 E7 E6 E5 E4 E3 EZ EY EX EW EV EU ET ES Rt Rs Rr Rq Rp Ro Rn Rm OI OH OG OF OE OD OC OB OA Oz Oy Ox Ow Ov Ou Ot Oq Oo On Om Ol Ok Oj Oi Oh Og Of Oe Od Oc Ob KO KN KM KK KJ KH KG KF KE KD KC KB Kz Ky Kx Kw Kv Ku Kt Ks Kr Kq Kp Ko Kn Km Kl Kk Kj Ki Kh Kg
end Go.Proofs.YthckkpphnmmfdaaGreatDoor
namespace Go.AM
abbrev vi (n:Int):CD:=.v (.int .i64 n)
noncomputable abbrev vb (p:Prop):CD:=.v (.bool (dc p))
abbrev dL (b:UInt8):List CD:=[.v (.int .u8 b.toNat)]
abbrev bc (n:Int):List CD:=[vi n]
theorem o5 {p q:Prop} (h:p ↔ q):dc p=dc q:=by rw [propext h]
theorem mH {α:Type} {a b:List α} {i:Nat} (h:i<a.length) (h':i<b.length) (ht:a.take i=b.take i) (he:a[i]=b[i]):a.take (i+1)=b.take (i+1):=by
 rw [<- List.take_append_getElem h,<- List.take_append_getElem h',ht,he]
theorem oe {α:Type} {a b:List α} {i:Nat} (h:a.length<=i) (hl:a.length=b.length) (ht:a.take i=b.take i):a=b:=by
 rwa [List.take_of_length_le h,List.take_of_length_le (by omega)] at ht
theorem uY {α:Type} {a b:List α} {i:Nat} (h:i<a.length) (h':i<b.length) (he:a[i]≠b[i]):a≠b:=by
 rintro rfl;exact he rfl
theorem iM {n:Nat} (h:n<=9223372036854775807):Go.IntKind.i64.wrap (n:Int)=n:=Go.IntWalk.i64_in _ (by omega)
theorem aB {n:Nat} (h:n<9223372036854775807):Go.IntKind.i64.wrap ((n:Int)+1)=((n+1:Nat):Int):=by rw [Go.IntWalk.i64_in _ (by omega)];omega
@[simp] theorem Rv {a b:Nat}:((a:Int)+(b:Int)).toNat=a+b:=by omega
@[simp] theorem Ru {a n : Nat} : ((a : Int) + (OfNat.ofNat n : Int)).toNat = a + n := by
  show ((a:Int)+((n:Nat):Int)).toNat=a+n
  omega
@[simp] theorem RM {a b:Nat}:(0:Int)<=(a:Int)+(b:Int):=by omega
@[simp] theorem RL {a n : Nat} : (0 : Int) <= (a : Int) + (OfNat.ofNat n : Int) := by
  show (0:Int)<=(a:Int)+((n:Nat):Int)
  omega
@[simp] theorem Q2 {α:Type} {f:α->List CD} {l:List α}:cut (l.map f) 0 l.length=l.map f:=xd (by simp)
attribute [simp] xd
@[simp] theorem Q1 {n:Nat}:((n:Int)<0)=False:=by simp
open Go.RowKit Go.WideShapes Go.ChangeShapes
def sX (P:Program):Nat->List Field->Option Nat
 |o,[]=>some o
 |o,f::fs=>if f.offset=o then sX P (o+P.cellsOf f.type) fs else none
def okT (P:Program):Nat->TypeId->Bool
 |0,_=>false
 | D + 1, t => match P.underlying t with
   |some .bool=>true
   |some (.int _)=>true
   |some .string=>true
   |some (.slice e)=>decide (0<P.cellsOf e) && okT P D e
   |some (.struct fs)=>(sX P 0 fs.toList == some (P.cellsOf t)) && fs.toList.all λf=>okT P D f.type
   |_=>false
def jp (P:Program):Nat->TypeId->List CD->Prop
 |0,_,_=>False
 | D + 1, t, ds => match P.underlying t with
   |some .bool=>∃ b,ds=[.v (.bool b)]
   |some (.int k)=>∃ n,ds=[.v (.int k n)]/\(Lit.int k n).wf=true
   |some .string=>∃ s:ByteArray,ds=[.v (.string s)]/\s.size<=maxLen
   |some (.slice e)=>∃ rows,ds=[.s rows]/\rows.length<=maxLen/\∀ row∈rows,row.length=P.cellsOf e/\jp P D e row
   |some (.struct fs)=>ds.length=P.cellsOf t/\∀ f∈fs.toList,jp P D f.type ((ds.drop f.offset).take (P.cellsOf f.type))
   |_=>False
def kt (w:World) (cs:List Value) (ds:List CD):Prop:=ds.length=cs.length/\∀ (j:Nat) (u:Value) (d:CD),cs[j]? = some u->ds[j]? = some d->Rd w false (λ_=>True) u d
theorem kt.one {w:World} {u:Value} {d:CD} (h:Rd w false (λ_=>True) u d):kt w [u] [d]:=by
 refine ⟨rfl,λj u' d' hu hd=>?_⟩
 cases j with
 |zero=>simp at hu hd;subst hu;subst hd;exact h
 |succ j=>simp at hu
theorem oz {P:Program} {w:World} {D:Nat} {cs:List Value}:∀ (fs:List Field) (o m:Nat),sX P o fs=some m -> m <= cs.length ->
 (∀ f ∈ fs,∃ ds,kt w ((cs.drop f.offset).take (P.cellsOf f.type)) ds /\ jp P D f.type ds) ->
 ∃ ds,o<=m/\kt w ((cs.drop o).take (m - o)) ds/\∀ f∈fs,o<=f.offset/\jp P D f.type ((ds.drop (f.offset - o)).take (P.cellsOf f.type))
 | [], o, m, hc, _, _ => by
   simp only [sX,Option.some.injEq] at hc;subst hc;exact ⟨[],Nat.le_refl _,by simp [kt],by simp⟩
 | f :: fs, o, m, hc, hm, hx => by
   simp only [sX] at hc
   split at hc
   ·rename_i ho
    obtain ⟨ds,h1,h2,h3⟩:=oz fs _ m hc hm (λg hg=>hx g (List.mem_cons_of_mem _ hg));obtain ⟨d1,h4,h5⟩:=hx f (List.mem_cons_self ..);have hl:d1.length=P.cellsOf f.type:=by rw [h4.1];simp;omega
    refine ⟨d1++ds,by omega,⟨?_,λj u d hu hd=>?_⟩,λg hg=>?_⟩
    ·have:=h2.1
     simp at this ⊢;omega
    ·by_cases hj:j<P.cellsOf f.type
     ·rw [List.getElem?_append_left (by omega)] at hd
      refine h4.2 j u d ?_ hd;rw [List.getElem?_take,if_pos hj,ho];rw [List.getElem?_take] at hu
      split at hu
      ·exact hu
      ·simp at hu
     ·rw [List.getElem?_append_right (by omega),hl] at hd
      refine h2.2 _ u d ?_ hd;rw [List.getElem?_take] at hu ⊢
      split at hu
      ·rw [if_pos (by omega)]
       rw [List.getElem?_drop] at hu ⊢;rw [<- hu]
       congr 1
       omega
      ·simp at hu
    ·rcases List.mem_cons.1 hg with rfl|hg
     ·refine ⟨by omega,?_⟩
      rw [ho,Nat.sub_self,List.drop_zero,List.take_append_of_le_length (by omega),List.take_of_length_le (by omega)];exact h5
     ·obtain ⟨h6,h7⟩:=h3 g hg
      refine ⟨by omega,?_⟩
      have:(d1++ds).drop (g.offset - o)=ds.drop (g.offset - (o+P.cellsOf f.type)):=by
       rw [List.drop_append,List.drop_of_length_le (by omega),hl,List.nil_append]
       congr 1
       omega
      rw [this];exact h7
   ·simp at hc
theorem C5 {H:Type} {enc:TypeId×Value->H} {P:Program} {w:World} {base:Nat} {spare:Nat->Bool} {held:Bool} :
 ∀ (D:Nat) (t:TypeId) (cs:List Value) (x:DataW H×List MemPlace) (fuel:Nat),okT P D t=true->DataW.trod enc P w base spare held fuel t cs=some x->∃ ds,kt w cs ds/\jp P D t ds:=by
 intro D
 induction D with
 |zero=>intro t cs x fuel h;simp [okT] at h
 | succ D ih =>
   intro t cs x fuel hok h;unfold okT at hok
   split at hok
   ·rename_i hu
    obtain ⟨b,rfl,-⟩:=DataW.trod_bool hu h;exact ⟨[.v (.bool b)],kt.one (.plain rfl),by simp [jp,hu]⟩
   ·rename_i k hu
    obtain ⟨n,rfl,-,hw⟩:=DataW.trod_int hu h;exact ⟨[.v (.int k n)],kt.one (.plain rfl),by simp [jp,hu,hw]⟩
   ·rename_i hu
    obtain ⟨s,rfl,-,hs⟩:=DataW.trod_string hu h;exact ⟨[.v (.string s)],kt.one (.plain rfl),by simp [jp,hu,hs]⟩
   ·rename_i e hu
    simp only [Bool.and_eq_true,decide_eq_true_eq] at hok;obtain ⟨hpos,hok⟩:=hok;rcases DataW.trod_slice hu h with ⟨rfl,-⟩|⟨a,len,cap,elems,rest,n,-,rfl,-,-,hlc,hcm,hel,hi,-⟩
    ·exact ⟨[.s []],kt.one (.empty _ _ (λh=>by simp at h)),by simp [jp,hu]⟩
    ·have each:∀ i,i<len->∃ p:List Value×List CD,w.cells? base (a.add (i*P.cellsOf e)) (P.cellsOf e)=some p.1/\kt w p.1 p.2/\jp P D e p.2:=by
      intro i hlt;have h1:=hi i hlt;rw [List.getElem?_eq_getElem (by omega)] at h1;obtain ⟨c,h2,h3⟩:=Option.bind_eq_some_iff.1 h1;obtain ⟨ds,h4,h5⟩:=ih e c _ n hok h3;exact ⟨(c,ds),h2,h4,h5⟩
     by_cases hl0:len=0
     ·subst hl0
      exact ⟨[.s []],kt.one (.empty _ _ (λh=>by simp at h)),by simp [jp,hu]⟩
     ·obtain ⟨f,hf⟩:=Go.Deep.choose_lt each
      have cell:∀ i j,i<len->j<P.cellsOf e->w.cell? (a.add (i*P.cellsOf e+j))=(f i).1[j]?/\(f i).1.length=P.cellsOf e:=by
       intro i j hlt hj;obtain ⟨-,h2,h3⟩:=World.cells?_some (hf i hlt).1;exact ⟨by rw [<- h3 j hj,Go.Deep.add_add],h2⟩
      obtain ⟨b,off,spot⟩:=a
      have hb:∃ cs T fr,w.heap[b]? = some (.cells cs T fr)/\spot=none:=by
       obtain ⟨h1,h2⟩:=cell 0 0 (by omega) hpos;rw [List.getElem?_eq_getElem (by omega)] at h1;unfold World.cell? at h1;rw [block_add] at h1
       split at h1
       ·rename_i c T fr hh
        refine ⟨c,T,fr,hh,?_⟩
        cases spot with
        |none=>rfl
        |some s=>simp [Addr.add] at h1
       ·simp at h1
      obtain ⟨c,T,fr,hb,rfl⟩:=hb
      have at':∀ i j,i<len->j<P.cellsOf e->c[off+(i*P.cellsOf e+j)]? = (f i).1[j]?:=by
       intro i j hlt hj;rw [<- (cell i j hlt hj).1,di];simp [World.cell?,hb]
      have hrows:((List.range len).map λi=>(f i).2).length=len:=by simp
      have hrd:=Rd.slice (w:=w) (x:=false) (S:=λ_=>True) b off cap (P.cellsOf e) c T fr ((List.range len).map λi=>(f i).2) (λ_ _ _=>True)
       (by rw [hrows];exact hlc) hcm hpos trivial hb (by
        rw [hrows];obtain ⟨m,rfl⟩:∃ m,len=m+1:=⟨len - 1,by omega⟩;have h1:=at' m (P.cellsOf e - 1) (by omega) (by omega);rw [List.getElem?_eq_getElem (by rw [(cell m (P.cellsOf e - 1) (by omega) (by omega)).2];omega)] at h1;have h2:=(Array.getElem?_eq_some_iff.1 h1).1;rw [Nat.succ_mul];omega) (λh=>by simp at h) (λ_ _ _ _=>⟨trivial,λh=>by simp at h⟩) (λh=>by simp at h)
       (λrow hrow=>by
        simp only [List.mem_map,List.mem_range] at hrow;obtain ⟨i,hlt,rfl⟩:=hrow;rw [(hf i hlt).2.1.1];exact (cell i 0 hlt hpos).2)
       (λi j row d h1 h2=>by
        have hlt:i<len:=by have:=(List.getElem?_eq_some_iff.1 h1).1;omega
        simp only [List.getElem?_map,List.getElem?_range hlt,Option.map_some,Option.some.injEq] at h1;subst h1
        have hj:j<P.cellsOf e:=by
         have:=(List.getElem?_eq_some_iff.1 h2).1;rw [(hf i hlt).2.1.1,(cell i 0 hlt hpos).2] at this;exact this
        have h3:=at' i j hlt hj;rw [List.getElem?_eq_getElem (by rw [(cell i j hlt hj).2];exact hj)] at h3
        have h4:c.getD (off+(i*P.cellsOf e+j)) undef=(f i).1[j]'(by rw [(cell i j hlt hj).2];exact hj):=by
         rw [Array.getD_eq_getD_getElem?,h3];rfl
        rw [h4];exact (hf i hlt).2.1.2 j _ d (List.getElem?_eq_getElem _) h2)
      rw [hrows] at hrd;refine ⟨[.s ((List.range len).map λi=>(f i).2)],kt.one hrd,?_⟩;simp only [jp,hu];refine ⟨_,rfl,by rw [hrows];omega,λrow hrow=>?_⟩;simp only [List.mem_map,List.mem_range] at hrow;obtain ⟨i,hlt,rfl⟩:=hrow;exact ⟨by rw [(hf i hlt).2.1.1];exact (cell i 0 hlt hpos).2,(hf i hlt).2.2⟩
   ·rename_i fs hu
    simp only [Bool.and_eq_true,beq_iff_eq,List.all_eq_true] at hok;obtain ⟨hc,hall⟩:=hok;obtain ⟨xs,n,-,-,hcl,hxl,hi⟩:=DataW.trod_struct hu h
    obtain ⟨ds,-,h1,h2⟩:=oz (w:=w) (D:=D) (cs:=cs) fs.toList 0 _ hc (by omega) (λf hf=>by
     obtain ⟨i,hlt,rfl⟩:=List.getElem_of_mem hf;have hlt':i<fs.size:=by simpa using hlt
     have h3:=hi i fs[i] (by simp [hlt']);rw [List.getElem?_eq_getElem (by omega)] at h3;exact ih _ _ _ n (hall _ hf) h3)
    rw [List.drop_zero,Nat.sub_zero,List.take_of_length_le (by omega)] at h1;refine ⟨ds,h1,?_⟩;simp only [jp,hu];refine ⟨by rw [h1.1,hcl],λf hf=>?_⟩;have:=(h2 f hf).2
    rwa [Nat.sub_zero] at this
   ·simp at hok
def vL (P:Program) (D:Nat) (t:TypeId):VD->Prop
 | .c d=>jp P D t [d]
 | .agg ds=>(∃ fs,P.underlying t=some (.struct fs))/\jp P D t ds
theorem FW {H:Type} {enc:TypeId×Value->H} {P:Program} {w:World} {base b0:Nat} {spare:Nat->Bool} {held:Bool} {r:Reach} {D:Nat} {t:TypeId} {v:Value} {d:DataW H} {ps:List MemPlace}
 (hok:okT P D t=true) (hval:Value.okWide P w r b0 t v) (h:DataW.Trod enc P w base spare held t v d ps):∃ vd,RdV w v vd/\vL P D t vd:=by
 obtain ⟨fuel,hf⟩:=h;obtain ⟨ds,hr,hfit⟩:=C5 D t _ _ fuel hok hf
 have one:v.cells = #[v]->(∀ fs,P.underlying t≠some (.struct fs))->∃ vd,RdV w v vd/\vL P D t vd:=by
  intro hc _;rw [hc] at hr;obtain ⟨hl,hr⟩:=hr
  cases ds with
  |nil=>simp at hl
  | cons d ds =>
    cases ds with
    |nil=>exact ⟨.c d,hr 0 v d rfl rfl,hfit⟩
    |cons _ _=>simp at hl
 cases D with
 |zero=>simp [okT] at hok
 | succ D =>
   unfold okT at hok
   split at hok
   ·rename_i hu
    obtain ⟨b,rfl⟩:=okWide_bool hu hval;exact one rfl (λfs h=>by rw [hu] at h;simp at h)
   ·rename_i k hu
    obtain ⟨n,rfl⟩:=okWide_int hu hval;exact one rfl (λfs h=>by rw [hu] at h;simp at h)
   ·rename_i hu
    obtain ⟨s,rfl⟩:=okWide_string hu hval;exact one rfl (λfs h=>by rw [hu] at h;simp at h)
   ·rename_i e hu
    obtain ⟨a,l,c,rfl⟩:=okWide_slice hu hval;exact one rfl (λfs h=>by rw [hu] at h;simp at h)
   ·rename_i fs hu
    obtain ⟨cs,rfl,-⟩:=okWide_struct hu hval;obtain ⟨hl,hr⟩:=hr;refine ⟨.agg ds,⟨cs,rfl,by simpa [Value.cells] using hl.symm,λj d hd=>?_⟩,⟨fs,hu⟩,hfit⟩
    have hj:j<cs.size:=by
     have:=(List.getElem?_eq_some_iff.1 hd).1;simp [Value.cells] at hl;omega
    have:=hr j cs[j] d (by simp [Value.cells,hj]) hd
    simpa [hj] using this
   ·simp at hok
def ku (P:Program) (D:Nat) (w:World):List TypeId->List Value->List VD->Prop
 | [],[],[]=>True
 |t::ts,v::vs,d::ds=>(RdV w v d/\vL P D t d)/\ku P D w ts vs ds
 |_,_,_=>False
theorem uV {H:Type} {enc:TypeId×Value->H} {P:Program} {w:World} {base b0:Nat} {spare:Nat->Bool} {held:Bool} {r:Reach} {D:Nat} :
 ∀ (ts : List TypeId) (vs : List Value) (ds : List (DataW H)) (ps : List MemPlace), (ts.all λt => okT P D t) = true -> (∀ (j : Nat) t v, ts[j]? = some t -> vs[j]? = some v -> Value.okWide P w r b0 t v) ->
   DataW.TrodAll enc P w base spare held ts vs ds ps->∃ vds,ku P D w ts vs vds
 | [], vs, ds, ps, _, _, h => by
   obtain ⟨rfl,-,-⟩:=trodAll_nil h;exact ⟨[],trivial⟩
 | t :: ts, vs, ds, ps, hok, hval, h => by
   obtain ⟨v,vs1,d,ds1,a,b,rfl,rfl,rfl,h1,h2⟩:=trodAll_cons h;simp only [List.all_cons,Bool.and_eq_true] at hok;obtain ⟨vds,h3⟩:=uV ts vs1 ds1 b hok.2 (λj t v ht hv=>hval (j+1) t v (by simpa using ht) (by simpa using hv)) h2;obtain ⟨vd,h4,h5⟩:=FW hok.1 (hval 0 t v rfl rfl) h1;exact ⟨vd::vds,⟨h4,h5⟩,h3⟩
theorem qO {P:Program} {D:Nat} {w:World}:∀ (ts:List TypeId) (vs:List Value) (vds:List VD),ku P D w ts vs vds->vs.length=vds.length/\∀ (i:Nat) vd,vds[i]? = some vd->RdV w (vs.toArray.getD i undef) vd
 | [],[],[],_=>⟨rfl,λi vd h=>by simp at h⟩
 | t :: ts, v :: vs, d :: ds, h => by
   obtain ⟨h1,h2⟩:=qO ts vs ds h.2;refine ⟨by simp [h1],λi vd hi=>?_⟩
   cases i with
   |zero=>simp at hi;subst hi;simpa using h.1.1
   |succ i=>simpa using h2 i vd (by simpa using hi)
theorem uB {H:Type} {enc:TypeId×Value->H} {P:Program} (hl:laidOutB P=true) {W W':World} (hb:Below W.heap.size W W') {sp:Nat->Bool} :
 ∀ (ts : List TypeId) (vs : List Value) (ds : List (DataW H)) (ps : List MemPlace), (ts.all λt => P.readableRec t && decide (t < P.types.size)) = true -> DataW.TrodAll enc P W 0 (λ_ => true) true ts vs ds ps ->
   (∀ x∈ps,x.block<W.heap.size)->(∀ x∈ps,sp x.block=true)->DataW.TrodAll enc P W' 0 sp true ts vs ds ps
 | [], vs, ds, ps, _, h, _, _ => by
   obtain ⟨rfl,rfl,rfl⟩:=trodAll_nil h;rfl
 | t :: ts, vs, ds, ps, hok, h, hlt, hsp => by
   obtain ⟨v,vs1,d,ds1,a,b,rfl,rfl,rfl,h1,h2⟩:=trodAll_cons h;simp only [List.all_cons,Bool.and_eq_true,decide_eq_true_eq] at hok;refine ⟨a,b,WideElems.Trod_stays hl hok.1.1 hok.1.2 h1 (λx hx=>hb.same (hlt x (by simp [hx]))) (λx hx=>hsp x (by simp [hx])),uB hl hb ts vs1 ds1 b (by simpa using hok.2) h2 (λx hx=>hlt x (by simp [hx])) (λx hx=>hsp x (by simp [hx])),rfl⟩
theorem Dl {L:World->Prop} {H:Type} {enc:TypeId×Value->H} {P:Program} (hlaid:laidOutB P=true) {f:FuncId} {fn:Func} {s:ChangeSpec} {apart fresh handsOn:Bool} {D:Nat} {bt:TypeId}
 (hv:s.vars=[]) (hres:fn.resultTypes = #[bt]) (hbt:P.underlying bt=some .bool) (hokT:(fn.params.toList.all λt=>okT P D t)=true) (hread:(fn.params.toList.all λt=>P.readableRec t && decide (t<P.types.size))=true)
 (hs:∀ ds:List (DataW H),ds.length=fn.params.toList.length->s.fn H ds={ results:=[.lit (.bool true)],args:=ds })
 {W:World} {args:Array Value} {r:Reach} {b0:Nat} {ds gs:List (DataW H)} {before:List MemPlace}
 (hval:∀ (j:Nat) t v,fn.params[j]? = some t->args[j]? = some v->Value.okWide P W r b0 t v)
 (hW:DataW.Whole enc P fn.params.toList s.vars apart W args.toList ds gs before)
 (hLW:L W) (hwalk:∀ vds,ku P D W fn.params.toList args.toList vds->bZ P L f vds (.one (.c (.v (.bool true)) 1))) :
 Calls P f args W λe W'=>∃ v,e=.returned v/\s.post enc P fn apart fresh handsOn false W args v W':=by
 have hW0:=hW;obtain ⟨p,q,hA,hV,rfl,hfz,hnd⟩:=hW;rw [hv] at hV;obtain ⟨rfl,rfl⟩:=trodVars_none hV;obtain ⟨vds,ho⟩:=uV (D:=D) fn.params.toList args.toList ds p hokT (λj t v ht hv=>hval j t v (by simpa using ht) (by simpa using hv)) hA;obtain ⟨hl,hr⟩:=qO _ _ _ ho
 have hlen:ds.length=fn.params.toList.length:=by
  have:∀ (ts:List TypeId) (vs:List Value) (ds:List (DataW H)) (ps:List MemPlace),DataW.TrodAll enc P W 0 (λ_=>true) true ts vs ds ps->ds.length=ts.length:=by
   intro ts
   induction ts with
   |nil=>intro vs ds ps h;obtain ⟨-,rfl,-⟩:=trodAll_nil h;rfl
   | cons t ts ih =>
     intro vs ds ps h;obtain ⟨v,vs1,d,ds1,a,b,rfl,rfl,rfl,h1,h2⟩:=trodAll_cons h;simp [ih _ _ _ h2]
  exact this _ _ _ _ hA
 refine ((hwalk vds ho).2 W hLW args (by simpa using hl) (λi vd hi=>by simpa using hr i vd hi)).mono ?_
 rintro e W' ⟨v,rfl,hb,hrr⟩
 have hv1:v=.bool true:=hrr.1;subst hv1;have hs':=hs ds hlen;refine ⟨_,rfl,ds,[],p,[],p,[],by simpa using hW0,?_,?_,?_,?_,λh=>by cases h⟩
 ·rw [List.append_nil,hs',hres]
  exact trodAll_mk1 (shut_bool hbt true)
 ·rw [List.append_nil,hs']
  have hlt:∀ x∈p,x.block<W.heap.size:=λx hx=>hW0.lt x (by simp [hx])
  exact uB hlaid hb _ _ _ _ hread hA hlt (λx hx=>by simpa using hlt x hx)
 ·rw [hv]
  have:(s.fn H (ds++[])).vars=[]:=by rw [List.append_nil,hs']
  rw [this];exact rfl
 ·exact hb.frame _
theorem N2 {n:Int} (h:(Lit.int .u8 n).wf=true):0<=n/\n<=255:=by
 have:IntKind.u8.min=0:=rfl;have h2:IntKind.u8.max=255:=rfl;simp only [Lit.wf,Bool.and_eq_true,decide_eq_true_eq] at h;omega
section
variable {P:Program} {D:Nat} {t e:TypeId} {vd:VD} {ds:List CD}
theorem GK {k:IntKind} (hu:P.underlying t=some (.int k)) (h:jp P D t ds):∃ n,ds=[.v (.int k n)]/\(Lit.int k n).wf=true:=by
 cases D with
 |zero=>exact h.elim
 |succ D=>simpa only [jp,hu] using h
theorem A0 (hu:P.underlying t=some (.slice e)) (h:jp P D t ds):∃ rows,ds=[.s rows]/\rows.length<=maxLen/\∃ D',∀ row∈rows,row.length=P.cellsOf e/\jp P D' e row:=by
 cases D with
 |zero=>exact h.elim
 | succ D =>
   simp only [jp,hu] at h;obtain ⟨rows,h1,h2,h3⟩:=h;exact ⟨rows,h1,h2,D,h3⟩
theorem Jm {de:TypeDesc} (hu:P.underlying t=some de) (hn:∀ fs,de≠.struct fs) (h:vL P D t vd):∃ d,vd=.c d/\jp P D t [d]:=by
 cases vd with
 |c d=>exact ⟨d,rfl,h⟩
 | agg ds =>
   obtain ⟨⟨fs,h1⟩,-⟩:=h;rw [hu] at h1;simp only [Option.some.injEq] at h1;exact absurd h1 (hn fs)
theorem yg {α:Type} {f:α->List CD} {ok:α->Prop}:∀ (rows:List (List CD)),(∀ row∈rows,∃ x,row=f x/\ok x)->∃ l:List α,rows=l.map f/\∀ x∈l,ok x
 | [],_=>⟨[],rfl,by simp⟩
 | row :: rows, h => by
   obtain ⟨x,h1,h2⟩:=h row (List.mem_cons_self ..);obtain ⟨l,h3,h4⟩:=yg rows (λr hr=>h r (List.mem_cons_of_mem _ hr));exact ⟨x::l,by rw [h1,h3];rfl,by simpa using ⟨h2,h4⟩⟩
theorem A1 (hu:P.underlying t=some (.slice e)) (he:P.underlying e=some (.int .u8)) (h:jp P D t ds):∃ l:List UInt8,ds=[.s (l.map dL)]/\l.length<=9223372036854775807:=by
 obtain ⟨rows,rfl,h1,D',h2⟩:=A0 hu h
 obtain ⟨l,rfl,-⟩:=yg (f:=dL) (ok:=λ_=>True) rows (λrow hrow=>by
  obtain ⟨n,h3,h4⟩:=GK he (h2 row hrow).2;have:=N2 h4;refine ⟨UInt8.ofNat n.toNat,?_,trivial⟩;rw [h3]
  have h5:((UInt8.ofNat n.toNat).toNat:Int)=n:=by
   rw [UInt8.toNat_ofNat'];omega
  unfold dL;rw [h5])
 refine ⟨l,rfl,?_⟩;have:maxLen=9223372036854775807:=rfl
 simpa [this] using h1
theorem zc (hu:P.underlying t=some (.slice e)) (he:P.underlying e=some (.int .u8)) (h:vL P D t vd):∃ l:List UInt8,vd=.c (.s (l.map dL))/\l.length<=9223372036854775807:=by
 obtain ⟨d,rfl,h1⟩:=Jm hu (λfs h=>by cases h) h;obtain ⟨l,h2,h3⟩:=A1 hu he h1;simp only [List.cons.injEq,and_true] at h2;exact ⟨l,by rw [h2],h3⟩
end
theorem ku.nil {P:Program} {D:Nat} {w:World} {vs:List Value} {vds:List VD} (h:ku P D w [] vs vds):vds=[]:=by
 cases vs with
 | nil => cases vds with
   |nil=>rfl
   |cons _ _=>exact h.elim
 |cons _ _=>exact h.elim
theorem ku.cons {P:Program} {D:Nat} {w:World} {t:TypeId} {ts:List TypeId} {vs:List Value} {vds:List VD} (h:ku P D w (t::ts) vs vds) :
 ∃ vd vds',vds=vd::vds'/\vL P D t vd/\∃ vs',ku P D w ts vs' vds':=by
 cases vs with
 |nil=>cases vds<;>exact h.elim
 | cons v vs => cases vds with
   |nil=>exact h.elim
   |cons d ds=>exact ⟨d,ds,rfl,h.1.2,vs,h.2⟩
section
variable {α:Type} {mk:α->Int->α} {cn:α->Nat}
variable {f:α->List CD} {l:List α} {k:Int} {i:Nat}
end
abbrev one {α:Type} (_:α):Nat:=1
end Go.AM
namespace Go.Proofs.YthckkpphnmmfdaaGreatDoor
open Go.AM
set_option maxRecDepth 20000
def sF (n:Int):Prop:=-9223372036854775808<=n/\n<=9223372036854775807
def cf {α:Type} (f:α->Nat):List α->Nat
 | []=>0
 |a::l=>f a+cf f l
theorem xP {α:Type} {f:α->Nat}:∀ {l:List α} {a:α},a∈l->f a<=cf f l
 | b :: l, a, h => by
   simp only [cf];rcases List.mem_cons.1 h with rfl|h
   ·omega
   ·have:=xP (f:=f) h;omega
def nL {α:Type} (f:α->Nat) (l:List α):Nat:=l.length+cf f l
theorem cF {α:Type} {f:α->Nat} {l:List α} {B:Nat} (h:nL f l<=B):l.length<=B:=by unfold nL at h;omega
theorem gf {α:Type} {f:α->Nat} {l:List α} {B:Nat} (h:nL f l<=B) {a:α} (ha:a∈l):f a<=B:=by have:=xP (f:=f) ha;unfold nL at h;omega
theorem jy {α:Type} {f:α->Nat} {l:List α} {B:Nat} (h:nL f l<=B) {i:Nat} (hi:i<l.length):f l[i]<=B:=gf h (List.getElem_mem hi)
structure Part where
 kind:Int
 n:Int
 signs:List Int
 deriving Inhabited
def Part.row (x:Part):List CD:=[vi x.kind,vi x.n,.s (x.signs.map bc)]
def Part.res (x:Part):List (CD×Nat):=[(vi x.kind,1),(vi x.n,1),(.s (x.signs.map bc),1)]
@[simp] theorem Part.row_len {x:Part}:x.row.length=3:=rfl
def aC (x:Part):Nat:=x.signs.length
structure Entry where
 client:Int
 seq:Int
 o:List Part
def Entry.row (x:Entry):List CD:=[vi x.client,vi x.seq,.s (x.o.map Part.row)]
def Entry.res (x:Entry):List (CD×Nat):=[(vi x.client,1),(vi x.seq,1),(.s (x.o.map Part.row),3)]
@[simp] theorem Entry.row_len {x:Entry}:x.row.length=3:=rfl
def ca (x:Entry):Nat:=nL aC x.o
structure Seen where
 client:Int
 seq:Int
 rev:Int
def Seen.row (x:Seen):List CD:=[vi x.client,vi x.seq,vi x.rev]
def Seen.res (x:Seen):List (CD×Nat):=[(vi x.client,1),(vi x.seq,1),(vi x.rev,1)]
@[simp] theorem Seen.row_len {x:Seen}:x.row.length=3:=rfl
structure Doc where
 name:ByteArray
 fr:Int
 text:List Int
 list:List Entry
 seen:List Seen
def Doc.row (x:Doc):List CD:=[.v (.string x.name),vi x.fr,.s (x.text.map bc),.s (x.list.map Entry.row),.s (x.seen.map Seen.row)]
def Doc.res (x:Doc):List (CD×Nat):=[(.v (.string x.name),1),(vi x.fr,1),(.s (x.text.map bc),1),(.s (x.list.map Entry.row),3),(.s (x.seen.map Seen.row),3)]
@[simp] theorem Doc.row_len {x:Doc}:x.row.length=5:=rfl
def en (x:Doc):Nat:=x.name.size+(x.text.length+(nL ca x.list+(x.seen.length)))
structure Ring where
 cap:Int
 next:Int
 out:Bool
 list:List Entry
def Ring.row (x:Ring):List CD:=[vi x.cap,vi x.next,.v (.bool x.out),.s (x.list.map Entry.row)]
def Ring.res (x:Ring):List (CD×Nat):=[(vi x.cap,1),(vi x.next,1),(.v (.bool x.out),1),(.s (x.list.map Entry.row),3)]
@[simp] theorem Ring.row_len {x:Ring}:x.row.length=4:=rfl
def jx (x:Ring):Nat:=nL ca x.list
structure Sub where
 id:Int
 doc:ByteArray
 r:Ring
def Sub.row (x:Sub):List CD:=[vi x.id,.v (.string x.doc),vi x.r.cap,vi x.r.next,.v (.bool x.r.out),.s (x.r.list.map Entry.row)]
def Sub.res (x:Sub):List (CD×Nat):=[(vi x.id,1),(.v (.string x.doc),1),(vi x.r.cap,1),(vi x.r.next,1),(.v (.bool x.r.out),1),(.s (x.r.list.map Entry.row),3)]
@[simp] theorem Sub.row_len {x:Sub}:x.row.length=6:=rfl
def kM (x:Sub):Nat:=x.doc.size+(jx x.r)
structure Hub where
 shut:Bool
 docs:List Doc
 subs:List Sub
 last:Int
def Hub.row (x:Hub):List CD:=[.v (.bool x.shut),.s (x.docs.map Doc.row),.s (x.subs.map Sub.row),vi x.last]
def Hub.res (x:Hub):List (CD×Nat):=[(.v (.bool x.shut),1),(.s (x.docs.map Doc.row),5),(.s (x.subs.map Sub.row),6),(vi x.last,1)]
@[simp] theorem Hub.row_len {x:Hub}:x.row.length=4:=rfl
def ja (x:Hub):Nat:=nL en x.docs+(nL kM x.subs)
structure Call where
 kind:Int
 doc:ByteArray
 client:Int
 seq:Int
 n:Int
 o:List Part
 text:List Int
def Call.row (x:Call):List CD:=[vi x.kind,.v (.string x.doc),vi x.client,vi x.seq,vi x.n,.s (x.o.map Part.row),.s (x.text.map bc)]
def Call.res (x:Call):List (CD×Nat):=[(vi x.kind,1),(.v (.string x.doc),1),(vi x.client,1),(vi x.seq,1),(vi x.n,1),(.s (x.o.map Part.row),3),(.s (x.text.map bc),1)]
@[simp] theorem Call.row_len {x:Call}:x.row.length=7:=rfl
def fp (x:Call):Nat:=x.doc.size+(nL aC x.o+(x.text.length))
structure Answer where
 code:Int
 rev:Int
 text:List Int
 list:List Entry
def Answer.row (x:Answer):List CD:=[vi x.code,vi x.rev,.s (x.text.map bc),.s (x.list.map Entry.row)]
def Answer.res (x:Answer):List (CD×Nat):=[(vi x.code,1),(vi x.rev,1),(.s (x.text.map bc),1),(.s (x.list.map Entry.row),3)]
@[simp] theorem Answer.row_len {x:Answer}:x.row.length=4:=rfl
structure Task where
 c:Call
 pc:Int
 inv:Int
 lin:Int
 rs:Int
 a:Answer
def Task.row (x:Task):List CD:=[vi x.c.kind,.v (.string x.c.doc),vi x.c.client,vi x.c.seq,vi x.c.n,.s (x.c.o.map Part.row),.s (x.c.text.map bc),vi x.pc,vi x.inv,vi x.lin,vi x.rs,vi x.a.code,vi x.a.rev,.s (x.a.text.map bc),.s (x.a.list.map Entry.row)]
def Task.res (x:Task):List (CD×Nat):=[(vi x.c.kind,1),(.v (.string x.c.doc),1),(vi x.c.client,1),(vi x.c.seq,1),(vi x.c.n,1),(.s (x.c.o.map Part.row),3),(.s (x.c.text.map bc),1),(vi x.pc,1),(vi x.inv,1),(vi x.lin,1),(vi x.rs,1),(vi x.a.code,1),(vi x.a.rev,1),(.s (x.a.text.map bc),1),(.s (x.a.list.map Entry.row),3)]
@[simp] theorem Task.row_len {x:Task}:x.row.length=15:=rfl
structure Queue where
 doc:ByteArray
 list:List Int
def Queue.row (x:Queue):List CD:=[.v (.string x.doc),.s (x.list.map bc)]
def Queue.res (x:Queue):List (CD×Nat):=[(.v (.string x.doc),1),(.s (x.list.map bc),1)]
@[simp] theorem Queue.row_len {x:Queue}:x.row.length=2:=rfl
structure Wld where
 h:Hub
 locks:List Int
 queues:List Queue
 tasks:List Task
 step:Int
def Wld.row (x:Wld):List CD:=[.v (.bool x.h.shut),.s (x.h.docs.map Doc.row),.s (x.h.subs.map Sub.row),vi x.h.last,.s (x.locks.map bc),.s (x.queues.map Queue.row),.s (x.tasks.map Task.row),vi x.step]
def Wld.res (x:Wld):List (CD×Nat):=[(.v (.bool x.h.shut),1),(.s (x.h.docs.map Doc.row),5),(.s (x.h.subs.map Sub.row),6),(vi x.h.last,1),(.s (x.locks.map bc),1),(.s (x.queues.map Queue.row),2),(.s (x.tasks.map Task.row),15),(vi x.step,1)]
@[simp] theorem Wld.row_len {x:Wld}:x.row.length=8:=rfl
structure Rep where
 client:Int
 seq:Int
 rev:Int
 text:List Int
 has:Bool
 sent:List Part
 buf:List Part
def Rep.row (x:Rep):List CD:=[vi x.client,vi x.seq,vi x.rev,.s (x.text.map bc),.v (.bool x.has),.s (x.sent.map Part.row),.s (x.buf.map Part.row)]
def Rep.res (x:Rep):List (CD×Nat):=[(vi x.client,1),(vi x.seq,1),(vi x.rev,1),(.s (x.text.map bc),1),(.v (.bool x.has),1),(.s (x.sent.map Part.row),3),(.s (x.buf.map Part.row),3)]
@[simp] theorem Rep.row_len {x:Rep}:x.row.length=7:=rfl
def dG (x:Rep):Nat:=x.text.length+(nL aC x.sent+(nL aC x.buf))
structure Net where
 d:Doc
 reps:List Rep
def Net.row (x:Net):List CD:=[.v (.string x.d.name),vi x.d.fr,.s (x.d.text.map bc),.s (x.d.list.map Entry.row),.s (x.d.seen.map Seen.row),.s (x.reps.map Rep.row)]
def Net.res (x:Net):List (CD×Nat):=[(.v (.string x.d.name),1),(vi x.d.fr,1),(.s (x.d.text.map bc),1),(.s (x.d.list.map Entry.row),3),(.s (x.d.seen.map Seen.row),3),(.s (x.reps.map Rep.row),7)]
@[simp] theorem Net.row_len {x:Net}:x.row.length=6:=rfl
def tQ (x:Net):Nat:=en x.d+(nL dG x.reps)
structure Event where
 kind:Int
 who:Int
 n:Int
 o:List Part
def Event.row (x:Event):List CD:=[vi x.kind,vi x.who,vi x.n,.s (x.o.map Part.row)]
def Event.res (x:Event):List (CD×Nat):=[(vi x.kind,1),(vi x.who,1),(vi x.n,1),(.s (x.o.map Part.row),3)]
@[simp] theorem Event.row_len {x:Event}:x.row.length=4:=rfl
def gY (x:Event):Nat:=nL aC x.o
structure Desk where
 h:Hub
 n:Net
def Desk.row (x:Desk):List CD:=[.v (.bool x.h.shut),.s (x.h.docs.map Doc.row),.s (x.h.subs.map Sub.row),vi x.h.last,.v (.string x.n.d.name),vi x.n.d.fr,.s (x.n.d.text.map bc),.s (x.n.d.list.map Entry.row),.s (x.n.d.seen.map Seen.row),.s (x.n.reps.map Rep.row)]
def Desk.res (x:Desk):List (CD×Nat):=[(.v (.bool x.h.shut),1),(.s (x.h.docs.map Doc.row),5),(.s (x.h.subs.map Sub.row),6),(vi x.h.last,1),(.v (.string x.n.d.name),1),(vi x.n.d.fr,1),(.s (x.n.d.text.map bc),1),(.s (x.n.d.list.map Entry.row),3),(.s (x.n.d.seen.map Seen.row),3),(.s (x.n.reps.map Rep.row),7)]
@[simp] theorem Desk.row_len {x:Desk}:x.row.length=10:=rfl
theorem mix:Tryz.prog.follows .mixedOrders=true:=by kernel_rfl
end Go.Proofs.YthckkpphnmmfdaaGreatDoor
