import Derived.Test.YtmccaifipoohfaaGreatDoorMG
import Derived.Test.YtmccaifipoohfaaGreatDoorRows
import Derived.Test.YtmccaifipoohfaaGreatDoorME
import Derived.IntWalk
import Derived.ProofKit
import Derived.Deep.Slices
import Derived.Test.YtmccaifipoohfaaGreatDoorMF
namespace Go.Proofs.YtmccaifipoohfaaGreatDoor
open Go.AM
def ti2:TI:={ n:=1,zero:=[.v (.int .i64 0)],bytes:=8,kind:=some .i64 }
def ti3:TI:={ n:=1,zero:=[.v (.int .i64 0)],bytes:=8,kind:=some .i64 }
def ti4:TI:={ n:=1,zero:=[.v (.bool false)],bytes:=1,boo:=true }
def ti5:TI:={ n:=1,zero:=[.v (.int .u8 0)],bytes:=1,kind:=some .u8 }
def ti6:TI:={ n:=1,zero:=[.v (.int .u8 0)],bytes:=1,kind:=some .u8 }
def ti7:TI:={ agg:=true,n:=4,zero:=[.v (.int .i64 0),.v (.int .i64 0),.v (.bool false),.v (.int .u8 0)],fields:=[(0,1),(1,1),(2,1),(3,1)],fagg:=[false,false,false,false],bytes:=24,pln:=true }
def ti8:TI:={ agg:=true,n:=4,zero:=[.v (.int .i64 0),.v (.int .i64 0),.v (.bool false),.v (.int .u8 0)],fields:=[(0,1),(1,1),(2,1),(3,1)],fagg:=[false,false,false,false],bytes:=24,pln:=true }
def ti9:TI:={ n:=1,zero:=[.v (.string ⟨#[]⟩)],bytes:=16,str:=true }
def agJ:TI:={ n:=1,zero:=[.v (.string ⟨#[]⟩)],bytes:=16,str:=true }
def agI:TI:={ n:=1,zero:=[.v (.string ⟨#[]⟩)],bytes:=16,str:=true }
def agH:TI:={ n:=1,zero:=[.v (.int .u64 0)],bytes:=8,kind:=some .u64 }
def agG:TI:={ agg:=true,n:=2,zero:=[.v (.string ⟨#[]⟩),.v (.int .u64 0)],fields:=[(0,1),(1,1)],fagg:=[false,false],bytes:=24,pln:=true }
def agF:TI:={ agg:=true,n:=2,zero:=[.v (.string ⟨#[]⟩),.v (.int .u64 0)],fields:=[(0,1),(1,1)],fagg:=[false,false],bytes:=24,pln:=true }
def agE:TI:={ n:=1,zero:=[.v (.int .i32 0)],bytes:=4,kind:=some .i32 }
def agD:TI:={ n:=1,zero:=[.nil],sl:=some 5,bytes:=24,pln:=false }
def agC:TI:={ n:=1,zero:=[.nil],sl:=some 9,bytes:=24,pln:=false }
def agB:TI:={ n:=1,zero:=[.nil],sl:=some 33,bytes:=24,pln:=false }
def agA:TI:={ n:=1,zero:=[.nil],sl:=some 150,bytes:=24,pln:=false }
def agz:TI:={ agg:=true,n:=4,zero:=[.v (.bool false),.nil,.nil,.v (.int .i64 0)],fields:=[(0,1),(1,1),(2,1),(3,1)],fagg:=[false,false,false,false],bytes:=64,pln:=false }
def agy:TI:={ agg:=true,n:=4,zero:=[.v (.bool false),.nil,.nil,.v (.int .i64 0)],fields:=[(0,1),(1,1),(2,1),(3,1)],fagg:=[false,false,false,false],bytes:=64,pln:=false }
def agx:TI:={ n:=1,zero:=[.nil],sl:=some 3,bytes:=24,pln:=false }
def agw:TI:={ n:=1,zero:=[.nil],sl:=some 116,bytes:=24,pln:=false }
def agv:TI:={ n:=1,zero:=[.nil],sl:=some 128,bytes:=24,pln:=false }
def agu:TI:={ agg:=true,n:=5,zero:=[.v (.string ⟨#[]⟩),.v (.int .i64 0),.nil,.nil,.nil],fields:=[(0,1),(1,1),(2,1),(3,1),(4,1)],fagg:=[false,false,false,false,false],bytes:=96,pln:=false }
def Is:TI:={ agg:=true,n:=5,zero:=[.v (.string ⟨#[]⟩),.v (.int .i64 0),.nil,.nil,.nil],fields:=[(0,1),(1,1),(2,1),(3,1),(4,1)],fagg:=[false,false,false,false,false],bytes:=96,pln:=false }
def agt:TI:={ n:=1,zero:=[.nil],sl:=some 76,bytes:=24,pln:=false }
def ags:TI:={ agg:=true,n:=6,zero:=[.v (.string ⟨#[]⟩),.v (.int .i64 0),.nil,.nil,.nil,.nil],fields:=[(0,5),(5,1)],fagg:=[true,false],bytes:=120,pln:=false }
def agr:TI:={ agg:=true,n:=6,zero:=[.v (.string ⟨#[]⟩),.v (.int .i64 0),.nil,.nil,.nil,.nil],fields:=[(0,5),(5,1)],fagg:=[true,false],bytes:=120,pln:=false }
def agq:TI:={ agg:=true,n:=10,zero:=[.v (.bool false),.nil,.nil,.v (.int .i64 0),.v (.string ⟨#[]⟩),.v (.int .i64 0),.nil,.nil,.nil,.nil],fields:=[(0,4),(4,6)],fagg:=[true,true],bytes:=184,pln:=false }
def agp:TI:={ agg:=true,n:=10,zero:=[.v (.bool false),.nil,.nil,.v (.int .i64 0),.v (.string ⟨#[]⟩),.v (.int .i64 0),.nil,.nil,.nil,.nil],fields:=[(0,4),(4,6)],fagg:=[true,true],bytes:=184,pln:=false }
def ago:TI:={ n:=1,zero:=[.nil],sl:=some 211,bytes:=24,pln:=false }
def agn:TI:={ agg:=true,n:=7,zero:=[.v (.int .i64 0),.v (.string ⟨#[]⟩),.v (.int .i64 0),.v (.int .i64 0),.v (.int .i64 0),.nil,.nil],fields:=[(0,1),(1,1),(2,1),(3,1),(4,1),(5,1),(6,1)],fagg:=[false,false,false,false,false,false,false],bytes:=96,pln:=false }
def agm:TI:={ agg:=true,n:=7,zero:=[.v (.int .i64 0),.v (.string ⟨#[]⟩),.v (.int .i64 0),.v (.int .i64 0),.v (.int .i64 0),.nil,.nil],fields:=[(0,1),(1,1),(2,1),(3,1),(4,1),(5,1),(6,1)],fagg:=[false,false,false,false,false,false,false],bytes:=96,pln:=false }
def agl:TI:={ agg:=true,n:=4,zero:=[.v (.int .i64 0),.v (.int .i64 0),.nil,.nil],fields:=[(0,1),(1,1),(2,1),(3,1)],fagg:=[false,false,false,false],bytes:=64,pln:=false }
def agk:TI:={ agg:=true,n:=4,zero:=[.v (.int .i64 0),.v (.int .i64 0),.nil,.nil],fields:=[(0,1),(1,1),(2,1),(3,1)],fagg:=[false,false,false,false],bytes:=64,pln:=false }
def agj:TI:={ agg:=true,n:=4,zero:=[.v (.int .i64 0),.v (.int .i64 0),.v (.int .i64 0),.nil],fields:=[(0,1),(1,1),(2,1),(3,1)],fagg:=[false,false,false,false],bytes:=48,pln:=false }
def agi:TI:={ agg:=true,n:=4,zero:=[.v (.int .i64 0),.v (.int .i64 0),.v (.int .i64 0),.nil],fields:=[(0,1),(1,1),(2,1),(3,1)],fagg:=[false,false,false,false],bytes:=48,pln:=false }
def agh:TI:={ agg:=true,n:=7,zero:=[.v (.int .i64 0),.v (.int .i64 0),.v (.int .i64 0),.nil,.v (.bool false),.nil,.nil],fields:=[(0,1),(1,1),(2,1),(3,1),(4,1),(5,1),(6,1)],fagg:=[false,false,false,false,false,false,false],bytes:=104,pln:=false }
def agf:TI:={ agg:=true,n:=7,zero:=[.v (.int .i64 0),.v (.int .i64 0),.v (.int .i64 0),.nil,.v (.bool false),.nil,.nil],fields:=[(0,1),(1,1),(2,1),(3,1),(4,1),(5,1),(6,1)],fagg:=[false,false,false,false,false,false,false],bytes:=104,pln:=false }
def age:TI:={ agg:=true,n:=3,zero:=[.nil,.v (.int .i64 0),.v (.int .i64 0)],fields:=[(0,1),(1,1),(2,1)],fagg:=[false,false,false],bytes:=40,pln:=false }
def agd:TI:={ agg:=true,n:=3,zero:=[.nil,.v (.int .i64 0),.v (.int .i64 0)],fields:=[(0,1),(1,1),(2,1)],fagg:=[false,false,false],bytes:=40,pln:=false }
def aa0:TI:={ agg:=true,n:=3,zero:=[.v (.int .i64 0),.v (.int .i64 0),.nil],fields:=[(0,1),(1,1),(2,1)],fagg:=[false,false,false],bytes:=40,pln:=false }
def aaZ:TI:={ agg:=true,n:=3,zero:=[.v (.int .i64 0),.v (.int .i64 0),.nil],fields:=[(0,1),(1,1),(2,1)],fagg:=[false,false,false],bytes:=40,pln:=false }
def aaY:TI:={ agg:=true,n:=3,zero:=[.v (.int .i64 0),.v (.int .i64 0),.v (.int .i64 0)],fields:=[(0,1),(1,1),(2,1)],fagg:=[false,false,false],bytes:=24,pln:=true,ieq:=true }
def yu:TI:={ agg:=true,n:=3,zero:=[.v (.int .i64 0),.v (.int .i64 0),.v (.int .i64 0)],fields:=[(0,1),(1,1),(2,1)],fagg:=[false,false,false],bytes:=24,pln:=true,ieq:=true }
def aaX:TI:={ n:=1,zero:=[.nil],sl:=some 29,bytes:=24,pln:=false }
def aaW:TI:={ n:=1,zero:=[.nil],sl:=some 53,bytes:=24,pln:=false }
def aaV:TI:={ agg:=true,n:=4,zero:=[.v (.int .i64 0),.v (.int .i64 0),.v (.bool false),.nil],fields:=[(0,1),(1,1),(2,1),(3,1)],fagg:=[false,false,false,false],bytes:=48,pln:=false }
def aaU:TI:={ agg:=true,n:=4,zero:=[.v (.int .i64 0),.v (.int .i64 0),.v (.bool false),.nil],fields:=[(0,1),(1,1),(2,1),(3,1)],fagg:=[false,false,false,false],bytes:=48,pln:=false }
def aaT:TI:={ agg:=true,n:=6,zero:=[.v (.int .i64 0),.v (.string ⟨#[]⟩),.v (.int .i64 0),.v (.int .i64 0),.v (.bool false),.nil],fields:=[(0,1),(1,1),(2,4)],fagg:=[false,false,true],bytes:=72,pln:=false }
def aaS:TI:={ agg:=true,n:=6,zero:=[.v (.int .i64 0),.v (.string ⟨#[]⟩),.v (.int .i64 0),.v (.int .i64 0),.v (.bool false),.nil],fields:=[(0,1),(1,1),(2,4)],fagg:=[false,false,true],bytes:=72,pln:=false }
def aaR:TI:={ n:=1,zero:=[.v (.int .u64 0)],bytes:=8,kind:=some .u64 }
def aaQ:TI:={ agg:=true,n:=3,zero:=[.v (.int .i64 0),.v (.int .i64 0),.nil],fields:=[(0,1),(1,1),(2,1)],fagg:=[false,false,false],bytes:=40,pln:=false }
def aaP:TI:={ agg:=true,n:=3,zero:=[.v (.int .i64 0),.v (.int .i64 0),.nil],fields:=[(0,1),(1,1),(2,1)],fagg:=[false,false,false],bytes:=40,pln:=false }
def aaO:TI:={ agg:=true,n:=1,zero:=[.nil],fields:=[(0,1)],fagg:=[false],bytes:=24,pln:=false }
def aaN:TI:={ agg:=true,n:=1,zero:=[.nil],fields:=[(0,1)],fagg:=[false],bytes:=24,pln:=false }
def aaM:TI:={ n:=1,zero:=[.v (.int .u32 0)],bytes:=4,kind:=some .u32 }
def aaL:TI:={ agg:=true,n:=3,zero:=[.nil,.v (.int .i64 0),.v (.int .i64 0)],fields:=[(0,1),(1,1),(2,1)],fagg:=[false,false,false],bytes:=40,pln:=false }
def aaK:TI:={ agg:=true,n:=3,zero:=[.nil,.v (.int .i64 0),.v (.int .i64 0)],fields:=[(0,1),(1,1),(2,1)],fagg:=[false,false,false],bytes:=40,pln:=false }
def aaJ:TI:={ agg:=true,n:=3,zero:=[.nil,.nil,.v (.int .i64 0)],fields:=[(0,1),(1,1),(2,1)],fagg:=[false,false,false],bytes:=56,pln:=false }
def aaI:TI:={ agg:=true,n:=3,zero:=[.nil,.nil,.v (.int .i64 0)],fields:=[(0,1),(1,1),(2,1)],fagg:=[false,false,false],bytes:=56,pln:=false }
def aaH:TI:={ n:=1,zero:=[.v (.int .i64 0)],bytes:=8,kind:=some .i64 }
def aaG:TI:={ n:=1,zero:=[.v (.int .u64 0)],bytes:=8,kind:=some .u64 }
def aaF:TI:={ agg:=true,n:=2,zero:=[.v (.int .u8 0),.v (.int .u8 0)],fields:=[(0,1),(1,1)],fagg:=[false,false],bytes:=2,pln:=true }
def aaE:TI:={ agg:=true,n:=2,zero:=[.v (.int .u8 0),.v (.int .u8 0)],fields:=[(0,1),(1,1)],fagg:=[false,false],bytes:=2,pln:=true }
def aaD:TI:={ agg:=true,n:=1,zero:=[.v (.string ⟨#[]⟩)],fields:=[(0,1)],fagg:=[false],bytes:=16,pln:=true }
def aaC:TI:={ agg:=true,n:=1,zero:=[.v (.string ⟨#[]⟩)],fields:=[(0,1)],fagg:=[false],bytes:=16,pln:=true }
def aaB:TI:={ n:=1,zero:=[.v (.int .u8 0)],bytes:=1,kind:=some .u8 }
def aaA:TI:={ n:=1,zero:=[.v (.int .u8 0)],bytes:=1,kind:=some .u8 }
def aaz:TI:={ n:=1,zero:=[.v (.int .i32 0)],bytes:=4,kind:=some .i32 }
def aay:TI:={ n:=1,zero:=[.v (.int .i32 0)],bytes:=4,kind:=some .i32 }
def ai4:List (Nat×TI):=[(2,ti2),(3,ti3),(4,ti4),(5,ti5),(6,ti6),(7,ti7),(8,ti8),(9,ti9),(10,agJ),(11,agI),(12,agH),(13,agG),(14,agF),(21,agE),(22,agD),(23,agC),(25,agB),(26,agA),(27,agz),(28,agy),(29,agx),(30,agw),(31,agv),(32,agu),(33,Is),(34,agt),(35,ags),(36,agr),(37,agq),(38,agp),(53,ago),(54,agn),(55,agm),(58,agl),(59,agk),(63,agj),(64,agi),(75,agh),(76,agf),(80,age),(81,agd),(115,aa0),(116,aaZ),(127,aaY),(128,yu),(137,aaX),(145,aaW),(147,aaV),(148,aaU),(149,aaT),(150,aaS),(163,aaR),(210,aaQ),(211,aaP),(230,aaO),(231,aaN),(243,aaM),(246,aaL),(247,aaK),(249,aaJ),(250,aaI),(277,aaH),(289,aaG),(305,aaF),(306,aaE),(317,aaD),(318,aaC),(328,aaB),(329,aaA),(331,aaz),(332,aay)]
def tt:Nat->Option TI:=OU ai4
theorem al8:tt 2=some ti2:=rfl
theorem al7:tt 3=some ti3:=rfl
theorem al6:tt 4=some ti4:=rfl
theorem al5:tt 5=some ti5:=rfl
theorem al4:tt 6=some ti6:=rfl
theorem al3:tt 7=some ti7:=rfl
theorem al2:tt 8=some ti8:=rfl
theorem al1:tt 9=some ti9:=rfl
theorem ajA:tt 10=some agJ:=rfl
theorem ajz:tt 11=some agI:=rfl
theorem ajy:tt 12=some agH:=rfl
theorem ajx:tt 13=some agG:=rfl
theorem ajw:tt 14=some agF:=rfl
theorem ajv:tt 21=some agE:=rfl
theorem aju:tt 22=some agD:=rfl
theorem ajt:tt 23=some agC:=rfl
theorem ajs:tt 25=some agB:=rfl
theorem ajr:tt 26=some agA:=rfl
theorem ajq:tt 27=some agz:=rfl
theorem ajp:tt 28=some agy:=rfl
theorem ajo:tt 29=some agx:=rfl
theorem ajn:tt 30=some agw:=rfl
theorem ajm:tt 31=some agv:=rfl
theorem ajl:tt 32=some agu:=rfl
theorem Sn:tt 33=some Is:=rfl
theorem ajk:tt 34=some agt:=rfl
theorem ajj:tt 35=some ags:=rfl
theorem aji:tt 36=some agr:=rfl
theorem ajh:tt 37=some agq:=rfl
theorem ajg:tt 38=some agp:=rfl
theorem ajf:tt 53=some ago:=rfl
theorem aje:tt 54=some agn:=rfl
theorem ajd:tt 55=some agm:=rfl
theorem ajc:tt 58=some agl:=rfl
theorem ajb:tt 59=some agk:=rfl
theorem aja:tt 63=some agj:=rfl
theorem ai9:tt 64=some agi:=rfl
theorem ai8:tt 75=some agh:=rfl
theorem ai7:tt 76=some agf:=rfl
theorem ai6:tt 80=some age:=rfl
theorem ai5:tt 81=some agd:=rfl
theorem af7:tt 115=some aa0:=rfl
theorem af6:tt 116=some aaZ:=rfl
theorem af5:tt 127=some aaY:=rfl
theorem KT:tt 128=some yu:=rfl
theorem af4:tt 137=some aaX:=rfl
theorem af3:tt 145=some aaW:=rfl
theorem af2:tt 147=some aaV:=rfl
theorem af1:tt 148=some aaU:=rfl
theorem af0:tt 149=some aaT:=rfl
theorem afZ:tt 150=some aaS:=rfl
theorem afY:tt 163=some aaR:=rfl
theorem afX:tt 210=some aaQ:=rfl
theorem afW:tt 211=some aaP:=rfl
theorem afV:tt 230=some aaO:=rfl
theorem afU:tt 231=some aaN:=rfl
theorem afT:tt 243=some aaM:=rfl
theorem afS:tt 246=some aaL:=rfl
theorem afR:tt 247=some aaK:=rfl
theorem afQ:tt 249=some aaJ:=rfl
theorem afP:tt 250=some aaI:=rfl
theorem afO:tt 277=some aaH:=rfl
theorem afN:tt 289=some aaG:=rfl
theorem afM:tt 305=some aaF:=rfl
theorem afL:tt 306=some aaE:=rfl
theorem afK:tt 317=some aaD:=rfl
theorem afJ:tt 318=some aaC:=rfl
theorem afI:tt 328=some aaB:=rfl
theorem afH:tt 329=some aaA:=rfl
theorem afG:tt 331=some aaz:=rfl
theorem afF:tt 332=some aay:=rfl
theorem adu:(ai4.all λp=>DX Tryz.prog p.1 p.2)=true:=ah
theorem au:∀t ti,tt t=some ti->TIok Tryz.prog t ti:=aa3 adu
theorem eok{w0:World}{F G:Nat->Prop}{l:Bool}:EOk ⟨Tryz.prog,tt,w0,⟨F,G,l,λ_=>True⟩⟩:=⟨au,λ_ _=>trivial⟩
attribute [simp] ti2 ti3 ti4 ti5 ti6 ti7 ti8 ti9 agJ agI agH agG agF agE agD agC agB agA agz agy agx agw agv agu Is agt ags agr agq agp ago agn agm agl agk agj agi agh agf age agd aa0 aaZ aaY yu aaX aaW aaV aaU aaT aaS aaR aaQ aaP aaO aaN aaM aaL aaK aaJ aaI aaH aaG aaF aaE aaD aaC aaB aaA aaz aay al8 al7 al6 al5 al4 al3 al2 al1 ajA ajz ajy ajx ajw ajv aju ajt ajs ajr ajq ajp ajo ajn ajm ajl Sn ajk ajj aji ajh ajg ajf aje ajd ajc ajb aja ai9 ai8 ai7 ai6 ai5 af7 af6 af5 KT af4 af3 af2 af1 af0 afZ afY afX afW afV afU afT afS afR afQ afP afO afN afM afL afK afJ afI afH afG afF
end Go.Proofs.YtmccaifipoohfaaGreatDoor
namespace Go.AM
abbrev vi(n:Int):CD:=.v (.int .i64 n)
noncomputable abbrev vb(p:Prop):CD:=.v (.bool (dc p))
abbrev ma(b:UInt8):List CD:=[.v (.int .u8 b.toNat)]
abbrev aX(n:Int):List CD:=[vi n]
theorem tM{p q:Prop}(h:p↔q):dc p=dc q:=by rw[propext h]
theorem BG{α:Type}{a b:List α}{i:Nat}(h:i<a.length)(h':i<b.length)(ht:a.take i=b.take i)(he:a[i]=b[i]):a.take (i+1)=b.take (i+1):=by
 rw[<-dM h,<-dM h',ht,he]
theorem N4{α:Type}{a b:List α}{i:Nat}(h:a.length<=i)(hl:a.length=b.length)(ht:a.take i=b.take i):a=b:=by
 rwa[aC h,aC aa]at ht
theorem OL{α:Type}{a b:List α}{i:Nat}(h:i<a.length)(h':i<b.length)(he:a[i]≠b[i]):a≠b:=by
 rintro rfl;exact he rfl
theorem jk{n:Nat}(h:n<=9223372036854775807):Go.IntKind.i64.wrap (n:Int)=n:=al _ aa
theorem bL{n:Nat}(h:n<9223372036854775807):Go.IntKind.i64.wrap ((n:Int)+1)=((n+1:Nat):Int):=by rw[al _ aa];omega
@[simp] theorem ama {a b:Nat}:((a:Int)+(b:Int)).toNat=a+b:=aa
@[simp] theorem al9 {a n : Nat} : ((a : Int) + (OfNat.ofNat n : Int)).toNat = a + n := by
  show((a:Int)+((n:Nat):Int)).toNat=a+n
  omega
@[simp] theorem ams {a b:Nat}:(0:Int)<=(a:Int)+(b:Int):=aa
@[simp] theorem amr {a n : Nat} : (0 : Int) <= (a : Int) + (OfNat.ofNat n : Int) := by
  show(0:Int)<=(a:Int)+((n:Nat):Int)
  omega
@[simp] theorem alI {α:Type} {f:α->List CD} {l:List α}:cut (l.map f) 0 l.length=l.map f:=Fi ab
attribute [simp] Fi
@[simp] theorem alH {n:Nat}:((n:Int)<0)=False:=ab
open Go.RowKit Go.WideShapes Go.ChangeShapes
def Hz(P:Program):Nat->List Field->Option Nat
 |o,[]=>some o
 |o,f::fs=>if f.offset=o then Hz P (o+P.cellsOf f.type) fs else none
def okT(P:Program):Nat->TypeId->Bool
 |0,_=>false
 | D + 1, t => match P.underlying t with
   |some .bool=>true
   |some (.int _)=>true
   |some .string=>true
   |some (.slice e)=>decide (0<P.cellsOf e)&&okT P D e
   |some (.struct fs)=>(Hz P 0 fs.toList==some (P.cellsOf t))&&fs.toList.all λf=>okT P D f.type
   |_=>false
def s5(P:Program):Nat->TypeId->List CD->Prop
 |0,_,_=>False
 | D + 1, t, ds => match P.underlying t with
   |some .bool=>∃b,ds=[.v (.bool b)]
   |some (.int k)=>∃n,ds=[.v (.int k n)]/\(Lit.int k n).wf=true
   |some .string=>∃s:ByteArray,ds=[.v (.string s)]/\s.size<=maxLen
   |some (.slice e)=>∃rows,ds=[.s rows]/\rows.length<=maxLen/\∀row∈rows,row.length=P.cellsOf e/\s5 P D e row
   |some (.struct fs)=>ds.length=P.cellsOf t/\∀f∈fs.toList,s5 P D f.type ((ds.drop f.offset).take (P.cellsOf f.type))
   |_=>False
def vD(w:World)(cs:List Value)(ds:List CD):Prop:=ds.length=cs.length/\∀(j:Nat) (u:Value) (d:CD),cs[j]? = some u->ds[j]? = some d->Rd w false (λ_=>True) u d
theorem vD.one{w:World}{u:Value}{d:CD}(h:Rd w false (λ_=>True) u d):vD w [u] [d]:=by
 refine⟨rfl,λj u' d' hu hd=>?_⟩
 cases j with
 |zero=>simp at hu hd;subst hu;subst hd;exact h
 |succ j=>simp at hu
theorem As{P:Program}{w:World}{D:Nat}{cs:List Value}:∀(fs:List Field) (o m:Nat),Hz P o fs=some m->m<=cs.length ->
 (∀f∈fs,∃ds,vD w ((cs.drop f.offset).take (P.cellsOf f.type)) ds/\s5 P D f.type ds) ->
 ∃ds,o<=m/\vD w ((cs.drop o).take (m-o)) ds/\∀f∈fs,o<=f.offset/\s5 P D f.type ((ds.drop (f.offset-o)).take (P.cellsOf f.type))
 | [], o, m, hc, _, _ => by
   simp only[Hz,cR]at hc;subst hc;exact⟨[],aw _,by simp[vD],ab⟩
 | f :: fs, o, m, hc, hm, hx => by
   simp only[Hz]at hc
   split at hc
   ·rename_i ho
    obtain⟨ds,h1,h2,h3⟩:=As fs _ m hc hm (λg hg=>hx g (aD _ hg));obtain⟨d1,h4,h5⟩:=hx f (aN ..);have hl:d1.length=P.cellsOf f.type:=by rw[h4.1];simp;omega
    refine⟨d1++ds,aa,⟨?_,λj u d hu hd=>?_⟩,λg hg=>?_⟩
    ·have:=h2.1
     simp at this⊢;omega
    ·by_cases hj:j<P.cellsOf f.type
     ·rw[cj aa]at hd
      refine h4.2 j u d ?_ hd;rw[eV,ai hj,ho];rw[eV]at hu
      split at hu
      ·exact hu
      ·simp at hu
     ·rw[br aa,hl]at hd
      refine h2.2 _ u d ?_ hd;rw[eV]at hu⊢
      split at hu
      ·rw[ai aa]
       rw[dV]at hu⊢;rw[<-hu]
       congr 1
       omega
      ·simp at hu
    ·rcases aQ.1 hg with rfl|hg
     ·refine⟨aa,?_⟩
      rw[ho,vG,eb,tW aa,aC aa];exact h5
     ·obtain⟨h6,h7⟩:=h3 g hg
      refine⟨aa,?_⟩
      have:(d1++ds).drop (g.offset-o)=ds.drop (g.offset-(o+P.cellsOf f.type)):=by
       rw[List.drop_append,jT aa,hl,gb]
       congr 1
       omega
      rw[this];exact h7
   ·simp at hc
theorem YJ{H:Type}{enc:TypeId×Value->H}{P:Program}{w:World}{base:Nat}{spare:Nat->Bool}{held:Bool} :
 ∀(D:Nat) (t:TypeId) (cs:List Value) (x:DataW H×List MemPlace) (fuel:Nat),okT P D t=true->DataW.trod enc P w base spare held fuel t cs=some x->∃ds,vD w cs ds/\s5 P D t ds:=by
 intro D
 induction D with
 |zero=>intro t cs x fuel h;simp[okT]at h
 | succ D ih =>
   intro t cs x fuel hok h;unfold okT at hok
   split at hok
   ·rename_i hu
    obtain⟨b,rfl,-⟩:=DataW.trod_bool hu h;exact⟨[.v (.bool b)],vD.one (.plain rfl),by simp[s5,hu]⟩
   ·rename_i k hu
    obtain⟨n,rfl,-,hw⟩:=DataW.trod_int hu h;exact⟨[.v (.int k n)],vD.one (.plain rfl),by simp[s5,hu,hw]⟩
   ·rename_i hu
    obtain⟨s,rfl,-,hs⟩:=DataW.trod_string hu h;exact⟨[.v (.string s)],vD.one (.plain rfl),by simp[s5,hu,hs]⟩
   ·rename_i e hu
    simp only[aM,da]at hok;obtain⟨hpos,hok⟩:=hok;rcases DataW.trod_slice hu h with⟨rfl,-⟩|⟨a,len,cap,elems,rest,n,-,rfl,-,-,hlc,hcm,hel,hi,-⟩
    ·exact Tu
    ·have each:∀i,i<len->∃p:List Value×List CD,w.cells? base (a.add (i*P.cellsOf e)) (P.cellsOf e)=some p.1/\vD w p.1 p.2/\s5 P D e p.2:=by
      intro i hlt;have h1:=hi i hlt;rw[aB aa]at h1;obtain⟨c,h2,h3⟩:=Option.bind_eq_some_iff.1 h1;obtain⟨ds,h4,h5⟩:=ih e c _ n hok h3;exact⟨(c,ds),h2,h4,h5⟩
     by_cases hl0:len=0
     ·subst hl0
      exact Tu
     ·obtain⟨f,hf⟩:=Go.Deep.choose_lt each
      have cell:∀i j,i<len->j<P.cellsOf e->w.cell? (a.add (i*P.cellsOf e+j))=(f i).1[j]?/\(f i).1.length=P.cellsOf e:=by
       intro i j hlt hj;obtain⟨-,h2,h3⟩:=World.cells?_some (hf i hlt).1;exact⟨by rw[<-h3 j hj,Go.Deep.add_add],h2⟩
      obtain⟨b,off,spot⟩:=a
      have hb:∃cs T fr,w.heap[b]? = some (.cells cs T fr)/\spot=none:=by
       obtain⟨h1,h2⟩:=cell 0 0 aa hpos;rw[aB aa]at h1;unfold World.cell? at h1;rw[block_add]at h1
       split at h1
       ·rename_i c T fr hh
        refine⟨c,T,fr,hh,?_⟩
        cases spot with
        |none=>rfl
        |some s=>simp[Addr.add]at h1
       ·simp at h1
      obtain⟨c,T,fr,hb,rfl⟩:=hb
      have at':∀i j,i<len->j<P.cellsOf e->c[off+(i*P.cellsOf e+j)]? = (f i).1[j]?:=by
       intro i j hlt hj;rw[<-(cell i j hlt hj).1,hJ];simp[World.cell?,hb]
      have hrows:((List.range len).map λi=>(f i).2).length=len:=ab
      have hrd:=Rd.slice (w:=w) (x:=false) (S:=λ_=>True) b off cap (P.cellsOf e) c T fr ((List.range len).map λi=>(f i).2) (λ_ _ _=>True)
       (by rw[hrows];exact hlc) hcm hpos trivial hb (by
        rw[hrows];obtain⟨m,rfl⟩:∃m,len=m+1:=⟨len-1,aa⟩;have h1:=at' m (P.cellsOf e-1) aa aa;rw[aB (by rw[(cell m (P.cellsOf e-1) aa aa).2];omega)]at h1;have h2:=(oz.1 h1).1;rw[di];omega) (λh=>iz) (λ_ _ _ _=>⟨trivial,λh=>iz⟩) (λh=>iz)
       (λrow hrow=>by
        simp only[cH,ix]at hrow;obtain⟨i,hlt,rfl⟩:=hrow;rw[(hf i hlt).2.1.1];exact(cell i 0 hlt hpos).2)
       (λi j row d h1 h2=>by
        have hlt:i<len:=by have:=(az.1 h1).1;omega
        simp only[bX,List.getElem?_range hlt,eM,cR]at h1;subst h1
        have hj:j<P.cellsOf e:=by
         have:=(az.1 h2).1;rw[(hf i hlt).2.1.1,(cell i 0 hlt hpos).2]at this;exact this
        have h3:=at' i j hlt hj;rw[aB (by rw[(cell i j hlt hj).2];exact hj)]at h3
        have h4:c.getD (off+(i*P.cellsOf e+j)) undef=(f i).1[j]'(by rw[(cell i j hlt hj).2];exact hj):=by
         rw[aT,h3];rfl
        rw[h4];exact(hf i hlt).2.1.2 j _ d (aB _) h2)
      rw[hrows]at hrd;refine⟨[.s ((List.range len).map λi=>(f i).2)],vD.one hrd,?_⟩;simp only[s5,hu];refine⟨_,rfl,by rw[hrows];omega,λrow hrow=>?_⟩;simp only[cH,ix]at hrow;obtain⟨i,hlt,rfl⟩:=hrow;exact⟨by rw[(hf i hlt).2.1.1];exact(cell i 0 hlt hpos).2,(hf i hlt).2.2⟩
   ·rename_i fs hu
    simp only[aM,kt,dI]at hok;obtain⟨hc,hall⟩:=hok;obtain⟨xs,n,-,-,hcl,hxl,hi⟩:=DataW.trod_struct hu h
    obtain⟨ds,-,h1,h2⟩:=As (w:=w) (D:=D) (cs:=cs) fs.toList 0 _ hc aa (λf hf=>by
     obtain⟨i,hlt,rfl⟩:=bC hf;have hlt':i<fs.size:=uo;have h3:=hi i fs[i] (by simp[hlt']);rw[aB aa]at h3;exact ih _ _ _ n (hall _ hf) h3)
    rw[eb,mH,aC aa]at h1;refine⟨ds,h1,?_⟩;simp only[s5,hu];refine⟨by rw[h1.1,hcl],λf hf=>?_⟩;have:=(h2 f hf).2
    rwa[mH]at this
   ·simp at hok
def KM(P:Program)(D:Nat)(t:TypeId):VD->Prop
 | .c d=>s5 P D t [d]
 | .agg ds=>(∃fs,P.underlying t=some (.struct fs))/\s5 P D t ds
theorem aby{H:Type}{enc:TypeId×Value->H}{P:Program}{w:World}{base b0:Nat}{spare:Nat->Bool}{held:Bool}{r:Reach}{D:Nat}{t:TypeId}{v:Value}{d:DataW H}{ps:List MemPlace}
 (hok:okT P D t=true) (hval:Value.okWide P w r b0 t v) (h:DataW.Trod enc P w base spare held t v d ps):∃vd,RdV w v vd/\KM P D t vd:=by
 obtain⟨fuel,hf⟩:=h;obtain⟨ds,hr,hfit⟩:=YJ D t _ _ fuel hok hf
 have one:v.cells = #[v]->(∀fs,P.underlying t≠some (.struct fs))->∃vd,RdV w v vd/\KM P D t vd:=by
  intro hc _;rw[hc]at hr;obtain⟨hl,hr⟩:=hr
  cases ds with
  |nil=>simp at hl
  | cons d ds =>
    cases ds with
    |nil=>exact⟨.c d,hr 0 v d rfl rfl,hfit⟩
    |cons _ _=>simp at hl
 cases D with
 |zero=>simp[okT]at hok
 | succ D =>
   unfold okT at hok
   split at hok
   ·rename_i hu
    obtain⟨b,rfl⟩:=okWide_bool hu hval;exact EJ
   ·rename_i k hu
    obtain⟨n,rfl⟩:=okWide_int hu hval;exact EJ
   ·rename_i hu
    obtain⟨s,rfl⟩:=okWide_string hu hval;exact EJ
   ·rename_i e hu
    obtain⟨a,l,c,rfl⟩:=okWide_slice hu hval;exact EJ
   ·rename_i fs hu
    obtain⟨cs,rfl,-⟩:=okWide_struct hu hval;obtain⟨hl,hr⟩:=hr;refine⟨.agg ds,⟨cs,rfl,by simpa[Value.cells]using hl.symm,λj d hd=>?_⟩,⟨fs,hu⟩,hfit⟩
    have hj:j<cs.size:=by
     have:=(az.1 hd).1;simp[Value.cells]at hl;omega
    have:=hr j cs[j] d (by simp[Value.cells,hj]) hd
    simpa[hj]using this
   ·simp at hok
def tU(P:Program)(D:Nat)(w:World):List TypeId->List Value->List VD->Prop
 | [],[],[]=>True
 |t::ts,v::vs,d::ds=>(RdV w v d/\KM P D t d)/\tU P D w ts vs ds
 |_,_,_=>False
theorem JP{H:Type}{enc:TypeId×Value->H}{P:Program}{w:World}{base b0:Nat}{spare:Nat->Bool}{held:Bool}{r:Reach}{D:Nat} :
 ∀ (ts : List TypeId) (vs : List Value) (ds : List (DataW H)) (ps : List MemPlace), (ts.all λt => okT P D t) = true -> (∀ (j : Nat) t v, ts[j]? = some t -> vs[j]? = some v -> Value.okWide P w r b0 t v) ->
   DataW.TrodAll enc P w base spare held ts vs ds ps->∃vds,tU P D w ts vs vds
 | [], vs, ds, ps, _, _, h => by
   obtain⟨rfl,-,-⟩:=trodAll_nil h;exact⟨[],trivial⟩
 | t :: ts, vs, ds, ps, hok, hval, h => by
   obtain⟨v,vs1,d,ds1,a,b,rfl,rfl,rfl,h1,h2⟩:=trodAll_cons h;simp only[List.all_cons,aM]at hok;obtain⟨vds,h3⟩:=JP ts vs1 ds1 b hok.2 (λj t v ht hv=>hval (j+1) t v (by simpa using ht) (by simpa using hv)) h2;obtain⟨vd,h4,h5⟩:=aby hok.1 (hval 0 t v rfl rfl) h1;exact⟨vd::vds,⟨h4,h5⟩,h3⟩
theorem Ds{P:Program}{D:Nat}{w:World}:∀(ts:List TypeId) (vs:List Value) (vds:List VD),tU P D w ts vs vds->vs.length=vds.length/\∀(i:Nat) vd,vds[i]? = some vd->RdV w (vs.toArray.getD i undef) vd
 | [],[],[],_=>⟨rfl,λi vd h=>iz⟩
 | t :: ts, v :: vs, d :: ds, h => by
   obtain⟨h1,h2⟩:=Ds ts vs ds h.2;refine⟨nR,λi vd hi=>?_⟩
   cases i with
   |zero=>simp at hi;subst hi;simpa using h.1.1
   |succ i=>simpa using h2 i vd fR
theorem Jr{H:Type}{enc:TypeId×Value->H}{P:Program}(hl:laidOutB P=true){W W':World}(hb:Below W.heap.size W W'){sp:Nat->Bool} :
 ∀ (ts : List TypeId) (vs : List Value) (ds : List (DataW H)) (ps : List MemPlace), (ts.all λt => P.readableRec t && decide (t < P.types.size)) = true -> DataW.TrodAll enc P W 0 (λ_ => true) true ts vs ds ps ->
   (∀x∈ps,x.block<W.heap.size)->(∀x∈ps,sp x.block=true)->DataW.TrodAll enc P W' 0 sp true ts vs ds ps
 | [], vs, ds, ps, _, h, _, _ => by
   obtain⟨rfl,rfl,rfl⟩:=trodAll_nil h;rfl
 | t :: ts, vs, ds, ps, hok, h, hlt, hsp => by
   obtain⟨v,vs1,d,ds1,a,b,rfl,rfl,rfl,h1,h2⟩:=trodAll_cons h;simp only[List.all_cons,aM,da]at hok;refine⟨a,b,WideElems.Trod_stays hl hok.1.1 hok.1.2 h1 (λx hx=>hb.same (hlt x (by simp[hx]))) (λx hx=>hsp x (by simp[hx])),Jr hl hb ts vs1 ds1 b (by simpa using hok.2) h2 (λx hx=>hlt x (by simp[hx])) (λx hx=>hsp x (by simp[hx])),rfl⟩
theorem Y3{L:World->Prop}{H:Type}{enc:TypeId×Value->H}{P:Program}(hlaid:laidOutB P=true){f:FuncId}{fn:Func}{s:ChangeSpec}{apart fresh handsOn:Bool}{D:Nat}{bt:TypeId}
 (hv:s.vars=[]) (hres:fn.resultTypes = #[bt]) (hbt:P.underlying bt=some .bool) (hokT:(fn.params.toList.all λt=>okT P D t)=true) (hread:(fn.params.toList.all λt=>P.readableRec t&&decide (t<P.types.size))=true)
 (hs:∀ds:List (DataW H),ds.length=fn.params.toList.length->s.fn H ds={ results:=[.lit (.bool true)],args:=ds })
 {W:World}{args:Array Value}{r:Reach}{b0:Nat}{ds gs:List (DataW H)}{before:List MemPlace}
 (hval:∀(j:Nat) t v,fn.params[j]? = some t->args[j]? = some v->Value.okWide P W r b0 t v)
 (hW:DataW.Whole enc P fn.params.toList s.vars apart W args.toList ds gs before)
 (hLW:L W) (hwalk:∀vds,tU P D W fn.params.toList args.toList vds->dZ P L f vds (.one (.c (.v (.bool true)) 1))) :
 Calls P f args W λe W'=>∃v,e=.returned v/\s.post enc P fn apart fresh handsOn false W args v W':=by
 have hW0:=hW;obtain⟨p,q,hA,hV,rfl,hfz,hnd⟩:=hW;rw[hv]at hV;obtain⟨rfl,rfl⟩:=trodVars_none hV;obtain⟨vds,ho⟩:=JP (D:=D) fn.params.toList args.toList ds p hokT (λj t v ht hv=>hval j t v (by simpa using ht) (by simpa using hv)) hA;obtain⟨hl,hr⟩:=Ds _ _ _ ho
 have hlen:ds.length=fn.params.toList.length:=by
  have:∀(ts:List TypeId) (vs:List Value) (ds:List (DataW H)) (ps:List MemPlace),DataW.TrodAll enc P W 0 (λ_=>true) true ts vs ds ps->ds.length=ts.length:=by
   intro ts
   induction ts with
   |nil=>intro vs ds ps h;obtain⟨-,rfl,-⟩:=trodAll_nil h;rfl
   | cons t ts ih =>
     intro vs ds ps h;obtain⟨v,vs1,d,ds1,a,b,rfl,rfl,rfl,h1,h2⟩:=trodAll_cons h;simp[ih _ _ _ h2]
  exact this _ _ _ _ hA
 refine((hwalk vds ho).2 W hLW args uq (λi vd hi=>by simpa using hr i vd hi)).mono ?_
 rintro e W' ⟨v,rfl,hb,hrr⟩
 have hv1:v=.bool true:=hrr.1;subst hv1;have hs':=hs ds hlen;refine⟨_,rfl,ds,[],p,[],p,[],by simpa using hW0,?_,?_,?_,?_,λh=>kF⟩
 ·rw[bg,hs',hres]
  exact trodAll_mk1 (shut_bool hbt true)
 ·rw[bg,hs']
  have hlt:∀x∈p,x.block<W.heap.size:=λx hx=>hW0.lt x (by simp[hx])
  exact Jr hlaid hb _ _ _ _ hread hA hlt (λx hx=>by simpa using hlt x hx)
 ·rw[hv]
  have:(s.fn H (ds++[])).vars=[]:=by rw[bg,hs']
  rw[this];exact rfl
 ·exact hb.frame _
theorem aiW{n:Int}(h:(Lit.int .u8 n).wf=true):0<=n/\n<=255:=by
 have:IntKind.u8.min=0:=rfl;have h2:IntKind.u8.max=255:=rfl;simp only[Lit.wf,aM,da]at h;omega
section
variable {P:Program}{D:Nat}{t e:TypeId}{vd:VD}{ds:List CD}
theorem acn{k:IntKind}(hu:P.underlying t=some (.int k))(h:s5 P D t ds):∃n,ds=[.v (.int k n)]/\(Lit.int k n).wf=true:=by
 cases D with
 |zero=>exact h.elim
 |succ D=>simpa only[s5,hu]using h
theorem Rq(hu:P.underlying t=some (.slice e))(h:s5 P D t ds):∃rows,ds=[.s rows]/\rows.length<=maxLen/\∃D',∀row∈rows,row.length=P.cellsOf e/\s5 P D' e row:=by
 cases D with
 |zero=>exact h.elim
 | succ D =>
   simp only[s5,hu]at h;obtain⟨rows,h1,h2,h3⟩:=h;exact⟨rows,h1,h2,D,h3⟩
theorem aex{de:TypeDesc}(hu:P.underlying t=some de)(hn:∀fs,de≠.struct fs)(h:KM P D t vd):∃d,vd=.c d/\s5 P D t [d]:=by
 cases vd with
 |c d=>exact⟨d,rfl,h⟩
 | agg ds =>
   obtain⟨⟨fs,h1⟩,-⟩:=h;rw[hu]at h1;simp only[cR]at h1;exact absurd h1 (hn fs)
theorem On{α:Type}{f:α->List CD}{ok:α->Prop}:∀(rows:List (List CD)),(∀row∈rows,∃x,row=f x/\ok x)->∃l:List α,rows=l.map f/\∀x∈l,ok x
 | [],_=>⟨[],rfl,ab⟩
 | row :: rows, h => by
   obtain⟨x,h1,h2⟩:=h row (aN ..);obtain⟨l,h3,h4⟩:=On rows (λr hr=>h r (aD _ hr));exact⟨x::l,by rw[h1,h3];rfl,by simpa using ⟨h2,h4⟩⟩
theorem Rr(hu:P.underlying t=some (.slice e))(he:P.underlying e=some (.int .u8))(h:s5 P D t ds):∃l:List UInt8,ds=[.s (l.map ma)]/\l.length<=9223372036854775807:=by
 obtain⟨rows,rfl,h1,D',h2⟩:=Rq hu h
 obtain⟨l,rfl,-⟩:=On (f:=ma) (ok:=λ_=>True) rows (λrow hrow=>by
  obtain⟨n,h3,h4⟩:=acn he (h2 row hrow).2;have:=aiW h4;refine⟨UInt8.ofNat n.toNat,?_,trivial⟩;rw[h3]
  have h5:((UInt8.ofNat n.toNat).toNat:Int)=n:=by
   rw[UInt8.toNat_ofNat'];omega
  unfold ma;rw[h5])
 refine⟨l,rfl,?_⟩;have:maxLen=9223372036854775807:=rfl
 simpa[this]using h1
theorem Po(hu:P.underlying t=some (.slice e))(he:P.underlying e=some (.int .u8))(h:KM P D t vd):∃l:List UInt8,vd=.c (.s (l.map ma))/\l.length<=9223372036854775807:=by
 obtain⟨d,rfl,h1⟩:=aex hu (λfs h=>kF) h;obtain⟨l,h2,h3⟩:=Rr hu he h1;simp only[DS,and_true]at h2;exact⟨l,by rw[h2],h3⟩
end
theorem tU.nil{P:Program}{D:Nat}{w:World}{vs:List Value}{vds:List VD}(h:tU P D w [] vs vds):vds=[]:=by
 cases vs with
 | nil => cases vds with
   |nil=>rfl
   |cons _ _=>exact h.elim
 |cons _ _=>exact h.elim
theorem tU.cons{P:Program}{D:Nat}{w:World}{t:TypeId}{ts:List TypeId}{vs:List Value}{vds:List VD}(h:tU P D w (t::ts) vs vds) :
 ∃vd vds',vds=vd::vds'/\KM P D t vd/\∃vs',tU P D w ts vs' vds':=by
 cases vs with
 |nil=>cases vds<;>exact h.elim
 | cons v vs => cases vds with
   |nil=>exact h.elim
   |cons d ds=>exact⟨d,ds,rfl,h.1.2,vs,h.2⟩
section
variable {α:Type}{mk:α->Int->α}{cn:α->Nat}
variable {f:α->List CD}{l:List α}{k:Int}{i:Nat}
end
abbrev one{α:Type}(_:α):Nat:=1
end Go.AM
namespace Go.Proofs.YtmccaifipoohfaaGreatDoor
open Go.AM
set_option maxRecDepth 20000
def B4(n:Int):Prop:=-9223372036854775808<=n/\n<=9223372036854775807
def fX{α:Type}(f:α->Nat):List α->Nat
 | []=>0
 |a::l=>f a+fX f l
theorem N7{α:Type}{f:α->Nat}:∀{l:List α}{a:α},a∈l->f a<=fX f l
 | b :: l, a, h => by
   simp only[fX];rcases aQ.1 h with rfl|h
   ·omega
   ·have:=N7 (f:=f) h;omega
def nL{α:Type}(f:α->Nat)(l:List α):Nat:=l.length+fX f l
theorem cT{α:Type}{f:α->Nat}{l:List α}{B:Nat}(h:nL f l<=B):l.length<=B:=by unfold nL at h;omega
theorem iG{α:Type}{f:α->Nat}{l:List α}{B:Nat}(h:nL f l<=B){a:α}(ha:a∈l):f a<=B:=by have:=N7 (f:=f) ha;unfold nL at h;omega
theorem iN{α:Type}{f:α->Nat}{l:List α}{B:Nat}(h:nL f l<=B){i:Nat}(hi:i<l.length):f l[i]<=B:=iG h (ak hi)
structure Part where
 kind:Int
 n:Int
 signs:List Int
 deriving Inhabited
def Part.row(x:Part):List CD:=[vi x.kind,vi x.n,.s (x.signs.map aX)]
def Part.res(x:Part):List (CD×Nat):=[(vi x.kind,1),(vi x.n,1),(.s (x.signs.map aX),1)]
@[simp] theorem Part.row_len {x:Part}:x.row.length=3:=rfl
def aY(x:Part):Nat:=x.signs.length
structure Entry where
 client:Int
 seq:Int
 o:List Part
def Entry.row(x:Entry):List CD:=[vi x.client,vi x.seq,.s (x.o.map Part.row)]
def Entry.res(x:Entry):List (CD×Nat):=[(vi x.client,1),(vi x.seq,1),(.s (x.o.map Part.row),3)]
@[simp] theorem Entry.row_len {x:Entry}:x.row.length=3:=rfl
def cN(x:Entry):Nat:=nL aY x.o
structure Seen where
 client:Int
 seq:Int
 rev:Int
def Seen.row(x:Seen):List CD:=[vi x.client,vi x.seq,vi x.rev]
def Seen.res(x:Seen):List (CD×Nat):=[(vi x.client,1),(vi x.seq,1),(vi x.rev,1)]
@[simp] theorem Seen.row_len {x:Seen}:x.row.length=3:=rfl
structure Doc where
 name:ByteArray
 fr:Int
 text:List Int
 list:List Entry
 seen:List Seen
def Doc.row(x:Doc):List CD:=[.v (.string x.name),vi x.fr,.s (x.text.map aX),.s (x.list.map Entry.row),.s (x.seen.map Seen.row)]
def Doc.res(x:Doc):List (CD×Nat):=[(.v (.string x.name),1),(vi x.fr,1),(.s (x.text.map aX),1),(.s (x.list.map Entry.row),3),(.s (x.seen.map Seen.row),3)]
@[simp] theorem Doc.row_len {x:Doc}:x.row.length=5:=rfl
def eW(x:Doc):Nat:=x.name.size+(x.text.length+(nL cN x.list+(x.seen.length)))
structure Ring where
 cap:Int
 next:Int
 out:Bool
 list:List Entry
def Ring.row(x:Ring):List CD:=[vi x.cap,vi x.next,.v (.bool x.out),.s (x.list.map Entry.row)]
def Ring.res(x:Ring):List (CD×Nat):=[(vi x.cap,1),(vi x.next,1),(.v (.bool x.out),1),(.s (x.list.map Entry.row),3)]
@[simp] theorem Ring.row_len {x:Ring}:x.row.length=4:=rfl
def iC(x:Ring):Nat:=nL cN x.list
structure Sub where
 id:Int
 doc:ByteArray
 r:Ring
def Sub.row(x:Sub):List CD:=[vi x.id,.v (.string x.doc),vi x.r.cap,vi x.r.next,.v (.bool x.r.out),.s (x.r.list.map Entry.row)]
def Sub.res(x:Sub):List (CD×Nat):=[(vi x.id,1),(.v (.string x.doc),1),(vi x.r.cap,1),(vi x.r.next,1),(.v (.bool x.r.out),1),(.s (x.r.list.map Entry.row),3)]
@[simp] theorem Sub.row_len {x:Sub}:x.row.length=6:=rfl
def jO(x:Sub):Nat:=x.doc.size+(iC x.r)
structure Hub where
 shut:Bool
 docs:List Doc
 subs:List Sub
 last:Int
def Hub.row(x:Hub):List CD:=[.v (.bool x.shut),.s (x.docs.map Doc.row),.s (x.subs.map Sub.row),vi x.last]
def Hub.res(x:Hub):List (CD×Nat):=[(.v (.bool x.shut),1),(.s (x.docs.map Doc.row),5),(.s (x.subs.map Sub.row),6),(vi x.last,1)]
@[simp] theorem Hub.row_len {x:Hub}:x.row.length=4:=rfl
def gE(x:Hub):Nat:=nL eW x.docs+(nL jO x.subs)
structure Call where
 kind:Int
 doc:ByteArray
 client:Int
 seq:Int
 n:Int
 o:List Part
 text:List Int
def Call.row(x:Call):List CD:=[vi x.kind,.v (.string x.doc),vi x.client,vi x.seq,vi x.n,.s (x.o.map Part.row),.s (x.text.map aX)]
def Call.res(x:Call):List (CD×Nat):=[(vi x.kind,1),(.v (.string x.doc),1),(vi x.client,1),(vi x.seq,1),(vi x.n,1),(.s (x.o.map Part.row),3),(.s (x.text.map aX),1)]
@[simp] theorem Call.row_len {x:Call}:x.row.length=7:=rfl
def kC(x:Call):Nat:=x.doc.size+(nL aY x.o+(x.text.length))
structure Answer where
 code:Int
 rev:Int
 text:List Int
 list:List Entry
def Answer.row(x:Answer):List CD:=[vi x.code,vi x.rev,.s (x.text.map aX),.s (x.list.map Entry.row)]
def Answer.res(x:Answer):List (CD×Nat):=[(vi x.code,1),(vi x.rev,1),(.s (x.text.map aX),1),(.s (x.list.map Entry.row),3)]
@[simp] theorem Answer.row_len {x:Answer}:x.row.length=4:=rfl
def mr(x:Answer):Nat:=x.text.length+(nL cN x.list)
structure Task where
 c:Call
 pc:Int
 inv:Int
 lin:Int
 rs:Int
 a:Answer
def Task.row(x:Task):List CD:=[vi x.c.kind,.v (.string x.c.doc),vi x.c.client,vi x.c.seq,vi x.c.n,.s (x.c.o.map Part.row),.s (x.c.text.map aX),vi x.pc,vi x.inv,vi x.lin,vi x.rs,vi x.a.code,vi x.a.rev,.s (x.a.text.map aX),.s (x.a.list.map Entry.row)]
def Task.res(x:Task):List (CD×Nat):=[(vi x.c.kind,1),(.v (.string x.c.doc),1),(vi x.c.client,1),(vi x.c.seq,1),(vi x.c.n,1),(.s (x.c.o.map Part.row),3),(.s (x.c.text.map aX),1),(vi x.pc,1),(vi x.inv,1),(vi x.lin,1),(vi x.rs,1),(vi x.a.code,1),(vi x.a.rev,1),(.s (x.a.text.map aX),1),(.s (x.a.list.map Entry.row),3)]
@[simp] theorem Task.row_len {x:Task}:x.row.length=15:=rfl
structure Queue where
 doc:ByteArray
 list:List Int
def Queue.row(x:Queue):List CD:=[.v (.string x.doc),.s (x.list.map aX)]
def Queue.res(x:Queue):List (CD×Nat):=[(.v (.string x.doc),1),(.s (x.list.map aX),1)]
@[simp] theorem Queue.row_len {x:Queue}:x.row.length=2:=rfl
structure Wld where
 h:Hub
 locks:List Int
 queues:List Queue
 tasks:List Task
 step:Int
def Wld.row(x:Wld):List CD:=[.v (.bool x.h.shut),.s (x.h.docs.map Doc.row),.s (x.h.subs.map Sub.row),vi x.h.last,.s (x.locks.map aX),.s (x.queues.map Queue.row),.s (x.tasks.map Task.row),vi x.step]
def Wld.res(x:Wld):List (CD×Nat):=[(.v (.bool x.h.shut),1),(.s (x.h.docs.map Doc.row),5),(.s (x.h.subs.map Sub.row),6),(vi x.h.last,1),(.s (x.locks.map aX),1),(.s (x.queues.map Queue.row),2),(.s (x.tasks.map Task.row),15),(vi x.step,1)]
@[simp] theorem Wld.row_len {x:Wld}:x.row.length=8:=rfl
structure Rep where
 client:Int
 seq:Int
 rev:Int
 text:List Int
 has:Bool
 sent:List Part
 buf:List Part
def Rep.row(x:Rep):List CD:=[vi x.client,vi x.seq,vi x.rev,.s (x.text.map aX),.v (.bool x.has),.s (x.sent.map Part.row),.s (x.buf.map Part.row)]
def Rep.res(x:Rep):List (CD×Nat):=[(vi x.client,1),(vi x.seq,1),(vi x.rev,1),(.s (x.text.map aX),1),(.v (.bool x.has),1),(.s (x.sent.map Part.row),3),(.s (x.buf.map Part.row),3)]
@[simp] theorem Rep.row_len {x:Rep}:x.row.length=7:=rfl
def dX(x:Rep):Nat:=x.text.length+(nL aY x.sent+(nL aY x.buf))
structure Net where
 d:Doc
 reps:List Rep
def Net.row(x:Net):List CD:=[.v (.string x.d.name),vi x.d.fr,.s (x.d.text.map aX),.s (x.d.list.map Entry.row),.s (x.d.seen.map Seen.row),.s (x.reps.map Rep.row)]
def Net.res(x:Net):List (CD×Nat):=[(.v (.string x.d.name),1),(vi x.d.fr,1),(.s (x.d.text.map aX),1),(.s (x.d.list.map Entry.row),3),(.s (x.d.seen.map Seen.row),3),(.s (x.reps.map Rep.row),7)]
@[simp] theorem Net.row_len {x:Net}:x.row.length=6:=rfl
def gT(x:Net):Nat:=eW x.d+(nL dX x.reps)
structure Event where
 kind:Int
 who:Int
 n:Int
 o:List Part
def Event.row(x:Event):List CD:=[vi x.kind,vi x.who,vi x.n,.s (x.o.map Part.row)]
def Event.res(x:Event):List (CD×Nat):=[(vi x.kind,1),(vi x.who,1),(vi x.n,1),(.s (x.o.map Part.row),3)]
@[simp] theorem Event.row_len {x:Event}:x.row.length=4:=rfl
def lv(x:Event):Nat:=nL aY x.o
structure Desk where
 h:Hub
 n:Net
def Desk.row(x:Desk):List CD:=[.v (.bool x.h.shut),.s (x.h.docs.map Doc.row),.s (x.h.subs.map Sub.row),vi x.h.last,.v (.string x.n.d.name),vi x.n.d.fr,.s (x.n.d.text.map aX),.s (x.n.d.list.map Entry.row),.s (x.n.d.seen.map Seen.row),.s (x.n.reps.map Rep.row)]
def Desk.res(x:Desk):List (CD×Nat):=[(.v (.bool x.h.shut),1),(.s (x.h.docs.map Doc.row),5),(.s (x.h.subs.map Sub.row),6),(vi x.h.last,1),(.v (.string x.n.d.name),1),(vi x.n.d.fr,1),(.s (x.n.d.text.map aX),1),(.s (x.n.d.list.map Entry.row),3),(.s (x.n.d.seen.map Seen.row),3),(.s (x.n.reps.map Rep.row),7)]
@[simp] theorem Desk.row_len {x:Desk}:x.row.length=10:=rfl
def AJ(x:Desk):Nat:=gE x.h+(gT x.n)
theorem mix:Tryz.prog.follows .mixedOrders=true:=ah
end Go.Proofs.YtmccaifipoohfaaGreatDoor
