import Derived.Test.YtibkifnmhkealaaGreatDoorMG
import Derived.Test.YtibkifnmhkealaaGreatDoorRows
import Derived.Test.YtibkifnmhkealaaGreatDoorME
import Derived.IntWalk
import Derived.ProofKit
import Derived.Deep.Slices
import Derived.Test.YtibkifnmhkealaaGreatDoorMF
namespace Go.Proofs.YtibkifnmhkealaaGreatDoor
open Go.AM
def ti2:TI:={ n:=1,zero:=[.v (.int .i64 0)],bytes:=8,kind:=some .i64 }
def ti3:TI:={ n:=1,zero:=[.v (.int .i64 0)],bytes:=8,kind:=some .i64 }
def ti4:TI:={ n:=1,zero:=[.v (.bool false)],bytes:=1,boo:=true }
def ti5:TI:={ n:=1,zero:=[.v (.int .u8 0)],bytes:=1,kind:=some .u8 }
def ti6:TI:={ n:=1,zero:=[.v (.int .u8 0)],bytes:=1,kind:=some .u8 }
def ti7:TI:={ agg:=true,n:=4,zero:=[.v (.int .i64 0),.v (.int .i64 0),.v (.bool false),.v (.int .u8 0)],fields:=[(0,1),(1,1),(2,1),(3,1)],fagg:=[false,false,false,false],bytes:=24,pln:=true }
def ti8:TI:={ agg:=true,n:=4,zero:=[.v (.int .i64 0),.v (.int .i64 0),.v (.bool false),.v (.int .u8 0)],fields:=[(0,1),(1,1),(2,1),(3,1)],fagg:=[false,false,false,false],bytes:=24,pln:=true }
def ti9:TI:={ n:=1,zero:=[.v (.string ⟨#[]⟩)],bytes:=16,str:=true }
def OD:TI:={ n:=1,zero:=[.v (.string ⟨#[]⟩)],bytes:=16,str:=true }
def OC:TI:={ n:=1,zero:=[.v (.string ⟨#[]⟩)],bytes:=16,str:=true }
def OB:TI:={ n:=1,zero:=[.v (.int .u64 0)],bytes:=8,kind:=some .u64 }
def OA:TI:={ agg:=true,n:=2,zero:=[.v (.string ⟨#[]⟩),.v (.int .u64 0)],fields:=[(0,1),(1,1)],fagg:=[false,false],bytes:=24,pln:=true }
def Oz:TI:={ agg:=true,n:=2,zero:=[.v (.string ⟨#[]⟩),.v (.int .u64 0)],fields:=[(0,1),(1,1)],fagg:=[false,false],bytes:=24,pln:=true }
def Oy:TI:={ n:=1,zero:=[.v (.int .i32 0)],bytes:=4,kind:=some .i32 }
def Ox:TI:={ n:=1,zero:=[.nil],sl:=some 9,bytes:=24,pln:=false }
def Ow:TI:={ n:=1,zero:=[.nil],sl:=some 35,bytes:=24,pln:=false }
def Ov:TI:={ n:=1,zero:=[.nil],sl:=some 150,bytes:=24,pln:=false }
def Ou:TI:={ agg:=true,n:=4,zero:=[.v (.bool false),.nil,.nil,.v (.int .i64 0)],fields:=[(0,1),(1,1),(2,1),(3,1)],fagg:=[false,false,false,false],bytes:=64,pln:=false }
def Ot:TI:={ agg:=true,n:=4,zero:=[.v (.bool false),.nil,.nil,.v (.int .i64 0)],fields:=[(0,1),(1,1),(2,1),(3,1)],fagg:=[false,false,false,false],bytes:=64,pln:=false }
def Oq:TI:={ n:=1,zero:=[.nil],sl:=some 3,bytes:=24,pln:=false }
def Oo:TI:={ n:=1,zero:=[.nil],sl:=some 109,bytes:=24,pln:=false }
def On:TI:={ n:=1,zero:=[.nil],sl:=some 119,bytes:=24,pln:=false }
def Om:TI:={ agg:=true,n:=5,zero:=[.v (.string ⟨#[]⟩),.v (.int .i64 0),.nil,.nil,.nil],fields:=[(0,1),(1,1),(2,1),(3,1),(4,1)],fagg:=[false,false,false,false,false],bytes:=96,pln:=false }
def yv:TI:={ agg:=true,n:=5,zero:=[.v (.string ⟨#[]⟩),.v (.int .i64 0),.nil,.nil,.nil],fields:=[(0,1),(1,1),(2,1),(3,1),(4,1)],fagg:=[false,false,false,false,false],bytes:=96,pln:=false }
def Ol:TI:={ n:=1,zero:=[.nil],sl:=some 75,bytes:=24,pln:=false }
def Ok:TI:={ agg:=true,n:=6,zero:=[.v (.string ⟨#[]⟩),.v (.int .i64 0),.nil,.nil,.nil,.nil],fields:=[(0,5),(5,1)],fagg:=[true,false],bytes:=120,pln:=false }
def Oj:TI:={ agg:=true,n:=6,zero:=[.v (.string ⟨#[]⟩),.v (.int .i64 0),.nil,.nil,.nil,.nil],fields:=[(0,5),(5,1)],fagg:=[true,false],bytes:=120,pln:=false }
def Oi:TI:={ agg:=true,n:=10,zero:=[.v (.bool false),.nil,.nil,.v (.int .i64 0),.v (.string ⟨#[]⟩),.v (.int .i64 0),.nil,.nil,.nil,.nil],fields:=[(0,4),(4,6)],fagg:=[true,true],bytes:=184,pln:=false }
def Oh:TI:={ agg:=true,n:=10,zero:=[.v (.bool false),.nil,.nil,.v (.int .i64 0),.v (.string ⟨#[]⟩),.v (.int .i64 0),.nil,.nil,.nil,.nil],fields:=[(0,4),(4,6)],fagg:=[true,true],bytes:=184,pln:=false }
def Og:TI:={ n:=1,zero:=[.nil],sl:=some 193,bytes:=24,pln:=false }
def Of:TI:={ agg:=true,n:=7,zero:=[.v (.int .i64 0),.v (.string ⟨#[]⟩),.v (.int .i64 0),.v (.int .i64 0),.v (.int .i64 0),.nil,.nil],fields:=[(0,1),(1,1),(2,1),(3,1),(4,1),(5,1),(6,1)],fagg:=[false,false,false,false,false,false,false],bytes:=96,pln:=false }
def Oe:TI:={ agg:=true,n:=7,zero:=[.v (.int .i64 0),.v (.string ⟨#[]⟩),.v (.int .i64 0),.v (.int .i64 0),.v (.int .i64 0),.nil,.nil],fields:=[(0,1),(1,1),(2,1),(3,1),(4,1),(5,1),(6,1)],fagg:=[false,false,false,false,false,false,false],bytes:=96,pln:=false }
def Od:TI:={ agg:=true,n:=4,zero:=[.v (.int .i64 0),.v (.int .i64 0),.nil,.nil],fields:=[(0,1),(1,1),(2,1),(3,1)],fagg:=[false,false,false,false],bytes:=64,pln:=false }
def Oc:TI:={ agg:=true,n:=4,zero:=[.v (.int .i64 0),.v (.int .i64 0),.nil,.nil],fields:=[(0,1),(1,1),(2,1),(3,1)],fagg:=[false,false,false,false],bytes:=64,pln:=false }
def Ob:TI:={ agg:=true,n:=4,zero:=[.v (.int .i64 0),.v (.int .i64 0),.v (.int .i64 0),.nil],fields:=[(0,1),(1,1),(2,1),(3,1)],fagg:=[false,false,false,false],bytes:=48,pln:=false }
def Oa:TI:={ agg:=true,n:=4,zero:=[.v (.int .i64 0),.v (.int .i64 0),.v (.int .i64 0),.nil],fields:=[(0,1),(1,1),(2,1),(3,1)],fagg:=[false,false,false,false],bytes:=48,pln:=false }
def N9:TI:={ agg:=true,n:=7,zero:=[.v (.int .i64 0),.v (.int .i64 0),.v (.int .i64 0),.nil,.v (.bool false),.nil,.nil],fields:=[(0,1),(1,1),(2,1),(3,1),(4,1),(5,1),(6,1)],fagg:=[false,false,false,false,false,false,false],bytes:=104,pln:=false }
def N8:TI:={ agg:=true,n:=7,zero:=[.v (.int .i64 0),.v (.int .i64 0),.v (.int .i64 0),.nil,.v (.bool false),.nil,.nil],fields:=[(0,1),(1,1),(2,1),(3,1),(4,1),(5,1),(6,1)],fagg:=[false,false,false,false,false,false,false],bytes:=104,pln:=false }
def Ju:TI:={ agg:=true,n:=3,zero:=[.v (.int .i64 0),.v (.int .i64 0),.nil],fields:=[(0,1),(1,1),(2,1)],fagg:=[false,false,false],bytes:=40,pln:=false }
def Jt:TI:={ agg:=true,n:=3,zero:=[.v (.int .i64 0),.v (.int .i64 0),.nil],fields:=[(0,1),(1,1),(2,1)],fagg:=[false,false,false],bytes:=40,pln:=false }
def Js:TI:={ agg:=true,n:=3,zero:=[.v (.int .i64 0),.v (.int .i64 0),.v (.int .i64 0)],fields:=[(0,1),(1,1),(2,1)],fagg:=[false,false,false],bytes:=24,pln:=true,ieq:=true }
def qd:TI:={ agg:=true,n:=3,zero:=[.v (.int .i64 0),.v (.int .i64 0),.v (.int .i64 0)],fields:=[(0,1),(1,1),(2,1)],fagg:=[false,false,false],bytes:=24,pln:=true,ieq:=true }
def Jr:TI:={ n:=1,zero:=[.nil],sl:=some 31,bytes:=24,pln:=false }
def Jq:TI:={ n:=1,zero:=[.nil],sl:=some 49,bytes:=24,pln:=false }
def Jp:TI:={ agg:=true,n:=4,zero:=[.v (.int .i64 0),.v (.int .i64 0),.v (.bool false),.nil],fields:=[(0,1),(1,1),(2,1),(3,1)],fagg:=[false,false,false,false],bytes:=48,pln:=false }
def Jo:TI:={ agg:=true,n:=4,zero:=[.v (.int .i64 0),.v (.int .i64 0),.v (.bool false),.nil],fields:=[(0,1),(1,1),(2,1),(3,1)],fagg:=[false,false,false,false],bytes:=48,pln:=false }
def Jn:TI:={ agg:=true,n:=6,zero:=[.v (.int .i64 0),.v (.string ⟨#[]⟩),.v (.int .i64 0),.v (.int .i64 0),.v (.bool false),.nil],fields:=[(0,1),(1,1),(2,4)],fagg:=[false,false,true],bytes:=72,pln:=false }
def Jm:TI:={ agg:=true,n:=6,zero:=[.v (.int .i64 0),.v (.string ⟨#[]⟩),.v (.int .i64 0),.v (.int .i64 0),.v (.bool false),.nil],fields:=[(0,1),(1,1),(2,4)],fagg:=[false,false,true],bytes:=72,pln:=false }
def Jl:TI:={ n:=1,zero:=[.nil],sl:=some 5,bytes:=24,pln:=false }
def Jk:TI:={ agg:=true,n:=3,zero:=[.v (.int .i64 0),.v (.int .i64 0),.nil],fields:=[(0,1),(1,1),(2,1)],fagg:=[false,false,false],bytes:=40,pln:=false }
def Jj:TI:={ agg:=true,n:=3,zero:=[.v (.int .i64 0),.v (.int .i64 0),.nil],fields:=[(0,1),(1,1),(2,1)],fagg:=[false,false,false],bytes:=40,pln:=false }
def Ji:TI:={ agg:=true,n:=3,zero:=[.nil,.v (.int .i64 0),.v (.int .i64 0)],fields:=[(0,1),(1,1),(2,1)],fagg:=[false,false,false],bytes:=40,pln:=false }
def Jh:TI:={ agg:=true,n:=3,zero:=[.nil,.v (.int .i64 0),.v (.int .i64 0)],fields:=[(0,1),(1,1),(2,1)],fagg:=[false,false,false],bytes:=40,pln:=false }
def Jg:TI:={ agg:=true,n:=3,zero:=[.nil,.nil,.v (.int .i64 0)],fields:=[(0,1),(1,1),(2,1)],fagg:=[false,false,false],bytes:=56,pln:=false }
def Jf:TI:={ agg:=true,n:=3,zero:=[.nil,.nil,.v (.int .i64 0)],fields:=[(0,1),(1,1),(2,1)],fagg:=[false,false,false],bytes:=56,pln:=false }
def Je:TI:={ agg:=true,n:=1,zero:=[.nil],fields:=[(0,1)],fagg:=[false],bytes:=24,pln:=false }
def Jd:TI:={ agg:=true,n:=1,zero:=[.nil],fields:=[(0,1)],fagg:=[false],bytes:=24,pln:=false }
def Jc:TI:={ n:=1,zero:=[.v (.int .u32 0)],bytes:=4,kind:=some .u32 }
def Jb:TI:={ n:=1,zero:=[.v (.int .u64 0)],bytes:=8,kind:=some .u64 }
def Ja:TI:={ n:=1,zero:=[.v (.int .i64 0)],bytes:=8,kind:=some .i64 }
def I9:TI:={ agg:=true,n:=2,zero:=[.v (.int .u8 0),.v (.int .u8 0)],fields:=[(0,1),(1,1)],fagg:=[false,false],bytes:=2,pln:=true }
def I8:TI:={ agg:=true,n:=2,zero:=[.v (.int .u8 0),.v (.int .u8 0)],fields:=[(0,1),(1,1)],fagg:=[false,false],bytes:=2,pln:=true }
def I7:TI:={ n:=1,zero:=[.v (.int .u64 0)],bytes:=8,kind:=some .u64 }
def I6:TI:={ agg:=true,n:=1,zero:=[.v (.string ⟨#[]⟩)],fields:=[(0,1)],fagg:=[false],bytes:=16,pln:=true }
def I5:TI:={ agg:=true,n:=1,zero:=[.v (.string ⟨#[]⟩)],fields:=[(0,1)],fagg:=[false],bytes:=16,pln:=true }
def I4:TI:={ n:=1,zero:=[.v (.int .u8 0)],bytes:=1,kind:=some .u8 }
def I3:TI:={ n:=1,zero:=[.v (.int .u8 0)],bytes:=1,kind:=some .u8 }
def I2:TI:={ n:=1,zero:=[.v (.int .i32 0)],bytes:=4,kind:=some .i32 }
def I1:TI:={ n:=1,zero:=[.v (.int .i32 0)],bytes:=4,kind:=some .i32 }
def Q1:List (Nat×TI):=[(2,ti2),(3,ti3),(4,ti4),(5,ti5),(6,ti6),(7,ti7),(8,ti8),(9,ti9),(10,OD),(11,OC),(12,OB),(13,OA),(14,Oz),(21,Oy),(25,Ox),(27,Ow),(28,Ov),(29,Ou),(30,Ot),(31,Oq),(32,Oo),(33,On),(34,Om),(35,yv),(36,Ol),(37,Ok),(38,Oj),(39,Oi),(40,Oh),(49,Og),(50,Of),(51,Oe),(54,Od),(55,Oc),(59,Ob),(60,Oa),(74,N9),(75,N8),(108,Ju),(109,Jt),(118,Js),(119,qd),(136,Jr),(142,Jq),(147,Jp),(148,Jo),(149,Jn),(150,Jm),(156,Jl),(192,Jk),(193,Jj),(200,Ji),(201,Jh),(203,Jg),(204,Jf),(234,Je),(235,Jd),(241,Jc),(247,Jb),(258,Ja),(267,I9),(268,I8),(275,I7),(296,I6),(297,I5),(307,I4),(308,I3),(310,I2),(311,I1)]
def tt:Nat->Option TI:=Dl Q1
theorem Ud:tt 2=some ti2:=rfl
theorem Uc:tt 3=some ti3:=rfl
theorem Ub:tt 4=some ti4:=rfl
theorem Ua:tt 5=some ti5:=rfl
theorem T9:tt 6=some ti6:=rfl
theorem T8:tt 7=some ti7:=rfl
theorem T7:tt 8=some ti8:=rfl
theorem T6:tt 9=some ti9:=rfl
theorem Rz:tt 10=some OD:=rfl
theorem Ry:tt 11=some OC:=rfl
theorem Rx:tt 12=some OB:=rfl
theorem Rw:tt 13=some OA:=rfl
theorem Rv:tt 14=some Oz:=rfl
theorem Ru:tt 21=some Oy:=rfl
theorem Rt:tt 25=some Ox:=rfl
theorem Rs:tt 27=some Ow:=rfl
theorem Rr:tt 28=some Ov:=rfl
theorem Rq:tt 29=some Ou:=rfl
theorem Rp:tt 30=some Ot:=rfl
theorem Ro:tt 31=some Oq:=rfl
theorem Rn:tt 32=some Oo:=rfl
theorem Rm:tt 33=some On:=rfl
theorem Rl:tt 34=some Om:=rfl
theorem FX:tt 35=some yv:=rfl
theorem Rk:tt 36=some Ol:=rfl
theorem Rj:tt 37=some Ok:=rfl
theorem Ri:tt 38=some Oj:=rfl
theorem Rh:tt 39=some Oi:=rfl
theorem Rg:tt 40=some Oh:=rfl
theorem Rf:tt 49=some Og:=rfl
theorem Re:tt 50=some Of:=rfl
theorem Rc:tt 51=some Oe:=rfl
theorem Rb:tt 54=some Od:=rfl
theorem Ra:tt 55=some Oc:=rfl
theorem Q9:tt 59=some Ob:=rfl
theorem Q8:tt 60=some Oa:=rfl
theorem Q7:tt 74=some N9:=rfl
theorem Q6:tt 75=some N8:=rfl
theorem N2:tt 108=some Ju:=rfl
theorem N1:tt 109=some Jt:=rfl
theorem N0:tt 118=some Js:=rfl
theorem AW:tt 119=some qd:=rfl
theorem NZ:tt 136=some Jr:=rfl
theorem NY:tt 142=some Jq:=rfl
theorem NX:tt 147=some Jp:=rfl
theorem NW:tt 148=some Jo:=rfl
theorem NV:tt 149=some Jn:=rfl
theorem NU:tt 150=some Jm:=rfl
theorem NT:tt 156=some Jl:=rfl
theorem NS:tt 192=some Jk:=rfl
theorem NR:tt 193=some Jj:=rfl
theorem NQ:tt 200=some Ji:=rfl
theorem NP:tt 201=some Jh:=rfl
theorem NO:tt 203=some Jg:=rfl
theorem NN:tt 204=some Jf:=rfl
theorem NM:tt 234=some Je:=rfl
theorem NL:tt 235=some Jd:=rfl
theorem NK:tt 241=some Jc:=rfl
theorem NJ:tt 247=some Jb:=rfl
theorem NI:tt 258=some Ja:=rfl
theorem NH:tt 267=some I9:=rfl
theorem NG:tt 268=some I8:=rfl
theorem NF:tt 275=some I7:=rfl
theorem NE:tt 296=some I6:=rfl
theorem ND:tt 297=some I5:=rfl
theorem NC:tt 307=some I4:=rfl
theorem NB:tt 308=some I3:=rfl
theorem NA:tt 310=some I2:=rfl
theorem Nz:tt 311=some I1:=rfl
theorem LC:(Q1.all λp=>vG Tryz.prog p.1 p.2)=true:=by kernel_rfl
theorem ae:∀ t ti,tt t=some ti->TIok Tryz.prog t ti:=Jx LC
theorem eok {w0:World} {F G:Nat->Prop} {l:Bool}:EOk ⟨Tryz.prog,tt,w0,⟨F,G,l,λ_=>True⟩⟩:=⟨ae,λ_ _=>trivial⟩
attribute [simp] ti2 ti3 ti4 ti5 ti6 ti7 ti8 ti9 OD OC OB OA Oz Oy Ox Ow Ov Ou Ot Oq Oo On Om yv Ol Ok Oj Oi Oh Og Of Oe Od Oc Ob Oa N9 N8 Ju Jt Js qd Jr Jq Jp Jo Jn Jm Jl Jk Jj Ji Jh Jg Jf Je Jd Jc Jb Ja I9 I8 I7 I6 I5 I4 I3 I2 I1 Ud Uc Ub Ua T9 T8 T7 T6 Rz Ry Rx Rw Rv Ru Rt Rs Rr Rq Rp Ro Rn Rm Rl FX Rk Rj Ri Rh Rg Rf Re Rc Rb Ra Q9 Q8 Q7 Q6 N2 N1 N0 AW NZ NY NX NW NV NU NT NS NR NQ NP NO NN NM NL NK NJ NI NH NG NF NE ND NC NB NA Nz
end Go.Proofs.YtibkifnmhkealaaGreatDoor
namespace Go.AM
abbrev vi (n:Int):CD:=.v (.int .i64 n)
noncomputable abbrev vb (p:Prop):CD:=.v (.bool (dc p))
abbrev al (n:Int):List CD:=[vi n]
theorem lm {p q:Prop} (h:p ↔ q):dc p=dc q:=by rw [propext h]
theorem pz {α:Type} {a b:List α} {i:Nat} (h:i<a.length) (h':i<b.length) (ht:a.take i=b.take i) (he:a[i]=b[i]):a.take (i+1)=b.take (i+1):=by
 rw [<- List.take_append_getElem h,<- List.take_append_getElem h',ht,he]
theorem rF {α:Type} {a b:List α} {i:Nat} (h:a.length<=i) (hl:a.length=b.length) (ht:a.take i=b.take i):a=b:=by
 rwa [List.take_of_length_le h,List.take_of_length_le (by omega)] at ht
theorem zZ {α:Type} {a b:List α} {i:Nat} (h:i<a.length) (h':i<b.length) (he:a[i]≠b[i]):a≠b:=by
 rintro rfl;exact he rfl
theorem ec {n:Nat} (h:n<=9223372036854775807):Go.IntKind.i64.wrap (n:Int)=n:=Go.IntWalk.i64_in _ (by omega)
theorem aj {n:Nat} (h:n<9223372036854775807):Go.IntKind.i64.wrap ((n:Int)+1)=((n+1:Nat):Int):=by rw [Go.IntWalk.i64_in _ (by omega)];omega
@[simp] theorem Uf {a b:Nat}:((a:Int)+(b:Int)).toNat=a+b:=by omega
@[simp] theorem Ue {a n : Nat} : ((a : Int) + (OfNat.ofNat n : Int)).toNat = a + n := by
  show ((a:Int)+((n:Nat):Int)).toNat=a+n
  omega
@[simp] theorem Us {a b:Nat}:(0:Int)<=(a:Int)+(b:Int):=by omega
@[simp] theorem Ur {a n : Nat} : (0 : Int) <= (a : Int) + (OfNat.ofNat n : Int) := by
  show (0:Int)<=(a:Int)+((n:Nat):Int)
  omega
@[simp] theorem TK {α:Type} {f:α->List CD} {l:List α}:cut (l.map f) 0 l.length=l.map f:=vR (by simp)
attribute [simp] vR
@[simp] theorem TJ {n:Nat}:((n:Int)<0)=False:=by simp
open Go.RowKit Go.WideShapes Go.ChangeShapes
def xV (P:Program):Nat->List Field->Option Nat
 |o,[]=>some o
 |o,f::fs=>if f.offset=o then xV P (o+P.cellsOf f.type) fs else none
def okT (P:Program):Nat->TypeId->Bool
 |0,_=>false
 | D + 1, t => match P.underlying t with
   |some .bool=>true
   |some (.int _)=>true
   |some .string=>true
   |some (.slice e)=>decide (0<P.cellsOf e) && okT P D e
   |some (.struct fs)=>(xV P 0 fs.toList == some (P.cellsOf t)) && fs.toList.all λf=>okT P D f.type
   |_=>false
def od (P:Program):Nat->TypeId->List CD->Prop
 |0,_,_=>False
 | D + 1, t, ds => match P.underlying t with
   |some .bool=>∃ b,ds=[.v (.bool b)]
   |some (.int k)=>∃ n,ds=[.v (.int k n)]/\(Lit.int k n).wf=true
   |some .string=>∃ s:ByteArray,ds=[.v (.string s)]/\s.size<=maxLen
   |some (.slice e)=>∃ rows,ds=[.s rows]/\rows.length<=maxLen/\∀ row∈rows,row.length=P.cellsOf e/\od P D e row
   |some (.struct fs)=>ds.length=P.cellsOf t/\∀ f∈fs.toList,od P D f.type ((ds.drop f.offset).take (P.cellsOf f.type))
   |_=>False
def mJ (w:World) (cs:List Value) (ds:List CD):Prop:=ds.length=cs.length/\∀ (j:Nat) (u:Value) (d:CD),cs[j]? = some u->ds[j]? = some d->Rd w false (λ_=>True) u d
theorem mJ.one {w:World} {u:Value} {d:CD} (h:Rd w false (λ_=>True) u d):mJ w [u] [d]:=by
 refine ⟨rfl,λj u' d' hu hd=>?_⟩
 cases j with
 |zero=>simp at hu hd;subst hu;subst hd;exact h
 |succ j=>simp at hu
theorem r7 {P:Program} {w:World} {D:Nat} {cs:List Value}:∀ (fs:List Field) (o m:Nat),xV P o fs=some m -> m <= cs.length ->
 (∀ f ∈ fs,∃ ds,mJ w ((cs.drop f.offset).take (P.cellsOf f.type)) ds /\ od P D f.type ds) ->
 ∃ ds,o<=m/\mJ w ((cs.drop o).take (m - o)) ds/\∀ f∈fs,o<=f.offset/\od P D f.type ((ds.drop (f.offset - o)).take (P.cellsOf f.type))
 | [], o, m, hc, _, _ => by
   simp only [xV,Option.some.injEq] at hc;subst hc;exact ⟨[],Nat.le_refl _,by simp [mJ],by simp⟩
 | f :: fs, o, m, hc, hm, hx => by
   simp only [xV] at hc
   split at hc
   ·rename_i ho
    obtain ⟨ds,h1,h2,h3⟩:=r7 fs _ m hc hm (λg hg=>hx g (List.mem_cons_of_mem _ hg));obtain ⟨d1,h4,h5⟩:=hx f (List.mem_cons_self ..);have hl:d1.length=P.cellsOf f.type:=by rw [h4.1];simp;omega
    refine ⟨d1++ds,by omega,⟨?_,λj u d hu hd=>?_⟩,λg hg=>?_⟩
    ·have:=h2.1
     simp at this ⊢;omega
    ·by_cases hj:j<P.cellsOf f.type
     ·rw [List.getElem?_append_left (by omega)] at hd
      refine h4.2 j u d ?_ hd;rw [List.getElem?_take,if_pos hj,ho];rw [List.getElem?_take] at hu
      split at hu
      ·exact hu
      ·simp at hu
     ·rw [List.getElem?_append_right (by omega),hl] at hd
      refine h2.2 _ u d ?_ hd;rw [List.getElem?_take] at hu ⊢
      split at hu
      ·rw [if_pos (by omega)]
       rw [List.getElem?_drop] at hu ⊢;rw [<- hu]
       congr 1
       omega
      ·simp at hu
    ·rcases List.mem_cons.1 hg with rfl|hg
     ·refine ⟨by omega,?_⟩
      rw [ho,Nat.sub_self,List.drop_zero,List.take_append_of_le_length (by omega),List.take_of_length_le (by omega)];exact h5
     ·obtain ⟨h6,h7⟩:=h3 g hg
      refine ⟨by omega,?_⟩
      have:(d1++ds).drop (g.offset - o)=ds.drop (g.offset - (o+P.cellsOf f.type)):=by
       rw [List.drop_append,List.drop_of_length_le (by omega),hl,List.nil_append]
       congr 1
       omega
      rw [this];exact h7
   ·simp at hc
theorem Hi {H:Type} {enc:TypeId×Value->H} {P:Program} {w:World} {base:Nat} {spare:Nat->Bool} {held:Bool} :
 ∀ (D:Nat) (t:TypeId) (cs:List Value) (x:DataW H×List MemPlace) (fuel:Nat),okT P D t=true->DataW.trod enc P w base spare held fuel t cs=some x->∃ ds,mJ w cs ds/\od P D t ds:=by
 intro D
 induction D with
 |zero=>intro t cs x fuel h;simp [okT] at h
 | succ D ih =>
   intro t cs x fuel hok h;unfold okT at hok
   split at hok
   ·rename_i hu
    obtain ⟨b,rfl,-⟩:=DataW.trod_bool hu h;exact ⟨[.v (.bool b)],mJ.one (.plain rfl),by simp [od,hu]⟩
   ·rename_i k hu
    obtain ⟨n,rfl,-,hw⟩:=DataW.trod_int hu h;exact ⟨[.v (.int k n)],mJ.one (.plain rfl),by simp [od,hu,hw]⟩
   ·rename_i hu
    obtain ⟨s,rfl,-,hs⟩:=DataW.trod_string hu h;exact ⟨[.v (.string s)],mJ.one (.plain rfl),by simp [od,hu,hs]⟩
   ·rename_i e hu
    simp only [Bool.and_eq_true,decide_eq_true_eq] at hok;obtain ⟨hpos,hok⟩:=hok;rcases DataW.trod_slice hu h with ⟨rfl,-⟩|⟨a,len,cap,elems,rest,n,-,rfl,-,-,hlc,hcm,hel,hi,-⟩
    ·exact ⟨[.s []],mJ.one (.empty _ _ (λh=>by simp at h)),by simp [od,hu]⟩
    ·have each:∀ i,i<len->∃ p:List Value×List CD,w.cells? base (a.add (i*P.cellsOf e)) (P.cellsOf e)=some p.1/\mJ w p.1 p.2/\od P D e p.2:=by
      intro i hlt;have h1:=hi i hlt;rw [List.getElem?_eq_getElem (by omega)] at h1;obtain ⟨c,h2,h3⟩:=Option.bind_eq_some_iff.1 h1;obtain ⟨ds,h4,h5⟩:=ih e c _ n hok h3;exact ⟨(c,ds),h2,h4,h5⟩
     by_cases hl0:len=0
     ·subst hl0
      exact ⟨[.s []],mJ.one (.empty _ _ (λh=>by simp at h)),by simp [od,hu]⟩
     ·obtain ⟨f,hf⟩:=Go.Deep.choose_lt each
      have cell:∀ i j,i<len->j<P.cellsOf e->w.cell? (a.add (i*P.cellsOf e+j))=(f i).1[j]?/\(f i).1.length=P.cellsOf e:=by
       intro i j hlt hj;obtain ⟨-,h2,h3⟩:=World.cells?_some (hf i hlt).1;exact ⟨by rw [<- h3 j hj,Go.Deep.add_add],h2⟩
      obtain ⟨b,off,spot⟩:=a
      have hb:∃ cs T fr,w.heap[b]? = some (.cells cs T fr)/\spot=none:=by
       obtain ⟨h1,h2⟩:=cell 0 0 (by omega) hpos;rw [List.getElem?_eq_getElem (by omega)] at h1;unfold World.cell? at h1;rw [block_add] at h1
       split at h1
       ·rename_i c T fr hh
        refine ⟨c,T,fr,hh,?_⟩
        cases spot with
        |none=>rfl
        |some s=>simp [Addr.add] at h1
       ·simp at h1
      obtain ⟨c,T,fr,hb,rfl⟩:=hb
      have at':∀ i j,i<len->j<P.cellsOf e->c[off+(i*P.cellsOf e+j)]? = (f i).1[j]?:=by
       intro i j hlt hj;rw [<- (cell i j hlt hj).1,d8];simp [World.cell?,hb]
      have hrows:((List.range len).map λi=>(f i).2).length=len:=by simp
      have hrd:=Rd.slice (w:=w) (x:=false) (S:=λ_=>True) b off cap (P.cellsOf e) c T fr ((List.range len).map λi=>(f i).2) (λ_ _ _=>True)
       (by rw [hrows];exact hlc) hcm hpos trivial hb (by
        rw [hrows];obtain ⟨m,rfl⟩:∃ m,len=m+1:=⟨len - 1,by omega⟩;have h1:=at' m (P.cellsOf e - 1) (by omega) (by omega);rw [List.getElem?_eq_getElem (by rw [(cell m (P.cellsOf e - 1) (by omega) (by omega)).2];omega)] at h1;have h2:=(Array.getElem?_eq_some_iff.1 h1).1;rw [Nat.succ_mul];omega) (λh=>by simp at h) (λ_ _ _ _=>⟨trivial,λh=>by simp at h⟩) (λh=>by simp at h)
       (λrow hrow=>by
        simp only [List.mem_map,List.mem_range] at hrow;obtain ⟨i,hlt,rfl⟩:=hrow;rw [(hf i hlt).2.1.1];exact (cell i 0 hlt hpos).2)
       (λi j row d h1 h2=>by
        have hlt:i<len:=by have:=(List.getElem?_eq_some_iff.1 h1).1;omega
        simp only [List.getElem?_map,List.getElem?_range hlt,Option.map_some,Option.some.injEq] at h1;subst h1
        have hj:j<P.cellsOf e:=by
         have:=(List.getElem?_eq_some_iff.1 h2).1;rw [(hf i hlt).2.1.1,(cell i 0 hlt hpos).2] at this;exact this
        have h3:=at' i j hlt hj;rw [List.getElem?_eq_getElem (by rw [(cell i j hlt hj).2];exact hj)] at h3
        have h4:c.getD (off+(i*P.cellsOf e+j)) undef=(f i).1[j]'(by rw [(cell i j hlt hj).2];exact hj):=by
         rw [Array.getD_eq_getD_getElem?,h3];rfl
        rw [h4];exact (hf i hlt).2.1.2 j _ d (List.getElem?_eq_getElem _) h2)
      rw [hrows] at hrd;refine ⟨[.s ((List.range len).map λi=>(f i).2)],mJ.one hrd,?_⟩;simp only [od,hu];refine ⟨_,rfl,by rw [hrows];omega,λrow hrow=>?_⟩;simp only [List.mem_map,List.mem_range] at hrow;obtain ⟨i,hlt,rfl⟩:=hrow;exact ⟨by rw [(hf i hlt).2.1.1];exact (cell i 0 hlt hpos).2,(hf i hlt).2.2⟩
   ·rename_i fs hu
    simp only [Bool.and_eq_true,beq_iff_eq,List.all_eq_true] at hok;obtain ⟨hc,hall⟩:=hok;obtain ⟨xs,n,-,-,hcl,hxl,hi⟩:=DataW.trod_struct hu h
    obtain ⟨ds,-,h1,h2⟩:=r7 (w:=w) (D:=D) (cs:=cs) fs.toList 0 _ hc (by omega) (λf hf=>by
     obtain ⟨i,hlt,rfl⟩:=List.getElem_of_mem hf;have hlt':i<fs.size:=by simpa using hlt
     have h3:=hi i fs[i] (by simp [hlt']);rw [List.getElem?_eq_getElem (by omega)] at h3;exact ih _ _ _ n (hall _ hf) h3)
    rw [List.drop_zero,Nat.sub_zero,List.take_of_length_le (by omega)] at h1;refine ⟨ds,h1,?_⟩;simp only [od,hu];refine ⟨by rw [h1.1,hcl],λf hf=>?_⟩;have:=(h2 f hf).2
    rwa [Nat.sub_zero] at this
   ·simp at hok
def Et (P:Program) (D:Nat) (t:TypeId):VD->Prop
 | .c d=>od P D t [d]
 | .agg ds=>(∃ fs,P.underlying t=some (.struct fs))/\od P D t ds
theorem JX {H:Type} {enc:TypeId×Value->H} {P:Program} {w:World} {base b0:Nat} {spare:Nat->Bool} {held:Bool} {r:Reach} {D:Nat} {t:TypeId} {v:Value} {d:DataW H} {ps:List MemPlace}
 (hok:okT P D t=true) (hval:Value.okWide P w r b0 t v) (h:DataW.Trod enc P w base spare held t v d ps):∃ vd,RdV w v vd/\Et P D t vd:=by
 obtain ⟨fuel,hf⟩:=h;obtain ⟨ds,hr,hfit⟩:=Hi D t _ _ fuel hok hf
 have one:v.cells = #[v]->(∀ fs,P.underlying t≠some (.struct fs))->∃ vd,RdV w v vd/\Et P D t vd:=by
  intro hc _;rw [hc] at hr;obtain ⟨hl,hr⟩:=hr
  cases ds with
  |nil=>simp at hl
  | cons d ds =>
    cases ds with
    |nil=>exact ⟨.c d,hr 0 v d rfl rfl,hfit⟩
    |cons _ _=>simp at hl
 cases D with
 |zero=>simp [okT] at hok
 | succ D =>
   unfold okT at hok
   split at hok
   ·rename_i hu
    obtain ⟨b,rfl⟩:=okWide_bool hu hval;exact one rfl (λfs h=>by rw [hu] at h;simp at h)
   ·rename_i k hu
    obtain ⟨n,rfl⟩:=okWide_int hu hval;exact one rfl (λfs h=>by rw [hu] at h;simp at h)
   ·rename_i hu
    obtain ⟨s,rfl⟩:=okWide_string hu hval;exact one rfl (λfs h=>by rw [hu] at h;simp at h)
   ·rename_i e hu
    obtain ⟨a,l,c,rfl⟩:=okWide_slice hu hval;exact one rfl (λfs h=>by rw [hu] at h;simp at h)
   ·rename_i fs hu
    obtain ⟨cs,rfl,-⟩:=okWide_struct hu hval;obtain ⟨hl,hr⟩:=hr;refine ⟨.agg ds,⟨cs,rfl,by simpa [Value.cells] using hl.symm,λj d hd=>?_⟩,⟨fs,hu⟩,hfit⟩
    have hj:j<cs.size:=by
     have:=(List.getElem?_eq_some_iff.1 hd).1;simp [Value.cells] at hl;omega
    have:=hr j cs[j] d (by simp [Value.cells,hj]) hd
    simpa [hj] using this
   ·simp at hok
def mK (P:Program) (D:Nat) (w:World):List TypeId->List Value->List VD->Prop
 | [],[],[]=>True
 |t::ts,v::vs,d::ds=>(RdV w v d/\Et P D t d)/\mK P D w ts vs ds
 |_,_,_=>False
theorem zV {H:Type} {enc:TypeId×Value->H} {P:Program} {w:World} {base b0:Nat} {spare:Nat->Bool} {held:Bool} {r:Reach} {D:Nat} :
 ∀ (ts : List TypeId) (vs : List Value) (ds : List (DataW H)) (ps : List MemPlace), (ts.all λt => okT P D t) = true -> (∀ (j : Nat) t v, ts[j]? = some t -> vs[j]? = some v -> Value.okWide P w r b0 t v) ->
   DataW.TrodAll enc P w base spare held ts vs ds ps->∃ vds,mK P D w ts vs vds
 | [], vs, ds, ps, _, _, h => by
   obtain ⟨rfl,-,-⟩:=trodAll_nil h;exact ⟨[],trivial⟩
 | t :: ts, vs, ds, ps, hok, hval, h => by
   obtain ⟨v,vs1,d,ds1,a,b,rfl,rfl,rfl,h1,h2⟩:=trodAll_cons h;simp only [List.all_cons,Bool.and_eq_true] at hok;obtain ⟨vds,h3⟩:=zV ts vs1 ds1 b hok.2 (λj t v ht hv=>hval (j+1) t v (by simpa using ht) (by simpa using hv)) h2;obtain ⟨vd,h4,h5⟩:=JX hok.1 (hval 0 t v rfl rfl) h1;exact ⟨vd::vds,⟨h4,h5⟩,h3⟩
theorem vh {P:Program} {D:Nat} {w:World}:∀ (ts:List TypeId) (vs:List Value) (vds:List VD),mK P D w ts vs vds->vs.length=vds.length/\∀ (i:Nat) vd,vds[i]? = some vd->RdV w (vs.toArray.getD i undef) vd
 | [],[],[],_=>⟨rfl,λi vd h=>by simp at h⟩
 | t :: ts, v :: vs, d :: ds, h => by
   obtain ⟨h1,h2⟩:=vh ts vs ds h.2;refine ⟨by simp [h1],λi vd hi=>?_⟩
   cases i with
   |zero=>simp at hi;subst hi;simpa using h.1.1
   |succ i=>simpa using h2 i vd (by simpa using hi)
theorem zB {H:Type} {enc:TypeId×Value->H} {P:Program} (hl:laidOutB P=true) {W W':World} (hb:Below W.heap.size W W') {sp:Nat->Bool} :
 ∀ (ts : List TypeId) (vs : List Value) (ds : List (DataW H)) (ps : List MemPlace), (ts.all λt => P.readableRec t && decide (t < P.types.size)) = true -> DataW.TrodAll enc P W 0 (λ_ => true) true ts vs ds ps ->
   (∀ x∈ps,x.block<W.heap.size)->(∀ x∈ps,sp x.block=true)->DataW.TrodAll enc P W' 0 sp true ts vs ds ps
 | [], vs, ds, ps, _, h, _, _ => by
   obtain ⟨rfl,rfl,rfl⟩:=trodAll_nil h;rfl
 | t :: ts, vs, ds, ps, hok, h, hlt, hsp => by
   obtain ⟨v,vs1,d,ds1,a,b,rfl,rfl,rfl,h1,h2⟩:=trodAll_cons h;simp only [List.all_cons,Bool.and_eq_true,decide_eq_true_eq] at hok;refine ⟨a,b,WideElems.Trod_stays hl hok.1.1 hok.1.2 h1 (λx hx=>hb.same (hlt x (by simp [hx]))) (λx hx=>hsp x (by simp [hx])),zB hl hb ts vs1 ds1 b (by simpa using hok.2) h2 (λx hx=>hlt x (by simp [hx])) (λx hx=>hsp x (by simp [hx])),rfl⟩
theorem HC {L:World->Prop} {H:Type} {enc:TypeId×Value->H} {P:Program} (hlaid:laidOutB P=true) {f:FuncId} {fn:Func} {s:ChangeSpec} {apart fresh handsOn:Bool} {D:Nat} {bt:TypeId}
 (hv:s.vars=[]) (hres:fn.resultTypes = #[bt]) (hbt:P.underlying bt=some .bool) (hokT:(fn.params.toList.all λt=>okT P D t)=true) (hread:(fn.params.toList.all λt=>P.readableRec t && decide (t<P.types.size))=true)
 (hs:∀ ds:List (DataW H),ds.length=fn.params.toList.length->s.fn H ds={ results:=[.lit (.bool true)],args:=ds })
 {W:World} {args:Array Value} {r:Reach} {b0:Nat} {ds gs:List (DataW H)} {before:List MemPlace}
 (hval:∀ (j:Nat) t v,fn.params[j]? = some t->args[j]? = some v->Value.okWide P W r b0 t v)
 (hW:DataW.Whole enc P fn.params.toList s.vars apart W args.toList ds gs before)
 (hLW:L W) (hwalk:∀ vds,mK P D W fn.params.toList args.toList vds->bY P L f vds (.one (.c (.v (.bool true)) 1))) :
 Calls P f args W λe W'=>∃ v,e=.returned v/\s.post enc P fn apart fresh handsOn false W args v W':=by
 have hW0:=hW;obtain ⟨p,q,hA,hV,rfl,hfz,hnd⟩:=hW;rw [hv] at hV;obtain ⟨rfl,rfl⟩:=trodVars_none hV;obtain ⟨vds,ho⟩:=zV (D:=D) fn.params.toList args.toList ds p hokT (λj t v ht hv=>hval j t v (by simpa using ht) (by simpa using hv)) hA;obtain ⟨hl,hr⟩:=vh _ _ _ ho
 have hlen:ds.length=fn.params.toList.length:=by
  have:∀ (ts:List TypeId) (vs:List Value) (ds:List (DataW H)) (ps:List MemPlace),DataW.TrodAll enc P W 0 (λ_=>true) true ts vs ds ps->ds.length=ts.length:=by
   intro ts
   induction ts with
   |nil=>intro vs ds ps h;obtain ⟨-,rfl,-⟩:=trodAll_nil h;rfl
   | cons t ts ih =>
     intro vs ds ps h;obtain ⟨v,vs1,d,ds1,a,b,rfl,rfl,rfl,h1,h2⟩:=trodAll_cons h;simp [ih _ _ _ h2]
  exact this _ _ _ _ hA
 refine ((hwalk vds ho).2 W hLW args (by simpa using hl) (λi vd hi=>by simpa using hr i vd hi)).mono ?_
 rintro e W' ⟨v,rfl,hb,hrr⟩
 have hv1:v=.bool true:=hrr.1;subst hv1;have hs':=hs ds hlen;refine ⟨_,rfl,ds,[],p,[],p,[],by simpa using hW0,?_,?_,?_,?_,λh=>by cases h⟩
 ·rw [List.append_nil,hs',hres]
  exact trodAll_mk1 (shut_bool hbt true)
 ·rw [List.append_nil,hs']
  have hlt:∀ x∈p,x.block<W.heap.size:=λx hx=>hW0.lt x (by simp [hx])
  exact zB hlaid hb _ _ _ _ hread hA hlt (λx hx=>by simpa using hlt x hx)
 ·rw [hv]
  have:(s.fn H (ds++[])).vars=[]:=by rw [List.append_nil,hs']
  rw [this];exact rfl
 ·exact hb.frame _
section
variable {P:Program} {D:Nat} {t e:TypeId} {vd:VD} {ds:List CD}
theorem DI (hu:P.underlying t=some .string) (h:od P D t ds):∃ s:ByteArray,ds=[.v (.string s)]/\s.size<=maxLen:=by
 cases D with
 |zero=>exact h.elim
 |succ D=>simpa only [od,hu] using h
theorem MB {de:TypeDesc} (hu:P.underlying t=some de) (hn:∀ fs,de≠.struct fs) (h:Et P D t vd):∃ d,vd=.c d/\od P D t [d]:=by
 cases vd with
 |c d=>exact ⟨d,rfl,h⟩
 | agg ds =>
   obtain ⟨⟨fs,h1⟩,-⟩:=h;rw [hu] at h1;simp only [Option.some.injEq] at h1;exact absurd h1 (hn fs)
end
theorem mK.nil {P:Program} {D:Nat} {w:World} {vs:List Value} {vds:List VD} (h:mK P D w [] vs vds):vds=[]:=by
 cases vs with
 | nil => cases vds with
   |nil=>rfl
   |cons _ _=>exact h.elim
 |cons _ _=>exact h.elim
theorem mK.cons {P:Program} {D:Nat} {w:World} {t:TypeId} {ts:List TypeId} {vs:List Value} {vds:List VD} (h:mK P D w (t::ts) vs vds) :
 ∃ vd vds',vds=vd::vds'/\Et P D t vd/\∃ vs',mK P D w ts vs' vds':=by
 cases vs with
 |nil=>cases vds<;>exact h.elim
 | cons v vs => cases vds with
   |nil=>exact h.elim
   |cons d ds=>exact ⟨d,ds,rfl,h.1.2,vs,h.2⟩
section
variable {α:Type} {mk:α->Int->α} {cn:α->Nat}
variable {f:α->List CD} {l:List α} {k:Int} {i:Nat}
end
abbrev one {α:Type} (_:α):Nat:=1
end Go.AM
namespace Go.Proofs.YtibkifnmhkealaaGreatDoor
open Go.AM
set_option maxRecDepth 20000
def lw (n:Int):Prop:=-9223372036854775808<=n/\n<=9223372036854775807
def cJ {α:Type} (f:α->Nat):List α->Nat
 | []=>0
 |a::l=>f a+cJ f l
theorem CF {α:Type} {f:α->Nat}:∀ {l:List α} {a:α},a∈l->f a<=cJ f l
 | b :: l, a, h => by
   simp only [cJ];rcases List.mem_cons.1 h with rfl|h
   ·omega
   ·have:=CF (f:=f) h;omega
def nL {α:Type} (f:α->Nat) (l:List α):Nat:=l.length+cJ f l
theorem bf {α:Type} {f:α->Nat} {l:List α} {B:Nat} (h:nL f l<=B):l.length<=B:=by unfold nL at h;omega
theorem dK {α:Type} {f:α->Nat} {l:List α} {B:Nat} (h:nL f l<=B) {a:α} (ha:a∈l):f a<=B:=by have:=CF (f:=f) ha;unfold nL at h;omega
theorem et {α:Type} {f:α->Nat} {l:List α} {B:Nat} (h:nL f l<=B) {i:Nat} (hi:i<l.length):f l[i]<=B:=dK h (List.getElem_mem hi)
structure Part where
 kind:Int
 n:Int
 signs:List Int
 deriving Inhabited
def Part.row (x:Part):List CD:=[vi x.kind,vi x.n,.s (x.signs.map al)]
def Part.res (x:Part):List (CD×Nat):=[(vi x.kind,1),(vi x.n,1),(.s (x.signs.map al),1)]
@[simp] theorem Part.row_len {x:Part}:x.row.length=3:=rfl
def aq (x:Part):Nat:=x.signs.length
structure Entry where
 client:Int
 seq:Int
 o:List Part
def Entry.row (x:Entry):List CD:=[vi x.client,vi x.seq,.s (x.o.map Part.row)]
def Entry.res (x:Entry):List (CD×Nat):=[(vi x.client,1),(vi x.seq,1),(.s (x.o.map Part.row),3)]
@[simp] theorem Entry.row_len {x:Entry}:x.row.length=3:=rfl
def aU (x:Entry):Nat:=nL aq x.o
structure Seen where
 client:Int
 seq:Int
 rev:Int
def Seen.row (x:Seen):List CD:=[vi x.client,vi x.seq,vi x.rev]
def Seen.res (x:Seen):List (CD×Nat):=[(vi x.client,1),(vi x.seq,1),(vi x.rev,1)]
@[simp] theorem Seen.row_len {x:Seen}:x.row.length=3:=rfl
structure Doc where
 name:ByteArray
 fr:Int
 text:List Int
 list:List Entry
 seen:List Seen
def Doc.row (x:Doc):List CD:=[.v (.string x.name),vi x.fr,.s (x.text.map al),.s (x.list.map Entry.row),.s (x.seen.map Seen.row)]
def Doc.res (x:Doc):List (CD×Nat):=[(.v (.string x.name),1),(vi x.fr,1),(.s (x.text.map al),1),(.s (x.list.map Entry.row),3),(.s (x.seen.map Seen.row),3)]
@[simp] theorem Doc.row_len {x:Doc}:x.row.length=5:=rfl
def cO (x:Doc):Nat:=x.name.size+(x.text.length+(nL aU x.list+(x.seen.length)))
structure Ring where
 cap:Int
 next:Int
 out:Bool
 list:List Entry
def Ring.row (x:Ring):List CD:=[vi x.cap,vi x.next,.v (.bool x.out),.s (x.list.map Entry.row)]
def Ring.res (x:Ring):List (CD×Nat):=[(vi x.cap,1),(vi x.next,1),(.v (.bool x.out),1),(.s (x.list.map Entry.row),3)]
@[simp] theorem Ring.row_len {x:Ring}:x.row.length=4:=rfl
def dX (x:Ring):Nat:=nL aU x.list
structure Sub where
 id:Int
 doc:ByteArray
 r:Ring
def Sub.row (x:Sub):List CD:=[vi x.id,.v (.string x.doc),vi x.r.cap,vi x.r.next,.v (.bool x.r.out),.s (x.r.list.map Entry.row)]
def Sub.res (x:Sub):List (CD×Nat):=[(vi x.id,1),(.v (.string x.doc),1),(vi x.r.cap,1),(vi x.r.next,1),(.v (.bool x.r.out),1),(.s (x.r.list.map Entry.row),3)]
@[simp] theorem Sub.row_len {x:Sub}:x.row.length=6:=rfl
def fq (x:Sub):Nat:=x.doc.size+(dX x.r)
structure Hub where
 shut:Bool
 docs:List Doc
 subs:List Sub
 last:Int
def Hub.row (x:Hub):List CD:=[.v (.bool x.shut),.s (x.docs.map Doc.row),.s (x.subs.map Sub.row),vi x.last]
def Hub.res (x:Hub):List (CD×Nat):=[(.v (.bool x.shut),1),(.s (x.docs.map Doc.row),5),(.s (x.subs.map Sub.row),6),(vi x.last,1)]
@[simp] theorem Hub.row_len {x:Hub}:x.row.length=4:=rfl
def dU (x:Hub):Nat:=nL cO x.docs+(nL fq x.subs)
structure Call where
 kind:Int
 doc:ByteArray
 client:Int
 seq:Int
 n:Int
 o:List Part
 text:List Int
def Call.row (x:Call):List CD:=[vi x.kind,.v (.string x.doc),vi x.client,vi x.seq,vi x.n,.s (x.o.map Part.row),.s (x.text.map al)]
def Call.res (x:Call):List (CD×Nat):=[(vi x.kind,1),(.v (.string x.doc),1),(vi x.client,1),(vi x.seq,1),(vi x.n,1),(.s (x.o.map Part.row),3),(.s (x.text.map al),1)]
@[simp] theorem Call.row_len {x:Call}:x.row.length=7:=rfl
def go (x:Call):Nat:=x.doc.size+(nL aq x.o+(x.text.length))
structure Answer where
 code:Int
 rev:Int
 text:List Int
 list:List Entry
def Answer.row (x:Answer):List CD:=[vi x.code,vi x.rev,.s (x.text.map al),.s (x.list.map Entry.row)]
def Answer.res (x:Answer):List (CD×Nat):=[(vi x.code,1),(vi x.rev,1),(.s (x.text.map al),1),(.s (x.list.map Entry.row),3)]
@[simp] theorem Answer.row_len {x:Answer}:x.row.length=4:=rfl
def gR (x:Answer):Nat:=x.text.length+(nL aU x.list)
structure Task where
 c:Call
 pc:Int
 inv:Int
 lin:Int
 rs:Int
 a:Answer
def Task.row (x:Task):List CD:=[vi x.c.kind,.v (.string x.c.doc),vi x.c.client,vi x.c.seq,vi x.c.n,.s (x.c.o.map Part.row),.s (x.c.text.map al),vi x.pc,vi x.inv,vi x.lin,vi x.rs,vi x.a.code,vi x.a.rev,.s (x.a.text.map al),.s (x.a.list.map Entry.row)]
def Task.res (x:Task):List (CD×Nat):=[(vi x.c.kind,1),(.v (.string x.c.doc),1),(vi x.c.client,1),(vi x.c.seq,1),(vi x.c.n,1),(.s (x.c.o.map Part.row),3),(.s (x.c.text.map al),1),(vi x.pc,1),(vi x.inv,1),(vi x.lin,1),(vi x.rs,1),(vi x.a.code,1),(vi x.a.rev,1),(.s (x.a.text.map al),1),(.s (x.a.list.map Entry.row),3)]
@[simp] theorem Task.row_len {x:Task}:x.row.length=15:=rfl
structure Queue where
 doc:ByteArray
 list:List Int
def Queue.row (x:Queue):List CD:=[.v (.string x.doc),.s (x.list.map al)]
def Queue.res (x:Queue):List (CD×Nat):=[(.v (.string x.doc),1),(.s (x.list.map al),1)]
@[simp] theorem Queue.row_len {x:Queue}:x.row.length=2:=rfl
structure Wld where
 h:Hub
 locks:List Int
 queues:List Queue
 tasks:List Task
 step:Int
def Wld.row (x:Wld):List CD:=[.v (.bool x.h.shut),.s (x.h.docs.map Doc.row),.s (x.h.subs.map Sub.row),vi x.h.last,.s (x.locks.map al),.s (x.queues.map Queue.row),.s (x.tasks.map Task.row),vi x.step]
def Wld.res (x:Wld):List (CD×Nat):=[(.v (.bool x.h.shut),1),(.s (x.h.docs.map Doc.row),5),(.s (x.h.subs.map Sub.row),6),(vi x.h.last,1),(.s (x.locks.map al),1),(.s (x.queues.map Queue.row),2),(.s (x.tasks.map Task.row),15),(vi x.step,1)]
@[simp] theorem Wld.row_len {x:Wld}:x.row.length=8:=rfl
structure Rep where
 client:Int
 seq:Int
 rev:Int
 text:List Int
 has:Bool
 sent:List Part
 buf:List Part
def Rep.row (x:Rep):List CD:=[vi x.client,vi x.seq,vi x.rev,.s (x.text.map al),.v (.bool x.has),.s (x.sent.map Part.row),.s (x.buf.map Part.row)]
def Rep.res (x:Rep):List (CD×Nat):=[(vi x.client,1),(vi x.seq,1),(vi x.rev,1),(.s (x.text.map al),1),(.v (.bool x.has),1),(.s (x.sent.map Part.row),3),(.s (x.buf.map Part.row),3)]
@[simp] theorem Rep.row_len {x:Rep}:x.row.length=7:=rfl
def bR (x:Rep):Nat:=x.text.length+(nL aq x.sent+(nL aq x.buf))
structure Net where
 d:Doc
 reps:List Rep
def Net.row (x:Net):List CD:=[.v (.string x.d.name),vi x.d.fr,.s (x.d.text.map al),.s (x.d.list.map Entry.row),.s (x.d.seen.map Seen.row),.s (x.reps.map Rep.row)]
def Net.res (x:Net):List (CD×Nat):=[(.v (.string x.d.name),1),(vi x.d.fr,1),(.s (x.d.text.map al),1),(.s (x.d.list.map Entry.row),3),(.s (x.d.seen.map Seen.row),3),(.s (x.reps.map Rep.row),7)]
@[simp] theorem Net.row_len {x:Net}:x.row.length=6:=rfl
def d6 (x:Net):Nat:=cO x.d+(nL bR x.reps)
structure Event where
 kind:Int
 who:Int
 n:Int
 o:List Part
def Event.row (x:Event):List CD:=[vi x.kind,vi x.who,vi x.n,.s (x.o.map Part.row)]
def Event.res (x:Event):List (CD×Nat):=[(vi x.kind,1),(vi x.who,1),(vi x.n,1),(.s (x.o.map Part.row),3)]
@[simp] theorem Event.row_len {x:Event}:x.row.length=4:=rfl
def iG (x:Event):Nat:=nL aq x.o
structure Desk where
 h:Hub
 n:Net
def Desk.row (x:Desk):List CD:=[.v (.bool x.h.shut),.s (x.h.docs.map Doc.row),.s (x.h.subs.map Sub.row),vi x.h.last,.v (.string x.n.d.name),vi x.n.d.fr,.s (x.n.d.text.map al),.s (x.n.d.list.map Entry.row),.s (x.n.d.seen.map Seen.row),.s (x.n.reps.map Rep.row)]
def Desk.res (x:Desk):List (CD×Nat):=[(.v (.bool x.h.shut),1),(.s (x.h.docs.map Doc.row),5),(.s (x.h.subs.map Sub.row),6),(vi x.h.last,1),(.v (.string x.n.d.name),1),(vi x.n.d.fr,1),(.s (x.n.d.text.map al),1),(.s (x.n.d.list.map Entry.row),3),(.s (x.n.d.seen.map Seen.row),3),(.s (x.n.reps.map Rep.row),7)]
@[simp] theorem Desk.row_len {x:Desk}:x.row.length=10:=rfl
def uL (x:Desk):Nat:=dU x.h+(d6 x.n)
theorem mix:Tryz.prog.follows .mixedOrders=true:=by kernel_rfl
end Go.Proofs.YtibkifnmhkealaaGreatDoor
