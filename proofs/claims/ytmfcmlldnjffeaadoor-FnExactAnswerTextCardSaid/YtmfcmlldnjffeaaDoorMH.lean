import Derived.Test.YtmfcmlldnjffeaaDoorMG
import Derived.Test.YtmfcmlldnjffeaaDoorRows
import Derived.Test.YtmfcmlldnjffeaaDoorME
import Derived.IntWalk
import Derived.ProofKit
import Derived.Deep.Slices
import Derived.Test.YtmfcmlldnjffeaaDoorMF
namespace Go.Proofs.YtmfcmlldnjffeaaDoor
open Go.AM
def ti2:TI:={ n:=1,zero:=[.v (.int .i64 0)],bytes:=8,kind:=some .i64 }
def ti3:TI:={ n:=1,zero:=[.v (.int .i64 0)],bytes:=8,kind:=some .i64 }
def ti4:TI:={ n:=1,zero:=[.v (.bool false)],bytes:=1,boo:=true }
def ti5:TI:={ n:=1,zero:=[.v (.int .u8 0)],bytes:=1,kind:=some .u8 }
def ti6:TI:={ n:=1,zero:=[.v (.int .u8 0)],bytes:=1,kind:=some .u8 }
def ti7:TI:={ agg:=true,n:=4,zero:=[.v (.int .i64 0),.v (.int .i64 0),.v (.bool false),.v (.int .u8 0)],fields:=[(0,1),(1,1),(2,1),(3,1)],fagg:=[false,false,false,false],bytes:=24,pln:=true }
def ti8:TI:={ agg:=true,n:=4,zero:=[.v (.int .i64 0),.v (.int .i64 0),.v (.bool false),.v (.int .u8 0)],fields:=[(0,1),(1,1),(2,1),(3,1)],fagg:=[false,false,false,false],bytes:=24,pln:=true }
def ti9:TI:={ n:=1,zero:=[.v (.string ⟨#[]⟩)],bytes:=16,str:=true }
def uw:TI:={ n:=1,zero:=[.v (.string ⟨#[]⟩)],bytes:=16,str:=true }
def uv:TI:={ n:=1,zero:=[.v (.string ⟨#[]⟩)],bytes:=16,str:=true }
def uu:TI:={ n:=1,zero:=[.v (.int .u64 0)],bytes:=8,kind:=some .u64 }
def ut:TI:={ agg:=true,n:=2,zero:=[.v (.string ⟨#[]⟩),.v (.int .u64 0)],fields:=[(0,1),(1,1)],fagg:=[false,false],bytes:=24,pln:=true }
def ur:TI:={ agg:=true,n:=2,zero:=[.v (.string ⟨#[]⟩),.v (.int .u64 0)],fields:=[(0,1),(1,1)],fagg:=[false,false],bytes:=24,pln:=true }
def uq:TI:={ n:=1,zero:=[.v (.int .i32 0)],bytes:=4,kind:=some .i32 }
def uo:TI:={ n:=1,zero:=[.nil],sl:=some 70,bytes:=24,pln:=false }
def um:TI:={ agg:=true,n:=3,zero:=[.v (.int .i64 0),.v (.int .i64 0),.nil],fields:=[(0,1),(1,1),(2,1)],fagg:=[false,false,false],bytes:=40,pln:=false }
def ul:TI:={ agg:=true,n:=3,zero:=[.v (.int .i64 0),.v (.int .i64 0),.nil],fields:=[(0,1),(1,1),(2,1)],fagg:=[false,false,false],bytes:=40,pln:=false }
def uk:TI:={ n:=1,zero:=[.nil],sl:=some 72,bytes:=24,pln:=false }
def uj:TI:={ agg:=true,n:=3,zero:=[.v (.int .i64 0),.v (.int .i64 0),.nil],fields:=[(0,1),(1,1),(2,1)],fagg:=[false,false,false],bytes:=40,pln:=false }
def ui:TI:={ agg:=true,n:=3,zero:=[.v (.int .i64 0),.v (.int .i64 0),.nil],fields:=[(0,1),(1,1),(2,1)],fagg:=[false,false,false],bytes:=40,pln:=false }
def ug:TI:={ agg:=true,n:=4,zero:=[.v (.int .i64 0),.v (.int .i64 0),.v (.int .i64 0),.nil],fields:=[(0,1),(1,1),(2,1),(3,1)],fagg:=[false,false,false,false],bytes:=48,pln:=false }
def uf:TI:={ agg:=true,n:=4,zero:=[.v (.int .i64 0),.v (.int .i64 0),.v (.int .i64 0),.nil],fields:=[(0,1),(1,1),(2,1),(3,1)],fagg:=[false,false,false,false],bytes:=48,pln:=false }
def ue:TI:={ agg:=true,n:=4,zero:=[.v (.int .i64 0),.v (.int .i64 0),.v (.int .i64 0),.nil],fields:=[(0,1),(1,1),(2,1),(3,1)],fagg:=[false,false,false,false],bytes:=48,pln:=false }
def ud:TI:={ agg:=true,n:=4,zero:=[.v (.int .i64 0),.v (.int .i64 0),.v (.int .i64 0),.nil],fields:=[(0,1),(1,1),(2,1),(3,1)],fagg:=[false,false,false,false],bytes:=48,pln:=false }
def ub:TI:={ n:=1,zero:=[.nil],sl:=some 3,bytes:=24,pln:=false }
def t8:TI:={ n:=1,zero:=[.nil],sl:=some 24,bytes:=24,pln:=false }
def t7:TI:={ agg:=true,n:=4,zero:=[.v (.int .i64 0),.v (.int .i64 0),.nil,.nil],fields:=[(0,1),(1,1),(2,1),(3,1)],fagg:=[false,false,false,false],bytes:=64,pln:=false }
def t6:TI:={ agg:=true,n:=4,zero:=[.v (.int .i64 0),.v (.int .i64 0),.nil,.nil],fields:=[(0,1),(1,1),(2,1),(3,1)],fagg:=[false,false,false,false],bytes:=64,pln:=false }
def tZ:TI:={ n:=1,zero:=[.nil],sl:=some 29,bytes:=24,pln:=false }
def tY:TI:={ agg:=true,n:=4,zero:=[.v (.int .i64 0),.v (.int .i64 0),.nil,.nil],fields:=[(0,1),(1,1),(2,1),(3,1)],fagg:=[false,false,false,false],bytes:=64,pln:=false }
def tX:TI:={ agg:=true,n:=4,zero:=[.v (.int .i64 0),.v (.int .i64 0),.nil,.nil],fields:=[(0,1),(1,1),(2,1),(3,1)],fagg:=[false,false,false,false],bytes:=64,pln:=false }
def tW:TI:={ agg:=true,n:=3,zero:=[.v (.int .i64 0),.v (.int .i64 0),.nil],fields:=[(0,1),(1,1),(2,1)],fagg:=[false,false,false],bytes:=40,pln:=false }
def tV:TI:={ agg:=true,n:=3,zero:=[.v (.int .i64 0),.v (.int .i64 0),.nil],fields:=[(0,1),(1,1),(2,1)],fagg:=[false,false,false],bytes:=40,pln:=false }
def tU:TI:={ n:=1,zero:=[.nil],sl:=some 5,bytes:=24,pln:=false }
def tT:TI:={ agg:=true,n:=3,zero:=[.v (.int .i64 0),.v (.int .i64 0),.nil],fields:=[(0,1),(1,1),(2,1)],fagg:=[false,false,false],bytes:=40,pln:=false }
def tS:TI:={ n:=1,zero:=[.nil],sl:=some 9,bytes:=24,pln:=false }
def tR:TI:={ agg:=true,n:=3,zero:=[.nil,.nil,.v (.int .i64 0)],fields:=[(0,1),(1,1),(2,1)],fagg:=[false,false,false],bytes:=56,pln:=false }
def tQ:TI:={ agg:=true,n:=3,zero:=[.nil,.nil,.v (.int .i64 0)],fields:=[(0,1),(1,1),(2,1)],fagg:=[false,false,false],bytes:=56,pln:=false }
def pp:TI:={ n:=1,zero:=[.v (.int .u64 0)],bytes:=8,kind:=some .u64 }
def po:TI:={ n:=1,zero:=[.v (.int .u32 0)],bytes:=4,kind:=some .u32 }
def pn:TI:={ n:=1,zero:=[.v (.int .u64 0)],bytes:=8,kind:=some .u64 }
def pm:TI:={ agg:=true,n:=2,zero:=[.v (.int .u8 0),.v (.int .u8 0)],fields:=[(0,1),(1,1)],fagg:=[false,false],bytes:=2,pln:=true }
def pl:TI:={ agg:=true,n:=2,zero:=[.v (.int .u8 0),.v (.int .u8 0)],fields:=[(0,1),(1,1)],fagg:=[false,false],bytes:=2,pln:=true }
def pk:TI:={ n:=1,zero:=[.v (.int .u8 0)],bytes:=1,kind:=some .u8 }
def pj:TI:={ n:=1,zero:=[.v (.int .u8 0)],bytes:=1,kind:=some .u8 }
def pi:TI:={ n:=1,zero:=[.v (.int .i32 0)],bytes:=4,kind:=some .i32 }
def pg:TI:={ n:=1,zero:=[.v (.int .i32 0)],bytes:=4,kind:=some .i32 }
def xc:List (Nat×TI):=[(2,ti2),(3,ti3),(4,ti4),(5,ti5),(6,ti6),(7,ti7),(8,ti8),(9,ti9),(10,uw),(11,uv),(12,uu),(13,ut),(14,ur),(21,uq),(22,uo),(23,um),(24,ul),(27,uk),(28,uj),(29,ui),(33,ug),(34,uf),(37,ue),(38,ud),(42,ub),(43,t8),(44,t7),(45,t6),(48,tZ),(49,tY),(50,tX),(69,tW),(70,tV),(71,tU),(72,tT),(76,tS),(88,tR),(89,tQ),(109,pp),(120,po),(122,pn),(128,pm),(129,pl),(142,pk),(143,pj),(145,pi),(146,pg)]
def tt:Nat->Option TI:=kQ xc
theorem Ar:tt 2=some ti2:=rfl
theorem Aq:tt 3=some ti3:=rfl
theorem Ap:tt 4=some ti4:=rfl
theorem Ao:tt 5=some ti5:=rfl
theorem An:tt 6=some ti6:=rfl
theorem Am:tt 7=some ti7:=rfl
theorem Al:tt 8=some ti8:=rfl
theorem Ak:tt 9=some ti9:=rfl
theorem xI:tt 10=some uw:=rfl
theorem xH:tt 11=some uv:=rfl
theorem xG:tt 12=some uu:=rfl
theorem xF:tt 13=some ut:=rfl
theorem xE:tt 14=some ur:=rfl
theorem xD:tt 21=some uq:=rfl
theorem xC:tt 22=some uo:=rfl
theorem xB:tt 23=some um:=rfl
theorem xA:tt 24=some ul:=rfl
theorem xz:tt 27=some uk:=rfl
theorem xy:tt 28=some uj:=rfl
theorem xx:tt 29=some ui:=rfl
theorem xw:tt 33=some ug:=rfl
theorem xv:tt 34=some uf:=rfl
theorem xu:tt 37=some ue:=rfl
theorem xt:tt 38=some ud:=rfl
theorem xr:tt 42=some ub:=rfl
theorem xq:tt 43=some t8:=rfl
theorem xp:tt 44=some t7:=rfl
theorem xo:tt 45=some t6:=rfl
theorem xn:tt 48=some tZ:=rfl
theorem xl:tt 49=some tY:=rfl
theorem xk:tt 50=some tX:=rfl
theorem xj:tt 69=some tW:=rfl
theorem xi:tt 70=some tV:=rfl
theorem xh:tt 71=some tU:=rfl
theorem xg:tt 72=some tT:=rfl
theorem xf:tt 76=some tS:=rfl
theorem xe:tt 88=some tR:=rfl
theorem xd:tt 89=some tQ:=rfl
theorem tK:tt 109=some pp:=rfl
theorem tJ:tt 120=some po:=rfl
theorem tI:tt 122=some pn:=rfl
theorem tH:tt 128=some pm:=rfl
theorem tG:tt 129=some pl:=rfl
theorem tF:tt 142=some pk:=rfl
theorem tE:tt 143=some pj:=rfl
theorem tD:tt 145=some pi:=rfl
theorem tC:tt 146=some pg:=rfl
theorem rE:(xc.all λp=>go Tryd.prog p.1 p.2)=true:=by kernel_rfl
theorem ak:∀ t ti,tt t=some ti->TIok Tryd.prog t ti:=pq rE
theorem eok {w0:World} {F G:Nat->Prop} {l:Bool}:EOk ⟨Tryd.prog,tt,w0,⟨F,G,l,λ_=>True⟩⟩:=⟨ak,λ_ _=>trivial⟩
attribute [simp] ti2 ti3 ti4 ti5 ti6 ti7 ti8 ti9 uw uv uu ut ur uq uo um ul uk uj ui ug uf ue ud ub t8 t7 t6 tZ tY tX tW tV tU tT tS tR tQ pp po pn pm pl pk pj pi pg Ar Aq Ap Ao An Am Al Ak xI xH xG xF xE xD xC xB xA xz xy xx xw xv xu xt xr xq xp xo xn xl xk xj xi xh xg xf xe xd tK tJ tI tH tG tF tE tD tC
end Go.Proofs.YtmfcmlldnjffeaaDoor
namespace Go.AM
abbrev vi (n:Int):CD:=.v (.int .i64 n)
noncomputable abbrev vb (p:Prop):CD:=.v (.bool (dc p))
abbrev aS (n:Int):List CD:=[vi n]
theorem ls {p q:Prop} (h:p ↔ q):dc p=dc q:=by rw [propext h]
theorem fc {α:Type} {a b:List α} {i:Nat} (h:i<a.length) (h':i<b.length) (ht:a.take i=b.take i) (he:a[i]=b[i]):a.take (i+1)=b.take (i+1):=by
 rw [<- List.take_append_getElem h,<- List.take_append_getElem h',ht,he]
theorem gE {α:Type} {a b:List α} {i:Nat} (h:a.length<=i) (hl:a.length=b.length) (ht:a.take i=b.take i):a=b:=by
 rwa [List.take_of_length_le h,List.take_of_length_le (by omega)] at ht
theorem pY {α:Type} {a b:List α} {i:Nat} (h:i<a.length) (h':i<b.length) (he:a[i]≠b[i]):a≠b:=by
 rintro rfl;exact he rfl
theorem gt {n:Nat} (h:n<=9223372036854775807):Go.IntKind.i64.wrap (n:Int)=n:=Go.IntWalk.i64_in _ (by omega)
theorem aq {n:Nat} (h:n<9223372036854775807):Go.IntKind.i64.wrap ((n:Int)+1)=((n+1:Nat):Int):=by rw [Go.IntWalk.i64_in _ (by omega)];omega
@[simp] theorem Au {a b:Nat}:((a:Int)+(b:Int)).toNat=a+b:=by omega
@[simp] theorem As {a n : Nat} : ((a : Int) + (OfNat.ofNat n : Int)).toNat = a + n := by
  show ((a:Int)+((n:Nat):Int)).toNat=a+n
  omega
@[simp] theorem AG {a b:Nat}:(0:Int)<=(a:Int)+(b:Int):=by omega
@[simp] theorem AF {a n : Nat} : (0 : Int) <= (a : Int) + (OfNat.ofNat n : Int) := by
  show (0:Int)<=(a:Int)+((n:Nat):Int)
  omega
@[simp] theorem zV {α:Type} {f:α->List CD} {l:List α}:cut (l.map f) 0 l.length=l.map f:=ns (by simp)
attribute [simp] ns
@[simp] theorem zU {n:Nat}:((n:Int)<0)=False:=by simp
open Go.RowKit Go.WideShapes Go.ChangeShapes
def gY (P:Program):Nat->List Field->Option Nat
 |o,[]=>some o
 |o,f::fs=>if f.offset=o then gY P (o+P.cellsOf f.type) fs else none
def okT (P:Program):Nat->TypeId->Bool
 |0,_=>false
 | D + 1, t => match P.underlying t with
   |some .bool=>true
   |some (.int _)=>true
   |some .string=>true
   |some (.slice e)=>decide (0<P.cellsOf e) && okT P D e
   |some (.struct fs)=>(gY P 0 fs.toList == some (P.cellsOf t)) && fs.toList.all λf=>okT P D f.type
   |_=>false
def bS (P:Program):Nat->TypeId->List CD->Prop
 |0,_,_=>False
 | D + 1, t, ds => match P.underlying t with
   |some .bool=>∃ b,ds=[.v (.bool b)]
   |some (.int k)=>∃ n,ds=[.v (.int k n)]/\(Lit.int k n).wf=true
   |some .string=>∃ s:ByteArray,ds=[.v (.string s)]/\s.size<=maxLen
   |some (.slice e)=>∃ rows,ds=[.s rows]/\rows.length<=maxLen/\∀ row∈rows,row.length=P.cellsOf e/\bS P D e row
   |some (.struct fs)=>ds.length=P.cellsOf t/\∀ f∈fs.toList,bS P D f.type ((ds.drop f.offset).take (P.cellsOf f.type))
   |_=>False
def dg (w:World) (cs:List Value) (ds:List CD):Prop:=ds.length=cs.length/\∀ (j:Nat) (u:Value) (d:CD),cs[j]? = some u->ds[j]? = some d->Rd w false (λ_=>True) u d
theorem dg.one {w:World} {u:Value} {d:CD} (h:Rd w false (λ_=>True) u d):dg w [u] [d]:=by
 refine ⟨rfl,λj u' d' hu hd=>?_⟩
 cases j with
 |zero=>simp at hu hd;subst hu;subst hd;exact h
 |succ j=>simp at hu
theorem eF {P:Program} {w:World} {D:Nat} {cs:List Value}:∀ (fs:List Field) (o m:Nat),gY P o fs=some m -> m <= cs.length ->
 (∀ f ∈ fs,∃ ds,dg w ((cs.drop f.offset).take (P.cellsOf f.type)) ds /\ bS P D f.type ds) ->
 ∃ ds,o<=m/\dg w ((cs.drop o).take (m - o)) ds/\∀ f∈fs,o<=f.offset/\bS P D f.type ((ds.drop (f.offset - o)).take (P.cellsOf f.type))
 | [], o, m, hc, _, _ => by
   simp only [gY,Option.some.injEq] at hc;subst hc;exact ⟨[],Nat.le_refl _,by simp [dg],by simp⟩
 | f :: fs, o, m, hc, hm, hx => by
   simp only [gY] at hc
   split at hc
   ·rename_i ho
    obtain ⟨ds,h1,h2,h3⟩:=eF fs _ m hc hm (λg hg=>hx g (List.mem_cons_of_mem _ hg));obtain ⟨d1,h4,h5⟩:=hx f (List.mem_cons_self ..);have hl:d1.length=P.cellsOf f.type:=by rw [h4.1];simp;omega
    refine ⟨d1++ds,by omega,⟨?_,λj u d hu hd=>?_⟩,λg hg=>?_⟩
    ·have:=h2.1
     simp at this ⊢;omega
    ·by_cases hj:j<P.cellsOf f.type
     ·rw [List.getElem?_append_left (by omega)] at hd
      refine h4.2 j u d ?_ hd;rw [List.getElem?_take,if_pos hj,ho];rw [List.getElem?_take] at hu
      split at hu
      ·exact hu
      ·simp at hu
     ·rw [List.getElem?_append_right (by omega),hl] at hd
      refine h2.2 _ u d ?_ hd;rw [List.getElem?_take] at hu ⊢
      split at hu
      ·rw [if_pos (by omega)]
       rw [List.getElem?_drop] at hu ⊢;rw [<- hu]
       congr 1
       omega
      ·simp at hu
    ·rcases List.mem_cons.1 hg with rfl|hg
     ·refine ⟨by omega,?_⟩
      rw [ho,Nat.sub_self,List.drop_zero,List.take_append_of_le_length (by omega),List.take_of_length_le (by omega)];exact h5
     ·obtain ⟨h6,h7⟩:=h3 g hg
      refine ⟨by omega,?_⟩
      have:(d1++ds).drop (g.offset - o)=ds.drop (g.offset - (o+P.cellsOf f.type)):=by
       rw [List.drop_append,List.drop_of_length_le (by omega),hl,List.nil_append]
       congr 1
       omega
      rw [this];exact h7
   ·simp at hc
theorem nU {H:Type} {enc:TypeId×Value->H} {P:Program} {w:World} {base:Nat} {spare:Nat->Bool} {held:Bool} :
 ∀ (D:Nat) (t:TypeId) (cs:List Value) (x:DataW H×List MemPlace) (fuel:Nat),okT P D t=true->DataW.trod enc P w base spare held fuel t cs=some x->∃ ds,dg w cs ds/\bS P D t ds:=by
 intro D
 induction D with
 |zero=>intro t cs x fuel h;simp [okT] at h
 | succ D ih =>
   intro t cs x fuel hok h;unfold okT at hok
   split at hok
   ·rename_i hu
    obtain ⟨b,rfl,-⟩:=DataW.trod_bool hu h;exact ⟨[.v (.bool b)],dg.one (.plain rfl),by simp [bS,hu]⟩
   ·rename_i k hu
    obtain ⟨n,rfl,-,hw⟩:=DataW.trod_int hu h;exact ⟨[.v (.int k n)],dg.one (.plain rfl),by simp [bS,hu,hw]⟩
   ·rename_i hu
    obtain ⟨s,rfl,-,hs⟩:=DataW.trod_string hu h;exact ⟨[.v (.string s)],dg.one (.plain rfl),by simp [bS,hu,hs]⟩
   ·rename_i e hu
    simp only [Bool.and_eq_true,decide_eq_true_eq] at hok;obtain ⟨hpos,hok⟩:=hok;rcases DataW.trod_slice hu h with ⟨rfl,-⟩|⟨a,len,cap,elems,rest,n,-,rfl,-,-,hlc,hcm,hel,hi,-⟩
    ·exact ⟨[.s []],dg.one (.empty _ _ (λh=>by simp at h)),by simp [bS,hu]⟩
    ·have each:∀ i,i<len->∃ p:List Value×List CD,w.cells? base (a.add (i*P.cellsOf e)) (P.cellsOf e)=some p.1/\dg w p.1 p.2/\bS P D e p.2:=by
      intro i hlt;have h1:=hi i hlt;rw [List.getElem?_eq_getElem (by omega)] at h1;obtain ⟨c,h2,h3⟩:=Option.bind_eq_some_iff.1 h1;obtain ⟨ds,h4,h5⟩:=ih e c _ n hok h3;exact ⟨(c,ds),h2,h4,h5⟩
     by_cases hl0:len=0
     ·subst hl0
      exact ⟨[.s []],dg.one (.empty _ _ (λh=>by simp at h)),by simp [bS,hu]⟩
     ·obtain ⟨f,hf⟩:=Go.Deep.choose_lt each
      have cell:∀ i j,i<len->j<P.cellsOf e->w.cell? (a.add (i*P.cellsOf e+j))=(f i).1[j]?/\(f i).1.length=P.cellsOf e:=by
       intro i j hlt hj;obtain ⟨-,h2,h3⟩:=World.cells?_some (hf i hlt).1;exact ⟨by rw [<- h3 j hj,Go.Deep.add_add],h2⟩
      obtain ⟨b,off,spot⟩:=a
      have hb:∃ cs T fr,w.heap[b]? = some (.cells cs T fr)/\spot=none:=by
       obtain ⟨h1,h2⟩:=cell 0 0 (by omega) hpos;rw [List.getElem?_eq_getElem (by omega)] at h1;unfold World.cell? at h1;rw [block_add] at h1
       split at h1
       ·rename_i c T fr hh
        refine ⟨c,T,fr,hh,?_⟩
        cases spot with
        |none=>rfl
        |some s=>simp [Addr.add] at h1
       ·simp at h1
      obtain ⟨c,T,fr,hb,rfl⟩:=hb
      have at':∀ i j,i<len->j<P.cellsOf e->c[off+(i*P.cellsOf e+j)]? = (f i).1[j]?:=by
       intro i j hlt hj;rw [<- (cell i j hlt hj).1,aK];simp [World.cell?,hb]
      have hrows:((List.range len).map λi=>(f i).2).length=len:=by simp
      have hrd:=Rd.slice (w:=w) (x:=false) (S:=λ_=>True) b off cap (P.cellsOf e) c T fr ((List.range len).map λi=>(f i).2) (λ_ _ _=>True)
       (by rw [hrows];exact hlc) hcm hpos trivial hb (by
        rw [hrows];obtain ⟨m,rfl⟩:∃ m,len=m+1:=⟨len - 1,by omega⟩;have h1:=at' m (P.cellsOf e - 1) (by omega) (by omega);rw [List.getElem?_eq_getElem (by rw [(cell m (P.cellsOf e - 1) (by omega) (by omega)).2];omega)] at h1;have h2:=(Array.getElem?_eq_some_iff.1 h1).1;rw [Nat.succ_mul];omega) (λh=>by simp at h) (λ_ _ _ _=>⟨trivial,λh=>by simp at h⟩) (λh=>by simp at h)
       (λrow hrow=>by
        simp only [List.mem_map,List.mem_range] at hrow;obtain ⟨i,hlt,rfl⟩:=hrow;rw [(hf i hlt).2.1.1];exact (cell i 0 hlt hpos).2)
       (λi j row d h1 h2=>by
        have hlt:i<len:=by have:=(List.getElem?_eq_some_iff.1 h1).1;omega
        simp only [List.getElem?_map,List.getElem?_range hlt,Option.map_some,Option.some.injEq] at h1;subst h1
        have hj:j<P.cellsOf e:=by
         have:=(List.getElem?_eq_some_iff.1 h2).1;rw [(hf i hlt).2.1.1,(cell i 0 hlt hpos).2] at this;exact this
        have h3:=at' i j hlt hj;rw [List.getElem?_eq_getElem (by rw [(cell i j hlt hj).2];exact hj)] at h3
        have h4:c.getD (off+(i*P.cellsOf e+j)) undef=(f i).1[j]'(by rw [(cell i j hlt hj).2];exact hj):=by
         rw [Array.getD_eq_getD_getElem?,h3];rfl
        rw [h4];exact (hf i hlt).2.1.2 j _ d (List.getElem?_eq_getElem _) h2)
      rw [hrows] at hrd;refine ⟨[.s ((List.range len).map λi=>(f i).2)],dg.one hrd,?_⟩;simp only [bS,hu];refine ⟨_,rfl,by rw [hrows];omega,λrow hrow=>?_⟩;simp only [List.mem_map,List.mem_range] at hrow;obtain ⟨i,hlt,rfl⟩:=hrow;exact ⟨by rw [(hf i hlt).2.1.1];exact (cell i 0 hlt hpos).2,(hf i hlt).2.2⟩
   ·rename_i fs hu
    simp only [Bool.and_eq_true,beq_iff_eq,List.all_eq_true] at hok;obtain ⟨hc,hall⟩:=hok;obtain ⟨xs,n,-,-,hcl,hxl,hi⟩:=DataW.trod_struct hu h
    obtain ⟨ds,-,h1,h2⟩:=eF (w:=w) (D:=D) (cs:=cs) fs.toList 0 _ hc (by omega) (λf hf=>by
     obtain ⟨i,hlt,rfl⟩:=List.getElem_of_mem hf;have hlt':i<fs.size:=by simpa using hlt
     have h3:=hi i fs[i] (by simp [hlt']);rw [List.getElem?_eq_getElem (by omega)] at h3;exact ih _ _ _ n (hall _ hf) h3)
    rw [List.drop_zero,Nat.sub_zero,List.take_of_length_le (by omega)] at h1;refine ⟨ds,h1,?_⟩;simp only [bS,hu];refine ⟨by rw [h1.1,hcl],λf hf=>?_⟩;have:=(h2 f hf).2
    rwa [Nat.sub_zero] at this
   ·simp at hok
def lJ (P:Program) (D:Nat) (t:TypeId):VD->Prop
 | .c d=>bS P D t [d]
 | .agg ds=>(∃ fs,P.underlying t=some (.struct fs))/\bS P D t ds
theorem pP {H:Type} {enc:TypeId×Value->H} {P:Program} {w:World} {base b0:Nat} {spare:Nat->Bool} {held:Bool} {r:Reach} {D:Nat} {t:TypeId} {v:Value} {d:DataW H} {ps:List MemPlace}
 (hok:okT P D t=true) (hval:Value.okWide P w r b0 t v) (h:DataW.Trod enc P w base spare held t v d ps):∃ vd,RdV w v vd/\lJ P D t vd:=by
 obtain ⟨fuel,hf⟩:=h;obtain ⟨ds,hr,hfit⟩:=nU D t _ _ fuel hok hf
 have one:v.cells = #[v]->(∀ fs,P.underlying t≠some (.struct fs))->∃ vd,RdV w v vd/\lJ P D t vd:=by
  intro hc _;rw [hc] at hr;obtain ⟨hl,hr⟩:=hr
  cases ds with
  |nil=>simp at hl
  | cons d ds =>
    cases ds with
    |nil=>exact ⟨.c d,hr 0 v d rfl rfl,hfit⟩
    |cons _ _=>simp at hl
 cases D with
 |zero=>simp [okT] at hok
 | succ D =>
   unfold okT at hok
   split at hok
   ·rename_i hu
    obtain ⟨b,rfl⟩:=okWide_bool hu hval;exact one rfl (λfs h=>by rw [hu] at h;simp at h)
   ·rename_i k hu
    obtain ⟨n,rfl⟩:=okWide_int hu hval;exact one rfl (λfs h=>by rw [hu] at h;simp at h)
   ·rename_i hu
    obtain ⟨s,rfl⟩:=okWide_string hu hval;exact one rfl (λfs h=>by rw [hu] at h;simp at h)
   ·rename_i e hu
    obtain ⟨a,l,c,rfl⟩:=okWide_slice hu hval;exact one rfl (λfs h=>by rw [hu] at h;simp at h)
   ·rename_i fs hu
    obtain ⟨cs,rfl,-⟩:=okWide_struct hu hval;obtain ⟨hl,hr⟩:=hr;refine ⟨.agg ds,⟨cs,rfl,by simpa [Value.cells] using hl.symm,λj d hd=>?_⟩,⟨fs,hu⟩,hfit⟩
    have hj:j<cs.size:=by
     have:=(List.getElem?_eq_some_iff.1 hd).1;simp [Value.cells] at hl;omega
    have:=hr j cs[j] d (by simp [Value.cells,hj]) hd
    simpa [hj] using this
   ·simp at hok
def dh (P:Program) (D:Nat) (w:World):List TypeId->List Value->List VD->Prop
 | [],[],[]=>True
 |t::ts,v::vs,d::ds=>(RdV w v d/\lJ P D t d)/\dh P D w ts vs ds
 |_,_,_=>False
theorem iY {H:Type} {enc:TypeId×Value->H} {P:Program} {w:World} {base b0:Nat} {spare:Nat->Bool} {held:Bool} {r:Reach} {D:Nat} :
 ∀ (ts : List TypeId) (vs : List Value) (ds : List (DataW H)) (ps : List MemPlace), (ts.all λt => okT P D t) = true -> (∀ (j : Nat) t v, ts[j]? = some t -> vs[j]? = some v -> Value.okWide P w r b0 t v) ->
   DataW.TrodAll enc P w base spare held ts vs ds ps->∃ vds,dh P D w ts vs vds
 | [], vs, ds, ps, _, _, h => by
   obtain ⟨rfl,-,-⟩:=trodAll_nil h;exact ⟨[],trivial⟩
 | t :: ts, vs, ds, ps, hok, hval, h => by
   obtain ⟨v,vs1,d,ds1,a,b,rfl,rfl,rfl,h1,h2⟩:=trodAll_cons h;simp only [List.all_cons,Bool.and_eq_true] at hok;obtain ⟨vds,h3⟩:=iY ts vs1 ds1 b hok.2 (λj t v ht hv=>hval (j+1) t v (by simpa using ht) (by simpa using hv)) h2;obtain ⟨vd,h4,h5⟩:=pP hok.1 (hval 0 t v rfl rfl) h1;exact ⟨vd::vds,⟨h4,h5⟩,h3⟩
theorem gd {P:Program} {D:Nat} {w:World}:∀ (ts:List TypeId) (vs:List Value) (vds:List VD),dh P D w ts vs vds->vs.length=vds.length/\∀ (i:Nat) vd,vds[i]? = some vd->RdV w (vs.toArray.getD i undef) vd
 | [],[],[],_=>⟨rfl,λi vd h=>by simp at h⟩
 | t :: ts, v :: vs, d :: ds, h => by
   obtain ⟨h1,h2⟩:=gd ts vs ds h.2;refine ⟨by simp [h1],λi vd hi=>?_⟩
   cases i with
   |zero=>simp at hi;subst hi;simpa using h.1.1
   |succ i=>simpa using h2 i vd (by simpa using hi)
theorem iP {H:Type} {enc:TypeId×Value->H} {P:Program} (hl:laidOutB P=true) {W W':World} (hb:Below W.heap.size W W') {sp:Nat->Bool} :
 ∀ (ts : List TypeId) (vs : List Value) (ds : List (DataW H)) (ps : List MemPlace), (ts.all λt => P.readableRec t && decide (t < P.types.size)) = true -> DataW.TrodAll enc P W 0 (λ_ => true) true ts vs ds ps ->
   (∀ x∈ps,x.block<W.heap.size)->(∀ x∈ps,sp x.block=true)->DataW.TrodAll enc P W' 0 sp true ts vs ds ps
 | [], vs, ds, ps, _, h, _, _ => by
   obtain ⟨rfl,rfl,rfl⟩:=trodAll_nil h;rfl
 | t :: ts, vs, ds, ps, hok, h, hlt, hsp => by
   obtain ⟨v,vs1,d,ds1,a,b,rfl,rfl,rfl,h1,h2⟩:=trodAll_cons h;simp only [List.all_cons,Bool.and_eq_true,decide_eq_true_eq] at hok;refine ⟨a,b,WideElems.Trod_stays hl hok.1.1 hok.1.2 h1 (λx hx=>hb.same (hlt x (by simp [hx]))) (λx hx=>hsp x (by simp [hx])),iP hl hb ts vs1 ds1 b (by simpa using hok.2) h2 (λx hx=>hlt x (by simp [hx])) (λx hx=>hsp x (by simp [hx])),rfl⟩
theorem n9 {L:World->Prop} {H:Type} {enc:TypeId×Value->H} {P:Program} (hlaid:laidOutB P=true) {f:FuncId} {fn:Func} {s:ChangeSpec} {apart fresh handsOn:Bool} {D:Nat} {bt:TypeId}
 (hv:s.vars=[]) (hres:fn.resultTypes = #[bt]) (hbt:P.underlying bt=some .bool) (hokT:(fn.params.toList.all λt=>okT P D t)=true) (hread:(fn.params.toList.all λt=>P.readableRec t && decide (t<P.types.size))=true)
 (hs:∀ ds:List (DataW H),ds.length=fn.params.toList.length->s.fn H ds={ results:=[.lit (.bool true)],args:=ds })
 {W:World} {args:Array Value} {r:Reach} {b0:Nat} {ds gs:List (DataW H)} {before:List MemPlace}
 (hval:∀ (j:Nat) t v,fn.params[j]? = some t->args[j]? = some v->Value.okWide P W r b0 t v)
 (hW:DataW.Whole enc P fn.params.toList s.vars apart W args.toList ds gs before)
 (hLW:L W) (hwalk:∀ vds,dh P D W fn.params.toList args.toList vds->aN P L f vds (.one (.c (.v (.bool true)) 1))) :
 Calls P f args W λe W'=>∃ v,e=.returned v/\s.post enc P fn apart fresh handsOn false W args v W':=by
 have hW0:=hW;obtain ⟨p,q,hA,hV,rfl,hfz,hnd⟩:=hW;rw [hv] at hV;obtain ⟨rfl,rfl⟩:=trodVars_none hV;obtain ⟨vds,ho⟩:=iY (D:=D) fn.params.toList args.toList ds p hokT (λj t v ht hv=>hval j t v (by simpa using ht) (by simpa using hv)) hA;obtain ⟨hl,hr⟩:=gd _ _ _ ho
 have hlen:ds.length=fn.params.toList.length:=by
  have:∀ (ts:List TypeId) (vs:List Value) (ds:List (DataW H)) (ps:List MemPlace),DataW.TrodAll enc P W 0 (λ_=>true) true ts vs ds ps->ds.length=ts.length:=by
   intro ts
   induction ts with
   |nil=>intro vs ds ps h;obtain ⟨-,rfl,-⟩:=trodAll_nil h;rfl
   | cons t ts ih =>
     intro vs ds ps h;obtain ⟨v,vs1,d,ds1,a,b,rfl,rfl,rfl,h1,h2⟩:=trodAll_cons h;simp [ih _ _ _ h2]
  exact this _ _ _ _ hA
 refine ((hwalk vds ho).2 W hLW args (by simpa using hl) (λi vd hi=>by simpa using hr i vd hi)).mono ?_
 rintro e W' ⟨v,rfl,hb,hrr⟩
 have hv1:v=.bool true:=hrr.1;subst hv1;have hs':=hs ds hlen;refine ⟨_,rfl,ds,[],p,[],p,[],by simpa using hW0,?_,?_,?_,?_,λh=>by cases h⟩
 ·rw [List.append_nil,hs',hres]
  exact trodAll_mk1 (shut_bool hbt true)
 ·rw [List.append_nil,hs']
  have hlt:∀ x∈p,x.block<W.heap.size:=λx hx=>hW0.lt x (by simp [hx])
  exact iP hlaid hb _ _ _ _ hread hA hlt (λx hx=>by simpa using hlt x hx)
 ·rw [hv]
  have:(s.fn H (ds++[])).vars=[]:=by rw [List.append_nil,hs']
  rw [this];exact rfl
 ·exact hb.frame _
theorem tA {n:Int} (h:(Lit.int .i64 n).wf=true) : -9223372036854775808<=n/\n<=9223372036854775807:=by
 have:IntKind.i64.min = -9223372036854775808:=rfl;have h2:IntKind.i64.max=9223372036854775807:=rfl;simp only [Lit.wf,Bool.and_eq_true,decide_eq_true_eq] at h;omega
section
variable {P:Program} {D:Nat} {t e:TypeId} {vd:VD} {ds:List CD}
theorem qE {k:IntKind} (hu:P.underlying t=some (.int k)) (h:bS P D t ds):∃ n,ds=[.v (.int k n)]/\(Lit.int k n).wf=true:=by
 cases D with
 |zero=>exact h.elim
 |succ D=>simpa only [bS,hu] using h
theorem eu (hu:P.underlying t=some (.slice e)) (h:bS P D t ds):∃ rows,ds=[.s rows]/\rows.length<=maxLen/\∃ D',∀ row∈rows,row.length=P.cellsOf e/\bS P D' e row:=by
 cases D with
 |zero=>exact h.elim
 | succ D =>
   simp only [bS,hu] at h;obtain ⟨rows,h1,h2,h3⟩:=h;exact ⟨rows,h1,h2,D,h3⟩
theorem cR {fs:Array Field} (hu:P.underlying t=some (.struct fs)) (h:bS P D t ds):ds.length=P.cellsOf t/\∃ D',∀ f∈fs.toList,bS P D' f.type ((ds.drop f.offset).take (P.cellsOf f.type)):=by
 cases D with
 |zero=>exact h.elim
 | succ D =>
   simp only [bS,hu] at h;exact ⟨h.1,D,h.2⟩
theorem eE {α:Type} {f:α->List CD} {ok:α->Prop}:∀ (rows:List (List CD)),(∀ row∈rows,∃ x,row=f x/\ok x)->∃ l:List α,rows=l.map f/\∀ x∈l,ok x
 | [],_=>⟨[],rfl,by simp⟩
 | row :: rows, h => by
   obtain ⟨x,h1,h2⟩:=h row (List.mem_cons_self ..);obtain ⟨l,h3,h4⟩:=eE rows (λr hr=>h r (List.mem_cons_of_mem _ hr));exact ⟨x::l,by rw [h1,h3];rfl,by simpa using ⟨h2,h4⟩⟩
end
theorem dh.nil {P:Program} {D:Nat} {w:World} {vs:List Value} {vds:List VD} (h:dh P D w [] vs vds):vds=[]:=by
 cases vs with
 | nil => cases vds with
   |nil=>rfl
   |cons _ _=>exact h.elim
 |cons _ _=>exact h.elim
theorem dh.cons {P:Program} {D:Nat} {w:World} {t:TypeId} {ts:List TypeId} {vs:List Value} {vds:List VD} (h:dh P D w (t::ts) vs vds) :
 ∃ vd vds',vds=vd::vds'/\lJ P D t vd/\∃ vs',dh P D w ts vs' vds':=by
 cases vs with
 |nil=>cases vds<;>exact h.elim
 | cons v vs => cases vds with
   |nil=>exact h.elim
   |cons d ds=>exact ⟨d,ds,rfl,h.1.2,vs,h.2⟩
section
variable {α:Type} {mk:α->Int->α} {cn:α->Nat}
variable {f:α->List CD} {l:List α} {k:Int} {i:Nat}
end
abbrev one {α:Type} (_:α):Nat:=1
end Go.AM
namespace Go.Proofs.YtmfcmlldnjffeaaDoor
open Go.AM
set_option maxRecDepth 20000
def bk (n:Int):Prop:=-9223372036854775808<=n/\n<=9223372036854775807
def ec {α:Type} (f:α->Nat):List α->Nat
 | []=>0
 |a::l=>f a+ec f l
theorem fd {α:Type} {f:α->Nat}:∀ {l:List α} {i:Nat} (h:i<l.length),ec f (l.drop i)=f l[i]+ec f (l.drop (i+1))
 |a::l,0,_=>rfl
 |a::l,i+1,h=>by simpa using fd (l:=l) (i:=i) (by simpa using h)
theorem ky {α:Type} {f:α->Nat}:∀ {l:List α} {a:α},a∈l->f a<=ec f l
 | b :: l, a, h => by
   simp only [ec];rcases List.mem_cons.1 h with rfl|h
   ·omega
   ·have:=ky (f:=f) h;omega
def nL {α:Type} (f:α->Nat) (l:List α):Nat:=l.length+ec f l
theorem cX {α:Type} {f:α->Nat} {l:List α} {B:Nat} (h:nL f l<=B):l.length<=B:=by unfold nL at h;omega
theorem u2 {α:Type} {f:α->Nat} {l:List α} {B:Nat} (h:nL f l<=B) {a:α} (ha:a∈l):f a<=B:=by have:=ky (f:=f) ha;unfold nL at h;omega
theorem fM {α:Type} {f:α->Nat} {l:List α} {B:Nat} (h:nL f l<=B) {i:Nat} (hi:i<l.length):f l[i]<=B:=u2 h (List.getElem_mem hi)
def szR (n left:Nat):Int:=if n<=left then ((left - n:Nat):Int) else -1
theorem cB {n left:Nat} (h:n<=left):szR n left=((left - n:Nat):Int):=by simp [szR,h]
theorem bE {n left:Nat} (h:¬ n<=left):szR n left = -1:=by simp [szR,h]
structure Part where
 kind:Int
 n:Int
 signs:List Int
 deriving Inhabited
def Part.row (x:Part):List CD:=[vi x.kind,vi x.n,.s (x.signs.map aS)]
def Part.res (x:Part):List (CD×Nat):=[(vi x.kind,1),(vi x.n,1),(.s (x.signs.map aS),1)]
@[simp] theorem Part.row_len {x:Part}:x.row.length=3:=rfl
def Part.fits (x:Part):Prop:=bk x.kind/\bk x.n/\(x.signs.length<=9223372036854775807/\∀ n∈x.signs,bk n)
def ay (x:Part):Nat:=x.signs.length
structure Entry where
 client:Int
 seq:Int
 o:List Part
def Entry.row (x:Entry):List CD:=[vi x.client,vi x.seq,.s (x.o.map Part.row)]
def Entry.res (x:Entry):List (CD×Nat):=[(vi x.client,1),(vi x.seq,1),(.s (x.o.map Part.row),3)]
@[simp] theorem Entry.row_len {x:Entry}:x.row.length=3:=rfl
def Entry.fits (x:Entry):Prop:=bk x.client/\bk x.seq/\(x.o.length<=9223372036854775807/\∀ y∈x.o,y.fits)
def aB (x:Entry):Nat:=nL ay x.o
structure Seen where
 client:Int
 seq:Int
 rev:Int
def Seen.row (x:Seen):List CD:=[vi x.client,vi x.seq,vi x.rev]
def Seen.res (x:Seen):List (CD×Nat):=[(vi x.client,1),(vi x.seq,1),(vi x.rev,1)]
@[simp] theorem Seen.row_len {x:Seen}:x.row.length=3:=rfl
def Seen.fits (x:Seen):Prop:=bk x.client/\bk x.seq/\bk x.rev
structure Doc where
 name:ByteArray
 fr:Int
 text:List Int
 list:List Entry
 seen:List Seen
def Doc.row (x:Doc):List CD:=[.v (.string x.name),vi x.fr,.s (x.text.map aS),.s (x.list.map Entry.row),.s (x.seen.map Seen.row)]
def Doc.res (x:Doc):List (CD×Nat):=[(.v (.string x.name),1),(vi x.fr,1),(.s (x.text.map aS),1),(.s (x.list.map Entry.row),3),(.s (x.seen.map Seen.row),3)]
@[simp] theorem Doc.row_len {x:Doc}:x.row.length=5:=rfl
def Doc.fits (x:Doc):Prop:=x.name.size<=9223372036854775807/\bk x.fr/\(x.text.length<=9223372036854775807/\∀ n∈x.text,bk n)/\(x.list.length<=9223372036854775807/\∀ y∈x.list,y.fits)/\(x.seen.length<=9223372036854775807/\∀ y∈x.seen,y.fits)
structure Ring where
 cap:Int
 next:Int
 out:Bool
 list:List Entry
def Ring.row (x:Ring):List CD:=[vi x.cap,vi x.next,.v (.bool x.out),.s (x.list.map Entry.row)]
def Ring.res (x:Ring):List (CD×Nat):=[(vi x.cap,1),(vi x.next,1),(.v (.bool x.out),1),(.s (x.list.map Entry.row),3)]
@[simp] theorem Ring.row_len {x:Ring}:x.row.length=4:=rfl
def Ring.fits (x:Ring):Prop:=bk x.cap/\bk x.next/\True/\(x.list.length<=9223372036854775807/\∀ y∈x.list,y.fits)
structure Sub where
 id:Int
 doc:ByteArray
 r:Ring
def Sub.row (x:Sub):List CD:=[vi x.id,.v (.string x.doc),vi x.r.cap,vi x.r.next,.v (.bool x.r.out),.s (x.r.list.map Entry.row)]
def Sub.res (x:Sub):List (CD×Nat):=[(vi x.id,1),(.v (.string x.doc),1),(vi x.r.cap,1),(vi x.r.next,1),(.v (.bool x.r.out),1),(.s (x.r.list.map Entry.row),3)]
@[simp] theorem Sub.row_len {x:Sub}:x.row.length=6:=rfl
def Sub.fits (x:Sub):Prop:=bk x.id/\x.doc.size<=9223372036854775807/\x.r.fits
structure Hub where
 shut:Bool
 docs:List Doc
 subs:List Sub
 last:Int
def Hub.row (x:Hub):List CD:=[.v (.bool x.shut),.s (x.docs.map Doc.row),.s (x.subs.map Sub.row),vi x.last]
def Hub.res (x:Hub):List (CD×Nat):=[(.v (.bool x.shut),1),(.s (x.docs.map Doc.row),5),(.s (x.subs.map Sub.row),6),(vi x.last,1)]
@[simp] theorem Hub.row_len {x:Hub}:x.row.length=4:=rfl
def Hub.fits (x:Hub):Prop:=True/\(x.docs.length<=9223372036854775807/\∀ y∈x.docs,y.fits)/\(x.subs.length<=9223372036854775807/\∀ y∈x.subs,y.fits)/\bk x.last
structure Call where
 kind:Int
 doc:ByteArray
 client:Int
 seq:Int
 n:Int
 o:List Part
 text:List Int
def Call.row (x:Call):List CD:=[vi x.kind,.v (.string x.doc),vi x.client,vi x.seq,vi x.n,.s (x.o.map Part.row),.s (x.text.map aS)]
def Call.res (x:Call):List (CD×Nat):=[(vi x.kind,1),(.v (.string x.doc),1),(vi x.client,1),(vi x.seq,1),(vi x.n,1),(.s (x.o.map Part.row),3),(.s (x.text.map aS),1)]
@[simp] theorem Call.row_len {x:Call}:x.row.length=7:=rfl
def Call.fits (x:Call):Prop:=bk x.kind/\x.doc.size<=9223372036854775807/\bk x.client/\bk x.seq/\bk x.n/\(x.o.length<=9223372036854775807/\∀ y∈x.o,y.fits)/\(x.text.length<=9223372036854775807/\∀ n∈x.text,bk n)
structure Answer where
 code:Int
 rev:Int
 text:List Int
 list:List Entry
def Answer.row (x:Answer):List CD:=[vi x.code,vi x.rev,.s (x.text.map aS),.s (x.list.map Entry.row)]
def Answer.res (x:Answer):List (CD×Nat):=[(vi x.code,1),(vi x.rev,1),(.s (x.text.map aS),1),(.s (x.list.map Entry.row),3)]
@[simp] theorem Answer.row_len {x:Answer}:x.row.length=4:=rfl
def Answer.fits (x:Answer):Prop:=bk x.code/\bk x.rev/\(x.text.length<=9223372036854775807/\∀ n∈x.text,bk n)/\(x.list.length<=9223372036854775807/\∀ y∈x.list,y.fits)
def ba (x:Answer):Nat:=x.text.length+(nL aB x.list)
structure Task where
 c:Call
 pc:Int
 inv:Int
 lin:Int
 rs:Int
 a:Answer
def Task.row (x:Task):List CD:=[vi x.c.kind,.v (.string x.c.doc),vi x.c.client,vi x.c.seq,vi x.c.n,.s (x.c.o.map Part.row),.s (x.c.text.map aS),vi x.pc,vi x.inv,vi x.lin,vi x.rs,vi x.a.code,vi x.a.rev,.s (x.a.text.map aS),.s (x.a.list.map Entry.row)]
def Task.res (x:Task):List (CD×Nat):=[(vi x.c.kind,1),(.v (.string x.c.doc),1),(vi x.c.client,1),(vi x.c.seq,1),(vi x.c.n,1),(.s (x.c.o.map Part.row),3),(.s (x.c.text.map aS),1),(vi x.pc,1),(vi x.inv,1),(vi x.lin,1),(vi x.rs,1),(vi x.a.code,1),(vi x.a.rev,1),(.s (x.a.text.map aS),1),(.s (x.a.list.map Entry.row),3)]
@[simp] theorem Task.row_len {x:Task}:x.row.length=15:=rfl
def Task.fits (x:Task):Prop:=x.c.fits/\bk x.pc/\bk x.inv/\bk x.lin/\bk x.rs/\x.a.fits
structure Queue where
 doc:ByteArray
 list:List Int
def Queue.row (x:Queue):List CD:=[.v (.string x.doc),.s (x.list.map aS)]
def Queue.res (x:Queue):List (CD×Nat):=[(.v (.string x.doc),1),(.s (x.list.map aS),1)]
@[simp] theorem Queue.row_len {x:Queue}:x.row.length=2:=rfl
def Queue.fits (x:Queue):Prop:=x.doc.size<=9223372036854775807/\(x.list.length<=9223372036854775807/\∀ n∈x.list,bk n)
structure Wld where
 h:Hub
 locks:List Int
 queues:List Queue
 tasks:List Task
 step:Int
def Wld.row (x:Wld):List CD:=[.v (.bool x.h.shut),.s (x.h.docs.map Doc.row),.s (x.h.subs.map Sub.row),vi x.h.last,.s (x.locks.map aS),.s (x.queues.map Queue.row),.s (x.tasks.map Task.row),vi x.step]
def Wld.res (x:Wld):List (CD×Nat):=[(.v (.bool x.h.shut),1),(.s (x.h.docs.map Doc.row),5),(.s (x.h.subs.map Sub.row),6),(vi x.h.last,1),(.s (x.locks.map aS),1),(.s (x.queues.map Queue.row),2),(.s (x.tasks.map Task.row),15),(vi x.step,1)]
@[simp] theorem Wld.row_len {x:Wld}:x.row.length=8:=rfl
def Wld.fits (x:Wld):Prop:=x.h.fits/\(x.locks.length<=9223372036854775807/\∀ n∈x.locks,bk n)/\(x.queues.length<=9223372036854775807/\∀ y∈x.queues,y.fits)/\(x.tasks.length<=9223372036854775807/\∀ y∈x.tasks,y.fits)/\bk x.step
structure Rep where
 client:Int
 seq:Int
 rev:Int
 text:List Int
 has:Bool
 sent:List Part
 buf:List Part
def Rep.row (x:Rep):List CD:=[vi x.client,vi x.seq,vi x.rev,.s (x.text.map aS),.v (.bool x.has),.s (x.sent.map Part.row),.s (x.buf.map Part.row)]
def Rep.res (x:Rep):List (CD×Nat):=[(vi x.client,1),(vi x.seq,1),(vi x.rev,1),(.s (x.text.map aS),1),(.v (.bool x.has),1),(.s (x.sent.map Part.row),3),(.s (x.buf.map Part.row),3)]
@[simp] theorem Rep.row_len {x:Rep}:x.row.length=7:=rfl
def Rep.fits (x:Rep):Prop:=bk x.client/\bk x.seq/\bk x.rev/\(x.text.length<=9223372036854775807/\∀ n∈x.text,bk n)/\True/\(x.sent.length<=9223372036854775807/\∀ y∈x.sent,y.fits)/\(x.buf.length<=9223372036854775807/\∀ y∈x.buf,y.fits)
structure Net where
 d:Doc
 reps:List Rep
def Net.row (x:Net):List CD:=[.v (.string x.d.name),vi x.d.fr,.s (x.d.text.map aS),.s (x.d.list.map Entry.row),.s (x.d.seen.map Seen.row),.s (x.reps.map Rep.row)]
def Net.res (x:Net):List (CD×Nat):=[(.v (.string x.d.name),1),(vi x.d.fr,1),(.s (x.d.text.map aS),1),(.s (x.d.list.map Entry.row),3),(.s (x.d.seen.map Seen.row),3),(.s (x.reps.map Rep.row),7)]
@[simp] theorem Net.row_len {x:Net}:x.row.length=6:=rfl
def Net.fits (x:Net):Prop:=x.d.fits/\(x.reps.length<=9223372036854775807/\∀ y∈x.reps,y.fits)
structure Event where
 kind:Int
 who:Int
 n:Int
 o:List Part
def Event.row (x:Event):List CD:=[vi x.kind,vi x.who,vi x.n,.s (x.o.map Part.row)]
def Event.res (x:Event):List (CD×Nat):=[(vi x.kind,1),(vi x.who,1),(vi x.n,1),(.s (x.o.map Part.row),3)]
@[simp] theorem Event.row_len {x:Event}:x.row.length=4:=rfl
def Event.fits (x:Event):Prop:=bk x.kind/\bk x.who/\bk x.n/\(x.o.length<=9223372036854775807/\∀ y∈x.o,y.fits)
structure Desk where
 h:Hub
 n:Net
def Desk.row (x:Desk):List CD:=[.v (.bool x.h.shut),.s (x.h.docs.map Doc.row),.s (x.h.subs.map Sub.row),vi x.h.last,.v (.string x.n.d.name),vi x.n.d.fr,.s (x.n.d.text.map aS),.s (x.n.d.list.map Entry.row),.s (x.n.d.seen.map Seen.row),.s (x.n.reps.map Rep.row)]
def Desk.res (x:Desk):List (CD×Nat):=[(.v (.bool x.h.shut),1),(.s (x.h.docs.map Doc.row),5),(.s (x.h.subs.map Sub.row),6),(vi x.h.last,1),(.v (.string x.n.d.name),1),(vi x.n.d.fr,1),(.s (x.n.d.text.map aS),1),(.s (x.n.d.list.map Entry.row),3),(.s (x.n.d.seen.map Seen.row),3),(.s (x.n.reps.map Rep.row),7)]
@[simp] theorem Desk.row_len {x:Desk}:x.row.length=10:=rfl
def Desk.fits (x:Desk):Prop:=x.h.fits/\x.n.fits
theorem mix:Tryd.prog.follows .mixedOrders=true:=by kernel_rfl
theorem kx (l:List Int) (hl:l.length<=9223372036854775807) (left:Nat) (hf:left<=2 ^ 20):ag Tryd.prog 34 [.c (.s (l.map aS)),.c (vi left)] (.one (.c (vi (szR l.length left)) 1)):=by
 refine ag.intro' ak Tryd.func34 (by kernel_rfl) rfl rfl rfl (Nat.le_of_ble_eq_true rfl) (λw0 base=>?_);have hw:IntKind.i64.wrap ((left:Int) - (l.length:Int))=(left:Int) - l.length:=IntWalk.i64_in _ (by omega);simp [hw];by_cases h:l.length<=left
 ·have hz:¬ (left:Int) - l.length<0:=by omega
  simp [hz,cB h];omega
 ·have hz:(left:Int) - l.length<0:=by omega
  simp [hz,bE h]
theorem kv (l:List Int) (hl:l.length<=2 ^ 40):ag Tryd.prog 38 [.c (.s (l.map aS))] (.one (.c (.s (l.map aS)) 1)):=by
 refine ag.intro' ak Tryd.func38 (by kernel_rfl) rfl rfl rfl (Nat.le_of_ble_eq_true rfl) (λw0 base=>?_);simp;refine ⟨by omega,λb=>?_⟩
 refine aO.intro eok (λi:Nat=>i<=l.length) (λi=>⟨22,0,[(4,.v (.int .i64 i)),(3,.sl 112 (some (b,0,l.length)) 1 0 l.length),(0,.ro (l.map aS))],
  [(112,.rows (some (b,0,l.length)) 1 (dE aS [.v (.int .i64 0)] l i) true)]⟩) (λi=>l.length - i) 0 (by simp) (by simp [j3]) (λi hi=>?_)
 by_cases h:i<l.length
 ·simp [h,dq hi]
  exact ⟨i+1,by omega,by omega,aq (by omega),fv (f:=aS) h⟩
 ·have:i=l.length:=by omega
  subst this;simp [fw,cut]
theorem lm (a b:List Int) (hl:a.length<=2 ^ 40):ag Tryd.prog 42 [.c (.s (a.map aS)),.c (.s (b.map aS))] (.one (.c (vb (a=b)) 1)):=by
 refine ag.intro' ak Tryd.func42 (by kernel_rfl) rfl rfl rfl (Nat.le_of_ble_eq_true rfl) (λw0 base=>?_);by_cases h:a.length=b.length
 ·simp [h]
  refine aO.intro eok (λi:Nat=>i<=a.length/\a.take i=b.take i) (λi=>⟨26,0,[(5,.v (.int .i64 i)),(1,.ro (b.map aS)),(0,.ro (a.map aS))],[]⟩) (λi=>a.length - i) 0 (by simp) (by simp) (λi hi=>?_);by_cases hlt:i<a.length
  ·simp [hlt]
   have hlt':i<b.length:=by omega
   refine au.quiet eok mix (by kernel_rfl) ?_;simp [hlt,hlt'];refine Br.mk (λh1=>?_) (λh1=>?_)
   ·simp
    exact ⟨i+1,⟨by omega,fc hlt hlt' hi.2 (ep h1)⟩,by omega,aq (by omega)⟩
   ·simp [bT]
    exact pY hlt hlt' (λhe=>gI h1 (by rw [he]))
  ·simp [hlt,ex]
   exact gE (by omega) (by omega) hi.2
 ·have hz:¬ (a.length:Int)=b.length:=by omega
  simp [hz,bT];exact λh2=>absurd (by rw [h2]) h
end Go.Proofs.YtmfcmlldnjffeaaDoor
