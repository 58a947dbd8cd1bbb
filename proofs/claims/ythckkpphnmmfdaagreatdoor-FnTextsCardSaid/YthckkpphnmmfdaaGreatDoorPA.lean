import Derived.Test.YthckkpphnmmfdaaGreatDoorNA
import Derived.Test.YthckkpphnmmfdaaGreatDoorMF
namespace Go.Proofs.YthckkpphnmmfdaaGreatDoor
open Go.AM
set_option maxRecDepth 20000
theorem cQ (n lo hi:Int):au Tryz.prog 45 [.c (vi n),.c (vi lo),.c (vi hi)] (.one (.c (vb (lo<=n/\n<=hi)) 1)):=by
 refine pci ag Tryz.func45 (λw0 base=>?_);by_cases h1:lo<=n<;>by_cases h2:n<=hi<;>simp [h1,h2]
theorem cg (n lo hi:Int):au Tryz.prog 30 [.c (vi n),.c (vi lo),.c (vi hi)] (.one (.c (vb (lo<=n/\n<=hi)) 1)):=by
 refine pci ag Tryz.func30 (λw0 base=>?_);by_cases h1:lo<=n<;>by_cases h2:n<=hi<;>simp [h1,h2]
def dN (n:Int):Prop:=(0<=n/\n<=1114111)/\¬ (55296<=n/\n<=57343)
def cr (l:List Int):Prop:=∀ n∈l,dN n
theorem wD (n:Int):au Tryz.prog 118 [.c (vi n)] (.one (.c (vb (dN n)) 1)):=by
 refine pci ag Tryz.func118 (λw0 base=>?_);simp;refine aa.pure (cQ n 0 1114111) (by simp) ?_;by_cases h:0<=n/\n<=1114111
 ·simp [h]
  refine aa.pure (cQ n 55296 57343) (by simp) ?_;by_cases h2:55296<=n/\n<=57343<;>simp [h2,dN,h]
  try (rw [jV];omega)
 ·have e:dc (0<=n/\n<=1114111)=false:=by rw [bQ];exact h
  simp [dN,h]
theorem v6 (n:Int):au Tryz.prog 99 [.c (vi n)] (.one (.c (vb (dN n)) 1)):=by
 refine pci ag Tryz.func99 (λw0 base=>?_);simp;refine aa.pure (cg n 0 1114111) (by simp) ?_;by_cases h:0<=n/\n<=1114111
 ·simp [h]
  refine aa.pure (cg n 55296 57343) (by simp) ?_;by_cases h2:55296<=n/\n<=57343<;>simp [h2,dN,h]
  try (rw [jV];omega)
 ·have e:dc (0<=n/\n<=1114111)=false:=by rw [bQ];exact h
  simp [dN,h]
theorem mX {α:Type} {P:α->Prop} {l:List α} {i:Nat} (h:i<l.length) (ha:∀ a∈l.take i,P a) (hi:P l[i]):∀ a∈l.take (i+1),P a:=by
 rw [<- List.take_append_getElem h];intro a ha';rcases List.mem_append.1 ha' with h1|h1
 ·exact ha a h1
 ·simp at h1;subst h1;exact hi
theorem mY {α:Type} {P:α->Prop} {l:List α} {i:Nat} (h:l.length<=i) (ha:∀ a∈l.take i,P a):∀ a∈l,P a:=by
 rwa [List.take_of_length_le h] at ha
theorem rC {α:Type} {P:α->Prop} {l:List α} {i:Nat} (h:i<l.length) (hi:¬ P l[i]):¬ ∀ a∈l,P a:=λha=>hi (ha _ (List.getElem_mem h))
theorem ig (l:List Int) (hl:l.length<=2 ^ 40):au Tryz.prog 88 [.c (.s (l.map bc))] (.one (.c (vb (cr l)) 1)):=by
 refine pci ag Tryz.func88 (λw0 base=>?_);simp;refine bg.intro eok (λi:Nat=>i<=l.length/\∀ n∈l.take i,dN n) (λi=>⟨15,0,[(7,.v (.int .i64 i)),(6,.v (.int .i64 l.length)),(5,.ro (l.map bc))],[]⟩) (λi=>l.length - i) 0 (by simp) (by simp) (λi hi=>?_);by_cases h:i<l.length
 ·simp [h]
  refine aa.pure (wD l[i]) (by simp) ?_;simp;refine Br.mk (λh1=>?_) (λh1=>?_)
  ·simp
   exact ⟨i+1,⟨by omega,mX h hi.2 (nM h1)⟩,by omega,aB (by omega)⟩
  ·simp [bQ]
   exact rC h (se h1)
 ·simp [h,jV]
  exact mY (by omega) hi.2
theorem nc (l:List Int) (hl:l.length<=2 ^ 40):au Tryz.prog 80 [.c (.s (l.map bc))] (.one (.c (vb (cr l)) 1)):=by
 refine pci ag Tryz.func80 (λw0 base=>?_);simp;refine bg.intro eok (λi:Nat=>i<=l.length/\∀ n∈l.take i,dN n) (λi=>⟨15,0,[(7,.v (.int .i64 i)),(6,.v (.int .i64 l.length)),(5,.ro (l.map bc))],[]⟩) (λi=>l.length - i) 0 (by simp) (by simp) (λi hi=>?_);by_cases h:i<l.length
 ·simp [h]
  refine aa.pure (v6 l[i]) (by simp) ?_;simp;refine Br.mk (λh1=>?_) (λh1=>?_)
  ·simp
   exact ⟨i+1,⟨by omega,mX h hi.2 (nM h1)⟩,by omega,aB (by omega)⟩
  ·simp [bQ]
   exact rC h (se h1)
 ·simp [h,jV]
  exact mY (by omega) hi.2
def am (p:Part):Prop:=((p.kind=1\/p.kind=3)/\(0<=p.n/\p.n<=200)/\p.signs=[])\/(p.kind=2/\p.n=0/\p.signs.length<=200/\cr p.signs)
theorem qc {p:Part} (h:p.kind=1\/p.kind=3):am p=((0<=p.n/\p.n<=200)/\p.signs=[]):=by
 have h2:¬ p.kind=2:=by omega
 simp [am,h,h2]
theorem gd {p:Part} (h:p.kind=2):am p=(p.n=0/\p.signs.length<=200/\cr p.signs):=by simp [am,h]
theorem uT {p:Part} (h1:p.kind≠1) (h2:p.kind≠2) (h3:p.kind≠3):¬ am p:=by simp [am,h1,h2,h3]
theorem wG (p:Part) (hl:p.signs.length<=2 ^ 40):au Tryz.prog 114 [.agg p.row] (.one (.c (vb (am p)) 1)):=by
 refine pci ag Tryz.func114 (λw0 base=>?_);simp [Part.row];intros;by_cases h13:p.kind=1\/p.kind=3
 ·rw [qc h13]
  rcases h13 with h|h
  ·simp [h]
   refine aa.pure (cQ p.n 0 200) (by simp) ?_;by_cases hn:0<=p.n/\p.n<=200
   ·simp [hn]
   ·have e:dc (0<=p.n/\p.n<=200)=false:=by rw [bQ];exact hn
    simp [hn]
  ·simp [h]
   refine aa.pure (cQ p.n 0 200) (by simp) ?_;by_cases hn:0<=p.n/\p.n<=200
   ·simp [hn]
   ·have e:dc (0<=p.n/\p.n<=200)=false:=by rw [bQ];exact hn
    simp [hn]
 ·have h1:¬ p.kind=1:=λh=>h13 (.inl h)
  have h3:¬ p.kind=3:=λh=>h13 (.inr h)
  by_cases h2:p.kind=2
  ·rw [gd h2]
   simp [h2];by_cases hn:p.n=0
   ·by_cases hs:p.signs.length<=200
    ·have hs':(p.signs.length:Int)<=200:=by omega
     simp [hn,hs'];refine aa.pure (ig p.signs hl) (by simp) ?_;simp [hs]
    ·have hs':¬ (p.signs.length:Int)<=200:=by omega
     simp [hn,hs',hs]
   ·simp [hn]
  ·simp [h1,h2,h3,uT]
theorem v8 (p:Part) (hl:p.signs.length<=2 ^ 40):au Tryz.prog 111 [.agg p.row] (.one (.c (vb (am p)) 1)):=by
 refine pci ag Tryz.func111 (λw0 base=>?_);simp [Part.row];intros;by_cases h13:p.kind=1\/p.kind=3
 ·rw [qc h13]
  rcases h13 with h|h
  ·simp [h]
   refine aa.pure (cg p.n 0 200) (by simp) ?_;by_cases hn:0<=p.n/\p.n<=200
   ·simp [hn]
   ·have e:dc (0<=p.n/\p.n<=200)=false:=by rw [bQ];exact hn
    simp [hn]
  ·simp [h]
   refine aa.pure (cg p.n 0 200) (by simp) ?_;by_cases hn:0<=p.n/\p.n<=200
   ·simp [hn]
   ·have e:dc (0<=p.n/\p.n<=200)=false:=by rw [bQ];exact hn
    simp [hn]
 ·have h1:¬ p.kind=1:=λh=>h13 (.inl h)
  have h3:¬ p.kind=3:=λh=>h13 (.inr h)
  by_cases h2:p.kind=2
  ·rw [gd h2]
   simp [h2];by_cases hn:p.n=0
   ·simp [hn]
    refine aa.pure (nc p.signs hl) (by simp) ?_;have e:((p.signs.length:Int)<=200)=(p.signs.length<=200):=by simp;omega
    by_cases hg:cr p.signs
    ·simp [hg,e]
    ·simp [hg]
   ·simp [hn]
  ·simp [h1,h2,h3,uT]
def cG (o:List Part):Prop:=(∀ p∈o,am p)/\o.length<=600
theorem jL (o:List Part) (hl:nL aC o<=2 ^ 40):au Tryz.prog 82 [.c (.s (o.map Part.row))] (.one (.c (vb (cG o)) 1)):=by
 refine pci ag Tryz.func82 (λw0 base=>?_);have hle:=cF hl;simp;refine bg.intro eok (λi:Nat=>i<=o.length/\∀ p∈o.take i,am p) (λi=>⟨18,0,[(7,.v (.int .i64 i)),(6,.v (.int .i64 o.length)),(5,.ro (o.map Part.row)),(0,.ro (o.map Part.row))],[]⟩) (λi=>o.length - i) 0 (by simp) (by simp) (λi hi=>?_);by_cases h:i<o.length
 ·simp [h,Part.row]
  intros;refine aa.pure (wG o[i] (jy hl h)) (by simp [Part.row]) ?_;simp;refine Br.mk (λh1=>?_) (λh1=>?_)
  ·simp
   exact ⟨i+1,⟨by omega,mX h hi.2 (nM h1)⟩,by omega,aB (by omega)⟩
  ·simp [bQ]
   exact λhp=>rC h (se h1) hp.1
 ·have ha:=mY (by omega) hi.2
  simp [h];refine o5 ?_;unfold cG;exact ⟨λh=>by have:=h.2;omega,λh=>⟨ha,by omega⟩⟩
theorem jI (o:List Part) (hl:nL aC o<=2 ^ 40):au Tryz.prog 75 [.c (.s (o.map Part.row))] (.one (.c (vb (cG o)) 1)):=by
 refine pci ag Tryz.func75 (λw0 base=>?_);have hle:=cF hl;simp;refine bg.intro eok (λi:Nat=>i<=o.length/\∀ p∈o.take i,am p) (λi=>⟨18,0,[(7,.v (.int .i64 i)),(6,.v (.int .i64 o.length)),(5,.ro (o.map Part.row)),(0,.ro (o.map Part.row))],[]⟩) (λi=>o.length - i) 0 (by simp) (by simp) (λi hi=>?_);by_cases h:i<o.length
 ·simp [h,Part.row]
  intros;refine aa.pure (v8 o[i] (jy hl h)) (by simp [Part.row]) ?_;simp;refine Br.mk (λh1=>?_) (λh1=>?_)
  ·simp
   exact ⟨i+1,⟨by omega,mX h hi.2 (nM h1)⟩,by omega,aB (by omega)⟩
  ·simp [bQ]
   exact λhp=>rC h (se h1) hp.1
 ·have ha:=mY (by omega) hi.2
  simp [h];refine o5 ?_;unfold cG;exact ⟨λh=>by have:=h.2;omega,λh=>⟨ha,by omega⟩⟩
def bW (f:Part->Int):List Part->Int
 | []=>0
 |p::o=>f p+bW f o
theorem p4 {f:Part->Int}:∀ (a b:List Part),bW f (a++b)=bW f a+bW f b
 | [],b=>by simp [bW]
 |p::a,b=>by simp only [List.cons_append,bW,p4 a b];omega
theorem fR {f:Part->Int} {o:List Part} {i:Nat} (h:i<o.length):bW f (o.take (i+1))=bW f (o.take i)+f o[i]:=by
 rw [<- List.take_append_getElem h,p4];simp [bW]
theorem f9 {f g:Part->Int}:∀ {o:List Part},(∀ p∈o,f p=g p)->bW f o=bW g o
 | [],_=>rfl
 | p :: o, h => by
   simp only [bW];rw [h p (List.mem_cons_self ..),f9 (λq hq=>h q (List.mem_cons_of_mem _ hq))]
theorem iU {f g:Part->Int}:∀ (o:List Part),bW (λp=>f p+g p) o=bW f o+bW g o
 | []=>by simp [bW]
 |p::o=>by simp only [bW,iU o];omega
def fK (p:Part):Int:=if p.kind=1 then p.n else 0
def fP (p:Part):Int:=if p.kind=2 then p.signs.length else 0
def fD (p:Part):Int:=if p.kind=1 then 0 else if p.kind=2 then 0 else p.n
def kX (k:Int) (p:Part):Int:=if p.kind=k then 0 else p.n+p.signs.length
theorem am.bounds {p:Part} (h:am p):(p.kind=1\/p.kind=2\/p.kind=3)/\0<=p.n/\p.n<=200/\p.signs.length<=200/\(p.kind=2->p.n=0)/\(p.kind≠2->p.signs=[]):=by
 rcases h with ⟨h1,h2,h3⟩|⟨h1,h2,h3,h4⟩
 ·refine ⟨by omega,by omega,by omega,by simp [h3],by omega,λ_=>h3⟩
 ·refine ⟨by omega,by omega,by omega,h3,λ_=>h2,λh=>absurd h1 h⟩
theorem MV {p:Part} (h:am p):kX 2 p=fK p+fD p:=by
 obtain ⟨h1,h2,h3,h4,h5,h6⟩:=h.bounds;unfold kX fK fD;by_cases k2:p.kind=2
 ·simp [k2]
 ·by_cases k1:p.kind=1<;>simp [k1,k2,h6 k2]
theorem MU {p:Part} (h:am p):kX 3 p=fK p+fP p:=by
 obtain ⟨h1,h2,h3,h4,h5,h6⟩:=h.bounds;unfold kX fK fP;rcases h1 with k|k|k
 ·simp [k,h6 (by omega)]
 ·simp [k,h5 k]
 ·simp [k]
theorem d6 {f:Part->Int} {B:Int} (hf:∀ p,am p->0<=f p/\f p<=B):∀ {o:List Part},(∀ p∈o,am p)->0<=bW f o/\bW f o<=B*o.length
 | [],_=>by simp [bW]
 | p :: o, h => by
   have h1:=hf p (h p (List.mem_cons_self ..));have h2:=d6 hf (o:=o) (λq hq=>h q (List.mem_cons_of_mem _ hq));simp only [bW,List.length_cons];rw [show B*((o.length+1:Nat):Int)=B*o.length+B by rw [Int.natCast_add];simp [Int.mul_add]];omega
theorem GO {p:Part} (h:am p):0<=fK p/\fK p<=200:=by have:=h.bounds;unfold fK;split<;>omega
theorem PD {p:Part} (h:am p):0<=fP p/\fP p<=200:=by have:=h.bounds;unfold fP;split<;>omega
theorem GR {p:Part} (h:am p):0<=fD p/\fD p<=200:=by have:=h.bounds;unfold fD;split<;>(try split)<;>omega
theorem ML {k:Int} {p:Part} (h:am p):0<=kX k p/\kX k p<=400:=by have:=h.bounds;unfold kX;split<;>omega
theorem mG {o:List Part} (h:∀ p∈o,am p) (i:Nat):∀ p∈o.take i,am p:=λp hp=>h p (List.mem_of_mem_take hp)
theorem LA (p:Part) (hp:am p):au Tryz.prog 158 [.agg p.row] (.one (.c (vi (p.n+p.signs.length)) 1)):=by
 refine pci ag Tryz.func158 (λw0 base=>?_);have:=hp.bounds;have e:Go.IntKind.i64.wrap (p.n+(p.signs.length:Int))=p.n+p.signs.length:=Go.IntWalk.i64_in _ (by omega);simp [Part.row,e]
open Classical in
noncomputable def sizeOf (o:List Part) (k:Int):Int:=if cG o then bW (kX k) o else 0
theorem oR (o:List Part) (hl:nL aC o<=2 ^ 40) (k:Int):au Tryz.prog 117 [.c (.s (o.map Part.row)),.c (vi k)] (.one (.c (vi (sizeOf o k)) 1)):=by
 refine pci ag Tryz.func117 (λw0 base=>?_);have hle:=cF hl;simp;refine aa.pure (jL o hl) (by simp) ?_;by_cases ho:cG o
 ·have hr:sizeOf o k=bW (kX k) o:=by unfold sizeOf;rw [if_pos ho]
  simp [ho,hr];refine bg.intro eok (λi:Nat=>i<=o.length) (λi=>⟨27,0,[(13,.v (.int .i64 i)),(12,.v (.int .i64 o.length)),(11,.ro (o.map Part.row)),(5,.v (.int .i64 (bW (kX k) (o.take i)))),(1,.v (.int .i64 k))],[]⟩) (λi=>o.length - i) 0 (by simp) (by simp [bW]) (λi hi=>?_);by_cases h:i<o.length
  ·have hp:=ho.1 _ (List.getElem_mem h)
   have hb:=d6 (f:=kX k) (λp h=>ML h) (mG ho.1 i);have hb2:=hp.bounds;have hlen:=ho.2;have hlt:(o.take i).length<=600:=by simp;omega
   have hs:=fR (f:=kX k) h;obtain ⟨q,hq⟩:∃ q,bW (kX k) (o.take i)=q:=⟨_,rfl⟩;have e:Go.IntKind.i64.wrap ((i:Int)+1)=((i+1:Nat):Int):=aB (by omega);rw [hq] at hs hb;simp [h,Part.row,hq];intros;by_cases hk:o[i].kind=k
   ·simp [hk]
    refine ⟨i+1,by omega,by omega,e,?_⟩;rw [hs];simp [kX,hk]
   ·simp [hk]
    refine aa.pure (LA o[i] hp) (by simp [Part.row]) ?_;have e2:Go.IntKind.i64.wrap (q+(o[i].n+(o[i].signs.length:Int)))=q+(o[i].n+o[i].signs.length):=Go.IntWalk.i64_in _ (by omega);simp [e2];refine ⟨i+1,by omega,by omega,e,?_⟩;rw [hs];simp [kX,hk]
  ·simp [h]
   rw [List.take_of_length_le (by omega)]
 ·have e:dc (cG o)=false:=by rw [bQ];exact ho
  have hr:sizeOf o k=0:=by unfold sizeOf;rw [if_neg ho]
  simp [e,hr]
open Classical in
noncomputable def bU (o:List Part):Int×Int×Int:=if cG o then (bW fK o,bW fP o,bW fD o) else (0,0,0)
theorem oP (o:List Part) (hl:nL aC o<=2 ^ 40):au Tryz.prog 112 [.c (.s (o.map Part.row))] (.tup [.c (vi (bU o).1) 1,.c (vi (bU o).2.1) 1,.c (vi (bU o).2.2) 1]):=by
 refine pci ag Tryz.func112 (λw0 base=>?_);have hle:=cF hl;simp;refine aa.pure (jI o hl) (by simp) ?_;by_cases ho:cG o
 ·have hr:bU o=(bW fK o,bW fP o,bW fD o):=by unfold bU;rw [if_pos ho]
  simp [ho,hr];refine bg.intro eok (λi:Nat=>i<=o.length) (λi=>⟨42,0,[(15,.v (.int .i64 i)),(14,.v (.int .i64 o.length)),(13,.ro (o.map Part.row)),(5,.v (.int .i64 (bW fK (o.take i)))),(6,.v (.int .i64 (bW fP (o.take i)))),(7,.v (.int .i64 (bW fD (o.take i))))],[]⟩) (λi=>o.length - i) 0 (by simp) (by simp [bW]) (λi hi=>?_);by_cases h:i<o.length
  ·have hp:=ho.1 _ (List.getElem_mem h)
   have hb1:=d6 (f:=fK) (λp h=>GO h) (mG ho.1 i);have hb2:=d6 (f:=fP) (λp h=>PD h) (mG ho.1 i);have hb3:=d6 (f:=fD) (λp h=>GR h) (mG ho.1 i);have hpb:=hp.bounds;have hlen:=ho.2;have hlt:(o.take i).length<=600:=by simp;omega
   have hs1:=fR (f:=fK) h;have hs2:=fR (f:=fP) h;have hs3:=fR (f:=fD) h;obtain ⟨q1,hq1⟩:∃ q,bW fK (o.take i)=q:=⟨_,rfl⟩;obtain ⟨q2,hq2⟩:∃ q,bW fP (o.take i)=q:=⟨_,rfl⟩;obtain ⟨q3,hq3⟩:∃ q,bW fD (o.take i)=q:=⟨_,rfl⟩;have e:Go.IntKind.i64.wrap ((i:Int)+1)=((i+1:Nat):Int):=aB (by omega);rw [hq1] at hs1 hb1;rw [hq2] at hs2 hb2;rw [hq3] at hs3 hb3;simp [h,Part.row,hq1,hq2,hq3];intros;have e1:Go.IntKind.i64.wrap (q1+o[i].n)=q1+o[i].n:=Go.IntWalk.i64_in _ (by omega);have e2:Go.IntKind.i64.wrap (q2+(o[i].signs.length:Int))=q2+o[i].signs.length:=Go.IntWalk.i64_in _ (by omega);have e3:Go.IntKind.i64.wrap (q3+o[i].n)=q3+o[i].n:=Go.IntWalk.i64_in _ (by omega);by_cases k1:o[i].kind=1
   ·simp [k1,e1]
    refine ⟨i+1,by omega,by omega,e,?_,?_,?_⟩
    ·rw [hs1];simp [fK,k1]
    ·rw [hs2];simp [fP,k1]
    ·rw [hs3];simp [fD,k1]
   ·by_cases k2:o[i].kind=2
    ·simp [k2,e2]
     refine ⟨i+1,by omega,by omega,e,?_,?_,?_⟩
     ·rw [hs1];simp [fK,k2]
     ·rw [hs2];simp [fP,k2]
     ·rw [hs3];simp [fD,k2]
    ·simp [k1,k2,e3]
     refine ⟨i+1,by omega,by omega,e,?_,?_,?_⟩
     ·rw [hs1];simp [fK,k1]
     ·rw [hs2];simp [fP,k2]
     ·rw [hs3];simp [fD,k1,k2]
  ·simp [h]
   rw [List.take_of_length_le (by omega)];simp
 ·have e:dc (cG o)=false:=by rw [bQ];exact ho
  have hr:bU o=(0,0,0):=by unfold bU;rw [if_neg ho]
  simp [e,hr]
noncomputable def aL (o:List Part):Int:=(bU o).1+(bU o).2.2
noncomputable def cE (o:List Part):Int:=(bU o).1+(bU o).2.1
theorem yB (o:List Part):sizeOf o 2=aL o:=by
 unfold sizeOf aL bU
 split
 ·rename_i h
  show _=bW fK o+bW fD o
  rw [<- iU];exact f9 (λp hp=>MV (h.1 p hp))
 ·rfl
theorem C6 (o:List Part):sizeOf o 3=cE o:=by
 unfold sizeOf cE bU
 split
 ·rename_i h
  show _=bW fK o+bW fP o
  rw [<- iU];exact f9 (λp hp=>MU (h.1 p hp))
 ·rfl
theorem yS (o:List Part):(0<=(bU o).1/\(bU o).1<=120000)/\(0<=(bU o).2.1/\(bU o).2.1<=120000)/\0<=(bU o).2.2/\(bU o).2.2<=120000:=by
 unfold bU
 split
 ·rename_i h
  have h1:=d6 (f:=fK) (λp h=>GO h) h.1;have h2:=d6 (f:=fP) (λp h=>PD h) h.1;have h3:=d6 (f:=fD) (λp h=>GR h) h.1;have h4:=h.2;simp only;omega
 ·simp
theorem wI (o:List Part) (hl:nL aC o<=2 ^ 40):au Tryz.prog 86 [.c (.s (o.map Part.row))] (.one (.c (vi (aL o)) 1)):=by
 refine pci ag Tryz.func86 (λw0 base=>?_);simp;refine aa.pure (oR o hl 2) (by simp) ?_;simp [yB]
theorem AU (o:List Part) (hl:nL aC o<=2 ^ 40):au Tryz.prog 87 [.c (.s (o.map Part.row))] (.one (.c (vi (cE o)) 1)):=by
 refine pci ag Tryz.func87 (λw0 base=>?_);simp;refine aa.pure (oR o hl 3) (by simp) ?_;simp [C6]
theorem du (o:List Part) (hl:nL aC o<=2 ^ 40):au Tryz.prog 77 [.c (.s (o.map Part.row))] (.one (.c (vi (aL o)) 1)):=by
 refine pci ag Tryz.func77 (λw0 base=>?_);simp;refine aa.pure (oP o hl) (by simp) ?_;have:=yS o;have e:Go.IntKind.i64.wrap ((bU o).1+(bU o).2.2)=aL o:=Go.IntWalk.i64_in _ (by omega);simp [e]
theorem gT (o:List Part) (hl:nL aC o<=2 ^ 40):au Tryz.prog 78 [.c (.s (o.map Part.row))] (.one (.c (vi (cE o)) 1)):=by
 refine pci ag Tryz.func78 (λw0 base=>?_);simp;refine aa.pure (oP o hl) (by simp) ?_;have:=yS o;have e:Go.IntKind.i64.wrap ((bU o).1+(bU o).2.1)=cE o:=Go.IntWalk.i64_in _ (by omega);simp [e]
def aX (o:List Part):Prop:=cG o/\aL o<=200/\cE o<=200
theorem jd (o:List Part) (hl:nL aC o<=2 ^ 40):au Tryz.prog 42 [.c (.s (o.map Part.row))] (.one (.c (vb (aX o)) 1)):=by
 refine pci ag Tryz.func42 (λw0 base=>?_);simp;refine aa.pure (jL o hl) (by simp) ?_;by_cases h:cG o
 ·simp [h]
  refine aa.pure (wI o hl) (by simp) ?_;by_cases h1:aL o<=200
  ·simp [h1]
   refine aa.pure (AU o hl) (by simp) ?_;simp [aX,h,h1]
  ·simp [h1,aX,h]
 ·simp [h,aX]
theorem cz (o:List Part) (hl:nL aC o<=2 ^ 40):au Tryz.prog 29 [.c (.s (o.map Part.row))] (.one (.c (vb (aX o)) 1)):=by
 refine pci ag Tryz.func29 (λw0 base=>?_);simp;refine aa.pure (jI o hl) (by simp) ?_;by_cases h:cG o
 ·simp [h]
  refine aa.pure (du o hl) (by simp) ?_;by_cases h1:aL o<=200
  ·simp [h1]
   refine aa.pure (gT o hl) (by simp) ?_;simp [aX,h,h1]
  ·simp [h1,aX,h]
 ·simp [h,aX]
def aA (L:List Part) (P:List Int) (D:Int):List Part:=L++((if P=[] then [] else [⟨2,0,P⟩])++(if 0<D then [⟨3,D,[]⟩] else []))
def bJ (L:List Part) (n:Int):List Part:=
 if h:0<L.length then
  if (L[L.length - 1]'(by omega)).kind=1 then L.set (L.length - 1) ⟨1,(L[L.length - 1]'(by omega)).n+n,(L[L.length - 1]'(by omega)).signs⟩ else L++[⟨1,n,[]⟩]
 else [⟨1,n,[]⟩]
def cA (s:List Part×List Int×Int) (p:Part):List Part×List Int×Int:=
 if p.kind=2 then (s.1,s.2.1++p.signs,s.2.2)
 else if p.kind=3 then (s.1,s.2.1,s.2.2+p.n)
 else if 0<p.n then (bJ (aA s.1 s.2.1 s.2.2) p.n,[],0) else s
def aY (o:List Part):List Part×List Int×Int:=o.foldl cA ([],[],0)
def normal (o:List Part):List Part:=aA (aY o).1 (aY o).2.1 (aY o).2.2
theorem gp {o:List Part} {i:Nat} (h:i<o.length):aY (o.take (i+1))=cA (aY (o.take i)) o[i]:=by
 unfold aY;rw [<- List.take_append_getElem h,List.foldl_append];rfl
structure NbOk (m:Nat) (s:List Part×List Int×Int):Prop where
 l:s.1.length<=3*m
 p:s.2.1.length<=200*m
 d0:0<=s.2.2
 d:s.2.2<=200*m
 q:∀ q∈s.1,0<=q.n/\q.n<=200*m
theorem fo (L:List Part) (P:List Int) (D:Int):(aA L P D).length<=L.length+2:=by
 unfold aA
 split<;>split<;>simp
theorem fH {L:List Part} {P:List Int} {D B:Int} (h0:0<=D) (hD:D<=B) (hL:∀ q∈L,0<=q.n/\q.n<=B):∀ q∈aA L P D,0<=q.n/\q.n<=B:=by
 intro q hq;unfold aA at hq;simp only [List.mem_append] at hq;rcases hq with hq|hq|hq
 ·exact hL q hq
 ·split at hq
  ·simp at hq
  ·simp at hq;subst hq;simp;omega
 ·split at hq
  ·simp at hq;subst hq;simp;omega
  ·simp at hq
theorem j0 {o:List Part} (ho:∀ p∈o,am p):∀ (i:Nat),i<=o.length->NbOk i (aY (o.take i))
 | 0, _ => by
   simp [aY];exact ⟨by simp,by simp,by simp,by simp,by simp⟩
 | i + 1, hi => by
   have ih:=j0 ho i (by omega);have hlt:i<o.length:=by omega
   rw [gp hlt];have hp:=(ho _ (List.getElem_mem hlt)).bounds;generalize aY (o.take i)=s at ih;generalize o[i]=p at hp;obtain ⟨L,P,D⟩:=s;obtain ⟨h1,h2,h3,h4,h5⟩:=ih;simp only at h1 h2 h3 h4 h5;have w:∀ q∈L,0<=q.n/\q.n<=200*((i+1:Nat):Int):=λq hq=>by have:=h5 q hq;omega
   unfold cA
   split
   ·exact ⟨by simp;omega,by simp;omega,h3,by simp;omega,w⟩
   ·split
    ·exact ⟨by simp;omega,by simp;omega,by simp;omega,by simp;omega,w⟩
    ·split
     ·have f1:=fo L P D
      have f2:=fH (P:=P) h3 h4 h5;refine ⟨?_,by simp,by simp,by simp;omega,?_⟩
      ·simp only [bJ]
       split
       ·split<;>simp<;>omega
       ·simp;omega
      ·simp only [bJ]
       intro q hq
       split at hq
       ·split at hq
        ·rcases List.mem_or_eq_of_mem_set hq with hq|rfl
         ·have:=f2 q hq;omega
         ·have:=f2 _ (List.getElem_mem (show (aA L P D).length - 1<(aA L P D).length by omega))
          simp only;omega
        ·rcases List.mem_append.1 hq with hq|hq
         ·have:=f2 q hq;omega
         ·simp at hq;subst hq;simp;omega
       ·simp at hq;subst hq;simp;omega
     ·exact ⟨by simp;omega,by simp;omega,h3,by simp;omega,w⟩
theorem mj {L:List Part} {P:List Int} {D:Int} (hP:¬ P=[]) (hD:0<D):aA L P D=L++[⟨2,0,P⟩]++[⟨3,D,[]⟩]:=by simp [aA,hP,hD]
theorem mi {L:List Part} {P:List Int} {D:Int} (hP:¬ P=[]) (hD:¬ 0<D):aA L P D=L++[⟨2,0,P⟩]:=by simp [aA,hP,hD]
theorem mh {L:List Part} {P:List Int} {D:Int} (hP:P=[]) (hD:0<D):aA L P D=L++[⟨3,D,[]⟩]:=by simp [aA,hP,hD]
theorem mg {L:List Part} {P:List Int} {D:Int} (hP:P=[]) (hD:¬ 0<D):aA L P D=L:=by simp [aA,hP,hD]
theorem me {w0:World} {bF bG:Nat->Prop} {bl:Bool} {st:ASt} {dst:Option Nat} {K:ASt->Prop} {L:List Part} {P:List Int} {D:Int} {b3 b4 b5:Nat} {Hl Hp:Hd} (hL:L.length<=2 ^ 20) (_hP:P.length<=2 ^ 40)
 (g48:st.h.get 48=.vars b3 28 [.sl 5000 Hl 3 0 L.length]) (g64:st.h.get 64=.vars b4 23 [.sl 5001 Hp 1 0 P.length]) (g80:st.h.get 80=.vars b5 3 [.v (.int .i64 D)])
 (g5000:st.h.get 5000=.rows Hl 3 (L.map Part.row) true) (g5001:st.h.get 5001=.rows Hp 1 (P.map bc) true)
 (hK:∀ Hl' h',AH.get h' 48=.vars b3 28 [.sl 5000 Hl' 3 0 (aA L P D).length] -> AH.get h' 5000=.rows Hl' 3 ((aA L P D).map Part.row) true -> AH.get h' 64=.vars b4 23 [.nil] -> AH.get h' 80=.vars b5 3 [.v (.int .i64 0)] ->
  AH.get h' 128=st.h.get 128->bk ⟨st.n,st.kb,st.t,h'⟩ dst (.tup []) K):aa ⟨Tryz.prog,tt,w0,⟨bF,bG,bl,λ_=>True⟩⟩ 208 [.p 64 b4 0,.p 48 b3 0,.p 80 b5 0] st dst K:=by
 refine inl ag Tryz.func208 20000 (λw1 F=>?_);simp [g64];by_cases hp:P=[]
 ·have hp0:¬ 0<P.length:=by simp [hp]
  simp [hp0,g80];by_cases hd:0<D
  ·simp [hd,g48,g5000,g80,g64]
   intro b;refine ⟨by omega,λH=>hK H _ ?_ ?_ ?_ ?_ ?_⟩<;>simp [mh hp hd,Part.row]
  ·simp [hd,g80,g64]
   refine hK Hl _ ?_ ?_ ?_ ?_ ?_<;>simp [mg hp hd,g48,g5000]
 ·have hp0:0<P.length:=List.length_pos_iff.2 hp
  simp [hp0,g80,g48,g5000,g5001,g64];intro b;refine ⟨by omega,λH=>?_⟩;by_cases hd:0<D
  ·simp [hd,g80,g64]
   intro b2;refine ⟨by omega,λH2=>hK H2 _ ?_ ?_ ?_ ?_ ?_⟩<;>simp [mj hp hd,Part.row]
  ·simp [hd,g80,g64]
   refine hK H _ ?_ ?_ ?_ ?_ ?_<;>simp [mi hp hd,Part.row]
theorem gg {F:List Part} {m:Nat} (h:m<F.length) {g:List CD->List CD} {p:Part} (hg:g F[m].row=p.row):(F.map Part.row).modify m g=(F.set m p).map Part.row:=by
 apply List.ext_getElem?
 intro j;rw [List.getElem?_modify];simp only [List.getElem?_map,List.getElem?_set];by_cases hj:m=j
 ·subst hj
  simp [h,hg]
 ·simp [hj]
theorem F7 (o:List Part) (ho:∀ p∈o,am p) (hl:o.length<=10000):au Tryz.prog 166 [.c (.s (o.map Part.row))] (.one (.c (.s ((normal o).map Part.row)) 3)):=by
 refine pci ag Tryz.func166 (λw0 base=>?_);simp;intro b3 b4 b5
 refine ar eok (λx:Nat×Hd×Hd=>x.1<=o.length) (λx=>⟨73,0,[(13,.v (.int .i64 x.1)),(12,.v (.int .i64 o.length)),(11,.ro (o.map Part.row)),(3,.p 48 b3 0),(4,.p 64 b4 0),(5,.p 80 b5 0),(6,.clo 208 [.p 64 b4 0,.p 48 b3 0,.p 80 b5 0])],
  [(48, .vars b3 28 [.sl 5000 x.2.1 3 0 (aY (o.take x.1)).1.length]), (64, .vars b4 23 [.sl 5001 x.2.2 1 0 (aY (o.take x.1)).2.1.length]), (80, .vars b5 3 [.v (.int .i64 (aY (o.take x.1)).2.2)]),
   (5000,.rows x.2.1 3 ((aY (o.take x.1)).1.map Part.row) true),(5001,.rows x.2.2 1 ((aY (o.take x.1)).2.1.map bc) true)]⟩) (λx=>o.length - x.1) (0,none,none) (by simp) (by simp [aY]) (λx hx=>Ent.refl ?_)
 obtain ⟨i,Hl,Hp⟩:=x;simp only at hx ⊢;have hok:=j0 ho i hx;by_cases h:i<o.length
 ·have hs:=gp h
  have hpb:=(ho _ (List.getElem_mem h)).bounds;generalize aY (o.take i)=s at hok hs;obtain ⟨L,P,D⟩:=s;obtain ⟨k1,k2,k3,k4,k5⟩:=hok;simp only at k1 k2 k3 k4 k5;have e:Go.IntKind.i64.wrap ((i:Int)+1)=((i+1:Nat):Int):=aB (by omega);simp [h,Part.row];intro b8;by_cases c2:o[i].kind=2
  ·simp [c2]
   refine ⟨by omega,λH=>?_⟩;refine Ent.refl ⟨i+1,by omega,by omega,Hl,H,?_⟩;rw [hs];simp [cA,c2,e]
  ·by_cases c3:o[i].kind=3
   ·have e3:Go.IntKind.i64.wrap (D+o[i].n)=D+o[i].n:=Go.IntWalk.i64_in _ (by omega)
    simp [c3,e3];refine Ent.refl ⟨i+1,by omega,by omega,Hl,Hp,?_⟩;rw [hs];simp [cA,c3,e]
   ·by_cases cn:0<o[i].n
    ·simp [c2,c3,cn]
     refine me (L:=L) (P:=P) (D:=D) (Hl:=Hl) (Hp:=Hp) (by omega) (by omega) (by simp) (by simp) (by simp) (by simp) (by simp) (λHl' h' g48 g5000 g64 g80 g128=>?_);have f1:=fo L P D;have f2:=fH (P:=P) k3 k4 k5;have hstep:cA (L,P,D) o[i]=(bJ (aA L P D) o[i].n,[],0):=by simp [cA,c2,c3,cn]
     rw [hstep] at hs;generalize aA L P D=F at f1 f2 g48 g5000 hs;simp at g128;by_cases hF:0<F.length
     ·obtain ⟨m,hm⟩:∃ m,F.length=m+1:=⟨F.length - 1,by omega⟩
      have hmlt:m<F.length:=by omega
      have em:Go.IntKind.i64.wrap (m:Int)=m:=iM (by omega)
      have hk:bJ F o[i].n=if F[m].kind=1 then F.set m ⟨1,F[m].n+o[i].n,F[m].signs⟩ else F++[⟨1,o[i].n,[]⟩]:=by
       have e0:F.length - 1=m:=by omega
       simp [bJ,hF,e0]
      have hq:=f2 _ (List.getElem_mem hmlt);simp [g48,g5000,hm,em,Part.row];by_cases ck:F[m].kind=1
      ·rw [if_pos ck] at hk
       have em2:Go.IntKind.i64.wrap (F[m].n+o[i].n)=F[m].n+o[i].n:=Go.IntWalk.i64_in _ (by omega);have hmm:(m:Int)<m+1:=by omega
       simp [ck,hmm];refine drw eok mix [0,1,2,3,4,5,6,7,8,9,10] [11] (.c 11 11 2045 2 (.l 11 2) .s) ?_;simp [g48,g5000,g128,hm,em,Part.row,ck,em2,hmm];refine Ent.kill 5001 (Ent.refl ⟨i+1,by omega,by omega,Hl',none,?_⟩);rw [hs,hk];have hmod:=gg (F:=F) (m:=m) hmlt (g:=λrow=>eh row 1 [CD.v (Value.int IntKind.i64 (F[m].n+o[i].n))]) (p:=⟨1,F[m].n+o[i].n,F[m].signs⟩) (by simp [Part.row,ck]);simp [e,g48,g64,g80,hm,hmod]
      ·rw [if_neg ck] at hk
       simp [ck,g48,g5000,g128,hm];refine ⟨by omega,λb=>⟨by omega,λH=>?_⟩⟩;refine Ent.kill 5001 (Ent.refl ⟨i+1,by omega,by omega,H,none,?_⟩);rw [hs,hk];simp [e,Part.row,g64,g80,hm]
     ·have hF0:F=[]:=List.eq_nil_of_length_eq_zero (by omega)
      subst hF0;have hk:bJ [] o[i].n=[⟨1,o[i].n,[]⟩]:=by simp [bJ]
      simp [g48,g5000,g128];intro b H;refine Ent.kill 5001 (Ent.refl ⟨i+1,by omega,by omega,H,none,?_⟩);rw [hs,hk];simp [e,Part.row,g64,g80]
    ·simp [c2,c3,cn]
     refine Ent.refl ⟨i+1,by omega,by omega,Hl,Hp,?_⟩;rw [hs];simp [cA,c2,c3,cn,e]
 ·have he:o.take i=o:=List.take_of_length_le (by omega)
  rw [he] at hok ⊢;have hn:normal o=aA (aY o).1 (aY o).2.1 (aY o).2.2:=rfl;rw [hn];generalize aY o=s at hok;obtain ⟨L,P,D⟩:=s;obtain ⟨k1,k2,k3,k4,k5⟩:=hok;simp only at k1 k2 k3 k4 k5;simp [h];refine me (L:=L) (P:=P) (D:=D) (Hl:=Hl) (Hp:=Hp) (by omega) (by omega) (by simp) (by simp) (by simp) (by simp) (by simp) (λHl' h' g48 g5000 g64 g80 g128=>?_);simp [g48,g5000]
theorem lQ {w0:World} {bF bG:Nat->Prop} {bl:Bool} {st:ASt} {dst:Option Nat} {K:ASt->Prop} {L:List Part} {P:List Int} {D:Int} {b:Nat} {Hl Hp:Hd} (hL:L.length<=2 ^ 20) (_hP:P.length<=2 ^ 40)
 (g160:st.h.get 160=.vars b 177 [.sl 5000 Hl 3 0 L.length,.sl 5001 Hp 1 0 P.length,.v (.int .i64 D)])
 (g5000:st.h.get 5000=.rows Hl 3 (L.map Part.row) true) (g5001:st.h.get 5001=.rows Hp 1 (P.map bc) true)
 (hK:∀ Hl' h',AH.get h' 160=.vars b 177 [.sl 5000 Hl' 3 0 (aA L P D).length,.nil,.v (.int .i64 0)] -> AH.get h' 5000=.rows Hl' 3 ((aA L P D).map Part.row) true ->
  AH.get h' 80=st.h.get 80->bk ⟨st.n,st.kb,st.t,h'⟩ dst (.tup []) K):aa ⟨Tryz.prog,tt,w0,⟨bF,bG,bl,λ_=>True⟩⟩ 197 [.p 160 b 0] st dst K:=by
 refine inl ag Tryz.func197 20000 (λw1 F=>?_);simp [g160];by_cases hp:P=[]
 ·have hp0:¬ 0<P.length:=by simp [hp]
  simp [hp0,g160];by_cases hd:0<D
  ·simp [hd]
   refine drw eok mix [0,1,2,3,4,5,6,7,8,9,12,13] [10,11,14] (.c 12 10 4 4091 (.c 12 11 128 3963 (.c 12 14 3961 2 (.l 12 2) .s) .s) .s) ?_;simp [g160,g5000];intro b1;refine ⟨by omega,λH=>hK H _ ?_ ?_ ?_⟩<;>simp [mh hp hd,Part.row]
  ·simp [hd,g160]
   refine hK Hl _ ?_ ?_ ?_<;>simp [mg hp hd,g5000]
 ·have hp0:0<P.length:=List.length_pos_iff.2 hp
  simp [hp0];refine drw eok mix [0,1,2,3,4,5,6,7,8,9,12,13] [10,11,14] (.c 12 10 4 4091 (.c 12 11 128 3963 (.c 12 14 3961 2 (.l 12 2) .s) .s) .s) ?_;simp [g160,g5000,g5001];intro b1;refine ⟨by omega,λH=>?_⟩;by_cases hd:0<D
  ·simp [hd]
   refine drw eok mix [0,1,2,3,4,5,6,7,8,9,12,13] [10,11,14] (.c 12 10 4 4091 (.c 12 11 128 3963 (.c 12 14 3961 2 (.l 12 2) .s) .s) .s) ?_;simp;intro b2;refine ⟨by omega,λH2=>hK H2 _ ?_ ?_ ?_⟩<;>simp [mj hp hd,Part.row]
  ·simp [hd]
   refine hK H _ ?_ ?_ ?_<;>simp [mi hp hd,Part.row]
theorem tL {w0:World} {bF bG:Nat->Prop} {bl:Bool} {st:ASt} {dst:Option Nat} {K:ASt->Prop} {L:List Part} {P:List Int} {D n:Int} {b:Nat} {Hl Hp:Hd} (hL:L.length<=2 ^ 19) (hP:P.length<=2 ^ 40) (hn0:0<n) (hn:n<=200) (hF:∀ q∈aA L P D,0<=q.n/\q.n<=2 ^ 40)
 (g160:st.h.get 160=.vars b 177 [.sl 5000 Hl 3 0 L.length,.sl 5001 Hp 1 0 P.length,.v (.int .i64 D)])
 (g5000:st.h.get 5000=.rows Hl 3 (L.map Part.row) true) (g5001:st.h.get 5001=.rows Hp 1 (P.map bc) true)
 (hK:∀ Hl' h',AH.get h' 160=.vars b 177 [.sl 5000 Hl' 3 0 (bJ (aA L P D) n).length,.nil,.v (.int .i64 0)] -> AH.get h' 5000=.rows Hl' 3 ((bJ (aA L P D) n).map Part.row) true ->
  AH.get h' 80=st.h.get 80->bk ⟨st.n,st.kb,st.t,h'⟩ dst (.tup []) K):aa ⟨Tryz.prog,tt,w0,⟨bF,bG,bl,λ_=>True⟩⟩ 152 [.p 160 b 0,.v (.int .i64 n)] st dst K:=by
 refine inl ag Tryz.func152 30000 (λw1 F=>?_);have n0:¬ n=0:=by omega
 simp [n0];refine lQ (L:=L) (P:=P) (D:=D) (Hl:=Hl) (Hp:=Hp) (by omega) hP (by simp [g160]) (by simp [g5000]) (by simp [g5001]) (λHl' h' k160 k5000 k80=>?_);have f1:=fo L P D;generalize aA L P D=F at f1 hF k160 k5000 hK;by_cases hF0:0<F.length
 ·obtain ⟨m,hm⟩:∃ m,F.length=m+1:=⟨F.length - 1,by omega⟩
  have hmlt:m<F.length:=by omega
  have hmm:(m:Int)<m+1:=by omega
  have em:Go.IntKind.i64.wrap (m:Int)=m:=iM (by omega)
  have hk:bJ F n=if F[m].kind=1 then F.set m ⟨1,F[m].n+n,F[m].signs⟩ else F++[⟨1,n,[]⟩]:=by
   have e0:F.length - 1=m:=by omega
   simp [bJ,hF0,e0]
  have hq:=hF _ (List.getElem_mem hmlt);have em2:Go.IntKind.i64.wrap (F[m].n+n)=F[m].n+n:=Go.IntWalk.i64_in _ (by omega);simp [k160,k5000,hm,em,hmm,Part.row];by_cases ck:F[m].kind=1
  ·rw [if_pos ck] at hk
   simp [ck];refine drw eok mix [0,1,2,3,4,5,6,7,8,9,10,11,12,13,14,15,16,17,18] [19] (.c 19 19 524285 2 (.l 19 2) .s) ?_;simp [k160,k5000,hm,em,hmm,Part.row,ck,em2];have hmod:=gg (F:=F) (m:=m) hmlt (g:=λrow=>eh row 1 [CD.v (Value.int IntKind.i64 (F[m].n+n))]) (p:=⟨1,F[m].n+n,F[m].signs⟩) (by simp [Part.row,ck]);refine hK Hl' _ ?_ ?_ ?_
   ·simp [k160,hk,hm]
   ·simp [hk,hmod]
   ·simp [k80]
  ·rw [if_neg ck] at hk
   simp [ck,k160,k5000,hm];intro b1;refine ⟨by omega,λH=>hK H _ ?_ ?_ ?_⟩<;>simp [hk,hm,Part.row,k80]
 ·have hF1:F=[]:=List.eq_nil_of_length_eq_zero (by omega)
  subst hF1;have hk:bJ [] n=[⟨1,n,[]⟩]:=by simp [bJ]
  simp [k160,k5000];intro b1 H;refine hK H _ ?_ ?_ ?_<;>simp [hk,Part.row,k80]
open Classical in
noncomputable def a8 (o:List Part):List Part:=if aX o then normal o else []
theorem oU (o:List Part) (hl:nL aC o<=2 ^ 40):au Tryz.prog 122 [.c (.s (o.map Part.row))] (.one (.c (.s ((a8 o).map Part.row)) 3)):=by
 refine pci ag Tryz.func122 (λw0 base=>?_);simp;refine aa.pure (jd o hl) (by simp) ?_;by_cases h:aX o
 ·have e:a8 o=normal o:=by unfold a8;rw [if_pos h]
  simp [h,e];refine aa.pure (F7 o h.1.1 (by have:=h.1.2;omega)) (by simp) ?_;simp
 ·have e:a8 o=[]:=by unfold a8;rw [if_neg h]
  have e2:dc (aX o)=false:=by rw [bQ];exact h
  simp [e,e2]
theorem ol (o:List Part) (hl:nL aC o<=2 ^ 40):au Tryz.prog 113 [.c (.s (o.map Part.row))] (.one (.c (.s ((a8 o).map Part.row)) 3)):=by
 refine pci ag Tryz.func113 (λw0 base=>?_);simp;refine aa.pure (cz o hl) (by simp) ?_;by_cases hopk:aX o
 rotate_left
 ·have e:a8 o=[]:=by unfold a8;rw [if_neg hopk]
  have e2:dc (aX o)=false:=by rw [bQ];exact hopk
  simp [e,e2]
 have e:a8 o=normal o:=by unfold a8;rw [if_pos hopk]
 have ho:=hopk.1.1;have hlen:=hopk.1.2;simp [hopk,e];intro b
 refine ar eok (λx:Nat×Hd×Hd=>x.1<=o.length) (λx=>⟨38,0,[(13,.v (.int .i64 x.1)),(12,.v (.int .i64 o.length)),(11,.ro (o.map Part.row)),(3,.p 160 b 0)],
  [(160, .vars b 177 [.sl 5000 x.2.1 3 0 (aY (o.take x.1)).1.length, .sl 5001 x.2.2 1 0 (aY (o.take x.1)).2.1.length, .v (.int .i64 (aY (o.take x.1)).2.2)]),
   (5000,.rows x.2.1 3 ((aY (o.take x.1)).1.map Part.row) true),(5001,.rows x.2.2 1 ((aY (o.take x.1)).2.1.map bc) true)]⟩) (λx=>o.length - x.1) (0,none,none) (by simp) (by simp [aY]) (λx hx=>Ent.refl ?_)
 obtain ⟨i,Hl,Hp⟩:=x;simp only at hx ⊢;have hok:=j0 ho i hx;by_cases h:i<o.length
 ·have hs:=gp h
  have hpb:=(ho _ (List.getElem_mem h)).bounds;generalize aY (o.take i)=s at hok hs;obtain ⟨L,P,D⟩:=s;obtain ⟨k1,k2,k3,k4,k5⟩:=hok;simp only at k1 k2 k3 k4 k5;have e:Go.IntKind.i64.wrap ((i:Int)+1)=((i+1:Nat):Int):=aB (by omega);simp [h,Part.row];intro b5;by_cases c1:o[i].kind=1
  ·simp [c1]
   by_cases cn:0<o[i].n
   ·have hstep:cA (L,P,D) o[i]=(bJ (aA L P D) o[i].n,[],0):=by simp [cA,c1,cn]
    rw [hstep] at hs;have f2:=fH (P:=P) k3 k4 k5;refine tL (L:=L) (P:=P) (D:=D) (Hl:=Hl) (Hp:=Hp) (by omega) (by omega) cn hpb.2.2.1 (λq hq=>by have:=f2 q hq;omega) (by simp) (by simp) (by simp) (λHl' h' k160 k5000 k80=>?_);simp;refine Ent.kill 5001 (Ent.refl ⟨i+1,by omega,by omega,Hl',none,?_⟩);rw [hs];simp [e,k160,k5000]
   ·have cn0:o[i].n=0:=by omega
    refine inl ag Tryz.func152 30000 (λw1 F=>?_);simp [cn0];refine Ent.refl ⟨i+1,by omega,by omega,Hl,Hp,?_⟩;rw [hs];simp [cA,c1,cn0,e]
  ·by_cases c2:o[i].kind=2
   ·simp [c2]
    refine inl ag Tryz.func153 30000 (λw1 F=>?_);simp;refine ⟨by omega,λH=>?_⟩;refine Ent.refl ⟨i+1,by omega,by omega,Hl,H,?_⟩;rw [hs];simp [cA,c2,e]
   ·have c3:o[i].kind=3:=by omega
    have e3:Go.IntKind.i64.wrap (D+o[i].n)=D+o[i].n:=Go.IntWalk.i64_in _ (by omega);simp [c1,c2];refine inl ag Tryz.func154 30000 (λw1 F=>?_);simp [e3];refine Ent.refl ⟨i+1,by omega,by omega,Hl,Hp,?_⟩;rw [hs];simp [cA,c3,e]
 ·have he:o.take i=o:=List.take_of_length_le (by omega)
  rw [he] at hok ⊢;have hn:normal o=aA (aY o).1 (aY o).2.1 (aY o).2.2:=rfl;rw [hn];generalize aY o=s at hok;obtain ⟨L,P,D⟩:=s;obtain ⟨k1,k2,k3,k4,k5⟩:=hok;simp only at k1 k2 k3 k4 k5;simp [h];refine inl ag Tryz.func155 30000 (λw1 F=>?_);simp;refine lQ (L:=L) (P:=P) (D:=D) (Hl:=Hl) (Hp:=Hp) (by omega) (by omega) (by simp) (by simp) (by simp) (λHl' h' k160 k5000 k80=>?_);simp [k160,k5000]
theorem uE (a b:List Int) (hl:a.length<=2 ^ 40):au Tryz.prog 116 [.c (.s (a.map bc)),.c (.s (b.map bc))] (.one (.c (vb (a=b)) 1)):=by
 refine pci ag Tryz.func116 (λw0 base=>?_);by_cases h:a.length=b.length
 ·simp [h]
  refine bg.intro eok (λi:Nat=>i<=a.length/\a.take i=b.take i) (λi=>⟨26,0,[(13,.v (.int .i64 i)),(12,.v (.int .i64 b.length)),(1,.ro (b.map bc)),(0,.ro (a.map bc))],[]⟩) (λi=>a.length - i) 0 (by simp) (by simp) (λi hi=>?_);by_cases hlt:i<a.length
  ·have hlt':i<b.length:=by omega
   simp [hlt'];refine bq.quiet eok mix (by kernel_rfl) ?_;simp [hlt,hlt'];refine Br.mk (λh1=>?_) (λh1=>?_)
   ·simp
    exact ⟨i+1,⟨by omega,mH hlt hlt' hi.2 (nM h1)⟩,by omega,aB (by omega)⟩
   ·simp [bQ]
    exact uY hlt hlt' (se h1)
  ·have hlt':¬ i<b.length:=by omega
   simp [hlt',jV];exact oe (by omega) (by omega) hi.2
 ·have hz:¬ (a.length:Int)=b.length:=by omega
  simp [hz,bQ];exact λh2=>absurd (by rw [h2]) h
theorem lS (a b:List Int) (hl:a.length<=2 ^ 40):au Tryz.prog 191 [.c (.s (a.map bc)),.c (.s (b.map bc))] (.one (.c (vb (a=b)) 1)):=by
 refine pci ag Tryz.func191 (λw0 base=>?_);by_cases h:a.length=b.length
 ·simp [h]
  refine bg.intro eok (λi:Nat=>i<=a.length/\a.take i=b.take i) (λi=>⟨26,0,[(13,.v (.int .i64 i)),(12,.v (.int .i64 b.length)),(1,.ro (b.map bc)),(0,.ro (a.map bc))],[]⟩) (λi=>a.length - i) 0 (by simp) (by simp) (λi hi=>?_);by_cases hlt:i<a.length
  ·have hlt':i<b.length:=by omega
   simp [hlt'];refine bq.quiet eok mix (by kernel_rfl) ?_;simp [hlt,hlt'];refine Br.mk (λh1=>?_) (λh1=>?_)
   ·simp
    exact ⟨i+1,⟨by omega,mH hlt hlt' hi.2 (nM h1)⟩,by omega,aB (by omega)⟩
   ·simp [bQ]
    exact uY hlt hlt' (se h1)
  ·have hlt':¬ i<b.length:=by omega
   simp [hlt',jV];exact oe (by omega) (by omega) hi.2
 ·have hz:¬ (a.length:Int)=b.length:=by omega
  simp [hz,bQ];exact λh2=>absurd (by rw [h2]) h
theorem Am (p q:Part) (hl:p.signs.length<=2 ^ 40):au Tryz.prog 157 [.agg p.row,.agg q.row] (.one (.c (vb (p=q)) 1)):=by
 refine pci ag Tryz.func157 (λw0 base=>?_);obtain ⟨k1,n1,s1⟩:=p;obtain ⟨k2,n2,s2⟩:=q;simp [Part.row];intro b1 b2;by_cases h1:k1=k2
 ·by_cases h2:n1=n2
  ·simp [h1,h2]
   refine aa.pure (uE s1 s2 hl) (by simp) ?_;simp
  ·simp [h1,h2]
 ·simp [h1]
theorem zr (a b:List Part) (hl:a.length<=2 ^ 40) (hs:∀ p∈a,p.signs.length<=2 ^ 40):au Tryz.prog 156 [.c (.s (a.map Part.row)),.c (.s (b.map Part.row)),.c (.v (.func (.func 157) #[] #[]))] (.one (.c (vb (a=b)) 1)):=by
 refine pci ag Tryz.func156 (λw0 base=>?_);by_cases h:a.length=b.length
 ·simp [h]
  refine bg.intro eok (λi:Nat=>i<=a.length/\a.take i=b.take i) (λi=>⟨32,0,[(17,.v (.int .i64 i)),(16,.v (.int .i64 b.length)),(15,.ro (a.map Part.row)),(2,.v (.func (.func 157) #[] #[])),(1,.ro (b.map Part.row))],[]⟩) (λi=>a.length - i) 0 (by simp) (by simp) (λi hi=>?_);by_cases hlt:i<a.length
  ·have hlt':i<b.length:=by omega
   simp [hlt,hlt',Part.row];intro b1 b2;refine aa.pure (Am a[i] b[i] (hs _ (List.getElem_mem hlt))) (by simp [Part.row]) ?_;simp;refine Br.mk (λh1=>?_) (λh1=>?_)
   ·simp
    exact ⟨i+1,⟨by omega,mH hlt hlt' hi.2 (nM h1)⟩,by omega,aB (by omega)⟩
   ·simp [bQ]
    exact uY hlt hlt' (se h1)
  ·have hlt':¬ i<b.length:=by omega
   simp [hlt',jV];exact oe (by omega) (by omega) hi.2
 ·have hz:¬ (a.length:Int)=b.length:=by omega
  simp [hz,bQ];exact λh2=>absurd (by rw [h2]) h
theorem FX (a b:List Part) (hl:a.length<=2 ^ 40) (hs:∀ p∈a,p.signs.length<=2 ^ 40):au Tryz.prog 115 [.c (.s (a.map Part.row)),.c (.s (b.map Part.row))] (.one (.c (vb (a=b)) 1)):=by
 refine pci ag Tryz.func115 (λw0 base=>?_);simp;refine aa.pure (zr a b hl hs) (by simp) ?_;simp
theorem wa (a b:List Part) (hl:a.length<=2 ^ 40) (hs:∀ p∈a,p.signs.length<=2 ^ 40):au Tryz.prog 167 [.c (.s (a.map Part.row)),.c (.s (b.map Part.row))] (.one (.c (vb (a=b)) 1)):=by
 refine pci ag Tryz.func167 (λw0 base=>?_);by_cases h:a.length=b.length
 ·simp [h]
  refine bg.intro eok (λi:Nat=>i<=a.length/\a.take i=b.take i) (λi=>⟨49,0,[(14,.v (.int .i64 i)),(13,.v (.int .i64 b.length)),(12,.ro (a.map Part.row)),(1,.ro (b.map Part.row))],[]⟩) (λi=>a.length - i) 0 (by simp) (by simp) (λi hi=>?_);by_cases hlt:i<a.length
  ·have hlt':i<b.length:=by omega
   simp [hlt,hlt',Part.row];intro b1;refine bq.quiet eok mix (by kernel_rfl) ?_;simp [hlt',Part.row];by_cases h1:a[i].kind=b[i].kind
   ·by_cases h2:a[i].n=b[i].n
    ·simp [h1,h2,hlt',Part.row]
     refine ⟨_,_,lS a[i].signs b[i].signs (hs _ (List.getElem_mem hlt)),by simp,?_⟩;simp;by_cases h3:a[i].signs=b[i].signs
     ·simp [h3]
      have he:a[i]=b[i]:=by
       cases hx:a[i];cases hy:b[i]
       rw [hx,hy] at h1 h2 h3;simp at h1 h2 h3;rw [h1,h2,h3]
      exact ⟨i+1,⟨by omega,mH hlt hlt' hi.2 he⟩,by omega,aB (by omega)⟩
     ·simp [h3,bQ]
      exact uY hlt hlt' (λhe=>h3 (by rw [he]))
    ·simp [h1,h2,hlt',Part.row,bQ]
     exact uY hlt hlt' (λhe=>h2 (by rw [he]))
   ·simp [h1,bQ]
    exact uY hlt hlt' (λhe=>h1 (by rw [he]))
  ·have hlt':¬ i<b.length:=by omega
   simp [hlt',jV];exact oe (by omega) (by omega) hi.2
 ·have hz:¬ (a.length:Int)=b.length:=by omega
  simp [hz,bQ];exact λh2=>absurd (by rw [h2]) h
theorem wH (a b:List Part) (h:nL aC a<=2 ^ 40):au Tryz.prog 115 [.c (.s (a.map Part.row)),.c (.s (b.map Part.row))] (.one (.c (vb (a=b)) 1)):=FX a b (cF h) (λ_p hp=>gf h hp)
theorem ni (a b:List Part) (h:nL aC a<=2 ^ 40):au Tryz.prog 167 [.c (.s (a.map Part.row)),.c (.s (b.map Part.row))] (.one (.c (vb (a=b)) 1)):=wa a b (cF h) (λ_p hp=>gf h hp)
theorem gl {α:Type} {f:α->Nat}:∀ (a b:List α),cf f (a++b)=cf f a+cf f b
 | [],b=>by simp [cf]
 |x::a,b=>by simp only [List.cons_append,cf,gl a b];omega
theorem xO {α:Type} {f:α->Nat}:∀ (l:List α) (i:Nat) (h:i<l.length) (x:α),f x=f l[i]->cf f (l.set i x)=cf f l
 |a::l,0,_,x,hx=>by simp at hx;simp [cf,hx]
 | a :: l, i + 1, h, x, hx => by
   simp only [List.set_cons_succ,cf];rw [xO l i (by simpa using h) x (by simpa using hx)]
theorem qg {L:List Part} {P:List Int} {D:Int}:cf aC (aA L P D)=cf aC L+P.length:=by
 unfold aA;rw [gl,gl];by_cases hp:P=[]<;>by_cases hd:0<D<;>simp [hp,hd,cf,aC]
theorem AB {L:List Part} {n:Int}:cf aC (bJ L n)=cf aC L:=by
 unfold bJ
 split
 ·rename_i h
  split
  ·exact xO L _ (by omega) _ rfl
  ·rw [gl];simp [cf,aC]
 ·rename_i h
  have:L=[]:=List.eq_nil_of_length_eq_zero (by omega);subst this;simp [cf,aC]
theorem uZ {o:List Part}:∀ (i:Nat),i<=o.length->cf aC (aY (o.take i)).1+(aY (o.take i)).2.1.length<=cf aC (o.take i)
 |0,_=>by simp [aY,cf]
 | i + 1, hi => by
   have ih:=uZ (o:=o) i (by omega);have hlt:i<o.length:=by omega
   rw [gp hlt,<- List.take_append_getElem hlt,gl];generalize aY (o.take i)=s at ih;generalize o[i]=p;obtain ⟨L,P,D⟩:=s;simp only at ih;have hp:cf aC [p]=p.signs.length:=by simp [cf,aC]
   rw [hp];unfold cA
   split
   ·simp;omega
   ·split
    ·simp;omega
    ·split
     ·simp only [AB,qg];simp;omega
     ·simp;omega
theorem Ay (o:List Part):cf aC (normal o)<=cf aC o:=by
 have h:=uZ (o:=o) o.length (by omega);rw [List.take_length] at h;unfold normal;rw [qg];exact h
theorem Az {o:List Part} (ho:∀ p∈o,am p):(normal o).length<=3*o.length+2:=by
 have h:=(j0 ho o.length (by omega)).l;rw [List.take_length] at h;have:=fo (aY o).1 (aY o).2.1 (aY o).2.2;unfold normal;omega
theorem rT {o:List Part} (ho:∀ p∈o,am p):cf aC o<=200*o.length:=by
 induction o with
 |nil=>simp [cf]
 | cons p o ih =>
   have h1:=(ho p (List.mem_cons_self ..)).bounds;have h2:=ih (λq hq=>ho q (List.mem_cons_of_mem _ hq));simp only [cf,aC,List.length_cons];omega
theorem j4 {o:List Part} (ho:∀ p∈o,am p):nL aC o<=201*o.length:=by
 have:=rT ho;unfold nL;omega
theorem mN {o:List Part} (ho:∀ p∈o,am p):nL aC (normal o)<=203*o.length+2:=by
 have h1:=Ay o;have h2:=Az ho;have h3:=rT ho;unfold nL;omega
theorem sd (o:List Part):nL aC (a8 o)<=2 ^ 20:=by
 unfold a8
 split
 ·rename_i h
  have:=mN h.1.1;have:=h.1.2;omega
 ·simp [nL,cf]
def aZ (o:List Part):Prop:=aX o/\a8 o=o
theorem kC (o:List Part) (hl:nL aC o<=2 ^ 40):au Tryz.prog 123 [.c (.s (o.map Part.row))] (.one (.c (vb (aZ o)) 1)):=by
 refine pci ag Tryz.func123 (λw0 base=>?_);simp;refine aa.pure (cz o hl) (by simp) ?_;by_cases h:aX o
 ·simp [h]
  refine aa.pure (ol o hl) (by simp) ?_;simp;intro H;refine aa.pure (ni (a8 o) o (Nat.le_trans (sd o) (by decide))) (by simp) ?_;simp [aZ,h]
 ·simp [h,aZ]
open Classical in
noncomputable def yo (o:List Part):Int:=if aX o then bW fP o else 0
open Classical in
noncomputable def sP (o:List Part):Int:=if aX o then bW fD o else 0
theorem Af (o:List Part) (hl:nL aC o<=2 ^ 40):au Tryz.prog 224 [.c (.s (o.map Part.row))] (.one (.c (vi (yo o)) 1)):=by
 refine pci ag Tryz.func224 (λw0 base=>?_);simp;refine aa.pure (cz o hl) (by simp) ?_;by_cases h:aX o
 ·simp [h]
  refine aa.pure (oP o hl) (by simp) ?_;simp [yo,h,bU,h.1]
 ·have e:dc (aX o)=false:=by rw [bQ];exact h
  simp [yo,h]
theorem xW (o:List Part) (hl:nL aC o<=2 ^ 40):au Tryz.prog 225 [.c (.s (o.map Part.row))] (.one (.c (vi (sP o)) 1)):=by
 refine pci ag Tryz.func225 (λw0 base=>?_);simp;refine aa.pure (cz o hl) (by simp) ?_;by_cases h:aX o
 ·simp [h]
  refine aa.pure (oP o hl) (by simp) ?_;simp [sP,h,bU,h.1]
 ·have e:dc (aX o)=false:=by rw [bQ];exact h
  simp [sP,h]
def idle (o:List Part):Prop:=aX o/\yo o=0/\sP o=0
theorem rZ (o:List Part) (hl:nL aC o<=2 ^ 40):au Tryz.prog 193 [.c (.s (o.map Part.row))] (.one (.c (vb (idle o)) 1)):=by
 refine pci ag Tryz.func193 (λw0 base=>?_);simp;refine aa.pure (cz o hl) (by simp) ?_;by_cases h:aX o
 ·simp [h]
  refine aa.pure (Af o hl) (by simp) ?_;by_cases h1:yo o=0
  ·simp [h1]
   refine aa.pure (xW o hl) (by simp) ?_;simp [idle,h,h1]
  ·simp [h1,idle]
 ·simp [h,idle]
def cT (t:List Int):Prop:=t.length<=200/\cr t
theorem wC (t:List Int) (hl:t.length<=2 ^ 40):au Tryz.prog 83 [.c (.s (t.map bc))] (.one (.c (vb (cT t)) 1)):=by
 refine pci ag Tryz.func83 (λw0 base=>?_);by_cases h:t.length<=200
 ·have h':(t.length:Int)<=200:=by omega
  simp [h'];refine aa.pure (ig t hl) (by simp) ?_;simp [cT,h]
 ·have h':¬ (t.length:Int)<=200:=by omega
  simp [h',cT,h]
theorem gA (t:List Int) (hl:t.length<=2 ^ 40):au Tryz.prog 76 [.c (.s (t.map bc))] (.one (.c (vb (cT t)) 1)):=by
 refine pci ag Tryz.func76 (λw0 base=>?_);simp;refine aa.pure (nc t hl) (by simp) ?_;have e:((t.length:Int)<=200)=(t.length<=200):=by simp;omega
 by_cases hg:cr t
 ·simp [hg,cT,e]
 ·simp [hg,cT]
open Classical in
noncomputable def bI (n:Int):List Part:=if 1<=n/\n<=200 then [⟨1,n,[]⟩] else []
theorem ia (n:Int):au Tryz.prog 188 [.c (vi n)] (.one (.c (.s ((bI n).map Part.row)) 3)):=by
 refine pci ag Tryz.func188 (λw0 base=>?_);simp;refine aa.pure (cg n 1 200) (by simp) ?_;by_cases h:1<=n/\n<=200
 ·simp [h,bI,Part.row]
 ·have e:dc (1<=n/\n<=200)=false:=by rw [bQ];exact h
  have k:bI n=[]:=by unfold bI;rw [if_neg h]
  simp [e,k]
def psz (p:Part):Nat:=p.n.toNat+p.signs.length
def dO (p:Part) (n:Nat):Part:=if p.kind=2 then ⟨p.kind,p.n,p.signs.take n⟩ else ⟨p.kind,n,p.signs⟩
def bS (p:Part) (n:Nat):Part:=if p.kind=2 then ⟨p.kind,p.n,p.signs.drop n⟩ else ⟨p.kind,p.n - n,p.signs⟩
theorem e9 {p:Part} (h:am p):(psz p:Int)=p.n+p.signs.length/\psz p<=200:=by
 have hb:=h.bounds;unfold psz;by_cases hk:p.kind=2
 ·have:=hb.2.2.2.2.1 hk
  omega
 ·have:=hb.2.2.2.2.2 hk
  rw [this];simp;omega
@[simp] theorem NS {p:Part} {n:Nat}:(dO p n).kind=p.kind:=by unfold dO;split<;>rfl
@[simp] theorem LM {p:Part} {n:Nat}:(bS p n).kind=p.kind:=by unfold bS;split<;>rfl
theorem gF {p:Part} (h:am p) {n:Nat} (hn:n<=psz p):am (dO p n):=by
 have hp:=e9 h;unfold dO;by_cases hk:p.kind=2
 ·rw [if_pos hk]
  rw [gd hk] at h;refine .inr ⟨hk,h.1,?_,λm hm=>h.2.2 m (List.mem_of_mem_take hm)⟩;simp;omega
 ·rw [if_neg hk]
  have hb:=h.bounds;have hk2:p.kind=1\/p.kind=3:=by omega
  have:=hb.2.2.2.2.2 hk;refine .inl ⟨hk2,?_,this⟩;simp only;omega
theorem yt {p:Part} (h:am p) {n:Nat} (hn:n<=psz p):am (bS p n):=by
 have hp:=e9 h;unfold bS;by_cases hk:p.kind=2
 ·rw [if_pos hk]
  rw [gd hk] at h;refine .inr ⟨hk,h.1,?_,λm hm=>h.2.2 m (List.mem_of_mem_drop hm)⟩;simp;omega
 ·rw [if_neg hk]
  have hb:=h.bounds;have hk2:p.kind=1\/p.kind=3:=by omega
  have:=hb.2.2.2.2.2 hk;refine .inl ⟨hk2,?_,this⟩;rw [this] at hp;simp at hp;simp only;omega
theorem ei {p:Part} (h:am p) {n:Nat} (hn:n<=psz p):psz (bS p n)=psz p - n:=by
 have hb:=h.bounds;unfold psz bS at *;by_cases hk:p.kind=2
 ·rw [if_pos hk]
  have:=hb.2.2.2.2.1 hk;simp only [this,List.length_drop] at hn ⊢;omega
 ·rw [if_neg hk]
  have:=hb.2.2.2.2.2 hk;simp only [this,List.length_nil] at hn ⊢;omega
theorem d7 {p:Part} (h:am p):dO p (psz p)=p:=by
 have hb:=h.bounds;unfold psz dO;by_cases hk:p.kind=2
 ·rw [if_pos hk]
  have:=hb.2.2.2.2.1 hk;rw [List.take_of_length_le (by omega)]
 ·rw [if_neg hk]
  have:=hb.2.2.2.2.2 hk;obtain ⟨k,n,s⟩:=p;simp only at this hb;subst this;simp;omega
theorem yr {p:Part} {m n:Nat}:bS (bS p m) n=bS p (m+n):=by
 unfold bS;by_cases hk:p.kind=2
 ·simp [hk,List.drop_drop]
 ·simp [hk]
  omega
theorem Aq {p:Part}:bS p 0=p:=by unfold bS;split<;>simp
def nxt:List Part->List Part
 | []=>[]
 |p::l=>if psz p=0 then nxt l else p::l
def tsz:List Part->Nat
 | []=>0
 |p::l=>psz p+tsz l
def frs:List Part->Nat
 | []=>0
 |p::l=>(if p.kind=2 then 0 else psz p)+frs l
def tos:List Part->Nat
 | []=>0
 |p::l=>(if p.kind=3 then 0 else psz p)+tos l
theorem oH:∀ l:List Part,tsz (nxt l)=tsz l
 | []=>rfl
 | p :: l => by
   unfold nxt
   split
   ·rename_i h;rw [oH l];simp [tsz,h]
   ·rfl
theorem ie:∀ l:List Part,frs (nxt l)=frs l
 | []=>rfl
 | p :: l => by
   unfold nxt
   split
   ·rename_i h;rw [ie l];simp [frs,h]
   ·rfl
theorem rj:∀ l:List Part,tos (nxt l)=tos l
 | []=>rfl
 | p :: l => by
   unfold nxt
   split
   ·rename_i h;rw [rj l];simp [tos,h]
   ·rfl
theorem cH:∀ {l:List Part} {p:Part} {l':List Part},nxt l=p::l'->0<psz p
 | [],p,l',h=>by simp [nxt] at h
 | q :: l, p, l', h => by
   unfold nxt at h
   split at h
   ·exact cH h
   ·simp at h;rw [<- h.1];omega
theorem dW:∀ l:List Part,nxt (nxt l)=nxt l
 | []=>rfl
 | p :: l => by
   by_cases h:psz p=0
   ·simp only [nxt,h,if_true];exact dW l
   ·simp only [nxt,h,if_false]
theorem sf:∀ l:List Part,∃ k,k<=l.length/\nxt l=l.drop k/\∀ i,(h:i<l.length)->i<k->psz l[i]=0
 | []=>⟨0,by simp,rfl,λi h=>by simp at h⟩
 | p :: l => by
   by_cases h:psz p=0
   ·obtain ⟨k,h1,h2,h3⟩:=sf l
    refine ⟨k+1,by simp;omega,by simp [nxt,h,h2],λi hi hk=>?_⟩
    cases i with
    |zero=>simpa using h
    |succ i=>simpa using h3 i (by simpa using hi) (by omega)
   ·exact ⟨0,by simp,by simp [nxt,h],λi _ hk=>by omega⟩
theorem jw {l:List Part} {p:Part} (h:p∈nxt l):p∈l:=by
 obtain ⟨k,_,h2,_⟩:=sf l;rw [h2] at h;exact List.mem_of_mem_drop h
def fV (x y:List Part):Option (List Part×List Part×List Part):=
 match nxt x with
 | p :: x' => if p.kind = 3 then some ([dO p (psz p)], bS p (psz p) :: x', y) else match nxt y with
   | q :: y' => if q.kind = 2 then some ([dO q (psz q)], p :: x', bS q (psz q) :: y') else
       some (if q.kind=1 then [dO p (min (psz p) (psz q))] else if p.kind=1 then [dO q (min (psz p) (psz q))] else [],bS p (min (psz p) (psz q))::x',bS q (min (psz p) (psz q))::y')
   | []=>none
 | [] => match nxt y with
   |q::y'=>if q.kind=2 then some ([dO q (psz q)],[],bS q (psz q)::y') else none
   | []=>none
structure CInv (x y:List Part):Prop where
 px:∀ p∈x,am p
 py:∀ p∈y,am p
 b:tos x=frs y
theorem eX {l l':List Part} {p:Part} {n:Nat} (hl:∀ q∈l,am q) (he:nxt l=p::l') (hn:n<=psz p):∀ q∈bS p n::l',am q:=by
 intro q hq;rcases List.mem_cons.1 hq with rfl|hq
 ·exact yt (hl p (jw (he ▸ List.mem_cons_self ..))) hn
 ·exact hl q (jw (he ▸ List.mem_cons_of_mem _ hq))
theorem dw {l l':List Part} {p:Part} (hl:∀ q∈l,am q) (he:nxt l=p::l'):am p/\∀ q∈p::l',am q:=
 ⟨hl p (jw (he ▸ List.mem_cons_self ..)),λq hq=>hl q (jw (he ▸ hq))⟩
structure CNext (x y:List Part) (r:List Part×List Part×List Part):Prop where
 inv:CInv r.2.1 r.2.2
 dec:tsz r.2.1+tsz r.2.2<tsz x+tsz y
 ok:∀ p∈r.1,am p
 len:r.1.length<=1
theorem hU {x y:List Part} (hi:CInv x y) {r:List Part×List Part×List Part} (h:fV x y=some r):CNext x y r:=by
 have hx:=oH x;have hy:=oH y;have hxt:=rj x;have hyf:=ie y;have hb:=hi.b;unfold fV at h
 cases ex:nxt x with
 | nil =>
   rw [ex] at h hx hxt
   cases ey:nxt y with
   |nil=>simp [ey] at h
   | cons q y' =>
     rw [ey] at hy hyf;have hq:=dw hi.py ey;have hp:=cH ey;simp only [ey] at h
     split at h
     ·rename_i k
      cases h
      have hs:=ei hq.1 (Nat.le_refl _);refine ⟨⟨by simp,eX hi.py ey (Nat.le_refl _),?_⟩,?_,?_,by simp⟩
      ·simp [tos,frs,k] at hxt hyf ⊢;omega
      ·simp [tsz] at hx hy ⊢;omega
      ·intro p hp;simp at hp;subst hp;exact gF hq.1 (Nat.le_refl _)
     ·cases h
 | cons p x' =>
   rw [ex] at h hx hxt;have hp:=dw hi.px ex;have hpp:=cH ex;simp only at h
   split at h
   ·rename_i k
    cases h
    have hs:=ei hp.1 (Nat.le_refl _);refine ⟨⟨eX hi.px ex (Nat.le_refl _),hi.py,?_⟩,?_,?_,by simp⟩
    ·simp [tos,k] at hxt ⊢;omega
    ·simp [tsz] at hx ⊢;omega
    ·intro q hq;simp at hq;subst hq;exact gF hp.1 (Nat.le_refl _)
   ·rename_i k3
    cases ey:nxt y with
    |nil=>simp [ey] at h
    | cons q y' =>
      rw [ey] at hy hyf;have hq:=dw hi.py ey;have hqp:=cH ey;simp only [ey] at h
      split at h
      ·rename_i k
       cases h
       have hs:=ei hq.1 (Nat.le_refl _);refine ⟨⟨hp.2,eX hi.py ey (Nat.le_refl _),?_⟩,?_,?_,by simp⟩
       ·simp [tos,frs,k,k3] at hxt hyf ⊢;omega
       ·simp [tsz] at hx hy ⊢;omega
       ·intro p hp;simp at hp;subst hp;exact gF hq.1 (Nat.le_refl _)
      ·rename_i k2
       cases h
       have hn1:min (psz p) (psz q)<=psz p:=by omega
       have hn2:min (psz p) (psz q)<=psz q:=by omega
       have hs1:=ei hp.1 hn1;have hs2:=ei hq.1 hn2;refine ⟨⟨eX hi.px ex hn1,eX hi.py ey hn2,?_⟩,?_,?_,?_⟩
       ·simp [tos,frs,k2,k3] at hxt hyf ⊢;omega
       ·simp [tsz] at hx hy ⊢;omega
       ·intro r hr
        simp only at hr
        split at hr
        ·simp at hr;subst hr;exact gF hp.1 hn1
        ·split at hr
         ·simp at hr;subst hr;exact gF hq.1 hn2
         ·simp at hr
       ·simp only;split<;>(try split)<;>simp
noncomputable def q5:Nat->List Part->List Part->List Part
 |0,_,_=>[]
 | k + 1, x, y => match fV x y with
   |none=>[]
   |some r=>r.1++q5 k r.2.1 r.2.2
noncomputable def cmp (x y:List Part):List Part:=q5 (tsz x+tsz y) x y
theorem Cw:∀ (k m:Nat) {x y:List Part},CInv x y->tsz x+tsz y<=k->tsz x+tsz y<=m->q5 k x y=q5 m x y
 |0,0,_,_,_,_,_=>rfl
 | k + 1, 0, x, y, hi, h, h2 => by
   rw [q5,q5]
   cases hs:fV x y with
   |none=>rfl
   |some r=>have:=(hU hi hs).dec;omega
 | 0, m + 1, x, y, hi, h, h2 => by
   rw [q5,q5]
   cases hs:fV x y with
   |none=>rfl
   |some r=>have:=(hU hi hs).dec;omega
 | k + 1, m + 1, x, y, hi, h, h2 => by
   rw [q5,q5]
   cases hs:fV x y with
   |none=>rfl
   | some r =>
     have hn:=hU hi hs;have:=hn.dec;simp only;rw [Cw k m hn.inv (by omega) (by omega)]
theorem zx {x y:List Part} (h:fV x y=none):cmp x y=[]:=by
 unfold cmp
 cases tsz x+tsz y with
 |zero=>rfl
 |succ k=>rw [q5,h]
theorem zw {x y:List Part} (hi:CInv x y) {r:List Part×List Part×List Part} (h:fV x y=some r):cmp x y=r.1++cmp r.2.1 r.2.2:=by
 have hn:=hU hi h;have hd:=hn.dec;unfold cmp;obtain ⟨k,hk⟩:∃ k,tsz x+tsz y=k+1:=⟨tsz x+tsz y - 1,by omega⟩;rw [hk,q5,h];simp only;rw [Cw k (tsz r.2.1+tsz r.2.2) hn.inv (by omega) (by omega)]
end Go.Proofs.YthckkpphnmmfdaaGreatDoor
