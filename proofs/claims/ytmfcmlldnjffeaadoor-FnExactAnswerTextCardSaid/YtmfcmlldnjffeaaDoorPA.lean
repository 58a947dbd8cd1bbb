import Derived.Test.YtmfcmlldnjffeaaDoorNA
import Derived.Test.YtmfcmlldnjffeaaDoorMF

namespace Go.Proofs.YtmfcmlldnjffeaaDoor
open Go.AM
set_option maxRecDepth 20000
theorem c8 (n lo hi:Int):ag Tryd.prog 32 [.c (vi n),.c (vi lo),.c (vi hi)] (.one (.c (vb (lo<=n/\n<=hi)) 1)):=by
 refine pci ak Tryd.func32 (λw0 base=>?_);by_cases h1:lo<=n<;>by_cases h2:n<=hi<;>simp [h1,h2]
theorem d8 (n lo hi:Int):ag Tryd.prog 29 [.c (vi n),.c (vi lo),.c (vi hi)] (.one (.c (vb (lo<=n/\n<=hi)) 1)):=by
 refine pci ak Tryd.func29 (λw0 base=>?_);by_cases h1:lo<=n<;>by_cases h2:n<=hi<;>simp [h1,h2]
def dl (n:Int):Prop:=(0<=n/\n<=1114111)/\¬ (55296<=n/\n<=57343)
def bg (l:List Int):Prop:=∀ n∈l,dl n
theorem jO (n:Int):ag Tryd.prog 70 [.c (vi n)] (.one (.c (vb (dl n)) 1)):=by
 refine pci ak Tryd.func70 (λw0 base=>?_);simp;refine ab.pure (c8 n 0 1114111) (by simp) ?_;by_cases h:0<=n/\n<=1114111
 ·simp [h]
  refine ab.pure (c8 n 55296 57343) (by simp) ?_;by_cases h2:55296<=n/\n<=57343<;>simp [h2,dl,h]
  try (rw [ex];omega)
 ·have e:dc (0<=n/\n<=1114111)=false:=by rw [bT];exact h
  simp [dl,h]
theorem ju (n:Int):ag Tryd.prog 69 [.c (vi n)] (.one (.c (vb (dl n)) 1)):=by
 refine pci ak Tryd.func69 (λw0 base=>?_);simp;refine ab.pure (d8 n 0 1114111) (by simp) ?_;by_cases h:0<=n/\n<=1114111
 ·simp [h]
  refine ab.pure (d8 n 55296 57343) (by simp) ?_;by_cases h2:55296<=n/\n<=57343<;>simp [h2,dl,h]
  try (rw [ex];omega)
 ·have e:dc (0<=n/\n<=1114111)=false:=by rw [bT];exact h
  simp [dl,h]
theorem gy {α:Type} {P:α->Prop} {l:List α} {i:Nat} (h:i<l.length) (ha:∀ a∈l.take i,P a) (hi:P l[i]):∀ a∈l.take (i+1),P a:=by
 rw [<- List.take_append_getElem h];intro a ha';rcases List.mem_append.1 ha' with h1|h1
 ·exact ha a h1
 ·simp at h1;subst h1;exact hi
theorem gA {α:Type} {P:α->Prop} {l:List α} {i:Nat} (h:l.length<=i) (ha:∀ a∈l.take i,P a):∀ a∈l,P a:=by
 rwa [List.take_of_length_le h] at ha
theorem gz {α:Type} {P:α->Prop} {l:List α} {i:Nat} (h:i<l.length) (hi:¬ P l[i]):¬ ∀ a∈l,P a:=λha=>hi (ha _ (List.getElem_mem h))
theorem eh (l:List Int) (hl:l.length<=2 ^ 40):ag Tryd.prog 58 [.c (.s (l.map aS))] (.one (.c (vb (bg l)) 1)):=by
 refine pci ak Tryd.func58 (λw0 base=>?_);simp;refine aO.intro eok (λi:Nat=>i<=l.length/\∀ n∈l.take i,dl n) (λi=>⟨15,0,[(7,.v (.int .i64 i)),(6,.v (.int .i64 l.length)),(5,.ro (l.map aS))],[]⟩) (λi=>l.length - i) 0 (by simp) (by simp) (λi hi=>?_);by_cases h:i<l.length
 ·simp [h]
  refine ab.pure (jO l[i]) (by simp) ?_;simp;refine Br.mk (λh1=>?_) (λh1=>?_)
  ·simp
   exact ⟨i+1,⟨by omega,gy h hi.2 (ep h1)⟩,by omega,aq (by omega)⟩
  ·simp [bT]
   exact gz h (gI h1)
 ·simp [h,ex]
  exact gA (by omega) hi.2
theorem ef (l:List Int) (hl:l.length<=2 ^ 40):ag Tryd.prog 57 [.c (.s (l.map aS))] (.one (.c (vb (bg l)) 1)):=by
 refine pci ak Tryd.func57 (λw0 base=>?_);simp;refine aO.intro eok (λi:Nat=>i<=l.length/\∀ n∈l.take i,dl n) (λi=>⟨15,0,[(7,.v (.int .i64 i)),(6,.v (.int .i64 l.length)),(5,.ro (l.map aS))],[]⟩) (λi=>l.length - i) 0 (by simp) (by simp) (λi hi=>?_);by_cases h:i<l.length
 ·simp [h]
  refine ab.pure (ju l[i]) (by simp) ?_;simp;refine Br.mk (λh1=>?_) (λh1=>?_)
  ·simp
   exact ⟨i+1,⟨by omega,gy h hi.2 (ep h1)⟩,by omega,aq (by omega)⟩
  ·simp [bT]
   exact gz h (gI h1)
 ·simp [h,ex]
  exact gA (by omega) hi.2
def am (p:Part):Prop:=((p.kind=1\/p.kind=3)/\(0<=p.n/\p.n<=200)/\p.signs=[])\/(p.kind=2/\p.n=0/\p.signs.length<=200/\bg p.signs)
theorem fG {p:Part} (h:p.kind=1\/p.kind=3):am p=((0<=p.n/\p.n<=200)/\p.signs=[]):=by
 have h2:¬ p.kind=2:=by omega
 simp [am,h,h2]
theorem cG {p:Part} (h:p.kind=2):am p=(p.n=0/\p.signs.length<=200/\bg p.signs):=by simp [am,h]
theorem iX {p:Part} (h1:p.kind≠1) (h2:p.kind≠2) (h3:p.kind≠3):¬ am p:=by simp [am,h1,h2,h3]
theorem jP (p:Part) (hl:p.signs.length<=2 ^ 40):ag Tryd.prog 67 [.agg p.row] (.one (.c (vb (am p)) 1)):=by
 refine pci ak Tryd.func67 (λw0 base=>?_);simp [Part.row];intros;by_cases h13:p.kind=1\/p.kind=3
 ·rw [fG h13]
  rcases h13 with h|h
  ·simp [h]
   refine ab.pure (c8 p.n 0 200) (by simp) ?_;by_cases hn:0<=p.n/\p.n<=200
   ·simp [hn]
   ·have e:dc (0<=p.n/\p.n<=200)=false:=by rw [bT];exact hn
    simp [hn]
  ·simp [h]
   refine ab.pure (c8 p.n 0 200) (by simp) ?_;by_cases hn:0<=p.n/\p.n<=200
   ·simp [hn]
   ·have e:dc (0<=p.n/\p.n<=200)=false:=by rw [bT];exact hn
    simp [hn]
 ·have h1:¬ p.kind=1:=λh=>h13 (.inl h)
  have h3:¬ p.kind=3:=λh=>h13 (.inr h)
  by_cases h2:p.kind=2
  ·rw [cG h2]
   simp [h2];by_cases hn:p.n=0
   ·by_cases hs:p.signs.length<=200
    ·have hs':(p.signs.length:Int)<=200:=by omega
     simp [hn,hs'];refine ab.pure (eh p.signs hl) (by simp) ?_;simp [hs]
    ·have hs':¬ (p.signs.length:Int)<=200:=by omega
     simp [hn,hs',hs]
   ·simp [hn]
  ·simp [h1,h2,h3,iX]
theorem jv (p:Part) (hl:p.signs.length<=2 ^ 40):ag Tryd.prog 65 [.agg p.row] (.one (.c (vb (am p)) 1)):=by
 refine pci ak Tryd.func65 (λw0 base=>?_);simp [Part.row];intros;by_cases h13:p.kind=1\/p.kind=3
 ·rw [fG h13]
  rcases h13 with h|h
  ·simp [h]
   refine ab.pure (d8 p.n 0 200) (by simp) ?_;by_cases hn:0<=p.n/\p.n<=200
   ·simp [hn]
   ·have e:dc (0<=p.n/\p.n<=200)=false:=by rw [bT];exact hn
    simp [hn]
  ·simp [h]
   refine ab.pure (d8 p.n 0 200) (by simp) ?_;by_cases hn:0<=p.n/\p.n<=200
   ·simp [hn]
   ·have e:dc (0<=p.n/\p.n<=200)=false:=by rw [bT];exact hn
    simp [hn]
 ·have h1:¬ p.kind=1:=λh=>h13 (.inl h)
  have h3:¬ p.kind=3:=λh=>h13 (.inr h)
  by_cases h2:p.kind=2
  ·rw [cG h2]
   simp [h2];by_cases hn:p.n=0
   ·simp [hn]
    refine ab.pure (ef p.signs hl) (by simp) ?_;have e:((p.signs.length:Int)<=200)=(p.signs.length<=200):=by simp;omega
    by_cases hg:bg p.signs
    ·simp [hg,e]
    ·simp [hg]
   ·simp [hn]
  ·simp [h1,h2,h3,iX]
def bd (o:List Part):Prop:=(∀ p∈o,am p)/\o.length<=600
theorem ei (o:List Part) (hl:nL ay o<=2 ^ 40):ag Tryd.prog 54 [.c (.s (o.map Part.row))] (.one (.c (vb (bd o)) 1)):=by
 refine pci ak Tryd.func54 (λw0 base=>?_);have hle:=cX hl;simp;refine aO.intro eok (λi:Nat=>i<=o.length/\∀ p∈o.take i,am p) (λi=>⟨18,0,[(7,.v (.int .i64 i)),(6,.v (.int .i64 o.length)),(5,.ro (o.map Part.row)),(0,.ro (o.map Part.row))],[]⟩) (λi=>o.length - i) 0 (by simp) (by simp) (λi hi=>?_);by_cases h:i<o.length
 ·simp [h,Part.row]
  intros;refine ab.pure (jP o[i] (fM hl h)) (by simp [Part.row]) ?_;simp;refine Br.mk (λh1=>?_) (λh1=>?_)
  ·simp
   exact ⟨i+1,⟨by omega,gy h hi.2 (ep h1)⟩,by omega,aq (by omega)⟩
  ·simp [bT]
   exact λhp=>gz h (gI h1) hp.1
 ·have ha:=gA (by omega) hi.2
  simp [h];refine ls ?_;unfold bd;exact ⟨λh=>by have:=h.2;omega,λh=>⟨ha,by omega⟩⟩
theorem eg (o:List Part) (hl:nL ay o<=2 ^ 40):ag Tryd.prog 51 [.c (.s (o.map Part.row))] (.one (.c (vb (bd o)) 1)):=by
 refine pci ak Tryd.func51 (λw0 base=>?_);have hle:=cX hl;simp;refine aO.intro eok (λi:Nat=>i<=o.length/\∀ p∈o.take i,am p) (λi=>⟨18,0,[(7,.v (.int .i64 i)),(6,.v (.int .i64 o.length)),(5,.ro (o.map Part.row)),(0,.ro (o.map Part.row))],[]⟩) (λi=>o.length - i) 0 (by simp) (by simp) (λi hi=>?_);by_cases h:i<o.length
 ·simp [h,Part.row]
  intros;refine ab.pure (jv o[i] (fM hl h)) (by simp [Part.row]) ?_;simp;refine Br.mk (λh1=>?_) (λh1=>?_)
  ·simp
   exact ⟨i+1,⟨by omega,gy h hi.2 (ep h1)⟩,by omega,aq (by omega)⟩
  ·simp [bT]
   exact λhp=>gz h (gI h1) hp.1
 ·have ha:=gA (by omega) hi.2
  simp [h];refine ls ?_;unfold bd;exact ⟨λh=>by have:=h.2;omega,λh=>⟨ha,by omega⟩⟩
set_option maxHeartbeats 1600000
def aT (f:Part->Int):List Part->Int
 | []=>0
 |p::o=>f p+aT f o
theorem fC {f:Part->Int}:∀ (a b:List Part),aT f (a++b)=aT f a+aT f b
 | [],b=>by simp [aT]
 |p::a,b=>by simp only [List.cons_append,aT,fC a b];omega
theorem eD {f:Part->Int} {o:List Part} {i:Nat} (h:i<o.length):aT f (o.take (i+1))=aT f (o.take i)+f o[i]:=by
 rw [<- List.take_append_getElem h,fC];simp [aT]
theorem bO {f g:Part->Int}:∀ {o:List Part},(∀ p∈o,f p=g p)->aT f o=aT g o
 | [],_=>rfl
 | p :: o, h => by
   simp only [aT];rw [h p (List.mem_cons_self ..),bO (λq hq=>h q (List.mem_cons_of_mem _ hq))]
theorem cC {f g:Part->Int}:∀ (o:List Part),aT (λp=>f p+g p) o=aT f o+aT g o
 | []=>by simp [aT]
 |p::o=>by simp only [aT,cC o];omega
def fK (p:Part):Int:=if p.kind=1 then p.n else 0
def fP (p:Part):Int:=if p.kind=2 then p.signs.length else 0
def fD (p:Part):Int:=if p.kind=1 then 0 else if p.kind=2 then 0 else p.n
def dt (k:Int) (p:Part):Int:=if p.kind=k then 0 else p.n+p.signs.length
theorem am.bounds {p:Part} (h:am p):(p.kind=1\/p.kind=2\/p.kind=3)/\0<=p.n/\p.n<=200/\p.signs.length<=200/\(p.kind=2->p.n=0)/\(p.kind≠2->p.signs=[]):=by
 rcases h with ⟨h1,h2,h3⟩|⟨h1,h2,h3,h4⟩
 ·refine ⟨by omega,by omega,by omega,by simp [h3],by omega,λ_=>h3⟩
 ·refine ⟨by omega,by omega,by omega,h3,λ_=>h2,λh=>absurd h1 h⟩
theorem vN {p:Part} (h:am p):dt 2 p=fK p+fD p:=by
 obtain ⟨h1,h2,h3,h4,h5,h6⟩:=h.bounds;unfold dt fK fD;by_cases k2:p.kind=2
 ·simp [k2]
 ·by_cases k1:p.kind=1<;>simp [k1,k2,h6 k2]
theorem vM {p:Part} (h:am p):dt 3 p=fK p+fP p:=by
 obtain ⟨h1,h2,h3,h4,h5,h6⟩:=h.bounds;unfold dt fK fP;rcases h1 with k|k|k
 ·simp [k,h6 (by omega)]
 ·simp [k,h5 k]
 ·simp [k]
theorem bv {f:Part->Int} {B:Int} (hf:∀ p,am p->0<=f p/\f p<=B):∀ {o:List Part},(∀ p∈o,am p)->0<=aT f o/\aT f o<=B*o.length
 | [],_=>by simp [aT]
 | p :: o, h => by
   have h1:=hf p (h p (List.mem_cons_self ..));have h2:=bv hf (o:=o) (λq hq=>h q (List.mem_cons_of_mem _ hq));simp only [aT,List.length_cons];rw [show B*((o.length+1:Nat):Int)=B*o.length+B by rw [Int.natCast_add];simp [Int.mul_add]];omega
theorem yD {p:Part} (h:am p):0<=fK p/\fK p<=200:=by have:=h.bounds;unfold fK;split<;>omega
theorem yC {p:Part} (h:am p):0<=fP p/\fP p<=200:=by have:=h.bounds;unfold fP;split<;>omega
theorem yE {p:Part} (h:am p):0<=fD p/\fD p<=200:=by have:=h.bounds;unfold fD;split<;>(try split)<;>omega
theorem vG {k:Int} {p:Part} (h:am p):0<=dt k p/\dt k p<=400:=by have:=h.bounds;unfold dt;split<;>omega
theorem gp {o:List Part} (h:∀ p∈o,am p) (i:Nat):∀ p∈o.take i,am p:=λp hp=>h p (List.mem_of_mem_take hp)
theorem uC (p:Part) (hp:am p):ag Tryd.prog 83 [.agg p.row] (.one (.c (vi (p.n+p.signs.length)) 1)):=by
 refine pci ak Tryd.func83 (λw0 base=>?_);have:=hp.bounds;have e:Go.IntKind.i64.wrap (p.n+(p.signs.length:Int))=p.n+p.signs.length:=Go.IntWalk.i64_in _ (by omega);simp [Part.row,e]
open Classical in
noncomputable def sizeOf (o:List Part) (k:Int):Int:=if bd o then aT (dt k) o else 0
theorem eP (o:List Part) (hl:nL ay o<=2 ^ 40) (k:Int):ag Tryd.prog 68 [.c (.s (o.map Part.row)),.c (vi k)] (.one (.c (vi (sizeOf o k)) 1)):=by
 refine pci ak Tryd.func68 (λw0 base=>?_);have hle:=cX hl;simp;refine ab.pure (ei o hl) (by simp) ?_;by_cases ho:bd o
 ·have hr:sizeOf o k=aT (dt k) o:=by unfold sizeOf;rw [if_pos ho]
  simp [ho,hr];refine aO.intro eok (λi:Nat=>i<=o.length) (λi=>⟨27,0,[(13,.v (.int .i64 i)),(12,.v (.int .i64 o.length)),(11,.ro (o.map Part.row)),(5,.v (.int .i64 (aT (dt k) (o.take i)))),(1,.v (.int .i64 k))],[]⟩) (λi=>o.length - i) 0 (by simp) (by simp [aT]) (λi hi=>?_);by_cases h:i<o.length
  ·have hp:=ho.1 _ (List.getElem_mem h)
   have hb:=bv (f:=dt k) (λp h=>vG h) (gp ho.1 i);have hb2:=hp.bounds;have hlen:=ho.2;have hlt:(o.take i).length<=600:=by simp;omega
   have hs:=eD (f:=dt k) h;obtain ⟨q,hq⟩:∃ q,aT (dt k) (o.take i)=q:=⟨_,rfl⟩;have e:Go.IntKind.i64.wrap ((i:Int)+1)=((i+1:Nat):Int):=aq (by omega);rw [hq] at hs hb;simp [h,Part.row,hq];intros;by_cases hk:o[i].kind=k
   ·simp [hk]
    refine ⟨i+1,by omega,by omega,e,?_⟩;rw [hs];simp [dt,hk]
   ·simp [hk]
    refine ab.pure (uC o[i] hp) (by simp [Part.row]) ?_;have e2:Go.IntKind.i64.wrap (q+(o[i].n+(o[i].signs.length:Int)))=q+(o[i].n+o[i].signs.length):=Go.IntWalk.i64_in _ (by omega);simp [e2];refine ⟨i+1,by omega,by omega,e,?_⟩;rw [hs];simp [dt,hk]
  ·simp [h]
   rw [List.take_of_length_le (by omega)]
 ·have e:dc (bd o)=false:=by rw [bT];exact ho
  have hr:sizeOf o k=0:=by unfold sizeOf;rw [if_neg ho]
  simp [e,hr]
open Classical in
noncomputable def aD (o:List Part):Int×Int×Int:=if bd o then (aT fK o,aT fP o,aT fD o) else (0,0,0)
theorem kT (o:List Part) (hl:nL ay o<=2 ^ 40):ag Tryd.prog 66 [.c (.s (o.map Part.row))] (.tup [.c (vi (aD o).1) 1,.c (vi (aD o).2.1) 1,.c (vi (aD o).2.2) 1]):=by
 refine pci ak Tryd.func66 (λw0 base=>?_);have hle:=cX hl;simp;refine ab.pure (eg o hl) (by simp) ?_;by_cases ho:bd o
 ·have hr:aD o=(aT fK o,aT fP o,aT fD o):=by unfold aD;rw [if_pos ho]
  simp [ho,hr];refine aO.intro eok (λi:Nat=>i<=o.length) (λi=>⟨42,0,[(15,.v (.int .i64 i)),(14,.v (.int .i64 o.length)),(13,.ro (o.map Part.row)),(5,.v (.int .i64 (aT fK (o.take i)))),(6,.v (.int .i64 (aT fP (o.take i)))),(7,.v (.int .i64 (aT fD (o.take i))))],[]⟩) (λi=>o.length - i) 0 (by simp) (by simp [aT]) (λi hi=>?_);by_cases h:i<o.length
  ·have hp:=ho.1 _ (List.getElem_mem h)
   have hb1:=bv (f:=fK) (λp h=>yD h) (gp ho.1 i);have hb2:=bv (f:=fP) (λp h=>yC h) (gp ho.1 i);have hb3:=bv (f:=fD) (λp h=>yE h) (gp ho.1 i);have hpb:=hp.bounds;have hlen:=ho.2;have hlt:(o.take i).length<=600:=by simp;omega
   have hs1:=eD (f:=fK) h;have hs2:=eD (f:=fP) h;have hs3:=eD (f:=fD) h;obtain ⟨q1,hq1⟩:∃ q,aT fK (o.take i)=q:=⟨_,rfl⟩;obtain ⟨q2,hq2⟩:∃ q,aT fP (o.take i)=q:=⟨_,rfl⟩;obtain ⟨q3,hq3⟩:∃ q,aT fD (o.take i)=q:=⟨_,rfl⟩;have e:Go.IntKind.i64.wrap ((i:Int)+1)=((i+1:Nat):Int):=aq (by omega);rw [hq1] at hs1 hb1;rw [hq2] at hs2 hb2;rw [hq3] at hs3 hb3;simp [h,Part.row,hq1,hq2,hq3];intros;have e1:Go.IntKind.i64.wrap (q1+o[i].n)=q1+o[i].n:=Go.IntWalk.i64_in _ (by omega);have e2:Go.IntKind.i64.wrap (q2+(o[i].signs.length:Int))=q2+o[i].signs.length:=Go.IntWalk.i64_in _ (by omega);have e3:Go.IntKind.i64.wrap (q3+o[i].n)=q3+o[i].n:=Go.IntWalk.i64_in _ (by omega);by_cases k1:o[i].kind=1
   ·simp [k1,e1]
    refine ⟨i+1,by omega,by omega,e,?_,?_,?_⟩
    ·rw [hs1];simp [fK,k1]
    ·rw [hs2];simp [fP,k1]
    ·rw [hs3];simp [fD,k1]
   ·by_cases k2:o[i].kind=2
    ·simp [k2,e2]
     refine ⟨i+1,by omega,by omega,e,?_,?_,?_⟩
     ·rw [hs1];simp [fK,k2]
     ·rw [hs2];simp [fP,k2]
     ·rw [hs3];simp [fD,k2]
    ·simp [k1,k2,e3]
     refine ⟨i+1,by omega,by omega,e,?_,?_,?_⟩
     ·rw [hs1];simp [fK,k1]
     ·rw [hs2];simp [fP,k2]
     ·rw [hs3];simp [fD,k1,k2]
  ·simp [h]
   rw [List.take_of_length_le (by omega)];simp
 ·have e:dc (bd o)=false:=by rw [bT];exact ho
  have hr:aD o=(0,0,0):=by unfold aD;rw [if_neg ho]
  simp [e,hr]
noncomputable def bP (o:List Part):Int:=(aD o).1+(aD o).2.2
noncomputable def gg (o:List Part):Int:=(aD o).1+(aD o).2.1
theorem kJ (o:List Part):sizeOf o 2=bP o:=by
 unfold sizeOf bP aD
 split
 ·rename_i h
  show _=aT fK o+aT fD o
  rw [<- cC];exact bO (λp hp=>vN (h.1 p hp))
 ·rfl
theorem nV (o:List Part):sizeOf o 3=gg o:=by
 unfold sizeOf gg aD
 split
 ·rename_i h
  show _=aT fK o+aT fP o
  rw [<- cC];exact bO (λp hp=>vM (h.1 p hp))
 ·rfl
theorem kU (o:List Part):(0<=(aD o).1/\(aD o).1<=120000)/\(0<=(aD o).2.1/\(aD o).2.1<=120000)/\0<=(aD o).2.2/\(aD o).2.2<=120000:=by
 unfold aD
 split
 ·rename_i h
  have h1:=bv (f:=fK) (λp h=>yD h) h.1;have h2:=bv (f:=fP) (λp h=>yC h) h.1;have h3:=bv (f:=fD) (λp h=>yE h) h.1;have h4:=h.2;simp only;omega
 ·simp
theorem jU (o:List Part) (hl:nL ay o<=2 ^ 40):ag Tryd.prog 55 [.c (.s (o.map Part.row))] (.one (.c (vi (bP o)) 1)):=by
 refine pci ak Tryd.func55 (λw0 base=>?_);simp;refine ab.pure (eP o hl 2) (by simp) ?_;simp [kJ]
theorem md (o:List Part) (hl:nL ay o<=2 ^ 40):ag Tryd.prog 56 [.c (.s (o.map Part.row))] (.one (.c (vi (gg o)) 1)):=by
 refine pci ak Tryd.func56 (λw0 base=>?_);simp;refine ab.pure (eP o hl 3) (by simp) ?_;simp [nV]
theorem jz (o:List Part) (hl:nL ay o<=2 ^ 40):ag Tryd.prog 52 [.c (.s (o.map Part.row))] (.one (.c (vi (bP o)) 1)):=by
 refine pci ak Tryd.func52 (λw0 base=>?_);simp;refine ab.pure (kT o hl) (by simp) ?_;have:=kU o;have e:Go.IntKind.i64.wrap ((aD o).1+(aD o).2.2)=bP o:=Go.IntWalk.i64_in _ (by omega);simp [e]
theorem lT (o:List Part) (hl:nL ay o<=2 ^ 40):ag Tryd.prog 53 [.c (.s (o.map Part.row))] (.one (.c (vi (gg o)) 1)):=by
 refine pci ak Tryd.func53 (λw0 base=>?_);simp;refine ab.pure (kT o hl) (by simp) ?_;have:=kU o;have e:Go.IntKind.i64.wrap ((aD o).1+(aD o).2.1)=gg o:=Go.IntWalk.i64_in _ (by omega);simp [e]
def cg (o:List Part):Prop:=bd o/\bP o<=200/\gg o<=200
theorem gS (o:List Part) (hl:nL ay o<=2 ^ 40):ag Tryd.prog 33 [.c (.s (o.map Part.row))] (.one (.c (vb (cg o)) 1)):=by
 refine pci ak Tryd.func33 (λw0 base=>?_);simp;refine ab.pure (ei o hl) (by simp) ?_;by_cases h:bd o
 ·simp [h]
  refine ab.pure (jU o hl) (by simp) ?_;by_cases h1:bP o<=200
  ·simp [h1]
   refine ab.pure (md o hl) (by simp) ?_;simp [cg,h,h1]
  ·simp [h1,cg,h]
 ·simp [h,cg]
theorem gF (o:List Part) (hl:nL ay o<=2 ^ 40):ag Tryd.prog 30 [.c (.s (o.map Part.row))] (.one (.c (vb (cg o)) 1)):=by
 refine pci ak Tryd.func30 (λw0 base=>?_);simp;refine ab.pure (eg o hl) (by simp) ?_;by_cases h:bd o
 ·simp [h]
  refine ab.pure (jz o hl) (by simp) ?_;by_cases h1:bP o<=200
  ·simp [h1]
   refine ab.pure (lT o hl) (by simp) ?_;simp [cg,h,h1]
  ·simp [h1,cg,h]
 ·simp [h,cg]
def ai (L:List Part) (P:List Int) (D:Int):List Part:=L++((if P=[] then [] else [⟨2,0,P⟩])++(if 0<D then [⟨3,D,[]⟩] else []))
def aQ (L:List Part) (n:Int):List Part:=
 if h:0<L.length then
  if (L[L.length - 1]'(by omega)).kind=1 then L.set (L.length - 1) ⟨1,(L[L.length - 1]'(by omega)).n+n,(L[L.length - 1]'(by omega)).signs⟩ else L++[⟨1,n,[]⟩]
 else [⟨1,n,[]⟩]
def bx (s:List Part×List Int×Int) (p:Part):List Part×List Int×Int:=
 if p.kind=2 then (s.1,s.2.1++p.signs,s.2.2)
 else if p.kind=3 then (s.1,s.2.1,s.2.2+p.n)
 else if 0<p.n then (aQ (ai s.1 s.2.1 s.2.2) p.n,[],0) else s
def ap (o:List Part):List Part×List Int×Int:=o.foldl bx ([],[],0)
def normal (o:List Part):List Part:=ai (ap o).1 (ap o).2.1 (ap o).2.2
theorem ch {o:List Part} {i:Nat} (h:i<o.length):ap (o.take (i+1))=bx (ap (o.take i)) o[i]:=by
 unfold ap;rw [<- List.take_append_getElem h,List.foldl_append];rfl
structure NbOk (m:Nat) (s:List Part×List Int×Int):Prop where
 l:s.1.length<=3*m
 p:s.2.1.length<=200*m
 d0:0<=s.2.2
 d:s.2.2<=200*m
 q:∀ q∈s.1,0<=q.n/\q.n<=200*m
theorem dN (L:List Part) (P:List Int) (D:Int):(ai L P D).length<=L.length+2:=by
 unfold ai
 split<;>split<;>simp
theorem fk {L:List Part} {P:List Int} {D B:Int} (h0:0<=D) (hD:D<=B) (hL:∀ q∈L,0<=q.n/\q.n<=B):∀ q∈ai L P D,0<=q.n/\q.n<=B:=by
 intro q hq;unfold ai at hq;simp only [List.mem_append] at hq;rcases hq with hq|hq|hq
 ·exact hL q hq
 ·split at hq
  ·simp at hq
  ·simp at hq;subst hq;simp;omega
 ·split at hq
  ·simp at hq;subst hq;simp;omega
  ·simp at hq
theorem eI {o:List Part} (ho:∀ p∈o,am p):∀ (i:Nat),i<=o.length->NbOk i (ap (o.take i))
 | 0, _ => by
   simp [ap];exact ⟨by simp,by simp,by simp,by simp,by simp⟩
 | i + 1, hi => by
   have ih:=eI ho i (by omega);have hlt:i<o.length:=by omega
   rw [ch hlt];have hp:=(ho _ (List.getElem_mem hlt)).bounds;generalize ap (o.take i)=s at ih;generalize o[i]=p at hp;obtain ⟨L,P,D⟩:=s;obtain ⟨h1,h2,h3,h4,h5⟩:=ih;simp only at h1 h2 h3 h4 h5;have w:∀ q∈L,0<=q.n/\q.n<=200*((i+1:Nat):Int):=λq hq=>by have:=h5 q hq;omega
   unfold bx
   split
   ·exact ⟨by simp;omega,by simp;omega,h3,by simp;omega,w⟩
   ·split
    ·exact ⟨by simp;omega,by simp;omega,by simp;omega,by simp;omega,w⟩
    ·split
     ·have f1:=dN L P D
      have f2:=fk (P:=P) h3 h4 h5;refine ⟨?_,by simp,by simp,by simp;omega,?_⟩
      ·simp only [aQ]
       split
       ·split<;>simp<;>omega
       ·simp;omega
      ·simp only [aQ]
       intro q hq
       split at hq
       ·split at hq
        ·rcases List.mem_or_eq_of_mem_set hq with hq|rfl
         ·have:=f2 q hq;omega
         ·have:=f2 _ (List.getElem_mem (show (ai L P D).length - 1<(ai L P D).length by omega))
          simp only;omega
        ·rcases List.mem_append.1 hq with hq|hq
         ·have:=f2 q hq;omega
         ·simp at hq;subst hq;simp;omega
       ·simp at hq;subst hq;simp;omega
     ·exact ⟨by simp;omega,by simp;omega,h3,by simp;omega,w⟩
theorem qD {L:List Part} {P:List Int} {D:Int} (hP:¬ P=[]) (hD:0<D):ai L P D=L++[⟨2,0,P⟩]++[⟨3,D,[]⟩]:=by simp [ai,hP,hD]
theorem qC {L:List Part} {P:List Int} {D:Int} (hP:¬ P=[]) (hD:¬ 0<D):ai L P D=L++[⟨2,0,P⟩]:=by simp [ai,hP,hD]
theorem qB {L:List Part} {P:List Int} {D:Int} (hP:P=[]) (hD:0<D):ai L P D=L++[⟨3,D,[]⟩]:=by simp [ai,hP,hD]
theorem qA {L:List Part} {P:List Int} {D:Int} (hP:P=[]) (hD:¬ 0<D):ai L P D=L:=by simp [ai,hP,hD]
theorem dQ {w0:World} {bF bG:Nat->Prop} {bl:Bool} {st:ASt} {dst:Option Nat} {K:ASt->Prop} {L:List Part} {P:List Int} {D:Int} {b3 b4 b5:Nat} {Hl Hp:Hd} (hL:L.length<=2 ^ 20) (_hP:P.length<=2 ^ 40)
 (g48:st.h.get 48=.vars b3 27 [.sl 5000 Hl 3 0 L.length]) (g64:st.h.get 64=.vars b4 42 [.sl 5001 Hp 1 0 P.length]) (g80:st.h.get 80=.vars b5 3 [.v (.int .i64 D)])
 (g5000:st.h.get 5000=.rows Hl 3 (L.map Part.row) true) (g5001:st.h.get 5001=.rows Hp 1 (P.map aS) true)
 (hK:∀ Hl' h',AH.get h' 48=.vars b3 27 [.sl 5000 Hl' 3 0 (ai L P D).length] -> AH.get h' 5000=.rows Hl' 3 ((ai L P D).map Part.row) true -> AH.get h' 64=.vars b4 42 [.nil] -> AH.get h' 80=.vars b5 3 [.v (.int .i64 0)] ->
  AH.get h' 128=st.h.get 128->an ⟨st.n,st.kb,st.t,h'⟩ dst (.tup []) K):ab ⟨Tryd.prog,tt,w0,⟨bF,bG,bl,λ_=>True⟩⟩ 95 [.p 64 b4 0,.p 48 b3 0,.p 80 b5 0] st dst K:=by
 refine inl ak Tryd.func95 20000 (λw1 F=>?_);simp [g64];by_cases hp:P=[]
 ·have hp0:¬ 0<P.length:=by simp [hp]
  simp [hp0,g80];by_cases hd:0<D
  ·simp [hd,g48,g5000,g80,g64]
   intro b;refine ⟨by omega,λH=>hK H _ ?_ ?_ ?_ ?_ ?_⟩<;>simp [qB hp hd,Part.row]
  ·simp [hd,g80,g64]
   refine hK Hl _ ?_ ?_ ?_ ?_ ?_<;>simp [qA hp hd,g48,g5000]
 ·have hp0:0<P.length:=List.length_pos_iff.2 hp
  simp [hp0,g80,g48,g5000,g5001,g64];intro b;refine ⟨by omega,λH=>?_⟩;by_cases hd:0<D
  ·simp [hd,g80,g64]
   intro b2;refine ⟨by omega,λH2=>hK H2 _ ?_ ?_ ?_ ?_ ?_⟩<;>simp [qD hp hd,Part.row]
  ·simp [hd,g80,g64]
   refine hK H _ ?_ ?_ ?_ ?_ ?_<;>simp [qC hp hd,Part.row]
theorem gL {F:List Part} {m:Nat} (h:m<F.length) {g:List CD->List CD} {p:Part} (hg:g F[m].row=p.row):(F.map Part.row).modify m g=(F.set m p).map Part.row:=by
 apply List.ext_getElem?
 intro j;rw [List.getElem?_modify];simp only [List.getElem?_map,List.getElem?_set];by_cases hj:m=j
 ·subst hj
  simp [h,hg]
 ·simp [hj]
theorem pV (o:List Part) (ho:∀ p∈o,am p) (hl:o.length<=10000):ag Tryd.prog 82 [.c (.s (o.map Part.row))] (.one (.c (.s ((normal o).map Part.row)) 3)):=by
 refine pci ak Tryd.func82 (λw0 base=>?_);simp;intro b3 b4 b5
 refine aR eok (λx:Nat×Hd×Hd=>x.1<=o.length) (λx=>⟨73,0,[(13,.v (.int .i64 x.1)),(12,.v (.int .i64 o.length)),(11,.ro (o.map Part.row)),(3,.p 48 b3 0),(4,.p 64 b4 0),(5,.p 80 b5 0),(6,.clo 95 [.p 64 b4 0,.p 48 b3 0,.p 80 b5 0])],
  [(48, .vars b3 27 [.sl 5000 x.2.1 3 0 (ap (o.take x.1)).1.length]), (64, .vars b4 42 [.sl 5001 x.2.2 1 0 (ap (o.take x.1)).2.1.length]), (80, .vars b5 3 [.v (.int .i64 (ap (o.take x.1)).2.2)]),
   (5000,.rows x.2.1 3 ((ap (o.take x.1)).1.map Part.row) true),(5001,.rows x.2.2 1 ((ap (o.take x.1)).2.1.map aS) true)]⟩) (λx=>o.length - x.1) (0,none,none) (by simp) (by simp [ap]) (λx hx=>Ent.refl ?_)
 obtain ⟨i,Hl,Hp⟩:=x;simp only at hx ⊢;have hok:=eI ho i hx;by_cases h:i<o.length
 ·have hs:=ch h
  have hpb:=(ho _ (List.getElem_mem h)).bounds;generalize ap (o.take i)=s at hok hs;obtain ⟨L,P,D⟩:=s;obtain ⟨k1,k2,k3,k4,k5⟩:=hok;simp only at k1 k2 k3 k4 k5;have e:Go.IntKind.i64.wrap ((i:Int)+1)=((i+1:Nat):Int):=aq (by omega);simp [h,Part.row];intro b8;by_cases c2:o[i].kind=2
  ·simp [c2]
   refine ⟨by omega,λH=>?_⟩;refine Ent.refl ⟨i+1,by omega,by omega,Hl,H,?_⟩;rw [hs];simp [bx,c2,e]
  ·by_cases c3:o[i].kind=3
   ·have e3:Go.IntKind.i64.wrap (D+o[i].n)=D+o[i].n:=Go.IntWalk.i64_in _ (by omega)
    simp [c3,e3];refine Ent.refl ⟨i+1,by omega,by omega,Hl,Hp,?_⟩;rw [hs];simp [bx,c3,e]
   ·by_cases cn:0<o[i].n
    ·simp [c2,c3,cn]
     refine dQ (L:=L) (P:=P) (D:=D) (Hl:=Hl) (Hp:=Hp) (by omega) (by omega) (by simp) (by simp) (by simp) (by simp) (by simp) (λHl' h' g48 g5000 g64 g80 g128=>?_);have f1:=dN L P D;have f2:=fk (P:=P) k3 k4 k5;have hstep:bx (L,P,D) o[i]=(aQ (ai L P D) o[i].n,[],0):=by simp [bx,c2,c3,cn]
     rw [hstep] at hs;generalize ai L P D=F at f1 f2 g48 g5000 hs;simp at g128;by_cases hF:0<F.length
     ·obtain ⟨m,hm⟩:∃ m,F.length=m+1:=⟨F.length - 1,by omega⟩
      have hmlt:m<F.length:=by omega
      have em:Go.IntKind.i64.wrap (m:Int)=m:=gt (by omega)
      have hk:aQ F o[i].n=if F[m].kind=1 then F.set m ⟨1,F[m].n+o[i].n,F[m].signs⟩ else F++[⟨1,o[i].n,[]⟩]:=by
       have e0:F.length - 1=m:=by omega
       simp [aQ,hF,e0]
      have hq:=f2 _ (List.getElem_mem hmlt);simp [g48,g5000,hm,em,Part.row];by_cases ck:F[m].kind=1
      ·rw [if_pos ck] at hk
       have em2:Go.IntKind.i64.wrap (F[m].n+o[i].n)=F[m].n+o[i].n:=Go.IntWalk.i64_in _ (by omega);have hmm:(m:Int)<m+1:=by omega
       simp [ck,hmm];refine drw eok mix [0,1,2,3,4,5,6,7,8,9,10] [11] (.c 11 11 2045 2 (.l 11 2) .s) ?_;simp [g48,g5000,g128,hm,em,Part.row,ck,em2,hmm];refine Ent.kill 5001 (Ent.refl ⟨i+1,by omega,by omega,Hl',none,?_⟩);rw [hs,hk];have hmod:=gL (F:=F) (m:=m) hmlt (g:=λrow=>bB row 1 [CD.v (Value.int IntKind.i64 (F[m].n+o[i].n))]) (p:=⟨1,F[m].n+o[i].n,F[m].signs⟩) (by simp [Part.row,ck]);simp [e,g48,g64,g80,hm,hmod]
      ·rw [if_neg ck] at hk
       simp [ck,g48,g5000,g128,hm];refine ⟨by omega,λb=>⟨by omega,λH=>?_⟩⟩;refine Ent.kill 5001 (Ent.refl ⟨i+1,by omega,by omega,H,none,?_⟩);rw [hs,hk];simp [e,Part.row,g64,g80,hm]
     ·have hF0:F=[]:=List.eq_nil_of_length_eq_zero (by omega)
      subst hF0;have hk:aQ [] o[i].n=[⟨1,o[i].n,[]⟩]:=by simp [aQ]
      simp [g48,g5000,g128];intro b H;refine Ent.kill 5001 (Ent.refl ⟨i+1,by omega,by omega,H,none,?_⟩);rw [hs,hk];simp [e,Part.row,g64,g80]
    ·simp [c2,c3,cn]
     refine Ent.refl ⟨i+1,by omega,by omega,Hl,Hp,?_⟩;rw [hs];simp [bx,c2,c3,cn,e]
 ·have he:o.take i=o:=List.take_of_length_le (by omega)
  rw [he] at hok ⊢;have hn:normal o=ai (ap o).1 (ap o).2.1 (ap o).2.2:=rfl;rw [hn];generalize ap o=s at hok;obtain ⟨L,P,D⟩:=s;obtain ⟨k1,k2,k3,k4,k5⟩:=hok;simp only at k1 k2 k3 k4 k5;simp [h];refine dQ (L:=L) (P:=P) (D:=D) (Hl:=Hl) (Hp:=Hp) (by omega) (by omega) (by simp) (by simp) (by simp) (by simp) (by simp) (λHl' h' g48 g5000 g64 g80 g128=>?_);simp [g48,g5000]
theorem dJ {w0:World} {bF bG:Nat->Prop} {bl:Bool} {st:ASt} {dst:Option Nat} {K:ASt->Prop} {L:List Part} {P:List Int} {D:Int} {b:Nat} {Hl Hp:Hd} (hL:L.length<=2 ^ 20) (_hP:P.length<=2 ^ 40)
 (g160:st.h.get 160=.vars b 89 [.sl 5000 Hl 3 0 L.length,.sl 5001 Hp 1 0 P.length,.v (.int .i64 D)])
 (g5000:st.h.get 5000=.rows Hl 3 (L.map Part.row) true) (g5001:st.h.get 5001=.rows Hp 1 (P.map aS) true)
 (hK:∀ Hl' h',AH.get h' 160=.vars b 89 [.sl 5000 Hl' 3 0 (ai L P D).length,.nil,.v (.int .i64 0)] -> AH.get h' 5000=.rows Hl' 3 ((ai L P D).map Part.row) true ->
  AH.get h' 80=st.h.get 80->an ⟨st.n,st.kb,st.t,h'⟩ dst (.tup []) K):ab ⟨Tryd.prog,tt,w0,⟨bF,bG,bl,λ_=>True⟩⟩ 84 [.p 160 b 0] st dst K:=by
 refine inl ak Tryd.func84 20000 (λw1 F=>?_);simp [g160];by_cases hp:P=[]
 ·have hp0:¬ 0<P.length:=by simp [hp]
  simp [hp0,g160];by_cases hd:0<D
  ·simp [hd]
   refine drw eok mix [0,1,2,3,4,5,6,7,8,9,12,13] [10,11,14] (.c 12 10 4 4091 (.c 12 11 128 3963 (.c 12 14 3961 2 (.l 12 2) .s) .s) .s) ?_;simp [g160,g5000];intro b1;refine ⟨by omega,λH=>hK H _ ?_ ?_ ?_⟩<;>simp [qB hp hd,Part.row]
  ·simp [hd,g160]
   refine hK Hl _ ?_ ?_ ?_<;>simp [qA hp hd,g5000]
 ·have hp0:0<P.length:=List.length_pos_iff.2 hp
  simp [hp0];refine drw eok mix [0,1,2,3,4,5,6,7,8,9,12,13] [10,11,14] (.c 12 10 4 4091 (.c 12 11 128 3963 (.c 12 14 3961 2 (.l 12 2) .s) .s) .s) ?_;simp [g160,g5000,g5001];intro b1;refine ⟨by omega,λH=>?_⟩;by_cases hd:0<D
  ·simp [hd]
   refine drw eok mix [0,1,2,3,4,5,6,7,8,9,12,13] [10,11,14] (.c 12 10 4 4091 (.c 12 11 128 3963 (.c 12 14 3961 2 (.l 12 2) .s) .s) .s) ?_;simp;intro b2;refine ⟨by omega,λH2=>hK H2 _ ?_ ?_ ?_⟩<;>simp [qD hp hd,Part.row]
  ·simp [hd]
   refine hK H _ ?_ ?_ ?_<;>simp [qC hp hd,Part.row]
theorem ir {w0:World} {bF bG:Nat->Prop} {bl:Bool} {st:ASt} {dst:Option Nat} {K:ASt->Prop} {L:List Part} {P:List Int} {D n:Int} {b:Nat} {Hl Hp:Hd} (hL:L.length<=2 ^ 19) (hP:P.length<=2 ^ 40) (hn0:0<n) (hn:n<=200) (hF:∀ q∈ai L P D,0<=q.n/\q.n<=2 ^ 40)
 (g160:st.h.get 160=.vars b 89 [.sl 5000 Hl 3 0 L.length,.sl 5001 Hp 1 0 P.length,.v (.int .i64 D)])
 (g5000:st.h.get 5000=.rows Hl 3 (L.map Part.row) true) (g5001:st.h.get 5001=.rows Hp 1 (P.map aS) true)
 (hK:∀ Hl' h',AH.get h' 160=.vars b 89 [.sl 5000 Hl' 3 0 (aQ (ai L P D) n).length,.nil,.v (.int .i64 0)] -> AH.get h' 5000=.rows Hl' 3 ((aQ (ai L P D) n).map Part.row) true ->
  AH.get h' 80=st.h.get 80->an ⟨st.n,st.kb,st.t,h'⟩ dst (.tup []) K):ab ⟨Tryd.prog,tt,w0,⟨bF,bG,bl,λ_=>True⟩⟩ 71 [.p 160 b 0,.v (.int .i64 n)] st dst K:=by
 refine inl ak Tryd.func71 30000 (λw1 F=>?_);have n0:¬ n=0:=by omega
 simp [n0];refine dJ (L:=L) (P:=P) (D:=D) (Hl:=Hl) (Hp:=Hp) (by omega) hP (by simp [g160]) (by simp [g5000]) (by simp [g5001]) (λHl' h' k160 k5000 k80=>?_);have f1:=dN L P D;generalize ai L P D=F at f1 hF k160 k5000 hK;by_cases hF0:0<F.length
 ·obtain ⟨m,hm⟩:∃ m,F.length=m+1:=⟨F.length - 1,by omega⟩
  have hmlt:m<F.length:=by omega
  have hmm:(m:Int)<m+1:=by omega
  have em:Go.IntKind.i64.wrap (m:Int)=m:=gt (by omega)
  have hk:aQ F n=if F[m].kind=1 then F.set m ⟨1,F[m].n+n,F[m].signs⟩ else F++[⟨1,n,[]⟩]:=by
   have e0:F.length - 1=m:=by omega
   simp [aQ,hF0,e0]
  have hq:=hF _ (List.getElem_mem hmlt);have em2:Go.IntKind.i64.wrap (F[m].n+n)=F[m].n+n:=Go.IntWalk.i64_in _ (by omega);simp [k160,k5000,hm,em,hmm,Part.row];by_cases ck:F[m].kind=1
  ·rw [if_pos ck] at hk
   simp [ck];refine drw eok mix [0,1,2,3,4,5,6,7,8,9,10,11,12,13,14,15,16,17,18] [19] (.c 19 19 524285 2 (.l 19 2) .s) ?_;simp [k160,k5000,hm,em,hmm,Part.row,ck,em2];have hmod:=gL (F:=F) (m:=m) hmlt (g:=λrow=>bB row 1 [CD.v (Value.int IntKind.i64 (F[m].n+n))]) (p:=⟨1,F[m].n+n,F[m].signs⟩) (by simp [Part.row,ck]);refine hK Hl' _ ?_ ?_ ?_
   ·simp [k160,hk,hm]
   ·simp [hk,hmod]
   ·simp [k80]
  ·rw [if_neg ck] at hk
   simp [ck,k160,k5000,hm];intro b1;refine ⟨by omega,λH=>hK H _ ?_ ?_ ?_⟩<;>simp [hk,hm,Part.row,k80]
 ·have hF1:F=[]:=List.eq_nil_of_length_eq_zero (by omega)
  subst hF1;have hk:aQ [] n=[⟨1,n,[]⟩]:=by simp [aQ]
  simp [k160,k5000];intro b1 H;refine hK H _ ?_ ?_ ?_<;>simp [hk,Part.row,k80]
open Classical in
noncomputable def aP (o:List Part):List Part:=if cg o then normal o else []
theorem jT (o:List Part) (hl:nL ay o<=2 ^ 40):ag Tryd.prog 63 [.c (.s (o.map Part.row))] (.one (.c (.s ((aP o).map Part.row)) 3)):=by
 refine pci ak Tryd.func63 (λw0 base=>?_);simp;refine ab.pure (gS o hl) (by simp) ?_;by_cases h:cg o
 ·have e:aP o=normal o:=by unfold aP;rw [if_pos h]
  simp [h,e];refine ab.pure (pV o h.1.1 (by have:=h.1.2;omega)) (by simp) ?_;simp
 ·have e:aP o=[]:=by unfold aP;rw [if_neg h]
  have e2:dc (cg o)=false:=by rw [bT];exact h
  simp [e,e2]
theorem jy (o:List Part) (hl:nL ay o<=2 ^ 40):ag Tryd.prog 60 [.c (.s (o.map Part.row))] (.one (.c (.s ((aP o).map Part.row)) 3)):=by
 refine pci ak Tryd.func60 (λw0 base=>?_);simp;refine ab.pure (gF o hl) (by simp) ?_;by_cases hopk:cg o
 rotate_left
 ·have e:aP o=[]:=by unfold aP;rw [if_neg hopk]
  have e2:dc (cg o)=false:=by rw [bT];exact hopk
  simp [e,e2]
 have e:aP o=normal o:=by unfold aP;rw [if_pos hopk]
 have ho:=hopk.1.1;have hlen:=hopk.1.2;simp [hopk,e];intro b
 refine aR eok (λx:Nat×Hd×Hd=>x.1<=o.length) (λx=>⟨38,0,[(13,.v (.int .i64 x.1)),(12,.v (.int .i64 o.length)),(11,.ro (o.map Part.row)),(3,.p 160 b 0)],
  [(160, .vars b 89 [.sl 5000 x.2.1 3 0 (ap (o.take x.1)).1.length, .sl 5001 x.2.2 1 0 (ap (o.take x.1)).2.1.length, .v (.int .i64 (ap (o.take x.1)).2.2)]),
   (5000,.rows x.2.1 3 ((ap (o.take x.1)).1.map Part.row) true),(5001,.rows x.2.2 1 ((ap (o.take x.1)).2.1.map aS) true)]⟩) (λx=>o.length - x.1) (0,none,none) (by simp) (by simp [ap]) (λx hx=>Ent.refl ?_)
 obtain ⟨i,Hl,Hp⟩:=x;simp only at hx ⊢;have hok:=eI ho i hx;by_cases h:i<o.length
 ·have hs:=ch h
  have hpb:=(ho _ (List.getElem_mem h)).bounds;generalize ap (o.take i)=s at hok hs;obtain ⟨L,P,D⟩:=s;obtain ⟨k1,k2,k3,k4,k5⟩:=hok;simp only at k1 k2 k3 k4 k5;have e:Go.IntKind.i64.wrap ((i:Int)+1)=((i+1:Nat):Int):=aq (by omega);simp [h,Part.row];intro b5;by_cases c1:o[i].kind=1
  ·simp [c1]
   by_cases cn:0<o[i].n
   ·have hstep:bx (L,P,D) o[i]=(aQ (ai L P D) o[i].n,[],0):=by simp [bx,c1,cn]
    rw [hstep] at hs;have f2:=fk (P:=P) k3 k4 k5;refine ir (L:=L) (P:=P) (D:=D) (Hl:=Hl) (Hp:=Hp) (by omega) (by omega) cn hpb.2.2.1 (λq hq=>by have:=f2 q hq;omega) (by simp) (by simp) (by simp) (λHl' h' k160 k5000 k80=>?_);simp;refine Ent.kill 5001 (Ent.refl ⟨i+1,by omega,by omega,Hl',none,?_⟩);rw [hs];simp [e,k160,k5000]
   ·have cn0:o[i].n=0:=by omega
    refine inl ak Tryd.func71 30000 (λw1 F=>?_);simp [cn0];refine Ent.refl ⟨i+1,by omega,by omega,Hl,Hp,?_⟩;rw [hs];simp [bx,c1,cn0,e]
  ·by_cases c2:o[i].kind=2
   ·simp [c2]
    refine inl ak Tryd.func72 30000 (λw1 F=>?_);simp;refine ⟨by omega,λH=>?_⟩;refine Ent.refl ⟨i+1,by omega,by omega,Hl,H,?_⟩;rw [hs];simp [bx,c2,e]
   ·have c3:o[i].kind=3:=by omega
    have e3:Go.IntKind.i64.wrap (D+o[i].n)=D+o[i].n:=Go.IntWalk.i64_in _ (by omega);simp [c1,c2];refine inl ak Tryd.func73 30000 (λw1 F=>?_);simp [e3];refine Ent.refl ⟨i+1,by omega,by omega,Hl,Hp,?_⟩;rw [hs];simp [bx,c3,e]
 ·have he:o.take i=o:=List.take_of_length_le (by omega)
  rw [he] at hok ⊢;have hn:normal o=ai (ap o).1 (ap o).2.1 (ap o).2.2:=rfl;rw [hn];generalize ap o=s at hok;obtain ⟨L,P,D⟩:=s;obtain ⟨k1,k2,k3,k4,k5⟩:=hok;simp only at k1 k2 k3 k4 k5;simp [h];refine inl ak Tryd.func74 30000 (λw1 F=>?_);simp;refine dJ (L:=L) (P:=P) (D:=D) (Hl:=Hl) (Hp:=Hp) (by omega) (by omega) (by simp) (by simp) (by simp) (λHl' h' k160 k5000 k80=>?_);simp [k160,k5000]
def ma (o:List Part):Prop:=cg o/\aP o=o
def ux (t:List Int):Prop:=t.length<=200/\bg t
def psz (p:Part):Nat:=p.n.toNat+p.signs.length
def xW (p:Part) (n:Nat):Part:=if p.kind=2 then ⟨p.kind,p.n,p.signs.take n⟩ else ⟨p.kind,n,p.signs⟩
def cF (p:Part) (n:Nat):Part:=if p.kind=2 then ⟨p.kind,p.n,p.signs.drop n⟩ else ⟨p.kind,p.n - n,p.signs⟩
theorem jE {p:Part} (h:am p):(psz p:Int)=p.n+p.signs.length/\psz p<=200:=by
 have hb:=h.bounds;unfold psz;by_cases hk:p.kind=2
 ·have:=hb.2.2.2.2.1 hk
  omega
 ·have:=hb.2.2.2.2.2 hk
  rw [this];simp;omega
@[simp] theorem wQ {p:Part} {n:Nat}:(xW p n).kind=p.kind:=by unfold xW;split<;>rfl
@[simp] theorem uK {p:Part} {n:Nat}:(cF p n).kind=p.kind:=by unfold cF;split<;>rfl
theorem pJ {p:Part} (h:am p) {n:Nat} (hn:n<=psz p):am (cF p n):=by
 have hp:=jE h;unfold cF;by_cases hk:p.kind=2
 ·rw [if_pos hk]
  rw [cG hk] at h;refine .inr ⟨hk,h.1,?_,λm hm=>h.2.2 m (List.mem_of_mem_drop hm)⟩;simp;omega
 ·rw [if_neg hk]
  have hb:=h.bounds;have hk2:p.kind=1\/p.kind=3:=by omega
  have:=hb.2.2.2.2.2 hk;refine .inl ⟨hk2,?_,this⟩;rw [this] at hp;simp at hp;simp only;omega
theorem pI {p:Part} (h:am p) {n:Nat} (hn:n<=psz p):psz (cF p n)=psz p - n:=by
 have hb:=h.bounds;unfold psz cF at *;by_cases hk:p.kind=2
 ·rw [if_pos hk]
  have:=hb.2.2.2.2.1 hk;simp only [this,List.length_drop] at hn ⊢;omega
 ·rw [if_neg hk]
  have:=hb.2.2.2.2.2 hk;simp only [this,List.length_nil] at hn ⊢;omega
theorem kH {p:Part} {m n:Nat}:cF (cF p m) n=cF p (m+n):=by
 unfold cF;by_cases hk:p.kind=2
 ·simp [hk,List.drop_drop]
 ·simp [hk]
  omega
def tsz:List Part->Nat
 | []=>0
 |p::l=>psz p+tsz l
def frs:List Part->Nat
 | []=>0
 |p::l=>(if p.kind=2 then 0 else psz p)+frs l
def tos:List Part->Nat
 | []=>0
 |p::l=>(if p.kind=3 then 0 else psz p)+tos l
theorem jW:∀ {o:List Part},(∀ p∈o,am p)->(frs o:Int)=aT (dt 2) o
 | [],_=>rfl
 | p :: o, h => by
   have ih:=jW (λq hq=>h q (List.mem_cons_of_mem _ hq));have hp:=jE (h p (List.mem_cons_self ..));simp only [frs,aT,dt]
   split<;>simp<;>omega
theorem jt:∀ {o:List Part},(∀ p∈o,am p)->(tos o:Int)=aT (dt 3) o
 | [],_=>rfl
 | p :: o, h => by
   have ih:=jt (λq hq=>h q (List.mem_cons_of_mem _ hq));have hp:=jE (h p (List.mem_cons_self ..));simp only [tos,aT,dt]
   split<;>simp<;>omega
theorem qy {o:List Part} (h:cg o):(frs o:Int)=bP o:=by
 rw [jW h.1.1,bO (λp hp=>vN (h.1.1 p hp)),cC];unfold bP aD;rw [if_pos h.1]
theorem tL {o:List Part} (h:cg o):(tos o:Int)=gg o:=by
 rw [jt h.1.1,bO (λp hp=>vM (h.1.1 p hp)),cC];unfold gg aD;rw [if_pos h.1]
theorem o9:∀ (o:List Part),tsz o<=frs o+tos o
 | []=>by simp [tsz]
 | p :: o => by
   have:=o9 o;simp only [tsz,frs,tos]
   split<;>split<;>omega
def cur (o:List Part) (i d:Nat):List Part:=
 match o.drop i with
 | []=>[]
 |p::l=>cF p d::l
theorem sN {o:List Part} {i d:Nat} (h:o.length<=i):cur o i d=[]:=by unfold cur;rw [List.drop_eq_nil_of_le h]
theorem qN {o:List Part} {i d:Nat} (h:i<o.length):cur o i d=cF o[i] d::o.drop (i+1):=by unfold cur;rw [List.drop_eq_getElem_cons h]
theorem qM {o:List Part} {i d n:Nat} (h:i<o.length) {p:Part} {l:List Part} (hc:cur o i d=p::l):cF p n::l=cur o i (d+n):=by
 rw [qN h] at hc ⊢
 cases hc
 rw [kH]
structure Cu (a:List Part) (i d:Nat) (X:List Part):Prop where
 ok:∀ p∈a,am p
 le:i<=a.length
 v:∀ h:i<a.length,d<=psz a[i]
 z:i=a.length->d=0
 c:cur a i d=X
theorem Cu.head {a:List Part} {i d:Nat} {p:Part} {l:List Part} (h:Cu a i d (p::l)):∃ hi:i<a.length,p=cF a[i] d/\l=a.drop (i+1)/\psz p=psz a[i] - d/\d<=psz a[i]/\p.kind=a[i].kind/\am p:=by
 have hi:i<a.length:=by
  have:=h.le;rcases Nat.lt_or_ge i a.length with h1|h1
  ·exact h1
  ·have:=h.c
   rw [sN h1] at this
   cases this
 have hc:=h.c;rw [qN hi] at hc
 cases hc
 have hp:=h.ok _ (List.getElem_mem hi);exact ⟨hi,rfl,rfl,pI hp (h.v hi),h.v hi,by simp,pJ hp (h.v hi)⟩
theorem Cu.add {a:List Part} {i d n:Nat} {p:Part} {l:List Part} (h:Cu a i d (p::l)) (hn:n<=psz p):Cu a i (d+n) (cF p n::l):=by
 obtain ⟨hi,h1,h2,h3,h4,-,-⟩:=h.head;exact ⟨h.ok,h.le,λ_=>by omega,λhe=>by omega,(qM hi h.c).symm⟩
def Rep.zero:Rep:=⟨0,0,0,[],false,[],[]⟩
theorem d5 {α β:Type} {f:α->β} {l:List α} {i:Nat} (h:i<l.length):List.take i (l.map f)++[f l[i]]=List.take (i+1) (l.map f):=by
 rw [List.take_add_one];simp [h]
def Call.zero:Call:=⟨0,⟨#[]⟩,0,0,0,[],[]⟩
def vS (t:List Int) (s:List Int×Int) (p:Part):List Int×Int:=
 if p.kind=1 then (s.1++(t.drop s.2.toNat).take p.n.toNat,s.2+p.n) else if p.kind=2 then (s.1++p.signs,s.2) else (s.1,s.2+p.n)
def yJ (o:List Part) (t:List Int):List Int×Int:=o.foldl (vS t) ([],0)
def yA (o:List Part) (t:List Int):Prop:=cg o/\ux t/\bP o=t.length
open Classical in
noncomputable def apply (o:List Part) (t:List Int):List Int×Bool:=if yA o t then ((yJ o t).1,true) else ([],false)
def Doc.zero:Doc:=⟨⟨#[]⟩,0,[],[],[]⟩
def Net.zero:Net:=⟨Doc.zero,[]⟩
inductive At where
 |k
 |p (c:Int)
 |d
def ats (p:Part):List At:=if p.kind=2 then p.signs.map At.p else if p.kind=3 then List.replicate (psz p) .d else List.replicate (psz p) .k
def az:List Part->List At
 | []=>[]
 |p::l=>ats p++az l
theorem b7:∀ (a b:List Part),az (a++b)=az a++az b
 | [],b=>rfl
 |p::a,b=>by simp [az,b7 a b]
def frA:List At->Nat
 | []=>0
 | .p _::l=>frA l
 |_::l=>frA l+1
def toA:List At->Nat
 | []=>0
 | .d::l=>toA l
 |_::l=>toA l+1
theorem ci:∀ (a b:List At),frA (a++b)=frA a+frA b
 | [],b=>by simp [frA]
 | .p c::a,b=>by simp [frA,ci a b]
 | .k::a,b=>by simp [frA,ci a b];omega
 | .d::a,b=>by simp [frA,ci a b];omega
theorem bN:∀ (a b:List At),toA (a++b)=toA a+toA b
 | [],b=>by simp [toA]
 | .d::a,b=>by simp [toA,bN a b]
 | .k::a,b=>by simp [toA,bN a b];omega
 | .p c::a,b=>by simp [toA,bN a b];omega
theorem jX:∀ l:List Int,frA (l.map At.p)=0
 | []=>rfl
 |c::l=>by simp [frA,jX l]
theorem gC:∀ l:List Int,toA (l.map At.p)=l.length
 | []=>rfl
 |c::l=>by simp [toA,gC l]
theorem qz:∀ n:Nat,frA (List.replicate n At.k)=n
 |0=>rfl
 |n+1=>by simp [List.replicate_succ,frA,qz n]
theorem jY:∀ n:Nat,frA (List.replicate n At.d)=n
 |0=>rfl
 |n+1=>by simp [List.replicate_succ,frA,jY n]
theorem lQ:∀ n:Nat,toA (List.replicate n At.k)=n
 |0=>rfl
 |n+1=>by simp [List.replicate_succ,toA,lQ n]
theorem gD:∀ n:Nat,toA (List.replicate n At.d)=0
 |0=>rfl
 |n+1=>by simp [List.replicate_succ,toA,gD n]
theorem rR {p:Part} (h:am p) (k:p.kind=2):psz p=p.signs.length:=by
 rw [cG k] at h;unfold psz;omega
theorem vR {p:Part}:frA (ats p)=if p.kind=2 then 0 else psz p:=by
 unfold ats
 split
 ·exact jX _
 ·split
  ·exact jY _
  ·exact qz _
theorem vQ {p:Part} (h:am p):toA (ats p)=if p.kind=3 then 0 else psz p:=by
 unfold ats;by_cases k:p.kind=2
 ·have:¬ p.kind=3:=by omega
  rw [if_pos k,if_neg this,gC,rR h k]
 ·rw [if_neg k]
  split
  ·exact gD _
  ·exact lQ _
theorem mg:∀ (o:List Part),frs o=frA (az o)
 | []=>rfl
 |p::o=>by simp only [frs,az,ci,vR,mg o]
theorem pa:∀ {o:List Part},(∀ p∈o,am p)->tos o=toA (az o)
 | [],_=>rfl
 | p :: o, h => by
   simp only [tos,az,bN,vQ (h p (List.mem_cons_self ..)),pa (λq hq=>h q (List.mem_cons_of_mem _ hq))]
def nA:List Int->Nat->List At->List At
 |P,n,[]=>P.map At.p++List.replicate n .d
 |P,n,.k::l=>P.map At.p++(List.replicate n .d ++ .k::nA [] 0 l)
 |P,n,.p c::l=>nA (P++[c]) n l
 |P,n,.d::l=>nA P (n+1) l
def eH (l:List At):List At:=nA [] 0 l
theorem nc:∀ (l:List At) (P:List Int) (n:Nat),frA (nA P n l)=n+frA l
 | [],P,n=>by simp [nA,frA,ci,jX,jY]
 | .k::l,P,n=>by simp [nA,frA,ci,jX,jY,nc l]
 | .p c::l,P,n=>by simp [nA,frA,nc l]
 | .d::l,P,n=>by simp [nA,frA,nc l];omega
theorem m8:∀ (l:List At) (P:List Int) (n:Nat),toA (nA P n l)=P.length+toA l
 | [],P,n=>by simp [nA,toA,bN,gC,gD]
 | .k::l,P,n=>by simp [nA,toA,bN,gC,gD,m8 l]
 | .p c::l,P,n=>by simp [nA,toA,m8 l];omega
 | .d::l,P,n=>by simp [nA,toA,m8 l]
theorem m9:∀ (Q P:List Int) (n:Nat) (l:List At),nA P n (Q.map At.p++l)=nA (P++Q) n l
 | [],P,n,l=>by simp
 |c::Q,P,n,l=>by simp [nA,m9 Q]
theorem nd:∀ (m:Nat) (P:List Int) (n:Nat) (l:List At),nA P n (List.replicate m .d++l)=nA P (n+m) l
 |0,P,n,l=>by simp
 |m+1,P,n,l=>by simp [List.replicate_succ,nA,nd m];congr 1;omega
theorem tq:∀ (m:Nat) (l:List At),nA [] 0 (List.replicate m .k++l)=List.replicate m .k++nA [] 0 l
 |0,l=>by simp
 |m+1,l=>by simp [List.replicate_succ,nA,tq m]
def bA (s:List Part×List Int×Int):List At:=az s.1++(s.2.1.map At.p++List.replicate s.2.2.toNat .d)
theorem lg {L:List Part} {P:List Int} {D:Int}:az (ai L P D)=bA (L,P,D):=by
 unfold ai bA;rw [b7,b7]
 congr 1
 congr 1
 ·split
  ·rename_i h;simp [h,az]
  ·simp [az,ats]
 ·split
  ·simp [az,ats,psz]
  ·have:D.toNat=0:=by omega
   simp [az,this]
theorem dW:∀ (L:List Part) (_h:0<L.length) (p:Part),az (L.set (L.length - 1) p)=az L.dropLast++ats p
 | [q],h,p=>by simp [az]
 | q :: r :: L, h, p => by
   have ih:=dW (r::L) (by simp) p;simp only [List.length_cons,Nat.add_sub_cancel] at ih ⊢;rw [List.set_cons_succ,az,ih];simp [az]
theorem hU:∀ (L:List Part) (h:0<L.length),az L=az L.dropLast++ats (L[L.length - 1]'(by omega))
 | [q],h=>by simp [az]
 | q :: r :: L, h => by
   have ih:=hU (r::L) (by simp);simp only [List.length_cons,Nat.add_sub_cancel] at ih ⊢;rw [az,ih];simp [az]
theorem sq {L:List Part} {n:Int} (hn:0<n) (hL:∀ q∈L,0<=q.n) (hk:∀ q∈L,q.kind=1->q.signs=[]):az (aQ L n)=az L++List.replicate n.toNat .k:=by
 unfold aQ
 split
 ·rename_i h
  split
  ·rename_i k
   have h1:=hL _ (List.getElem_mem (show L.length - 1<L.length by omega));have h2:=hk _ (List.getElem_mem (show L.length - 1<L.length by omega)) k;rw [dW L h,hU L h,List.append_assoc]
   congr 1
   generalize L[L.length - 1]'(by omega)=q at h1 h2 k;obtain ⟨a,b,c⟩:=q;simp only at h1 h2 k;subst k h2;simp [ats,psz,List.replicate_append_replicate];omega
  ·rw [b7]
   simp [az,ats,psz]
 ·rename_i h
  have:L=[]:=List.eq_nil_of_length_eq_zero (by omega);subst this;simp [az,ats,psz]
theorem fV {L:List Part} {P:List Int} {D:Int} (h:∀ q∈L,q.kind=1->q.signs=[]):∀ q∈ai L P D,q.kind=1->q.signs=[]:=by
 intro q hq hk;unfold ai at hq;rcases List.mem_append.1 hq with hq|hq
 ·exact h q hq hk
 ·rcases List.mem_append.1 hq with hq|hq
  ·split at hq
   ·simp at hq
   ·simp at hq;subst hq;simp at hk
  ·split at hq
   ·simp at hq;subst hq;rfl
   ·simp at hq
theorem l9 {L:List Part} {n:Int} (h:∀ q∈L,q.kind=1->q.signs=[]):∀ q∈aQ L n,q.kind=1->q.signs=[]:=by
 intro q hq hk;unfold aQ at hq
 split at hq
 ·rename_i hl
  split at hq
  ·rename_i k
   rcases List.mem_or_eq_of_mem_set hq with hq|rfl
   ·exact h q hq hk
   ·exact (h (L[L.length - 1]'(by omega)) (List.getElem_mem _) k :)
  ·rcases List.mem_append.1 hq with hq|hq
   ·exact h q hq hk
   ·simp at hq;subst hq;rfl
 ·simp at hq;subst hq;rfl
theorem kM {o:List Part} (ho:∀ p ∈ o,am p):∀ (i:Nat),i <= o.length -> (∀ q ∈ (ap (o.take i)).1,q.kind=1 -> q.signs=[]) /\ 0 <= (ap (o.take i)).2.2 /\ (∀ q ∈ (ap (o.take i)).1,0 <= q.n) /\
 ∀ l,eH (az (o.take i)++l)=az (ap (o.take i)).1++nA (ap (o.take i)).2.1 (ap (o.take i)).2.2.toNat l
 |0,_=>by simp [ap,az,eH]
 | i + 1, hi => by
   obtain ⟨h1,h2,h3,h4⟩:=kM ho i (by omega);have hlt:i<o.length:=by omega
   have hq:=(eI ho (i+1) hi);have hp:=(ho _ (List.getElem_mem hlt));have hb:=hp.bounds;refine ⟨?_,hq.d0,λq hq'=>(hq.q q hq').1,λl=>?_⟩
   ·rw [ch hlt]
    unfold bx
    split
    ·exact h1
    ·split
     ·exact h1
     ·split
      ·exact l9 (fV h1)
      ·exact h1
   ·rw [<- List.take_append_getElem hlt,b7,List.append_assoc,h4,List.take_append_getElem hlt,ch hlt]
    generalize ap (o.take i)=s at h1 h2 h3;generalize o[i]=p at hp hb;obtain ⟨L,P,D⟩:=s;simp only at h1 h2 h3;simp only [az,List.append_nil];unfold bx;by_cases k2:p.kind=2
    ·simp only [k2,if_true]
     rw [show ats p=p.signs.map At.p by unfold ats;rw [if_pos k2],m9]
    ·by_cases k3:p.kind=3
     ·have hs:=hb.2.2.2.2.2 k2
      have e:(D+p.n).toNat=D.toNat+p.n.toNat:=by omega
      simp only [k3,if_true];rw [show ats p=List.replicate (psz p) .d by unfold ats;rw [if_neg k2,if_pos k3],nd];simp [e,psz,hs]
     ·have k1:p.kind=1:=by omega
      have hs:=hb.2.2.2.2.2 k2;have e:ats p=List.replicate p.n.toNat .k:=by unfold ats;rw [if_neg k2,if_neg k3];simp [psz,hs]
      simp only [k2,k3,if_false];rw [e]
      split
      ·rename_i hn
       have hfl:∀ q∈ai L P D,0<=q.n:=by
        intro q hq';unfold ai at hq';rcases List.mem_append.1 hq' with hq' | hq'
        ·exact h3 q hq'
        ·rcases List.mem_append.1 hq' with hq' | hq'
         ·split at hq'
          ·simp at hq'
          ·simp at hq';subst hq';simp
         ·split at hq'
          ·simp at hq';subst hq';simp;omega
          ·simp at hq'
       simp only;rw [sq hn hfl (fV h1),lg];obtain ⟨m,hm⟩:∃ m,p.n.toNat=m+1:=⟨p.n.toNat - 1,by omega⟩;rw [hm];simp [bA,List.replicate_succ,nA,tq,List.append_assoc]
      ·have:p.n.toNat=0:=by omega
       simp [this]
theorem d7 {o:List Part} (ho:∀ p∈o,am p):az (normal o)=eH (az o):=by
 have h:=(kM ho o.length (Nat.le_refl _)).2.2.2 [];rw [List.take_length,List.append_nil] at h;unfold normal;rw [lg,h];unfold bA;simp [nA]
theorem pX (l:List At):frA (eH l)=frA l:=by unfold eH;rw [nc];omega
theorem pW (l:List At):toA (eH l)=toA l:=by unfold eH;rw [m8];simp
structure Shp (q:Part):Prop where
 k:q.kind=1\/q.kind=2\/q.kind=3
 n:0<=q.n
 put:q.kind=2->q.n=0/\bg q.signs
 run:q.kind≠2->q.signs=[]
 pos:0<psz q
theorem iQ {L:List Part} {P:List Int} {D:Int} (hL:∀ q∈L,Shp q) (hP:bg P):∀ q∈ai L P D,Shp q:=by
 intro q hq;unfold ai at hq;rcases List.mem_append.1 hq with hq|hq
 ·exact hL q hq
 ·rcases List.mem_append.1 hq with hq|hq
  ·split at hq
   ·simp at hq
   ·rename_i h
    simp at hq;subst hq;have:0<P.length:=List.length_pos_iff.2 h;exact ⟨.inr (.inl rfl),by simp,λ_=>⟨rfl,hP⟩,λh=>absurd rfl h,by simpa [psz] using this⟩
  ·split at hq
   ·rename_i h
    simp at hq;subst hq;exact ⟨.inr (.inr rfl),by simp only;omega,λh=>by simp at h,λ_=>rfl,by simp [psz];omega⟩
   ·simp at hq
theorem px {L:List Part} {n:Int} (hL:∀ q∈L,Shp q) (hn:0<n):∀ q∈aQ L n,Shp q:=by
 intro q hq;have one:Shp ⟨1,n,[]⟩:=⟨.inl rfl,by simp only;omega,λh=>by simp at h,λ_=>rfl,by simp [psz];omega⟩;unfold aQ at hq
 split at hq
 ·rename_i hl
  split at hq
  ·rename_i k
   rcases List.mem_or_eq_of_mem_set hq with hq|rfl
   ·exact hL q hq
   ·have h:=hL (L[L.length - 1]'(by omega)) (List.getElem_mem _)
    have h1:=h.n;have h2:=h.run (by omega);exact ⟨.inl rfl,by simp only;omega,λh=>by simp at h,λ_=>h2,by simp [psz];omega⟩
  ·rcases List.mem_append.1 hq with hq|hq
   ·exact hL q hq
   ·simp at hq;subst hq;exact one
 ·simp at hq;subst hq;exact one
theorem i6 {o:List Part} (ho:∀ p∈o,am p):∀ (i:Nat),i<=o.length->(∀ q∈(ap (o.take i)).1,Shp q)/\bg (ap (o.take i)).2.1
 |0,_=>by simp [ap,bg]
 | i + 1, hi => by
   obtain ⟨h1,h2⟩:=i6 ho i (by omega);have hlt:i<o.length:=by omega
   have hp:=ho _ (List.getElem_mem hlt);rw [ch hlt];generalize ap (o.take i)=s at h1 h2;generalize o[i]=p at hp;obtain ⟨L,P,D⟩:=s;simp only at h1 h2;unfold bx
   split
   ·rename_i k
    rw [cG k] at hp;refine ⟨h1,λn hn=>?_⟩;rcases List.mem_append.1 hn with hn|hn
    ·exact h2 n hn
    ·exact hp.2.2 n hn
   ·split
    ·exact ⟨h1,h2⟩
    ·split
     ·rename_i hn
      exact ⟨px (iQ h1 h2) hn,by simp [bg]⟩
     ·exact ⟨h1,h2⟩
theorem er {o:List Part} (ho:∀ p∈o,am p):∀ q∈normal o,Shp q:=by
 have h:=i6 ho o.length (Nat.le_refl _);rw [List.take_length] at h;exact iQ h.1 h.2
theorem mT:∀ {L:List Part},(∀ q∈L,Shp q)->tos L=toA (az L)
 | [],_=>rfl
 | p :: L, h => by
   have hp:=h p (List.mem_cons_self ..);simp only [tos,az,bN,mT (λq hq=>h q (List.mem_cons_of_mem _ hq))]
   congr 1
   unfold ats;by_cases k:p.kind=2
   ·have k3:¬ p.kind=3:=by omega
    have:=(hp.put k).1;rw [if_pos k,if_neg k3,gC];simp [psz,this]
   ·rw [if_neg k]
    split
    ·exact (gD _).symm
    ·exact (lQ _).symm
theorem sG {L:List Part} {q:Part} (h:q∈L) (k:q.kind≠2):psz q<=frs L:=by
 induction L with
 |nil=>simp at h
 | cons p L ih =>
   simp only [frs];rcases List.mem_cons.1 h with rfl|h
   ·rw [if_neg k];omega
   ·have:=ih h;omega
theorem rF {L:List Part} {q:Part} (h:q∈L) (k:q.kind≠3):psz q<=tos L:=by
 induction L with
 |nil=>simp at h
 | cons p L ih =>
   simp only [tos];rcases List.mem_cons.1 h with rfl|h
   ·rw [if_neg k];omega
   ·have:=ih h;omega
theorem mS:∀ {L:List Part},(∀ q∈L,Shp q)->L.length<=tsz L
 | [],_=>by simp [tsz]
 | p :: L, h => by
   have:=mS (λq hq=>h q (List.mem_cons_of_mem _ hq));have:=(h p (List.mem_cons_self ..)).pos;simp only [tsz,List.length_cons];omega
theorem uD {L:List Part} (h:∀ q∈L,Shp q) (h1:frs L<=200) (h2:tos L<=200):bd L:=by
 have hl:=mS h;have ht:=o9 L;refine ⟨λq hq=>?_,by omega⟩;have hs:=h q hq;have hn:=hs.n;by_cases k:q.kind=2
 ·have h3:=rF hq (by omega)
  have h4:=hs.put k;exact .inr ⟨k,h4.1,by unfold psz at h3;omega,h4.2⟩
 ·have h3:=sG hq k
  have h4:=hs.run k;have hk:=hs.k;exact .inl ⟨by omega,⟨hn,by unfold psz at h3;omega⟩,h4⟩
theorem lX {o:List Part} (h:bd o):(frs o:Int)=bP o:=by
 rw [jW h.1,bO (λp hp=>vN (h.1 p hp)),cC];unfold bP aD;rw [if_pos h]
theorem pM {o:List Part} (h:bd o):(tos o:Int)=gg o:=by
 rw [jt h.1,bO (λp hp=>vM (h.1 p hp)),cC];unfold gg aD;rw [if_pos h]
theorem iZ {o:List Part} (h:cg o):cg (normal o)/\bP (normal o)=bP o/\gg (normal o)=gg o:=by
 have hs:=er h.1.1;have e1:frs (normal o)=frs o:=by rw [mg,d7 h.1.1,pX,<- mg]
 have e2:tos (normal o)=tos o:=by rw [mT hs,d7 h.1.1,pW,<- pa h.1.1]
 have f:=qy h;have t:=tL h;have hp:=uD hs (by have:=h.2.1;omega) (by have:=h.2.2;omega);have f2:=lX hp;have t2:=pM hp;have:=h.2;exact ⟨⟨hp,by omega,by omega⟩,by omega,by omega⟩
end Go.Proofs.YtmfcmlldnjffeaaDoor
