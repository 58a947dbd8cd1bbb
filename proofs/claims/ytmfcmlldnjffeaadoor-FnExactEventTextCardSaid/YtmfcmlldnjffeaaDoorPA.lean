import Derived.Test.YtmfcmlldnjffeaaDoorNA
import Derived.Test.YtmfcmlldnjffeaaDoorMF

namespace Go.Proofs.YtmfcmlldnjffeaaDoor
open Go.AM
set_option maxRecDepth 20000
theorem ch (n lo hi:Int):ai Tryd.prog 32 [.c (vi n),.c (vi lo),.c (vi hi)] (.one (.c (vb (lo<=n/\n<=hi)) 1)):=by
 refine pci am Tryd.func32 (λw0 base=>?_);by_cases h1:lo<=n<;>by_cases h2:n<=hi<;>simp [h1,h2]
theorem cK (n lo hi:Int):ai Tryd.prog 29 [.c (vi n),.c (vi lo),.c (vi hi)] (.one (.c (vb (lo<=n/\n<=hi)) 1)):=by
 refine pci am Tryd.func29 (λw0 base=>?_);by_cases h1:lo<=n<;>by_cases h2:n<=hi<;>simp [h1,h2]
def dg (n:Int):Prop:=(0<=n/\n<=1114111)/\¬ (55296<=n/\n<=57343)
def bk (l:List Int):Prop:=∀ n∈l,dg n
theorem jB (n:Int):ai Tryd.prog 70 [.c (vi n)] (.one (.c (vb (dg n)) 1)):=by
 refine pci am Tryd.func70 (λw0 base=>?_);simp;refine ab.pure (ch n 0 1114111) (by simp) ?_;by_cases h:0<=n/\n<=1114111
 ·simp [h]
  refine ab.pure (ch n 55296 57343) (by simp) ?_;by_cases h2:55296<=n/\n<=57343<;>simp [h2,dg,h]
  try (rw [fg];omega)
 ·have e:dc (0<=n/\n<=1114111)=false:=by rw [b7];exact h
  simp [dg,h]
theorem jk (n:Int):ai Tryd.prog 69 [.c (vi n)] (.one (.c (vb (dg n)) 1)):=by
 refine pci am Tryd.func69 (λw0 base=>?_);simp;refine ab.pure (cK n 0 1114111) (by simp) ?_;by_cases h:0<=n/\n<=1114111
 ·simp [h]
  refine ab.pure (cK n 55296 57343) (by simp) ?_;by_cases h2:55296<=n/\n<=57343<;>simp [h2,dg,h]
  try (rw [fg];omega)
 ·have e:dc (0<=n/\n<=1114111)=false:=by rw [b7];exact h
  simp [dg,h]
theorem gm {α:Type} {P:α->Prop} {l:List α} {i:Nat} (h:i<l.length) (ha:∀ a∈l.take i,P a) (hi:P l[i]):∀ a∈l.take (i+1),P a:=by
 rw [<- List.take_append_getElem h];intro a ha';rcases List.mem_append.1 ha' with h1|h1
 ·exact ha a h1
 ·simp at h1;subst h1;exact hi
theorem go {α:Type} {P:α->Prop} {l:List α} {i:Nat} (h:l.length<=i) (ha:∀ a∈l.take i,P a):∀ a∈l,P a:=by
 rwa [List.take_of_length_le h] at ha
theorem gn {α:Type} {P:α->Prop} {l:List α} {i:Nat} (h:i<l.length) (hi:¬ P l[i]):¬ ∀ a∈l,P a:=λha=>hi (ha _ (List.getElem_mem h))
theorem ik (l:List Int) (hl:l.length<=2 ^ 40):ai Tryd.prog 58 [.c (.s (l.map aN))] (.one (.c (vb (bk l)) 1)):=by
 refine pci am Tryd.func58 (λw0 base=>?_);simp;refine aX.intro eok (λi:Nat=>i<=l.length/\∀ n∈l.take i,dg n) (λi=>⟨15,0,[(7,.v (.int .i64 i)),(6,.v (.int .i64 l.length)),(5,.ro (l.map aN))],[]⟩) (λi=>l.length - i) 0 (by simp) (by simp) (λi hi=>?_);by_cases h:i<l.length
 ·simp [h]
  refine ab.pure (jB l[i]) (by simp) ?_;simp;refine Br.mk (λh1=>?_) (λh1=>?_)
  ·simp
   exact ⟨i+1,⟨by omega,gm h hi.2 (e8 h1)⟩,by omega,aC (by omega)⟩
  ·simp [b7]
   exact gn h (iP h1)
 ·simp [h,fg]
  exact go (by omega) hi.2
theorem ec (l:List Int) (hl:l.length<=2 ^ 40):ai Tryd.prog 57 [.c (.s (l.map aN))] (.one (.c (vb (bk l)) 1)):=by
 refine pci am Tryd.func57 (λw0 base=>?_);simp;refine aX.intro eok (λi:Nat=>i<=l.length/\∀ n∈l.take i,dg n) (λi=>⟨15,0,[(7,.v (.int .i64 i)),(6,.v (.int .i64 l.length)),(5,.ro (l.map aN))],[]⟩) (λi=>l.length - i) 0 (by simp) (by simp) (λi hi=>?_);by_cases h:i<l.length
 ·simp [h]
  refine ab.pure (jk l[i]) (by simp) ?_;simp;refine Br.mk (λh1=>?_) (λh1=>?_)
  ·simp
   exact ⟨i+1,⟨by omega,gm h hi.2 (e8 h1)⟩,by omega,aC (by omega)⟩
  ·simp [b7]
   exact gn h (iP h1)
 ·simp [h,fg]
  exact go (by omega) hi.2
def al (p:Part):Prop:=((p.kind=1\/p.kind=3)/\(0<=p.n/\p.n<=200)/\p.signs=[])\/(p.kind=2/\p.n=0/\p.signs.length<=200/\bk p.signs)
theorem fq {p:Part} (h:p.kind=1\/p.kind=3):al p=((0<=p.n/\p.n<=200)/\p.signs=[]):=by
 have h2:¬ p.kind=2:=by omega
 simp [al,h,h2]
theorem cB {p:Part} (h:p.kind=2):al p=(p.n=0/\p.signs.length<=200/\bk p.signs):=by simp [al,h]
theorem iM {p:Part} (h1:p.kind≠1) (h2:p.kind≠2) (h3:p.kind≠3):¬ al p:=by simp [al,h1,h2,h3]
theorem jC (p:Part) (hl:p.signs.length<=2 ^ 40):ai Tryd.prog 67 [.agg p.row] (.one (.c (vb (al p)) 1)):=by
 refine pci am Tryd.func67 (λw0 base=>?_);simp [Part.row];intros;by_cases h13:p.kind=1\/p.kind=3
 ·rw [fq h13]
  rcases h13 with h|h
  ·simp [h]
   refine ab.pure (ch p.n 0 200) (by simp) ?_;by_cases hn:0<=p.n/\p.n<=200
   ·simp [hn]
   ·have e:dc (0<=p.n/\p.n<=200)=false:=by rw [b7];exact hn
    simp [hn]
  ·simp [h]
   refine ab.pure (ch p.n 0 200) (by simp) ?_;by_cases hn:0<=p.n/\p.n<=200
   ·simp [hn]
   ·have e:dc (0<=p.n/\p.n<=200)=false:=by rw [b7];exact hn
    simp [hn]
 ·have h1:¬ p.kind=1:=λh=>h13 (.inl h)
  have h3:¬ p.kind=3:=λh=>h13 (.inr h)
  by_cases h2:p.kind=2
  ·rw [cB h2]
   simp [h2];by_cases hn:p.n=0
   ·by_cases hs:p.signs.length<=200
    ·have hs':(p.signs.length:Int)<=200:=by omega
     simp [hn,hs'];refine ab.pure (ik p.signs hl) (by simp) ?_;simp [hs]
    ·have hs':¬ (p.signs.length:Int)<=200:=by omega
     simp [hn,hs',hs]
   ·simp [hn]
  ·simp [h1,h2,h3,iM]
theorem jl (p:Part) (hl:p.signs.length<=2 ^ 40):ai Tryd.prog 65 [.agg p.row] (.one (.c (vb (al p)) 1)):=by
 refine pci am Tryd.func65 (λw0 base=>?_);simp [Part.row];intros;by_cases h13:p.kind=1\/p.kind=3
 ·rw [fq h13]
  rcases h13 with h|h
  ·simp [h]
   refine ab.pure (cK p.n 0 200) (by simp) ?_;by_cases hn:0<=p.n/\p.n<=200
   ·simp [hn]
   ·have e:dc (0<=p.n/\p.n<=200)=false:=by rw [b7];exact hn
    simp [hn]
  ·simp [h]
   refine ab.pure (cK p.n 0 200) (by simp) ?_;by_cases hn:0<=p.n/\p.n<=200
   ·simp [hn]
   ·have e:dc (0<=p.n/\p.n<=200)=false:=by rw [b7];exact hn
    simp [hn]
 ·have h1:¬ p.kind=1:=λh=>h13 (.inl h)
  have h3:¬ p.kind=3:=λh=>h13 (.inr h)
  by_cases h2:p.kind=2
  ·rw [cB h2]
   simp [h2];by_cases hn:p.n=0
   ·simp [hn]
    refine ab.pure (ec p.signs hl) (by simp) ?_;have e:((p.signs.length:Int)<=200)=(p.signs.length<=200):=by simp;omega
    by_cases hg:bk p.signs
    ·simp [hg,e]
    ·simp [hg]
   ·simp [hn]
  ·simp [h1,h2,h3,iM]
def ba (o:List Part):Prop:=(∀ p∈o,al p)/\o.length<=600
theorem ee (o:List Part) (hl:nL au o<=2 ^ 40):ai Tryd.prog 54 [.c (.s (o.map Part.row))] (.one (.c (vb (ba o)) 1)):=by
 refine pci am Tryd.func54 (λw0 base=>?_);have hle:=fb hl;simp;refine aX.intro eok (λi:Nat=>i<=o.length/\∀ p∈o.take i,al p) (λi=>⟨18,0,[(7,.v (.int .i64 i)),(6,.v (.int .i64 o.length)),(5,.ro (o.map Part.row)),(0,.ro (o.map Part.row))],[]⟩) (λi=>o.length - i) 0 (by simp) (by simp) (λi hi=>?_);by_cases h:i<o.length
 ·simp [h,Part.row]
  intros;refine ab.pure (jC o[i] (mK hl h)) (by simp [Part.row]) ?_;simp;refine Br.mk (λh1=>?_) (λh1=>?_)
  ·simp
   exact ⟨i+1,⟨by omega,gm h hi.2 (e8 h1)⟩,by omega,aC (by omega)⟩
  ·simp [b7]
   exact λhp=>gn h (iP h1) hp.1
 ·have ha:=go (by omega) hi.2
  simp [h];refine k8 ?_;unfold ba;exact ⟨λh=>by have:=h.2;omega,λh=>⟨ha,by omega⟩⟩
theorem ed (o:List Part) (hl:nL au o<=2 ^ 40):ai Tryd.prog 51 [.c (.s (o.map Part.row))] (.one (.c (vb (ba o)) 1)):=by
 refine pci am Tryd.func51 (λw0 base=>?_);have hle:=fb hl;simp;refine aX.intro eok (λi:Nat=>i<=o.length/\∀ p∈o.take i,al p) (λi=>⟨18,0,[(7,.v (.int .i64 i)),(6,.v (.int .i64 o.length)),(5,.ro (o.map Part.row)),(0,.ro (o.map Part.row))],[]⟩) (λi=>o.length - i) 0 (by simp) (by simp) (λi hi=>?_);by_cases h:i<o.length
 ·simp [h,Part.row]
  intros;refine ab.pure (jl o[i] (mK hl h)) (by simp [Part.row]) ?_;simp;refine Br.mk (λh1=>?_) (λh1=>?_)
  ·simp
   exact ⟨i+1,⟨by omega,gm h hi.2 (e8 h1)⟩,by omega,aC (by omega)⟩
  ·simp [b7]
   exact λhp=>gn h (iP h1) hp.1
 ·have ha:=go (by omega) hi.2
  simp [h];refine k8 ?_;unfold ba;exact ⟨λh=>by have:=h.2;omega,λh=>⟨ha,by omega⟩⟩
set_option maxHeartbeats 1600000
def aM (f:Part->Int):List Part->Int
 | []=>0
 |p::o=>f p+aM f o
theorem fo {f:Part->Int}:∀ (a b:List Part),aM f (a++b)=aM f a+aM f b
 | [],b=>by simp [aM]
 |p::a,b=>by simp only [List.cons_append,aM,fo a b];omega
theorem eA {f:Part->Int} {o:List Part} {i:Nat} (h:i<o.length):aM f (o.take (i+1))=aM f (o.take i)+f o[i]:=by
 rw [<- List.take_append_getElem h,fo];simp [aM]
theorem bK {f g:Part->Int}:∀ {o:List Part},(∀ p∈o,f p=g p)->aM f o=aM g o
 | [],_=>rfl
 | p :: o, h => by
   simp only [aM];rw [h p (List.mem_cons_self ..),bK (λq hq=>h q (List.mem_cons_of_mem _ hq))]
theorem cy {f g:Part->Int}:∀ (o:List Part),aM (λp=>f p+g p) o=aM f o+aM g o
 | []=>by simp [aM]
 |p::o=>by simp only [aM,cy o];omega
def fK (p:Part):Int:=if p.kind=1 then p.n else 0
def fP (p:Part):Int:=if p.kind=2 then p.signs.length else 0
def fD (p:Part):Int:=if p.kind=1 then 0 else if p.kind=2 then 0 else p.n
def dl (k:Int) (p:Part):Int:=if p.kind=k then 0 else p.n+p.signs.length
theorem al.bounds {p:Part} (h:al p):(p.kind=1\/p.kind=2\/p.kind=3)/\0<=p.n/\p.n<=200/\p.signs.length<=200/\(p.kind=2->p.n=0)/\(p.kind≠2->p.signs=[]):=by
 rcases h with ⟨h1,h2,h3⟩|⟨h1,h2,h3,h4⟩
 ·refine ⟨by omega,by omega,by omega,by simp [h3],by omega,λ_=>h3⟩
 ·refine ⟨by omega,by omega,by omega,h3,λ_=>h2,λh=>absurd h1 h⟩
theorem vu {p:Part} (h:al p):dl 2 p=fK p+fD p:=by
 obtain ⟨h1,h2,h3,h4,h5,h6⟩:=h.bounds;unfold dl fK fD;by_cases k2:p.kind=2
 ·simp [k2]
 ·by_cases k1:p.kind=1<;>simp [k1,k2,h6 k2]
theorem vr {p:Part} (h:al p):dl 3 p=fK p+fP p:=by
 obtain ⟨h1,h2,h3,h4,h5,h6⟩:=h.bounds;unfold dl fK fP;rcases h1 with k|k|k
 ·simp [k,h6 (by omega)]
 ·simp [k,h5 k]
 ·simp [k]
theorem bp {f:Part->Int} {B:Int} (hf:∀ p,al p->0<=f p/\f p<=B):∀ {o:List Part},(∀ p∈o,al p)->0<=aM f o/\aM f o<=B*o.length
 | [],_=>by simp [aM]
 | p :: o, h => by
   have h1:=hf p (h p (List.mem_cons_self ..));have h2:=bp hf (o:=o) (λq hq=>h q (List.mem_cons_of_mem _ hq));simp only [aM,List.length_cons];rw [show B*((o.length+1:Nat):Int)=B*o.length+B by rw [Int.natCast_add];simp [Int.mul_add]];omega
theorem yl {p:Part} (h:al p):0<=fK p/\fK p<=200:=by have:=h.bounds;unfold fK;split<;>omega
theorem yk {p:Part} (h:al p):0<=fP p/\fP p<=200:=by have:=h.bounds;unfold fP;split<;>omega
theorem ym {p:Part} (h:al p):0<=fD p/\fD p<=200:=by have:=h.bounds;unfold fD;split<;>(try split)<;>omega
theorem vl {k:Int} {p:Part} (h:al p):0<=dl k p/\dl k p<=400:=by have:=h.bounds;unfold dl;split<;>omega
theorem gf {o:List Part} (h:∀ p∈o,al p) (i:Nat):∀ p∈o.take i,al p:=λp hp=>h p (List.mem_of_mem_take hp)
theorem ug (p:Part) (hp:al p):ai Tryd.prog 83 [.agg p.row] (.one (.c (vi (p.n+p.signs.length)) 1)):=by
 refine pci am Tryd.func83 (λw0 base=>?_);have:=hp.bounds;have e:Go.IntKind.i64.wrap (p.n+(p.signs.length:Int))=p.n+p.signs.length:=Go.IntWalk.i64_in _ (by omega);simp [Part.row,e]
open Classical in
noncomputable def sizeOf (o:List Part) (k:Int):Int:=if ba o then aM (dl k) o else 0
theorem eL (o:List Part) (hl:nL au o<=2 ^ 40) (k:Int):ai Tryd.prog 68 [.c (.s (o.map Part.row)),.c (vi k)] (.one (.c (vi (sizeOf o k)) 1)):=by
 refine pci am Tryd.func68 (λw0 base=>?_);have hle:=fb hl;simp;refine ab.pure (ee o hl) (by simp) ?_;by_cases ho:ba o
 ·have hr:sizeOf o k=aM (dl k) o:=by unfold sizeOf;rw [if_pos ho]
  simp [ho,hr];refine aX.intro eok (λi:Nat=>i<=o.length) (λi=>⟨27,0,[(13,.v (.int .i64 i)),(12,.v (.int .i64 o.length)),(11,.ro (o.map Part.row)),(5,.v (.int .i64 (aM (dl k) (o.take i)))),(1,.v (.int .i64 k))],[]⟩) (λi=>o.length - i) 0 (by simp) (by simp [aM]) (λi hi=>?_);by_cases h:i<o.length
  ·have hp:=ho.1 _ (List.getElem_mem h)
   have hb:=bp (f:=dl k) (λp h=>vl h) (gf ho.1 i);have hb2:=hp.bounds;have hlen:=ho.2;have hlt:(o.take i).length<=600:=by simp;omega
   have hs:=eA (f:=dl k) h;obtain ⟨q,hq⟩:∃ q,aM (dl k) (o.take i)=q:=⟨_,rfl⟩;have e:Go.IntKind.i64.wrap ((i:Int)+1)=((i+1:Nat):Int):=aC (by omega);rw [hq] at hs hb;simp [h,Part.row,hq];intros;by_cases hk:o[i].kind=k
   ·simp [hk]
    refine ⟨i+1,by omega,by omega,e,?_⟩;rw [hs];simp [dl,hk]
   ·simp [hk]
    refine ab.pure (ug o[i] hp) (by simp [Part.row]) ?_;have e2:Go.IntKind.i64.wrap (q+(o[i].n+(o[i].signs.length:Int)))=q+(o[i].n+o[i].signs.length):=Go.IntWalk.i64_in _ (by omega);simp [e2];refine ⟨i+1,by omega,by omega,e,?_⟩;rw [hs];simp [dl,hk]
  ·simp [h]
   rw [List.take_of_length_le (by omega)]
 ·have e:dc (ba o)=false:=by rw [b7];exact ho
  have hr:sizeOf o k=0:=by unfold sizeOf;rw [if_neg ho]
  simp [e,hr]
open Classical in
noncomputable def az (o:List Part):Int×Int×Int:=if ba o then (aM fK o,aM fP o,aM fD o) else (0,0,0)
theorem kF (o:List Part) (hl:nL au o<=2 ^ 40):ai Tryd.prog 66 [.c (.s (o.map Part.row))] (.tup [.c (vi (az o).1) 1,.c (vi (az o).2.1) 1,.c (vi (az o).2.2) 1]):=by
 refine pci am Tryd.func66 (λw0 base=>?_);have hle:=fb hl;simp;refine ab.pure (ed o hl) (by simp) ?_;by_cases ho:ba o
 ·have hr:az o=(aM fK o,aM fP o,aM fD o):=by unfold az;rw [if_pos ho]
  simp [ho,hr];refine aX.intro eok (λi:Nat=>i<=o.length) (λi=>⟨42,0,[(15,.v (.int .i64 i)),(14,.v (.int .i64 o.length)),(13,.ro (o.map Part.row)),(5,.v (.int .i64 (aM fK (o.take i)))),(6,.v (.int .i64 (aM fP (o.take i)))),(7,.v (.int .i64 (aM fD (o.take i))))],[]⟩) (λi=>o.length - i) 0 (by simp) (by simp [aM]) (λi hi=>?_);by_cases h:i<o.length
  ·have hp:=ho.1 _ (List.getElem_mem h)
   have hb1:=bp (f:=fK) (λp h=>yl h) (gf ho.1 i);have hb2:=bp (f:=fP) (λp h=>yk h) (gf ho.1 i);have hb3:=bp (f:=fD) (λp h=>ym h) (gf ho.1 i);have hpb:=hp.bounds;have hlen:=ho.2;have hlt:(o.take i).length<=600:=by simp;omega
   have hs1:=eA (f:=fK) h;have hs2:=eA (f:=fP) h;have hs3:=eA (f:=fD) h;obtain ⟨q1,hq1⟩:∃ q,aM fK (o.take i)=q:=⟨_,rfl⟩;obtain ⟨q2,hq2⟩:∃ q,aM fP (o.take i)=q:=⟨_,rfl⟩;obtain ⟨q3,hq3⟩:∃ q,aM fD (o.take i)=q:=⟨_,rfl⟩;have e:Go.IntKind.i64.wrap ((i:Int)+1)=((i+1:Nat):Int):=aC (by omega);rw [hq1] at hs1 hb1;rw [hq2] at hs2 hb2;rw [hq3] at hs3 hb3;simp [h,Part.row,hq1,hq2,hq3];intros;have e1:Go.IntKind.i64.wrap (q1+o[i].n)=q1+o[i].n:=Go.IntWalk.i64_in _ (by omega);have e2:Go.IntKind.i64.wrap (q2+(o[i].signs.length:Int))=q2+o[i].signs.length:=Go.IntWalk.i64_in _ (by omega);have e3:Go.IntKind.i64.wrap (q3+o[i].n)=q3+o[i].n:=Go.IntWalk.i64_in _ (by omega);by_cases k1:o[i].kind=1
   ·simp [k1,e1]
    refine ⟨i+1,by omega,by omega,e,?_,?_,?_⟩
    ·rw [hs1];simp [fK,k1]
    ·rw [hs2];simp [fP,k1]
    ·rw [hs3];simp [fD,k1]
   ·by_cases k2:o[i].kind=2
    ·simp [k2,e2]
     refine ⟨i+1,by omega,by omega,e,?_,?_,?_⟩
     ·rw [hs1];simp [fK,k2]
     ·rw [hs2];simp [fP,k2]
     ·rw [hs3];simp [fD,k2]
    ·simp [k1,k2,e3]
     refine ⟨i+1,by omega,by omega,e,?_,?_,?_⟩
     ·rw [hs1];simp [fK,k1]
     ·rw [hs2];simp [fP,k2]
     ·rw [hs3];simp [fD,k1,k2]
  ·simp [h]
   rw [List.take_of_length_le (by omega)];simp
 ·have e:dc (ba o)=false:=by rw [b7];exact ho
  have hr:az o=(0,0,0):=by unfold az;rw [if_neg ho]
  simp [e,hr]
noncomputable def bL (o:List Part):Int:=(az o).1+(az o).2.2
noncomputable def fZ (o:List Part):Int:=(az o).1+(az o).2.1
theorem kv (o:List Part):sizeOf o 2=bL o:=by
 unfold sizeOf bL az
 split
 ·rename_i h
  show _=aM fK o+aM fD o
  rw [<- cy];exact bK (λp hp=>vu (h.1 p hp))
 ·rfl
theorem nw (o:List Part):sizeOf o 3=fZ o:=by
 unfold sizeOf fZ az
 split
 ·rename_i h
  show _=aM fK o+aM fP o
  rw [<- cy];exact bK (λp hp=>vr (h.1 p hp))
 ·rfl
theorem kG (o:List Part):(0<=(az o).1/\(az o).1<=120000)/\(0<=(az o).2.1/\(az o).2.1<=120000)/\0<=(az o).2.2/\(az o).2.2<=120000:=by
 unfold az
 split
 ·rename_i h
  have h1:=bp (f:=fK) (λp h=>yl h) h.1;have h2:=bp (f:=fP) (λp h=>yk h) h.1;have h3:=bp (f:=fD) (λp h=>ym h) h.1;have h4:=h.2;simp only;omega
 ·simp
theorem jG (o:List Part) (hl:nL au o<=2 ^ 40):ai Tryd.prog 55 [.c (.s (o.map Part.row))] (.one (.c (vi (bL o)) 1)):=by
 refine pci am Tryd.func55 (λw0 base=>?_);simp;refine ab.pure (eL o hl 2) (by simp) ?_;simp [kv]
theorem lW (o:List Part) (hl:nL au o<=2 ^ 40):ai Tryd.prog 56 [.c (.s (o.map Part.row))] (.one (.c (vi (fZ o)) 1)):=by
 refine pci am Tryd.func56 (λw0 base=>?_);simp;refine ab.pure (eL o hl 3) (by simp) ?_;simp [nw]
theorem jo (o:List Part) (hl:nL au o<=2 ^ 40):ai Tryd.prog 52 [.c (.s (o.map Part.row))] (.one (.c (vi (bL o)) 1)):=by
 refine pci am Tryd.func52 (λw0 base=>?_);simp;refine ab.pure (kF o hl) (by simp) ?_;have:=kG o;have e:Go.IntKind.i64.wrap ((az o).1+(az o).2.2)=bL o:=Go.IntWalk.i64_in _ (by omega);simp [e]
theorem lC (o:List Part) (hl:nL au o<=2 ^ 40):ai Tryd.prog 53 [.c (.s (o.map Part.row))] (.one (.c (vi (fZ o)) 1)):=by
 refine pci am Tryd.func53 (λw0 base=>?_);simp;refine ab.pure (kF o hl) (by simp) ?_;have:=kG o;have e:Go.IntKind.i64.wrap ((az o).1+(az o).2.1)=fZ o:=Go.IntWalk.i64_in _ (by omega);simp [e]
def bP (o:List Part):Prop:=ba o/\bL o<=200/\fZ o<=200
theorem er (o:List Part) (hl:nL au o<=2 ^ 40):ai Tryd.prog 33 [.c (.s (o.map Part.row))] (.one (.c (vb (bP o)) 1)):=by
 refine pci am Tryd.func33 (λw0 base=>?_);simp;refine ab.pure (ee o hl) (by simp) ?_;by_cases h:ba o
 ·simp [h]
  refine ab.pure (jG o hl) (by simp) ?_;by_cases h1:bL o<=200
  ·simp [h1]
   refine ab.pure (lW o hl) (by simp) ?_;simp [bP,h,h1]
  ·simp [h1,bP,h]
 ·simp [h,bP]
theorem ek (o:List Part) (hl:nL au o<=2 ^ 40):ai Tryd.prog 30 [.c (.s (o.map Part.row))] (.one (.c (vb (bP o)) 1)):=by
 refine pci am Tryd.func30 (λw0 base=>?_);simp;refine ab.pure (ed o hl) (by simp) ?_;by_cases h:ba o
 ·simp [h]
  refine ab.pure (jo o hl) (by simp) ?_;by_cases h1:bL o<=200
  ·simp [h1]
   refine ab.pure (lC o hl) (by simp) ?_;simp [bP,h,h1]
  ·simp [h1,bP,h]
 ·simp [h,bP]
def ag (L:List Part) (P:List Int) (D:Int):List Part:=L++((if P=[] then [] else [⟨2,0,P⟩])++(if 0<D then [⟨3,D,[]⟩] else []))
def aK (L:List Part) (n:Int):List Part:=
 if h:0<L.length then
  if (L[L.length - 1]'(by omega)).kind=1 then L.set (L.length - 1) ⟨1,(L[L.length - 1]'(by omega)).n+n,(L[L.length - 1]'(by omega)).signs⟩ else L++[⟨1,n,[]⟩]
 else [⟨1,n,[]⟩]
def br (s:List Part×List Int×Int) (p:Part):List Part×List Int×Int:=
 if p.kind=2 then (s.1,s.2.1++p.signs,s.2.2)
 else if p.kind=3 then (s.1,s.2.1,s.2.2+p.n)
 else if 0<p.n then (aK (ag s.1 s.2.1 s.2.2) p.n,[],0) else s
def ao (o:List Part):List Part×List Int×Int:=o.foldl br ([],[],0)
def normal (o:List Part):List Part:=ag (ao o).1 (ao o).2.1 (ao o).2.2
theorem cd {o:List Part} {i:Nat} (h:i<o.length):ao (o.take (i+1))=br (ao (o.take i)) o[i]:=by
 unfold ao;rw [<- List.take_append_getElem h,List.foldl_append];rfl
structure NbOk (m:Nat) (s:List Part×List Int×Int):Prop where
 l:s.1.length<=3*m
 p:s.2.1.length<=200*m
 d0:0<=s.2.2
 d:s.2.2<=200*m
 q:∀ q∈s.1,0<=q.n/\q.n<=200*m
theorem dJ (L:List Part) (P:List Int) (D:Int):(ag L P D).length<=L.length+2:=by
 unfold ag
 split<;>split<;>simp
theorem e9 {L:List Part} {P:List Int} {D B:Int} (h0:0<=D) (hD:D<=B) (hL:∀ q∈L,0<=q.n/\q.n<=B):∀ q∈ag L P D,0<=q.n/\q.n<=B:=by
 intro q hq;unfold ag at hq;simp only [List.mem_append] at hq;rcases hq with hq|hq|hq
 ·exact hL q hq
 ·split at hq
  ·simp at hq
  ·simp at hq;subst hq;simp;omega
 ·split at hq
  ·simp at hq;subst hq;simp;omega
  ·simp at hq
theorem eE {o:List Part} (ho:∀ p∈o,al p):∀ (i:Nat),i<=o.length->NbOk i (ao (o.take i))
 | 0, _ => by
   simp [ao];exact ⟨by simp,by simp,by simp,by simp,by simp⟩
 | i + 1, hi => by
   have ih:=eE ho i (by omega);have hlt:i<o.length:=by omega
   rw [cd hlt];have hp:=(ho _ (List.getElem_mem hlt)).bounds;generalize ao (o.take i)=s at ih;generalize o[i]=p at hp;obtain ⟨L,P,D⟩:=s;obtain ⟨h1,h2,h3,h4,h5⟩:=ih;simp only at h1 h2 h3 h4 h5;have w:∀ q∈L,0<=q.n/\q.n<=200*((i+1:Nat):Int):=λq hq=>by have:=h5 q hq;omega
   unfold br
   split
   ·exact ⟨by simp;omega,by simp;omega,h3,by simp;omega,w⟩
   ·split
    ·exact ⟨by simp;omega,by simp;omega,by simp;omega,by simp;omega,w⟩
    ·split
     ·have f1:=dJ L P D
      have f2:=e9 (P:=P) h3 h4 h5;refine ⟨?_,by simp,by simp,by simp;omega,?_⟩
      ·simp only [aK]
       split
       ·split<;>simp<;>omega
       ·simp;omega
      ·simp only [aK]
       intro q hq
       split at hq
       ·split at hq
        ·rcases List.mem_or_eq_of_mem_set hq with hq|rfl
         ·have:=f2 q hq;omega
         ·have:=f2 _ (List.getElem_mem (show (ag L P D).length - 1<(ag L P D).length by omega))
          simp only;omega
        ·rcases List.mem_append.1 hq with hq|hq
         ·have:=f2 q hq;omega
         ·simp at hq;subst hq;simp;omega
       ·simp at hq;subst hq;simp;omega
     ·exact ⟨by simp;omega,by simp;omega,h3,by simp;omega,w⟩
theorem qj {L:List Part} {P:List Int} {D:Int} (hP:¬ P=[]) (hD:0<D):ag L P D=L++[⟨2,0,P⟩]++[⟨3,D,[]⟩]:=by simp [ag,hP,hD]
theorem qi {L:List Part} {P:List Int} {D:Int} (hP:¬ P=[]) (hD:¬ 0<D):ag L P D=L++[⟨2,0,P⟩]:=by simp [ag,hP,hD]
theorem qg {L:List Part} {P:List Int} {D:Int} (hP:P=[]) (hD:0<D):ag L P D=L++[⟨3,D,[]⟩]:=by simp [ag,hP,hD]
theorem qf {L:List Part} {P:List Int} {D:Int} (hP:P=[]) (hD:¬ 0<D):ag L P D=L:=by simp [ag,hP,hD]
theorem dM {w0:World} {bF bG:Nat->Prop} {bl:Bool} {st:ASt} {dst:Option Nat} {K:ASt->Prop} {L:List Part} {P:List Int} {D:Int} {b3 b4 b5:Nat} {Hl Hp:Hd} (hL:L.length<=2 ^ 20) (_hP:P.length<=2 ^ 40)
 (g48:st.h.get 48=.vars b3 27 [.sl 5000 Hl 3 0 L.length]) (g64:st.h.get 64=.vars b4 42 [.sl 5001 Hp 1 0 P.length]) (g80:st.h.get 80=.vars b5 3 [.v (.int .i64 D)])
 (g5000:st.h.get 5000=.rows Hl 3 (L.map Part.row) true) (g5001:st.h.get 5001=.rows Hp 1 (P.map aN) true)
 (hK:∀ Hl' h',AH.get h' 48=.vars b3 27 [.sl 5000 Hl' 3 0 (ag L P D).length] -> AH.get h' 5000=.rows Hl' 3 ((ag L P D).map Part.row) true -> AH.get h' 64=.vars b4 42 [.nil] -> AH.get h' 80=.vars b5 3 [.v (.int .i64 0)] ->
  AH.get h' 128=st.h.get 128->an ⟨st.n,st.kb,st.t,h'⟩ dst (.tup []) K):ab ⟨Tryd.prog,tt,w0,⟨bF,bG,bl,λ_=>True⟩⟩ 95 [.p 64 b4 0,.p 48 b3 0,.p 80 b5 0] st dst K:=by
 refine inl am Tryd.func95 20000 (λw1 F=>?_);simp [g64];by_cases hp:P=[]
 ·have hp0:¬ 0<P.length:=by simp [hp]
  simp [hp0,g80];by_cases hd:0<D
  ·simp [hd,g48,g5000,g80,g64]
   intro b;refine ⟨by omega,λH=>hK H _ ?_ ?_ ?_ ?_ ?_⟩<;>simp [qg hp hd,Part.row]
  ·simp [hd,g80,g64]
   refine hK Hl _ ?_ ?_ ?_ ?_ ?_<;>simp [qf hp hd,g48,g5000]
 ·have hp0:0<P.length:=List.length_pos_iff.2 hp
  simp [hp0,g80,g48,g5000,g5001,g64];intro b;refine ⟨by omega,λH=>?_⟩;by_cases hd:0<D
  ·simp [hd,g80,g64]
   intro b2;refine ⟨by omega,λH2=>hK H2 _ ?_ ?_ ?_ ?_ ?_⟩<;>simp [qj hp hd,Part.row]
  ·simp [hd,g80,g64]
   refine hK H _ ?_ ?_ ?_ ?_ ?_<;>simp [qi hp hd,Part.row]
theorem gz {F:List Part} {m:Nat} (h:m<F.length) {g:List CD->List CD} {p:Part} (hg:g F[m].row=p.row):(F.map Part.row).modify m g=(F.set m p).map Part.row:=by
 apply List.ext_getElem?
 intro j;rw [List.getElem?_modify];simp only [List.getElem?_map,List.getElem?_set];by_cases hj:m=j
 ·subst hj
  simp [h,hg]
 ·simp [hj]
theorem pD (o:List Part) (ho:∀ p∈o,al p) (hl:o.length<=10000):ai Tryd.prog 82 [.c (.s (o.map Part.row))] (.one (.c (.s ((normal o).map Part.row)) 3)):=by
 refine pci am Tryd.func82 (λw0 base=>?_);simp;intro b3 b4 b5
 refine bg eok (λx:Nat×Hd×Hd=>x.1<=o.length) (λx=>⟨73,0,[(13,.v (.int .i64 x.1)),(12,.v (.int .i64 o.length)),(11,.ro (o.map Part.row)),(3,.p 48 b3 0),(4,.p 64 b4 0),(5,.p 80 b5 0),(6,.clo 95 [.p 64 b4 0,.p 48 b3 0,.p 80 b5 0])],
  [(48, .vars b3 27 [.sl 5000 x.2.1 3 0 (ao (o.take x.1)).1.length]), (64, .vars b4 42 [.sl 5001 x.2.2 1 0 (ao (o.take x.1)).2.1.length]), (80, .vars b5 3 [.v (.int .i64 (ao (o.take x.1)).2.2)]),
   (5000,.rows x.2.1 3 ((ao (o.take x.1)).1.map Part.row) true),(5001,.rows x.2.2 1 ((ao (o.take x.1)).2.1.map aN) true)]⟩) (λx=>o.length - x.1) (0,none,none) (by simp) (by simp [ao]) (λx hx=>Ent.refl ?_)
 obtain ⟨i,Hl,Hp⟩:=x;simp only at hx ⊢;have hok:=eE ho i hx;by_cases h:i<o.length
 ·have hs:=cd h
  have hpb:=(ho _ (List.getElem_mem h)).bounds;generalize ao (o.take i)=s at hok hs;obtain ⟨L,P,D⟩:=s;obtain ⟨k1,k2,k3,k4,k5⟩:=hok;simp only at k1 k2 k3 k4 k5;have e:Go.IntKind.i64.wrap ((i:Int)+1)=((i+1:Nat):Int):=aC (by omega);simp [h,Part.row];intro b8;by_cases c2:o[i].kind=2
  ·simp [c2]
   refine ⟨by omega,λH=>?_⟩;refine Ent.refl ⟨i+1,by omega,by omega,Hl,H,?_⟩;rw [hs];simp [br,c2,e]
  ·by_cases c3:o[i].kind=3
   ·have e3:Go.IntKind.i64.wrap (D+o[i].n)=D+o[i].n:=Go.IntWalk.i64_in _ (by omega)
    simp [c3,e3];refine Ent.refl ⟨i+1,by omega,by omega,Hl,Hp,?_⟩;rw [hs];simp [br,c3,e]
   ·by_cases cn:0<o[i].n
    ·simp [c2,c3,cn]
     refine dM (L:=L) (P:=P) (D:=D) (Hl:=Hl) (Hp:=Hp) (by omega) (by omega) (by simp) (by simp) (by simp) (by simp) (by simp) (λHl' h' g48 g5000 g64 g80 g128=>?_);have f1:=dJ L P D;have f2:=e9 (P:=P) k3 k4 k5;have hstep:br (L,P,D) o[i]=(aK (ag L P D) o[i].n,[],0):=by simp [br,c2,c3,cn]
     rw [hstep] at hs;generalize ag L P D=F at f1 f2 g48 g5000 hs;simp at g128;by_cases hF:0<F.length
     ·obtain ⟨m,hm⟩:∃ m,F.length=m+1:=⟨F.length - 1,by omega⟩
      have hmlt:m<F.length:=by omega
      have em:Go.IntKind.i64.wrap (m:Int)=m:=jI (by omega)
      have hk:aK F o[i].n=if F[m].kind=1 then F.set m ⟨1,F[m].n+o[i].n,F[m].signs⟩ else F++[⟨1,o[i].n,[]⟩]:=by
       have e0:F.length - 1=m:=by omega
       simp [aK,hF,e0]
      have hq:=f2 _ (List.getElem_mem hmlt);simp [g48,g5000,hm,em,Part.row];by_cases ck:F[m].kind=1
      ·rw [if_pos ck] at hk
       have em2:Go.IntKind.i64.wrap (F[m].n+o[i].n)=F[m].n+o[i].n:=Go.IntWalk.i64_in _ (by omega);have hmm:(m:Int)<m+1:=by omega
       simp [ck,hmm];refine drw eok mix [0,1,2,3,4,5,6,7,8,9,10] [11] (.c 11 11 2045 2 (.l 11 2) .s) ?_;simp [g48,g5000,g128,hm,em,Part.row,ck,em2,hmm];refine Ent.kill 5001 (Ent.refl ⟨i+1,by omega,by omega,Hl',none,?_⟩);rw [hs,hk];have hmod:=gz (F:=F) (m:=m) hmlt (g:=λrow=>bx row 1 [CD.v (Value.int IntKind.i64 (F[m].n+o[i].n))]) (p:=⟨1,F[m].n+o[i].n,F[m].signs⟩) (by simp [Part.row,ck]);simp [e,g48,g64,g80,hm,hmod]
      ·rw [if_neg ck] at hk
       simp [ck,g48,g5000,g128,hm];refine ⟨by omega,λb=>⟨by omega,λH=>?_⟩⟩;refine Ent.kill 5001 (Ent.refl ⟨i+1,by omega,by omega,H,none,?_⟩);rw [hs,hk];simp [e,Part.row,g64,g80,hm]
     ·have hF0:F=[]:=List.eq_nil_of_length_eq_zero (by omega)
      subst hF0;have hk:aK [] o[i].n=[⟨1,o[i].n,[]⟩]:=by simp [aK]
      simp [g48,g5000,g128];intro b H;refine Ent.kill 5001 (Ent.refl ⟨i+1,by omega,by omega,H,none,?_⟩);rw [hs,hk];simp [e,Part.row,g64,g80]
    ·simp [c2,c3,cn]
     refine Ent.refl ⟨i+1,by omega,by omega,Hl,Hp,?_⟩;rw [hs];simp [br,c2,c3,cn,e]
 ·have he:o.take i=o:=List.take_of_length_le (by omega)
  rw [he] at hok ⊢;have hn:normal o=ag (ao o).1 (ao o).2.1 (ao o).2.2:=rfl;rw [hn];generalize ao o=s at hok;obtain ⟨L,P,D⟩:=s;obtain ⟨k1,k2,k3,k4,k5⟩:=hok;simp only at k1 k2 k3 k4 k5;simp [h];refine dM (L:=L) (P:=P) (D:=D) (Hl:=Hl) (Hp:=Hp) (by omega) (by omega) (by simp) (by simp) (by simp) (by simp) (by simp) (λHl' h' g48 g5000 g64 g80 g128=>?_);simp [g48,g5000]
theorem dD {w0:World} {bF bG:Nat->Prop} {bl:Bool} {st:ASt} {dst:Option Nat} {K:ASt->Prop} {L:List Part} {P:List Int} {D:Int} {b:Nat} {Hl Hp:Hd} (hL:L.length<=2 ^ 20) (_hP:P.length<=2 ^ 40)
 (g160:st.h.get 160=.vars b 89 [.sl 5000 Hl 3 0 L.length,.sl 5001 Hp 1 0 P.length,.v (.int .i64 D)])
 (g5000:st.h.get 5000=.rows Hl 3 (L.map Part.row) true) (g5001:st.h.get 5001=.rows Hp 1 (P.map aN) true)
 (hK:∀ Hl' h',AH.get h' 160=.vars b 89 [.sl 5000 Hl' 3 0 (ag L P D).length,.nil,.v (.int .i64 0)] -> AH.get h' 5000=.rows Hl' 3 ((ag L P D).map Part.row) true ->
  AH.get h' 80=st.h.get 80->an ⟨st.n,st.kb,st.t,h'⟩ dst (.tup []) K):ab ⟨Tryd.prog,tt,w0,⟨bF,bG,bl,λ_=>True⟩⟩ 84 [.p 160 b 0] st dst K:=by
 refine inl am Tryd.func84 20000 (λw1 F=>?_);simp [g160];by_cases hp:P=[]
 ·have hp0:¬ 0<P.length:=by simp [hp]
  simp [hp0,g160];by_cases hd:0<D
  ·simp [hd]
   refine drw eok mix [0,1,2,3,4,5,6,7,8,9,12,13] [10,11,14] (.c 12 10 4 4091 (.c 12 11 128 3963 (.c 12 14 3961 2 (.l 12 2) .s) .s) .s) ?_;simp [g160,g5000];intro b1;refine ⟨by omega,λH=>hK H _ ?_ ?_ ?_⟩<;>simp [qg hp hd,Part.row]
  ·simp [hd,g160]
   refine hK Hl _ ?_ ?_ ?_<;>simp [qf hp hd,g5000]
 ·have hp0:0<P.length:=List.length_pos_iff.2 hp
  simp [hp0];refine drw eok mix [0,1,2,3,4,5,6,7,8,9,12,13] [10,11,14] (.c 12 10 4 4091 (.c 12 11 128 3963 (.c 12 14 3961 2 (.l 12 2) .s) .s) .s) ?_;simp [g160,g5000,g5001];intro b1;refine ⟨by omega,λH=>?_⟩;by_cases hd:0<D
  ·simp [hd]
   refine drw eok mix [0,1,2,3,4,5,6,7,8,9,12,13] [10,11,14] (.c 12 10 4 4091 (.c 12 11 128 3963 (.c 12 14 3961 2 (.l 12 2) .s) .s) .s) ?_;simp;intro b2;refine ⟨by omega,λH2=>hK H2 _ ?_ ?_ ?_⟩<;>simp [qj hp hd,Part.row]
  ·simp [hd]
   refine hK H _ ?_ ?_ ?_<;>simp [qi hp hd,Part.row]
theorem ia {w0:World} {bF bG:Nat->Prop} {bl:Bool} {st:ASt} {dst:Option Nat} {K:ASt->Prop} {L:List Part} {P:List Int} {D n:Int} {b:Nat} {Hl Hp:Hd} (hL:L.length<=2 ^ 19) (hP:P.length<=2 ^ 40) (hn0:0<n) (hn:n<=200) (hF:∀ q∈ag L P D,0<=q.n/\q.n<=2 ^ 40)
 (g160:st.h.get 160=.vars b 89 [.sl 5000 Hl 3 0 L.length,.sl 5001 Hp 1 0 P.length,.v (.int .i64 D)])
 (g5000:st.h.get 5000=.rows Hl 3 (L.map Part.row) true) (g5001:st.h.get 5001=.rows Hp 1 (P.map aN) true)
 (hK:∀ Hl' h',AH.get h' 160=.vars b 89 [.sl 5000 Hl' 3 0 (aK (ag L P D) n).length,.nil,.v (.int .i64 0)] -> AH.get h' 5000=.rows Hl' 3 ((aK (ag L P D) n).map Part.row) true ->
  AH.get h' 80=st.h.get 80->an ⟨st.n,st.kb,st.t,h'⟩ dst (.tup []) K):ab ⟨Tryd.prog,tt,w0,⟨bF,bG,bl,λ_=>True⟩⟩ 71 [.p 160 b 0,.v (.int .i64 n)] st dst K:=by
 refine inl am Tryd.func71 30000 (λw1 F=>?_);have n0:¬ n=0:=by omega
 simp [n0];refine dD (L:=L) (P:=P) (D:=D) (Hl:=Hl) (Hp:=Hp) (by omega) hP (by simp [g160]) (by simp [g5000]) (by simp [g5001]) (λHl' h' k160 k5000 k80=>?_);have f1:=dJ L P D;generalize ag L P D=F at f1 hF k160 k5000 hK;by_cases hF0:0<F.length
 ·obtain ⟨m,hm⟩:∃ m,F.length=m+1:=⟨F.length - 1,by omega⟩
  have hmlt:m<F.length:=by omega
  have hmm:(m:Int)<m+1:=by omega
  have em:Go.IntKind.i64.wrap (m:Int)=m:=jI (by omega)
  have hk:aK F n=if F[m].kind=1 then F.set m ⟨1,F[m].n+n,F[m].signs⟩ else F++[⟨1,n,[]⟩]:=by
   have e0:F.length - 1=m:=by omega
   simp [aK,hF0,e0]
  have hq:=hF _ (List.getElem_mem hmlt);have em2:Go.IntKind.i64.wrap (F[m].n+n)=F[m].n+n:=Go.IntWalk.i64_in _ (by omega);simp [k160,k5000,hm,em,hmm,Part.row];by_cases ck:F[m].kind=1
  ·rw [if_pos ck] at hk
   simp [ck];refine drw eok mix [0,1,2,3,4,5,6,7,8,9,10,11,12,13,14,15,16,17,18] [19] (.c 19 19 524285 2 (.l 19 2) .s) ?_;simp [k160,k5000,hm,em,hmm,Part.row,ck,em2];have hmod:=gz (F:=F) (m:=m) hmlt (g:=λrow=>bx row 1 [CD.v (Value.int IntKind.i64 (F[m].n+n))]) (p:=⟨1,F[m].n+n,F[m].signs⟩) (by simp [Part.row,ck]);refine hK Hl' _ ?_ ?_ ?_
   ·simp [k160,hk,hm]
   ·simp [hk,hmod]
   ·simp [k80]
  ·rw [if_neg ck] at hk
   simp [ck,k160,k5000,hm];intro b1;refine ⟨by omega,λH=>hK H _ ?_ ?_ ?_⟩<;>simp [hk,hm,Part.row,k80]
 ·have hF1:F=[]:=List.eq_nil_of_length_eq_zero (by omega)
  subst hF1;have hk:aK [] n=[⟨1,n,[]⟩]:=by simp [aK]
  simp [k160,k5000];intro b1 H;refine hK H _ ?_ ?_ ?_<;>simp [hk,Part.row,k80]
open Classical in
noncomputable def aI (o:List Part):List Part:=if bP o then normal o else []
theorem jF (o:List Part) (hl:nL au o<=2 ^ 40):ai Tryd.prog 63 [.c (.s (o.map Part.row))] (.one (.c (.s ((aI o).map Part.row)) 3)):=by
 refine pci am Tryd.func63 (λw0 base=>?_);simp;refine ab.pure (er o hl) (by simp) ?_;by_cases h:bP o
 ·have e:aI o=normal o:=by unfold aI;rw [if_pos h]
  simp [h,e];refine ab.pure (pD o h.1.1 (by have:=h.1.2;omega)) (by simp) ?_;simp
 ·have e:aI o=[]:=by unfold aI;rw [if_neg h]
  have e2:dc (bP o)=false:=by rw [b7];exact h
  simp [e,e2]
theorem jn (o:List Part) (hl:nL au o<=2 ^ 40):ai Tryd.prog 60 [.c (.s (o.map Part.row))] (.one (.c (.s ((aI o).map Part.row)) 3)):=by
 refine pci am Tryd.func60 (λw0 base=>?_);simp;refine ab.pure (ek o hl) (by simp) ?_;by_cases hopk:bP o
 rotate_left
 ·have e:aI o=[]:=by unfold aI;rw [if_neg hopk]
  have e2:dc (bP o)=false:=by rw [b7];exact hopk
  simp [e,e2]
 have e:aI o=normal o:=by unfold aI;rw [if_pos hopk]
 have ho:=hopk.1.1;have hlen:=hopk.1.2;simp [hopk,e];intro b
 refine bg eok (λx:Nat×Hd×Hd=>x.1<=o.length) (λx=>⟨38,0,[(13,.v (.int .i64 x.1)),(12,.v (.int .i64 o.length)),(11,.ro (o.map Part.row)),(3,.p 160 b 0)],
  [(160, .vars b 89 [.sl 5000 x.2.1 3 0 (ao (o.take x.1)).1.length, .sl 5001 x.2.2 1 0 (ao (o.take x.1)).2.1.length, .v (.int .i64 (ao (o.take x.1)).2.2)]),
   (5000,.rows x.2.1 3 ((ao (o.take x.1)).1.map Part.row) true),(5001,.rows x.2.2 1 ((ao (o.take x.1)).2.1.map aN) true)]⟩) (λx=>o.length - x.1) (0,none,none) (by simp) (by simp [ao]) (λx hx=>Ent.refl ?_)
 obtain ⟨i,Hl,Hp⟩:=x;simp only at hx ⊢;have hok:=eE ho i hx;by_cases h:i<o.length
 ·have hs:=cd h
  have hpb:=(ho _ (List.getElem_mem h)).bounds;generalize ao (o.take i)=s at hok hs;obtain ⟨L,P,D⟩:=s;obtain ⟨k1,k2,k3,k4,k5⟩:=hok;simp only at k1 k2 k3 k4 k5;have e:Go.IntKind.i64.wrap ((i:Int)+1)=((i+1:Nat):Int):=aC (by omega);simp [h,Part.row];intro b5;by_cases c1:o[i].kind=1
  ·simp [c1]
   by_cases cn:0<o[i].n
   ·have hstep:br (L,P,D) o[i]=(aK (ag L P D) o[i].n,[],0):=by simp [br,c1,cn]
    rw [hstep] at hs;have f2:=e9 (P:=P) k3 k4 k5;refine ia (L:=L) (P:=P) (D:=D) (Hl:=Hl) (Hp:=Hp) (by omega) (by omega) cn hpb.2.2.1 (λq hq=>by have:=f2 q hq;omega) (by simp) (by simp) (by simp) (λHl' h' k160 k5000 k80=>?_);simp;refine Ent.kill 5001 (Ent.refl ⟨i+1,by omega,by omega,Hl',none,?_⟩);rw [hs];simp [e,k160,k5000]
   ·have cn0:o[i].n=0:=by omega
    refine inl am Tryd.func71 30000 (λw1 F=>?_);simp [cn0];refine Ent.refl ⟨i+1,by omega,by omega,Hl,Hp,?_⟩;rw [hs];simp [br,c1,cn0,e]
  ·by_cases c2:o[i].kind=2
   ·simp [c2]
    refine inl am Tryd.func72 30000 (λw1 F=>?_);simp;refine ⟨by omega,λH=>?_⟩;refine Ent.refl ⟨i+1,by omega,by omega,Hl,H,?_⟩;rw [hs];simp [br,c2,e]
   ·have c3:o[i].kind=3:=by omega
    have e3:Go.IntKind.i64.wrap (D+o[i].n)=D+o[i].n:=Go.IntWalk.i64_in _ (by omega);simp [c1,c2];refine inl am Tryd.func73 30000 (λw1 F=>?_);simp [e3];refine Ent.refl ⟨i+1,by omega,by omega,Hl,Hp,?_⟩;rw [hs];simp [br,c3,e]
 ·have he:o.take i=o:=List.take_of_length_le (by omega)
  rw [he] at hok ⊢;have hn:normal o=ag (ao o).1 (ao o).2.1 (ao o).2.2:=rfl;rw [hn];generalize ao o=s at hok;obtain ⟨L,P,D⟩:=s;obtain ⟨k1,k2,k3,k4,k5⟩:=hok;simp only at k1 k2 k3 k4 k5;simp [h];refine inl am Tryd.func74 30000 (λw1 F=>?_);simp;refine dD (L:=L) (P:=P) (D:=D) (Hl:=Hl) (Hp:=Hp) (by omega) (by omega) (by simp) (by simp) (by simp) (λHl' h' k160 k5000 k80=>?_);simp [k160,k5000]
def lT (o:List Part):Prop:=bP o/\aI o=o
def t8 (t:List Int):Prop:=t.length<=200/\bk t
def psz (p:Part):Nat:=p.n.toNat+p.signs.length
def xD (p:Part) (n:Nat):Part:=if p.kind=2 then ⟨p.kind,p.n,p.signs.take n⟩ else ⟨p.kind,n,p.signs⟩
def cA (p:Part) (n:Nat):Part:=if p.kind=2 then ⟨p.kind,p.n,p.signs.drop n⟩ else ⟨p.kind,p.n - n,p.signs⟩
theorem ju {p:Part} (h:al p):(psz p:Int)=p.n+p.signs.length/\psz p<=200:=by
 have hb:=h.bounds;unfold psz;by_cases hk:p.kind=2
 ·have:=hb.2.2.2.2.1 hk
  omega
 ·have:=hb.2.2.2.2.2 hk
  rw [this];simp;omega
@[simp] theorem wu {p:Part} {n:Nat}:(xD p n).kind=p.kind:=by unfold xD;split<;>rfl
@[simp] theorem ur {p:Part} {n:Nat}:(cA p n).kind=p.kind:=by unfold cA;split<;>rfl
theorem pp {p:Part} (h:al p) {n:Nat} (hn:n<=psz p):al (cA p n):=by
 have hp:=ju h;unfold cA;by_cases hk:p.kind=2
 ·rw [if_pos hk]
  rw [cB hk] at h;refine .inr ⟨hk,h.1,?_,λm hm=>h.2.2 m (List.mem_of_mem_drop hm)⟩;simp;omega
 ·rw [if_neg hk]
  have hb:=h.bounds;have hk2:p.kind=1\/p.kind=3:=by omega
  have:=hb.2.2.2.2.2 hk;refine .inl ⟨hk2,?_,this⟩;rw [this] at hp;simp at hp;simp only;omega
theorem po {p:Part} (h:al p) {n:Nat} (hn:n<=psz p):psz (cA p n)=psz p - n:=by
 have hb:=h.bounds;unfold psz cA at *;by_cases hk:p.kind=2
 ·rw [if_pos hk]
  have:=hb.2.2.2.2.1 hk;simp only [this,List.length_drop] at hn ⊢;omega
 ·rw [if_neg hk]
  have:=hb.2.2.2.2.2 hk;simp only [this,List.length_nil] at hn ⊢;omega
theorem kt {p:Part} {m n:Nat}:cA (cA p m) n=cA p (m+n):=by
 unfold cA;by_cases hk:p.kind=2
 ·simp [hk,List.drop_drop]
 ·simp [hk]
  omega
def tsz:List Part->Nat
 | []=>0
 |p::l=>psz p+tsz l
def frs:List Part->Nat
 | []=>0
 |p::l=>(if p.kind=2 then 0 else psz p)+frs l
def tos:List Part->Nat
 | []=>0
 |p::l=>(if p.kind=3 then 0 else psz p)+tos l
theorem jK:∀ {o:List Part},(∀ p∈o,al p)->(frs o:Int)=aM (dl 2) o
 | [],_=>rfl
 | p :: o, h => by
   have ih:=jK (λq hq=>h q (List.mem_cons_of_mem _ hq));have hp:=ju (h p (List.mem_cons_self ..));simp only [frs,aM,dl]
   split<;>simp<;>omega
theorem ji:∀ {o:List Part},(∀ p∈o,al p)->(tos o:Int)=aM (dl 3) o
 | [],_=>rfl
 | p :: o, h => by
   have ih:=ji (λq hq=>h q (List.mem_cons_of_mem _ hq));have hp:=ju (h p (List.mem_cons_self ..));simp only [tos,aM,dl]
   split<;>simp<;>omega
theorem qd {o:List Part} (h:bP o):(frs o:Int)=bL o:=by
 rw [jK h.1.1,bK (λp hp=>vu (h.1.1 p hp)),cy];unfold bL az;rw [if_pos h.1]
theorem to {o:List Part} (h:bP o):(tos o:Int)=fZ o:=by
 rw [ji h.1.1,bK (λp hp=>vr (h.1.1 p hp)),cy];unfold fZ az;rw [if_pos h.1]
theorem oM:∀ (o:List Part),tsz o<=frs o+tos o
 | []=>by simp [tsz]
 | p :: o => by
   have:=oM o;simp only [tsz,frs,tos]
   split<;>split<;>omega
def cur (o:List Part) (i d:Nat):List Part:=
 match o.drop i with
 | []=>[]
 |p::l=>cA p d::l
theorem su {o:List Part} {i d:Nat} (h:o.length<=i):cur o i d=[]:=by unfold cur;rw [List.drop_eq_nil_of_le h]
theorem qt {o:List Part} {i d:Nat} (h:i<o.length):cur o i d=cA o[i] d::o.drop (i+1):=by unfold cur;rw [List.drop_eq_getElem_cons h]
theorem qs {o:List Part} {i d n:Nat} (h:i<o.length) {p:Part} {l:List Part} (hc:cur o i d=p::l):cA p n::l=cur o i (d+n):=by
 rw [qt h] at hc ⊢
 cases hc
 rw [kt]
structure Cu (a:List Part) (i d:Nat) (X:List Part):Prop where
 ok:∀ p∈a,al p
 le:i<=a.length
 v:∀ h:i<a.length,d<=psz a[i]
 z:i=a.length->d=0
 c:cur a i d=X
theorem Cu.head {a:List Part} {i d:Nat} {p:Part} {l:List Part} (h:Cu a i d (p::l)):∃ hi:i<a.length,p=cA a[i] d/\l=a.drop (i+1)/\psz p=psz a[i] - d/\d<=psz a[i]/\p.kind=a[i].kind/\al p:=by
 have hi:i<a.length:=by
  have:=h.le;rcases Nat.lt_or_ge i a.length with h1|h1
  ·exact h1
  ·have:=h.c
   rw [su h1] at this
   cases this
 have hc:=h.c;rw [qt hi] at hc
 cases hc
 have hp:=h.ok _ (List.getElem_mem hi);exact ⟨hi,rfl,rfl,po hp (h.v hi),h.v hi,by simp,pp hp (h.v hi)⟩
theorem Cu.add {a:List Part} {i d n:Nat} {p:Part} {l:List Part} (h:Cu a i d (p::l)) (hn:n<=psz p):Cu a i (d+n) (cA p n::l):=by
 obtain ⟨hi,h1,h2,h3,h4,-,-⟩:=h.head;exact ⟨h.ok,h.le,λ_=>by omega,λhe=>by omega,(qs hi h.c).symm⟩
def Rep.zero:Rep:=⟨0,0,0,[],false,[],[]⟩
theorem d4 {α β:Type} {f:α->β} {l:List α} {i:Nat} (h:i<l.length):List.take i (l.map f)++[f l[i]]=List.take (i+1) (l.map f):=by
 rw [List.take_add_one];simp [h]
def Call.zero:Call:=⟨0,⟨#[]⟩,0,0,0,[],[]⟩
def vz (t:List Int) (s:List Int×Int) (p:Part):List Int×Int:=
 if p.kind=1 then (s.1++(t.drop s.2.toNat).take p.n.toNat,s.2+p.n) else if p.kind=2 then (s.1++p.signs,s.2) else (s.1,s.2+p.n)
def yr (o:List Part) (t:List Int):List Int×Int:=o.foldl (vz t) ([],0)
def yi (o:List Part) (t:List Int):Prop:=bP o/\t8 t/\bL o=t.length
open Classical in
noncomputable def apply (o:List Part) (t:List Int):List Int×Bool:=if yi o t then ((yr o t).1,true) else ([],false)
def Doc.zero:Doc:=⟨⟨#[]⟩,0,[],[],[]⟩
def Net.zero:Net:=⟨Doc.zero,[]⟩
inductive At where
 |k
 |p (c:Int)
 |d
def ats (p:Part):List At:=if p.kind=2 then p.signs.map At.p else if p.kind=3 then List.replicate (psz p) .d else List.replicate (psz p) .k
def aw:List Part->List At
 | []=>[]
 |p::l=>ats p++aw l
theorem bW:∀ (a b:List Part),aw (a++b)=aw a++aw b
 | [],b=>rfl
 |p::a,b=>by simp [aw,bW a b]
def frA:List At->Nat
 | []=>0
 | .p _::l=>frA l
 |_::l=>frA l+1
def toA:List At->Nat
 | []=>0
 | .d::l=>toA l
 |_::l=>toA l+1
theorem ce:∀ (a b:List At),frA (a++b)=frA a+frA b
 | [],b=>by simp [frA]
 | .p c::a,b=>by simp [frA,ce a b]
 | .k::a,b=>by simp [frA,ce a b];omega
 | .d::a,b=>by simp [frA,ce a b];omega
theorem bJ:∀ (a b:List At),toA (a++b)=toA a+toA b
 | [],b=>by simp [toA]
 | .d::a,b=>by simp [toA,bJ a b]
 | .k::a,b=>by simp [toA,bJ a b];omega
 | .p c::a,b=>by simp [toA,bJ a b];omega
theorem jL:∀ l:List Int,frA (l.map At.p)=0
 | []=>rfl
 |c::l=>by simp [frA,jL l]
theorem gq:∀ l:List Int,toA (l.map At.p)=l.length
 | []=>rfl
 |c::l=>by simp [toA,gq l]
theorem qe:∀ n:Nat,frA (List.replicate n At.k)=n
 |0=>rfl
 |n+1=>by simp [List.replicate_succ,frA,qe n]
theorem jM:∀ n:Nat,frA (List.replicate n At.d)=n
 |0=>rfl
 |n+1=>by simp [List.replicate_succ,frA,jM n]
theorem lB:∀ n:Nat,toA (List.replicate n At.k)=n
 |0=>rfl
 |n+1=>by simp [List.replicate_succ,toA,lB n]
theorem gr:∀ n:Nat,toA (List.replicate n At.d)=0
 |0=>rfl
 |n+1=>by simp [List.replicate_succ,toA,gr n]
theorem rA {p:Part} (h:al p) (k:p.kind=2):psz p=p.signs.length:=by
 rw [cB k] at h;unfold psz;omega
theorem vy {p:Part}:frA (ats p)=if p.kind=2 then 0 else psz p:=by
 unfold ats
 split
 ·exact jL _
 ·split
  ·exact jM _
  ·exact qe _
theorem vx {p:Part} (h:al p):toA (ats p)=if p.kind=3 then 0 else psz p:=by
 unfold ats;by_cases k:p.kind=2
 ·have:¬ p.kind=3:=by omega
  rw [if_pos k,if_neg this,gq,rA h k]
 ·rw [if_neg k]
  split
  ·exact gr _
  ·exact lB _
theorem lZ:∀ (o:List Part),frs o=frA (aw o)
 | []=>rfl
 |p::o=>by simp only [frs,aw,ce,vy,lZ o]
theorem oN:∀ {o:List Part},(∀ p∈o,al p)->tos o=toA (aw o)
 | [],_=>rfl
 | p :: o, h => by
   simp only [tos,aw,bJ,vx (h p (List.mem_cons_self ..)),oN (λq hq=>h q (List.mem_cons_of_mem _ hq))]
def nA:List Int->Nat->List At->List At
 |P,n,[]=>P.map At.p++List.replicate n .d
 |P,n,.k::l=>P.map At.p++(List.replicate n .d ++ .k::nA [] 0 l)
 |P,n,.p c::l=>nA (P++[c]) n l
 |P,n,.d::l=>nA P (n+1) l
def eD (l:List At):List At:=nA [] 0 l
theorem mP:∀ (l:List At) (P:List Int) (n:Nat),frA (nA P n l)=n+frA l
 | [],P,n=>by simp [nA,frA,ce,jL,jM]
 | .k::l,P,n=>by simp [nA,frA,ce,jL,jM,mP l]
 | .p c::l,P,n=>by simp [nA,frA,mP l]
 | .d::l,P,n=>by simp [nA,frA,mP l];omega
theorem mM:∀ (l:List At) (P:List Int) (n:Nat),toA (nA P n l)=P.length+toA l
 | [],P,n=>by simp [nA,toA,bJ,gq,gr]
 | .k::l,P,n=>by simp [nA,toA,bJ,gq,gr,mM l]
 | .p c::l,P,n=>by simp [nA,toA,mM l];omega
 | .d::l,P,n=>by simp [nA,toA,mM l]
theorem mN:∀ (Q P:List Int) (n:Nat) (l:List At),nA P n (Q.map At.p++l)=nA (P++Q) n l
 | [],P,n,l=>by simp
 |c::Q,P,n,l=>by simp [nA,mN Q]
theorem mQ:∀ (m:Nat) (P:List Int) (n:Nat) (l:List At),nA P n (List.replicate m .d++l)=nA P (n+m) l
 |0,P,n,l=>by simp
 |m+1,P,n,l=>by simp [List.replicate_succ,nA,mQ m];congr 1;omega
theorem s5:∀ (m:Nat) (l:List At),nA [] 0 (List.replicate m .k++l)=List.replicate m .k++nA [] 0 l
 |0,l=>by simp
 |m+1,l=>by simp [List.replicate_succ,nA,s5 m]
def bA (s:List Part×List Int×Int):List At:=aw s.1++(s.2.1.map At.p++List.replicate s.2.2.toNat .d)
theorem kW {L:List Part} {P:List Int} {D:Int}:aw (ag L P D)=bA (L,P,D):=by
 unfold ag bA;rw [bW,bW]
 congr 1
 congr 1
 ·split
  ·rename_i h;simp [h,aw]
  ·simp [aw,ats]
 ·split
  ·simp [aw,ats,psz]
  ·have:D.toNat=0:=by omega
   simp [aw,this]
theorem dV:∀ (L:List Part) (_h:0<L.length) (p:Part),aw (L.set (L.length - 1) p)=aw L.dropLast++ats p
 | [q],h,p=>by simp [aw]
 | q :: r :: L, h, p => by
   have ih:=dV (r::L) (by simp) p;simp only [List.length_cons,Nat.add_sub_cancel] at ih ⊢;rw [List.set_cons_succ,aw,ih];simp [aw]
theorem gT:∀ (L:List Part) (h:0<L.length),aw L=aw L.dropLast++ats (L[L.length - 1]'(by omega))
 | [q],h=>by simp [aw]
 | q :: r :: L, h => by
   have ih:=gT (r::L) (by simp);simp only [List.length_cons,Nat.add_sub_cancel] at ih ⊢;rw [aw,ih];simp [aw]
theorem r6 {L:List Part} {n:Int} (hn:0<n) (hL:∀ q∈L,0<=q.n) (hk:∀ q∈L,q.kind=1->q.signs=[]):aw (aK L n)=aw L++List.replicate n.toNat .k:=by
 unfold aK
 split
 ·rename_i h
  split
  ·rename_i k
   have h1:=hL _ (List.getElem_mem (show L.length - 1<L.length by omega));have h2:=hk _ (List.getElem_mem (show L.length - 1<L.length by omega)) k;rw [dV L h,gT L h,List.append_assoc]
   congr 1
   generalize L[L.length - 1]'(by omega)=q at h1 h2 k;obtain ⟨a,b,c⟩:=q;simp only at h1 h2 k;subst k h2;simp [ats,psz,List.replicate_append_replicate];omega
  ·rw [bW]
   simp [aw,ats,psz]
 ·rename_i h
  have:L=[]:=List.eq_nil_of_length_eq_zero (by omega);subst this;simp [aw,ats,psz]
theorem fG {L:List Part} {P:List Int} {D:Int} (h:∀ q∈L,q.kind=1->q.signs=[]):∀ q∈ag L P D,q.kind=1->q.signs=[]:=by
 intro q hq hk;unfold ag at hq;rcases List.mem_append.1 hq with hq|hq
 ·exact h q hq hk
 ·rcases List.mem_append.1 hq with hq|hq
  ·split at hq
   ·simp at hq
   ·simp at hq;subst hq;simp at hk
  ·split at hq
   ·simp at hq;subst hq;rfl
   ·simp at hq
theorem lS {L:List Part} {n:Int} (h:∀ q∈L,q.kind=1->q.signs=[]):∀ q∈aK L n,q.kind=1->q.signs=[]:=by
 intro q hq hk;unfold aK at hq
 split at hq
 ·rename_i hl
  split at hq
  ·rename_i k
   rcases List.mem_or_eq_of_mem_set hq with hq|rfl
   ·exact h q hq hk
   ·exact (h (L[L.length - 1]'(by omega)) (List.getElem_mem _) k :)
  ·rcases List.mem_append.1 hq with hq|hq
   ·exact h q hq hk
   ·simp at hq;subst hq;rfl
 ·simp at hq;subst hq;rfl
theorem ky {o:List Part} (ho:∀ p ∈ o,al p):∀ (i:Nat),i <= o.length -> (∀ q ∈ (ao (o.take i)).1,q.kind=1 -> q.signs=[]) /\ 0 <= (ao (o.take i)).2.2 /\ (∀ q ∈ (ao (o.take i)).1,0 <= q.n) /\
 ∀ l,eD (aw (o.take i)++l)=aw (ao (o.take i)).1++nA (ao (o.take i)).2.1 (ao (o.take i)).2.2.toNat l
 |0,_=>by simp [ao,aw,eD]
 | i + 1, hi => by
   obtain ⟨h1,h2,h3,h4⟩:=ky ho i (by omega);have hlt:i<o.length:=by omega
   have hq:=(eE ho (i+1) hi);have hp:=(ho _ (List.getElem_mem hlt));have hb:=hp.bounds;refine ⟨?_,hq.d0,λq hq'=>(hq.q q hq').1,λl=>?_⟩
   ·rw [cd hlt]
    unfold br
    split
    ·exact h1
    ·split
     ·exact h1
     ·split
      ·exact lS (fG h1)
      ·exact h1
   ·rw [<- List.take_append_getElem hlt,bW,List.append_assoc,h4,List.take_append_getElem hlt,cd hlt]
    generalize ao (o.take i)=s at h1 h2 h3;generalize o[i]=p at hp hb;obtain ⟨L,P,D⟩:=s;simp only at h1 h2 h3;simp only [aw,List.append_nil];unfold br;by_cases k2:p.kind=2
    ·simp only [k2,if_true]
     rw [show ats p=p.signs.map At.p by unfold ats;rw [if_pos k2],mN]
    ·by_cases k3:p.kind=3
     ·have hs:=hb.2.2.2.2.2 k2
      have e:(D+p.n).toNat=D.toNat+p.n.toNat:=by omega
      simp only [k3,if_true];rw [show ats p=List.replicate (psz p) .d by unfold ats;rw [if_neg k2,if_pos k3],mQ];simp [e,psz,hs]
     ·have k1:p.kind=1:=by omega
      have hs:=hb.2.2.2.2.2 k2;have e:ats p=List.replicate p.n.toNat .k:=by unfold ats;rw [if_neg k2,if_neg k3];simp [psz,hs]
      simp only [k2,k3,if_false];rw [e]
      split
      ·rename_i hn
       have hfl:∀ q∈ag L P D,0<=q.n:=by
        intro q hq';unfold ag at hq';rcases List.mem_append.1 hq' with hq' | hq'
        ·exact h3 q hq'
        ·rcases List.mem_append.1 hq' with hq' | hq'
         ·split at hq'
          ·simp at hq'
          ·simp at hq';subst hq';simp
         ·split at hq'
          ·simp at hq';subst hq';simp;omega
          ·simp at hq'
       simp only;rw [r6 hn hfl (fG h1),kW];obtain ⟨m,hm⟩:∃ m,p.n.toNat=m+1:=⟨p.n.toNat - 1,by omega⟩;rw [hm];simp [bA,List.replicate_succ,nA,s5,List.append_assoc]
      ·have:p.n.toNat=0:=by omega
       simp [this]
theorem d6 {o:List Part} (ho:∀ p∈o,al p):aw (normal o)=eD (aw o):=by
 have h:=(ky ho o.length (Nat.le_refl _)).2.2.2 [];rw [List.take_length,List.append_nil] at h;unfold normal;rw [kW,h];unfold bA;simp [nA]
theorem pF (l:List At):frA (eD l)=frA l:=by unfold eD;rw [mP];omega
theorem pE (l:List At):toA (eD l)=toA l:=by unfold eD;rw [mM];simp
structure Shp (q:Part):Prop where
 k:q.kind=1\/q.kind=2\/q.kind=3
 n:0<=q.n
 put:q.kind=2->q.n=0/\bk q.signs
 run:q.kind≠2->q.signs=[]
 pos:0<psz q
theorem iF {L:List Part} {P:List Int} {D:Int} (hL:∀ q∈L,Shp q) (hP:bk P):∀ q∈ag L P D,Shp q:=by
 intro q hq;unfold ag at hq;rcases List.mem_append.1 hq with hq|hq
 ·exact hL q hq
 ·rcases List.mem_append.1 hq with hq|hq
  ·split at hq
   ·simp at hq
   ·rename_i h
    simp at hq;subst hq;have:0<P.length:=List.length_pos_iff.2 h;exact ⟨.inr (.inl rfl),by simp,λ_=>⟨rfl,hP⟩,λh=>absurd rfl h,by simpa [psz] using this⟩
  ·split at hq
   ·rename_i h
    simp at hq;subst hq;exact ⟨.inr (.inr rfl),by simp only;omega,λh=>by simp at h,λ_=>rfl,by simp [psz];omega⟩
   ·simp at hq
theorem pb {L:List Part} {n:Int} (hL:∀ q∈L,Shp q) (hn:0<n):∀ q∈aK L n,Shp q:=by
 intro q hq;have one:Shp ⟨1,n,[]⟩:=⟨.inl rfl,by simp only;omega,λh=>by simp at h,λ_=>rfl,by simp [psz];omega⟩;unfold aK at hq
 split at hq
 ·rename_i hl
  split at hq
  ·rename_i k
   rcases List.mem_or_eq_of_mem_set hq with hq|rfl
   ·exact hL q hq
   ·have h:=hL (L[L.length - 1]'(by omega)) (List.getElem_mem _)
    have h1:=h.n;have h2:=h.run (by omega);exact ⟨.inl rfl,by simp only;omega,λh=>by simp at h,λ_=>h2,by simp [psz];omega⟩
  ·rcases List.mem_append.1 hq with hq|hq
   ·exact hL q hq
   ·simp at hq;subst hq;exact one
 ·simp at hq;subst hq;exact one
theorem iR {o:List Part} (ho:∀ p∈o,al p):∀ (i:Nat),i<=o.length->(∀ q∈(ao (o.take i)).1,Shp q)/\bk (ao (o.take i)).2.1
 |0,_=>by simp [ao,bk]
 | i + 1, hi => by
   obtain ⟨h1,h2⟩:=iR ho i (by omega);have hlt:i<o.length:=by omega
   have hp:=ho _ (List.getElem_mem hlt);rw [cd hlt];generalize ao (o.take i)=s at h1 h2;generalize o[i]=p at hp;obtain ⟨L,P,D⟩:=s;simp only at h1 h2;unfold br
   split
   ·rename_i k
    rw [cB k] at hp;refine ⟨h1,λn hn=>?_⟩;rcases List.mem_append.1 hn with hn|hn
    ·exact h2 n hn
    ·exact hp.2.2 n hn
   ·split
    ·exact ⟨h1,h2⟩
    ·split
     ·rename_i hn
      exact ⟨pb (iF h1 h2) hn,by simp [bk]⟩
     ·exact ⟨h1,h2⟩
theorem eo {o:List Part} (ho:∀ p∈o,al p):∀ q∈normal o,Shp q:=by
 have h:=iR ho o.length (Nat.le_refl _);rw [List.take_length] at h;exact iF h.1 h.2
theorem mw:∀ {L:List Part},(∀ q∈L,Shp q)->tos L=toA (aw L)
 | [],_=>rfl
 | p :: L, h => by
   have hp:=h p (List.mem_cons_self ..);simp only [tos,aw,bJ,mw (λq hq=>h q (List.mem_cons_of_mem _ hq))]
   congr 1
   unfold ats;by_cases k:p.kind=2
   ·have k3:¬ p.kind=3:=by omega
    have:=(hp.put k).1;rw [if_pos k,if_neg k3,gq];simp [psz,this]
   ·rw [if_neg k]
    split
    ·exact (gr _).symm
    ·exact (lB _).symm
theorem sj {L:List Part} {q:Part} (h:q∈L) (k:q.kind≠2):psz q<=frs L:=by
 induction L with
 |nil=>simp at h
 | cons p L ih =>
   simp only [frs];rcases List.mem_cons.1 h with rfl|h
   ·rw [if_neg k];omega
   ·have:=ih h;omega
theorem rh {L:List Part} {q:Part} (h:q∈L) (k:q.kind≠3):psz q<=tos L:=by
 induction L with
 |nil=>simp at h
 | cons p L ih =>
   simp only [tos];rcases List.mem_cons.1 h with rfl|h
   ·rw [if_neg k];omega
   ·have:=ih h;omega
theorem mv:∀ {L:List Part},(∀ q∈L,Shp q)->L.length<=tsz L
 | [],_=>by simp [tsz]
 | p :: L, h => by
   have:=mv (λq hq=>h q (List.mem_cons_of_mem _ hq));have:=(h p (List.mem_cons_self ..)).pos;simp only [tsz,List.length_cons];omega
theorem ui {L:List Part} (h:∀ q∈L,Shp q) (h1:frs L<=200) (h2:tos L<=200):ba L:=by
 have hl:=mv h;have ht:=oM L;refine ⟨λq hq=>?_,by omega⟩;have hs:=h q hq;have hn:=hs.n;by_cases k:q.kind=2
 ·have h3:=rh hq (by omega)
  have h4:=hs.put k;exact .inr ⟨k,h4.1,by unfold psz at h3;omega,h4.2⟩
 ·have h3:=sj hq k
  have h4:=hs.run k;have hk:=hs.k;exact .inl ⟨by omega,⟨hn,by unfold psz at h3;omega⟩,h4⟩
theorem lG {o:List Part} (h:ba o):(frs o:Int)=bL o:=by
 rw [jK h.1,bK (λp hp=>vu (h.1 p hp)),cy];unfold bL az;rw [if_pos h]
theorem pt {o:List Part} (h:ba o):(tos o:Int)=fZ o:=by
 rw [ji h.1,bK (λp hp=>vr (h.1 p hp)),cy];unfold fZ az;rw [if_pos h]
theorem iQ {o:List Part} (h:bP o):bP (normal o)/\bL (normal o)=bL o/\fZ (normal o)=fZ o:=by
 have hs:=eo h.1.1;have e1:frs (normal o)=frs o:=by rw [lZ,d6 h.1.1,pF,<- lZ]
 have e2:tos (normal o)=tos o:=by rw [mw hs,d6 h.1.1,pE,<- oN h.1.1]
 have f:=qd h;have t:=to h;have hp:=ui hs (by have:=h.2.1;omega) (by have:=h.2.2;omega);have f2:=lG hp;have t2:=pt hp;have:=h.2;exact ⟨⟨hp,by omega,by omega⟩,by omega,by omega⟩
end Go.Proofs.YtmfcmlldnjffeaaDoor
