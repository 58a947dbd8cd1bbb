import Derived.Test.YthckkpphnmmfdaaGreatDoorNA
import Derived.Test.YthckkpphnmmfdaaGreatDoorMF
namespace Go.Proofs.YthckkpphnmmfdaaGreatDoor
open Go.AM
set_option maxRecDepth 20000
theorem bb (n lo hi:Int):ak Tryz.prog 45 [.c (vi n),.c (vi lo),.c (vi hi)] (.one (.c (vb (lo<=n/\n<=hi)) 1)):=by
 refine pci al Tryz.func45 (λw0 base=>?_);by_cases h1:lo<=n<;>by_cases h2:n<=hi<;>simp [h1,h2]
theorem co (n lo hi:Int):ak Tryz.prog 30 [.c (vi n),.c (vi lo),.c (vi hi)] (.one (.c (vb (lo<=n/\n<=hi)) 1)):=by
 refine pci al Tryz.func30 (λw0 base=>?_);by_cases h1:lo<=n<;>by_cases h2:n<=hi<;>simp [h1,h2]
def dK (n:Int):Prop:=(0<=n/\n<=1114111)/\¬ (55296<=n/\n<=57343)
def bn (l:List Int):Prop:=∀ n∈l,dK n
theorem kn (n:Int):ak Tryz.prog 118 [.c (vi n)] (.one (.c (vb (dK n)) 1)):=by
 refine pci al Tryz.func118 (λw0 base=>?_);simp;refine aa.pure (bb n 0 1114111) (by simp) ?_;by_cases h:0<=n/\n<=1114111
 ·simp [h]
  refine aa.pure (bb n 55296 57343) (by simp) ?_;by_cases h2:55296<=n/\n<=57343<;>simp [h2,dK,h]
  try (rw [eq];omega)
 ·have e:dc (0<=n/\n<=1114111)=false:=by rw [bM];exact h
  simp [dK,h]
theorem jZ (n:Int):ak Tryz.prog 99 [.c (vi n)] (.one (.c (vb (dK n)) 1)):=by
 refine pci al Tryz.func99 (λw0 base=>?_);simp;refine aa.pure (co n 0 1114111) (by simp) ?_;by_cases h:0<=n/\n<=1114111
 ·simp [h]
  refine aa.pure (co n 55296 57343) (by simp) ?_;by_cases h2:55296<=n/\n<=57343<;>simp [h2,dK,h]
  try (rw [eq];omega)
 ·have e:dc (0<=n/\n<=1114111)=false:=by rw [bM];exact h
  simp [dK,h]
theorem gP {α:Type} {P:α->Prop} {l:List α} {i:Nat} (h:i<l.length) (ha:∀ a∈l.take i,P a) (hi:P l[i]):∀ a∈l.take (i+1),P a:=by
 rw [<- List.take_append_getElem h];intro a ha';rcases List.mem_append.1 ha' with h1|h1
 ·exact ha a h1
 ·simp at h1;subst h1;exact hi
theorem gR {α:Type} {P:α->Prop} {l:List α} {i:Nat} (h:l.length<=i) (ha:∀ a∈l.take i,P a):∀ a∈l,P a:=by
 rwa [List.take_of_length_le h] at ha
theorem gQ {α:Type} {P:α->Prop} {l:List α} {i:Nat} (h:i<l.length) (hi:¬ P l[i]):¬ ∀ a∈l,P a:=λha=>hi (ha _ (List.getElem_mem h))
theorem du (l:List Int) (hl:l.length<=2 ^ 40):ak Tryz.prog 88 [.c (.s (l.map aJ))] (.one (.c (vb (bn l)) 1)):=by
 refine pci al Tryz.func88 (λw0 base=>?_);simp;refine aQ.intro eok (λi:Nat=>i<=l.length/\∀ n∈l.take i,dK n) (λi=>⟨15,0,[(7,.v (.int .i64 i)),(6,.v (.int .i64 l.length)),(5,.ro (l.map aJ))],[]⟩) (λi=>l.length - i) 0 (by simp) (by simp) (λi hi=>?_);by_cases h:i<l.length
 ·simp [h]
  refine aa.pure (kn l[i]) (by simp) ?_;simp;refine Br.mk (λh1=>?_) (λh1=>?_)
  ·simp
   exact ⟨i+1,⟨by omega,gP h hi.2 (eh h1)⟩,by omega,aA (by omega)⟩
  ·simp [bM]
   exact gQ h (gb h1)
 ·simp [h,eq]
  exact gR (by omega) hi.2
theorem dq (l:List Int) (hl:l.length<=2 ^ 40):ak Tryz.prog 80 [.c (.s (l.map aJ))] (.one (.c (vb (bn l)) 1)):=by
 refine pci al Tryz.func80 (λw0 base=>?_);simp;refine aQ.intro eok (λi:Nat=>i<=l.length/\∀ n∈l.take i,dK n) (λi=>⟨15,0,[(7,.v (.int .i64 i)),(6,.v (.int .i64 l.length)),(5,.ro (l.map aJ))],[]⟩) (λi=>l.length - i) 0 (by simp) (by simp) (λi hi=>?_);by_cases h:i<l.length
 ·simp [h]
  refine aa.pure (jZ l[i]) (by simp) ?_;simp;refine Br.mk (λh1=>?_) (λh1=>?_)
  ·simp
   exact ⟨i+1,⟨by omega,gP h hi.2 (eh h1)⟩,by omega,aA (by omega)⟩
  ·simp [bM]
   exact gQ h (gb h1)
 ·simp [h,eq]
  exact gR (by omega) hi.2
def aq (p:Part):Prop:=((p.kind=1\/p.kind=3)/\(0<=p.n/\p.n<=200)/\p.signs=[])\/(p.kind=2/\p.n=0/\p.signs.length<=200/\bn p.signs)
theorem f8 {p:Part} (h:p.kind=1\/p.kind=3):aq p=((0<=p.n/\p.n<=200)/\p.signs=[]):=by
 have h2:¬ p.kind=2:=by omega
 simp [aq,h,h2]
theorem cX {p:Part} (h:p.kind=2):aq p=(p.n=0/\p.signs.length<=200/\bn p.signs):=by simp [aq,h]
theorem jy {p:Part} (h1:p.kind≠1) (h2:p.kind≠2) (h3:p.kind≠3):¬ aq p:=by simp [aq,h1,h2,h3]
theorem ko (p:Part) (hl:p.signs.length<=2 ^ 40):ak Tryz.prog 114 [.agg p.row] (.one (.c (vb (aq p)) 1)):=by
 refine pci al Tryz.func114 (λw0 base=>?_);simp [Part.row];intros;by_cases h13:p.kind=1\/p.kind=3
 ·rw [f8 h13]
  rcases h13 with h|h
  ·simp [h]
   refine aa.pure (bb p.n 0 200) (by simp) ?_;by_cases hn:0<=p.n/\p.n<=200
   ·simp [hn]
   ·have e:dc (0<=p.n/\p.n<=200)=false:=by rw [bM];exact hn
    simp [hn]
  ·simp [h]
   refine aa.pure (bb p.n 0 200) (by simp) ?_;by_cases hn:0<=p.n/\p.n<=200
   ·simp [hn]
   ·have e:dc (0<=p.n/\p.n<=200)=false:=by rw [bM];exact hn
    simp [hn]
 ·have h1:¬ p.kind=1:=λh=>h13 (.inl h)
  have h3:¬ p.kind=3:=λh=>h13 (.inr h)
  by_cases h2:p.kind=2
  ·rw [cX h2]
   simp [h2];by_cases hn:p.n=0
   ·by_cases hs:p.signs.length<=200
    ·have hs':(p.signs.length:Int)<=200:=by omega
     simp [hn,hs'];refine aa.pure (du p.signs hl) (by simp) ?_;simp [hs]
    ·have hs':¬ (p.signs.length:Int)<=200:=by omega
     simp [hn,hs',hs]
   ·simp [hn]
  ·simp [h1,h2,h3,jy]
theorem j0 (p:Part) (hl:p.signs.length<=2 ^ 40):ak Tryz.prog 111 [.agg p.row] (.one (.c (vb (aq p)) 1)):=by
 refine pci al Tryz.func111 (λw0 base=>?_);simp [Part.row];intros;by_cases h13:p.kind=1\/p.kind=3
 ·rw [f8 h13]
  rcases h13 with h|h
  ·simp [h]
   refine aa.pure (co p.n 0 200) (by simp) ?_;by_cases hn:0<=p.n/\p.n<=200
   ·simp [hn]
   ·have e:dc (0<=p.n/\p.n<=200)=false:=by rw [bM];exact hn
    simp [hn]
  ·simp [h]
   refine aa.pure (co p.n 0 200) (by simp) ?_;by_cases hn:0<=p.n/\p.n<=200
   ·simp [hn]
   ·have e:dc (0<=p.n/\p.n<=200)=false:=by rw [bM];exact hn
    simp [hn]
 ·have h1:¬ p.kind=1:=λh=>h13 (.inl h)
  have h3:¬ p.kind=3:=λh=>h13 (.inr h)
  by_cases h2:p.kind=2
  ·rw [cX h2]
   simp [h2];by_cases hn:p.n=0
   ·simp [hn]
    refine aa.pure (dq p.signs hl) (by simp) ?_;have e:((p.signs.length:Int)<=200)=(p.signs.length<=200):=by simp;omega
    by_cases hg:bn p.signs
    ·simp [hg,e]
    ·simp [hg]
   ·simp [hn]
  ·simp [h1,h2,h3,jy]
def aT (o:List Part):Prop:=(∀ p∈o,aq p)/\o.length<=600
theorem dv (o:List Part) (hl:nL aE o<=2 ^ 40):ak Tryz.prog 82 [.c (.s (o.map Part.row))] (.one (.c (vb (aT o)) 1)):=by
 refine pci al Tryz.func82 (λw0 base=>?_);have hle:=eS hl;simp;refine aQ.intro eok (λi:Nat=>i<=o.length/\∀ p∈o.take i,aq p) (λi=>⟨18,0,[(7,.v (.int .i64 i)),(6,.v (.int .i64 o.length)),(5,.ro (o.map Part.row)),(0,.ro (o.map Part.row))],[]⟩) (λi=>o.length - i) 0 (by simp) (by simp) (λi hi=>?_);by_cases h:i<o.length
 ·simp [h,Part.row]
  intros;refine aa.pure (ko o[i] (nY hl h)) (by simp [Part.row]) ?_;simp;refine Br.mk (λh1=>?_) (λh1=>?_)
  ·simp
   exact ⟨i+1,⟨by omega,gP h hi.2 (eh h1)⟩,by omega,aA (by omega)⟩
  ·simp [bM]
   exact λhp=>gQ h (gb h1) hp.1
 ·have ha:=gR (by omega) hi.2
  simp [h];refine l8 ?_;unfold aT;exact ⟨λh=>by have:=h.2;omega,λh=>⟨ha,by omega⟩⟩
theorem dr (o:List Part) (hl:nL aE o<=2 ^ 40):ak Tryz.prog 75 [.c (.s (o.map Part.row))] (.one (.c (vb (aT o)) 1)):=by
 refine pci al Tryz.func75 (λw0 base=>?_);have hle:=eS hl;simp;refine aQ.intro eok (λi:Nat=>i<=o.length/\∀ p∈o.take i,aq p) (λi=>⟨18,0,[(7,.v (.int .i64 i)),(6,.v (.int .i64 o.length)),(5,.ro (o.map Part.row)),(0,.ro (o.map Part.row))],[]⟩) (λi=>o.length - i) 0 (by simp) (by simp) (λi hi=>?_);by_cases h:i<o.length
 ·simp [h,Part.row]
  intros;refine aa.pure (j0 o[i] (nY hl h)) (by simp [Part.row]) ?_;simp;refine Br.mk (λh1=>?_) (λh1=>?_)
  ·simp
   exact ⟨i+1,⟨by omega,gP h hi.2 (eh h1)⟩,by omega,aA (by omega)⟩
  ·simp [bM]
   exact λhp=>gQ h (gb h1) hp.1
 ·have ha:=gR (by omega) hi.2
  simp [h];refine l8 ?_;unfold aT;exact ⟨λh=>by have:=h.2;omega,λh=>⟨ha,by omega⟩⟩
def bc (f:Part->Int):List Part->Int
 | []=>0
 |p::o=>f p+bc f o
theorem fZ {f:Part->Int}:∀ (a b:List Part),bc f (a++b)=bc f a+bc f b
 | [],b=>by simp [bc]
 |p::a,b=>by simp only [List.cons_append,bc,fZ a b];omega
theorem e9 {f:Part->Int} {o:List Part} {i:Nat} (h:i<o.length):bc f (o.take (i+1))=bc f (o.take i)+f o[i]:=by
 rw [<- List.take_append_getElem h,fZ];simp [bc]
theorem ca {f g:Part->Int}:∀ {o:List Part},(∀ p∈o,f p=g p)->bc f o=bc g o
 | [],_=>rfl
 | p :: o, h => by
   simp only [bc];rw [h p (List.mem_cons_self ..),ca (λq hq=>h q (List.mem_cons_of_mem _ hq))]
theorem cU {f g:Part->Int}:∀ (o:List Part),bc (λp=>f p+g p) o=bc f o+bc g o
 | []=>by simp [bc]
 |p::o=>by simp only [bc,cU o];omega
def fK (p:Part):Int:=if p.kind=1 then p.n else 0
def fP (p:Part):Int:=if p.kind=2 then p.signs.length else 0
def fD (p:Part):Int:=if p.kind=1 then 0 else if p.kind=2 then 0 else p.n
def dR (k:Int) (p:Part):Int:=if p.kind=k then 0 else p.n+p.signs.length
theorem aq.bounds {p:Part} (h:aq p):(p.kind=1\/p.kind=2\/p.kind=3)/\0<=p.n/\p.n<=200/\p.signs.length<=200/\(p.kind=2->p.n=0)/\(p.kind≠2->p.signs=[]):=by
 rcases h with ⟨h1,h2,h3⟩|⟨h1,h2,h3,h4⟩
 ·refine ⟨by omega,by omega,by omega,by simp [h3],by omega,λ_=>h3⟩
 ·refine ⟨by omega,by omega,by omega,h3,λ_=>h2,λh=>absurd h1 h⟩
theorem xJ {p:Part} (h:aq p):dR 2 p=fK p+fD p:=by
 obtain ⟨h1,h2,h3,h4,h5,h6⟩:=h.bounds;unfold dR fK fD;by_cases k2:p.kind=2
 ·simp [k2]
 ·by_cases k1:p.kind=1<;>simp [k1,k2,h6 k2]
theorem xI {p:Part} (h:aq p):dR 3 p=fK p+fP p:=by
 obtain ⟨h1,h2,h3,h4,h5,h6⟩:=h.bounds;unfold dR fK fP;rcases h1 with k|k|k
 ·simp [k,h6 (by omega)]
 ·simp [k,h5 k]
 ·simp [k]
theorem bE {f:Part->Int} {B:Int} (hf:∀ p,aq p->0<=f p/\f p<=B):∀ {o:List Part},(∀ p∈o,aq p)->0<=bc f o/\bc f o<=B*o.length
 | [],_=>by simp [bc]
 | p :: o, h => by
   have h1:=hf p (h p (List.mem_cons_self ..));have h2:=bE hf (o:=o) (λq hq=>h q (List.mem_cons_of_mem _ hq));simp only [bc,List.length_cons];rw [show B*((o.length+1:Nat):Int)=B*o.length+B by rw [Int.natCast_add];simp [Int.mul_add]];omega
theorem As {p:Part} (h:aq p):0<=fK p/\fK p<=200:=by have:=h.bounds;unfold fK;split<;>omega
theorem Ar {p:Part} (h:aq p):0<=fP p/\fP p<=200:=by have:=h.bounds;unfold fP;split<;>omega
theorem Au {p:Part} (h:aq p):0<=fD p/\fD p<=200:=by have:=h.bounds;unfold fD;split<;>(try split)<;>omega
theorem xB {k:Int} {p:Part} (h:aq p):0<=dR k p/\dR k p<=400:=by have:=h.bounds;unfold dR;split<;>omega
theorem gJ {o:List Part} (h:∀ p∈o,aq p) (i:Nat):∀ p∈o.take i,aq p:=λp hp=>h p (List.mem_of_mem_take hp)
theorem wu (p:Part) (hp:aq p):ak Tryz.prog 158 [.agg p.row] (.one (.c (vi (p.n+p.signs.length)) 1)):=by
 refine pci al Tryz.func158 (λw0 base=>?_);have:=hp.bounds;have e:Go.IntKind.i64.wrap (p.n+(p.signs.length:Int))=p.n+p.signs.length:=Go.IntWalk.i64_in _ (by omega);simp [Part.row,e]
open Classical in
noncomputable def sizeOf (o:List Part) (k:Int):Int:=if aT o then bc (dR k) o else 0
theorem fl (o:List Part) (hl:nL aE o<=2 ^ 40) (k:Int):ak Tryz.prog 117 [.c (.s (o.map Part.row)),.c (vi k)] (.one (.c (vi (sizeOf o k)) 1)):=by
 refine pci al Tryz.func117 (λw0 base=>?_);have hle:=eS hl;simp;refine aa.pure (dv o hl) (by simp) ?_;by_cases ho:aT o
 ·have hr:sizeOf o k=bc (dR k) o:=by unfold sizeOf;rw [if_pos ho]
  simp [ho,hr];refine aQ.intro eok (λi:Nat=>i<=o.length) (λi=>⟨27,0,[(13,.v (.int .i64 i)),(12,.v (.int .i64 o.length)),(11,.ro (o.map Part.row)),(5,.v (.int .i64 (bc (dR k) (o.take i)))),(1,.v (.int .i64 k))],[]⟩) (λi=>o.length - i) 0 (by simp) (by simp [bc]) (λi hi=>?_);by_cases h:i<o.length
  ·have hp:=ho.1 _ (List.getElem_mem h)
   have hb:=bE (f:=dR k) (λp h=>xB h) (gJ ho.1 i);have hb2:=hp.bounds;have hlen:=ho.2;have hlt:(o.take i).length<=600:=by simp;omega
   have hs:=e9 (f:=dR k) h;obtain ⟨q,hq⟩:∃ q,bc (dR k) (o.take i)=q:=⟨_,rfl⟩;have e:Go.IntKind.i64.wrap ((i:Int)+1)=((i+1:Nat):Int):=aA (by omega);rw [hq] at hs hb;simp [h,Part.row,hq];intros;by_cases hk:o[i].kind=k
   ·simp [hk]
    refine ⟨i+1,by omega,by omega,e,?_⟩;rw [hs];simp [dR,hk]
   ·simp [hk]
    refine aa.pure (wu o[i] hp) (by simp [Part.row]) ?_;have e2:Go.IntKind.i64.wrap (q+(o[i].n+(o[i].signs.length:Int)))=q+(o[i].n+o[i].signs.length):=Go.IntWalk.i64_in _ (by omega);simp [e2];refine ⟨i+1,by omega,by omega,e,?_⟩;rw [hs];simp [dR,hk]
  ·simp [h]
   rw [List.take_of_length_le (by omega)]
 ·have e:dc (aT o)=false:=by rw [bM];exact ho
  have hr:sizeOf o k=0:=by unfold sizeOf;rw [if_neg ho]
  simp [e,hr]
open Classical in
noncomputable def aK (o:List Part):Int×Int×Int:=if aT o then (bc fK o,bc fP o,bc fD o) else (0,0,0)
theorem lM (o:List Part) (hl:nL aE o<=2 ^ 40):ak Tryz.prog 112 [.c (.s (o.map Part.row))] (.tup [.c (vi (aK o).1) 1,.c (vi (aK o).2.1) 1,.c (vi (aK o).2.2) 1]):=by
 refine pci al Tryz.func112 (λw0 base=>?_);have hle:=eS hl;simp;refine aa.pure (dr o hl) (by simp) ?_;by_cases ho:aT o
 ·have hr:aK o=(bc fK o,bc fP o,bc fD o):=by unfold aK;rw [if_pos ho]
  simp [ho,hr];refine aQ.intro eok (λi:Nat=>i<=o.length) (λi=>⟨42,0,[(15,.v (.int .i64 i)),(14,.v (.int .i64 o.length)),(13,.ro (o.map Part.row)),(5,.v (.int .i64 (bc fK (o.take i)))),(6,.v (.int .i64 (bc fP (o.take i)))),(7,.v (.int .i64 (bc fD (o.take i))))],[]⟩) (λi=>o.length - i) 0 (by simp) (by simp [bc]) (λi hi=>?_);by_cases h:i<o.length
  ·have hp:=ho.1 _ (List.getElem_mem h)
   have hb1:=bE (f:=fK) (λp h=>As h) (gJ ho.1 i);have hb2:=bE (f:=fP) (λp h=>Ar h) (gJ ho.1 i);have hb3:=bE (f:=fD) (λp h=>Au h) (gJ ho.1 i);have hpb:=hp.bounds;have hlen:=ho.2;have hlt:(o.take i).length<=600:=by simp;omega
   have hs1:=e9 (f:=fK) h;have hs2:=e9 (f:=fP) h;have hs3:=e9 (f:=fD) h;obtain ⟨q1,hq1⟩:∃ q,bc fK (o.take i)=q:=⟨_,rfl⟩;obtain ⟨q2,hq2⟩:∃ q,bc fP (o.take i)=q:=⟨_,rfl⟩;obtain ⟨q3,hq3⟩:∃ q,bc fD (o.take i)=q:=⟨_,rfl⟩;have e:Go.IntKind.i64.wrap ((i:Int)+1)=((i+1:Nat):Int):=aA (by omega);rw [hq1] at hs1 hb1;rw [hq2] at hs2 hb2;rw [hq3] at hs3 hb3;simp [h,Part.row,hq1,hq2,hq3];intros;have e1:Go.IntKind.i64.wrap (q1+o[i].n)=q1+o[i].n:=Go.IntWalk.i64_in _ (by omega);have e2:Go.IntKind.i64.wrap (q2+(o[i].signs.length:Int))=q2+o[i].signs.length:=Go.IntWalk.i64_in _ (by omega);have e3:Go.IntKind.i64.wrap (q3+o[i].n)=q3+o[i].n:=Go.IntWalk.i64_in _ (by omega);by_cases k1:o[i].kind=1
   ·simp [k1,e1]
    refine ⟨i+1,by omega,by omega,e,?_,?_,?_⟩
    ·rw [hs1];simp [fK,k1]
    ·rw [hs2];simp [fP,k1]
    ·rw [hs3];simp [fD,k1]
   ·by_cases k2:o[i].kind=2
    ·simp [k2,e2]
     refine ⟨i+1,by omega,by omega,e,?_,?_,?_⟩
     ·rw [hs1];simp [fK,k2]
     ·rw [hs2];simp [fP,k2]
     ·rw [hs3];simp [fD,k2]
    ·simp [k1,k2,e3]
     refine ⟨i+1,by omega,by omega,e,?_,?_,?_⟩
     ·rw [hs1];simp [fK,k1]
     ·rw [hs2];simp [fP,k2]
     ·rw [hs3];simp [fD,k1,k2]
  ·simp [h]
   rw [List.take_of_length_le (by omega)];simp
 ·have e:dc (aT o)=false:=by rw [bM];exact ho
  have hr:aK o=(0,0,0):=by unfold aK;rw [if_neg ho]
  simp [e,hr]
noncomputable def cb (o:List Part):Int:=(aK o).1+(aK o).2.2
noncomputable def gC (o:List Part):Int:=(aK o).1+(aK o).2.1
theorem lB (o:List Part):sizeOf o 2=cb o:=by
 unfold sizeOf cb aK
 split
 ·rename_i h
  show _=bc fK o+bc fD o
  rw [<- cU];exact ca (λp hp=>xJ (h.1 p hp))
 ·rfl
theorem oR (o:List Part):sizeOf o 3=gC o:=by
 unfold sizeOf gC aK
 split
 ·rename_i h
  show _=bc fK o+bc fP o
  rw [<- cU];exact ca (λp hp=>xI (h.1 p hp))
 ·rfl
theorem lN (o:List Part):(0<=(aK o).1/\(aK o).1<=120000)/\(0<=(aK o).2.1/\(aK o).2.1<=120000)/\0<=(aK o).2.2/\(aK o).2.2<=120000:=by
 unfold aK
 split
 ·rename_i h
  have h1:=bE (f:=fK) (λp h=>As h) h.1;have h2:=bE (f:=fP) (λp h=>Ar h) h.1;have h3:=bE (f:=fD) (λp h=>Au h) h.1;have h4:=h.2;simp only;omega
 ·simp
theorem ku (o:List Part) (hl:nL aE o<=2 ^ 40):ak Tryz.prog 86 [.c (.s (o.map Part.row))] (.one (.c (vi (cb o)) 1)):=by
 refine pci al Tryz.func86 (λw0 base=>?_);simp;refine aa.pure (fl o hl 2) (by simp) ?_;simp [lB]
theorem m4 (o:List Part) (hl:nL aE o<=2 ^ 40):ak Tryz.prog 87 [.c (.s (o.map Part.row))] (.one (.c (vi (gC o)) 1)):=by
 refine pci al Tryz.func87 (λw0 base=>?_);simp;refine aa.pure (fl o hl 3) (by simp) ?_;simp [oR]
theorem j4 (o:List Part) (hl:nL aE o<=2 ^ 40):ak Tryz.prog 77 [.c (.s (o.map Part.row))] (.one (.c (vi (cb o)) 1)):=by
 refine pci al Tryz.func77 (λw0 base=>?_);simp;refine aa.pure (lM o hl) (by simp) ?_;have:=lN o;have e:Go.IntKind.i64.wrap ((aK o).1+(aK o).2.2)=cb o:=Go.IntWalk.i64_in _ (by omega);simp [e]
theorem mA (o:List Part) (hl:nL aE o<=2 ^ 40):ak Tryz.prog 78 [.c (.s (o.map Part.row))] (.one (.c (vi (gC o)) 1)):=by
 refine pci al Tryz.func78 (λw0 base=>?_);simp;refine aa.pure (lM o hl) (by simp) ?_;have:=lN o;have e:Go.IntKind.i64.wrap ((aK o).1+(aK o).2.1)=gC o:=Go.IntWalk.i64_in _ (by omega);simp [e]
def cg (o:List Part):Prop:=aT o/\cb o<=200/\gC o<=200
theorem eU (o:List Part) (hl:nL aE o<=2 ^ 40):ak Tryz.prog 42 [.c (.s (o.map Part.row))] (.one (.c (vb (cg o)) 1)):=by
 refine pci al Tryz.func42 (λw0 base=>?_);simp;refine aa.pure (dv o hl) (by simp) ?_;by_cases h:aT o
 ·simp [h]
  refine aa.pure (ku o hl) (by simp) ?_;by_cases h1:cb o<=200
  ·simp [h1]
   refine aa.pure (m4 o hl) (by simp) ?_;simp [cg,h,h1]
  ·simp [h1,cg,h]
 ·simp [h,cg]
theorem eO (o:List Part) (hl:nL aE o<=2 ^ 40):ak Tryz.prog 29 [.c (.s (o.map Part.row))] (.one (.c (vb (cg o)) 1)):=by
 refine pci al Tryz.func29 (λw0 base=>?_);simp;refine aa.pure (dr o hl) (by simp) ?_;by_cases h:aT o
 ·simp [h]
  refine aa.pure (j4 o hl) (by simp) ?_;by_cases h1:cb o<=200
  ·simp [h1]
   refine aa.pure (mA o hl) (by simp) ?_;simp [cg,h,h1]
  ·simp [h1,cg,h]
 ·simp [h,cg]
def ao (L:List Part) (P:List Int) (D:Int):List Part:=L++((if P=[] then [] else [⟨2,0,P⟩])++(if 0<D then [⟨3,D,[]⟩] else []))
def aZ (L:List Part) (n:Int):List Part:=
 if h:0<L.length then
  if (L[L.length - 1]'(by omega)).kind=1 then L.set (L.length - 1) ⟨1,(L[L.length - 1]'(by omega)).n+n,(L[L.length - 1]'(by omega)).signs⟩ else L++[⟨1,n,[]⟩]
 else [⟨1,n,[]⟩]
def bJ (s:List Part×List Int×Int) (p:Part):List Part×List Int×Int:=
 if p.kind=2 then (s.1,s.2.1++p.signs,s.2.2)
 else if p.kind=3 then (s.1,s.2.1,s.2.2+p.n)
 else if 0<p.n then (aZ (ao s.1 s.2.1 s.2.2) p.n,[],0) else s
def az (o:List Part):List Part×List Int×Int:=o.foldl bJ ([],[],0)
def normal (o:List Part):List Part:=ao (az o).1 (az o).2.1 (az o).2.2
theorem cC {o:List Part} {i:Nat} (h:i<o.length):az (o.take (i+1))=bJ (az (o.take i)) o[i]:=by
 unfold az;rw [<- List.take_append_getElem h,List.foldl_append];rfl
structure NbOk (m:Nat) (s:List Part×List Int×Int):Prop where
 l:s.1.length<=3*m
 p:s.2.1.length<=200*m
 d0:0<=s.2.2
 d:s.2.2<=200*m
 q:∀ q∈s.1,0<=q.n/\q.n<=200*m
theorem ei (L:List Part) (P:List Int) (D:Int):(ao L P D).length<=L.length+2:=by
 unfold ao
 split<;>split<;>simp
theorem fO {L:List Part} {P:List Int} {D B:Int} (h0:0<=D) (hD:D<=B) (hL:∀ q∈L,0<=q.n/\q.n<=B):∀ q∈ao L P D,0<=q.n/\q.n<=B:=by
 intro q hq;unfold ao at hq;simp only [List.mem_append] at hq;rcases hq with hq|hq|hq
 ·exact hL q hq
 ·split at hq
  ·simp at hq
  ·simp at hq;subst hq;simp;omega
 ·split at hq
  ·simp at hq;subst hq;simp;omega
  ·simp at hq
theorem ff {o:List Part} (ho:∀ p∈o,aq p):∀ (i:Nat),i<=o.length->NbOk i (az (o.take i))
 | 0, _ => by
   simp [az];exact ⟨by simp,by simp,by simp,by simp,by simp⟩
 | i + 1, hi => by
   have ih:=ff ho i (by omega);have hlt:i<o.length:=by omega
   rw [cC hlt];have hp:=(ho _ (List.getElem_mem hlt)).bounds;generalize az (o.take i)=s at ih;generalize o[i]=p at hp;obtain ⟨L,P,D⟩:=s;obtain ⟨h1,h2,h3,h4,h5⟩:=ih;simp only at h1 h2 h3 h4 h5;have w:∀ q∈L,0<=q.n/\q.n<=200*((i+1:Nat):Int):=λq hq=>by have:=h5 q hq;omega
   unfold bJ
   split
   ·exact ⟨by simp;omega,by simp;omega,h3,by simp;omega,w⟩
   ·split
    ·exact ⟨by simp;omega,by simp;omega,by simp;omega,by simp;omega,w⟩
    ·split
     ·have f1:=ei L P D
      have f2:=fO (P:=P) h3 h4 h5;refine ⟨?_,by simp,by simp,by simp;omega,?_⟩
      ·simp only [aZ]
       split
       ·split<;>simp<;>omega
       ·simp;omega
      ·simp only [aZ]
       intro q hq
       split at hq
       ·split at hq
        ·rcases List.mem_or_eq_of_mem_set hq with hq|rfl
         ·have:=f2 q hq;omega
         ·have:=f2 _ (List.getElem_mem (show (ao L P D).length - 1<(ao L P D).length by omega))
          simp only;omega
        ·rcases List.mem_append.1 hq with hq|hq
         ·have:=f2 q hq;omega
         ·simp at hq;subst hq;simp;omega
       ·simp at hq;subst hq;simp;omega
     ·exact ⟨by simp;omega,by simp;omega,h3,by simp;omega,w⟩
theorem r3 {L:List Part} {P:List Int} {D:Int} (hP:¬ P=[]) (hD:0<D):ao L P D=L++[⟨2,0,P⟩]++[⟨3,D,[]⟩]:=by simp [ao,hP,hD]
theorem r2 {L:List Part} {P:List Int} {D:Int} (hP:¬ P=[]) (hD:¬ 0<D):ao L P D=L++[⟨2,0,P⟩]:=by simp [ao,hP,hD]
theorem r1 {L:List Part} {P:List Int} {D:Int} (hP:P=[]) (hD:0<D):ao L P D=L++[⟨3,D,[]⟩]:=by simp [ao,hP,hD]
theorem rZ {L:List Part} {P:List Int} {D:Int} (hP:P=[]) (hD:¬ 0<D):ao L P D=L:=by simp [ao,hP,hD]
theorem el {w0:World} {bF bG:Nat->Prop} {bl:Bool} {st:ASt} {dst:Option Nat} {K:ASt->Prop} {L:List Part} {P:List Int} {D:Int} {b3 b4 b5:Nat} {Hl Hp:Hd} (hL:L.length<=2 ^ 20) (_hP:P.length<=2 ^ 40)
 (g48:st.h.get 48=.vars b3 28 [.sl 5000 Hl 3 0 L.length]) (g64:st.h.get 64=.vars b4 23 [.sl 5001 Hp 1 0 P.length]) (g80:st.h.get 80=.vars b5 3 [.v (.int .i64 D)])
 (g5000:st.h.get 5000=.rows Hl 3 (L.map Part.row) true) (g5001:st.h.get 5001=.rows Hp 1 (P.map aJ) true)
 (hK:∀ Hl' h',AH.get h' 48=.vars b3 28 [.sl 5000 Hl' 3 0 (ao L P D).length] -> AH.get h' 5000=.rows Hl' 3 ((ao L P D).map Part.row) true -> AH.get h' 64=.vars b4 23 [.nil] -> AH.get h' 80=.vars b5 3 [.v (.int .i64 0)] ->
  AH.get h' 128=st.h.get 128->au ⟨st.n,st.kb,st.t,h'⟩ dst (.tup []) K):aa ⟨Tryz.prog,tt,w0,⟨bF,bG,bl,λ_=>True⟩⟩ 208 [.p 64 b4 0,.p 48 b3 0,.p 80 b5 0] st dst K:=by
 refine inl al Tryz.func208 20000 (λw1 F=>?_);simp [g64];by_cases hp:P=[]
 ·have hp0:¬ 0<P.length:=by simp [hp]
  simp [hp0,g80];by_cases hd:0<D
  ·simp [hd,g48,g5000,g80,g64]
   intro b;refine ⟨by omega,λH=>hK H _ ?_ ?_ ?_ ?_ ?_⟩<;>simp [r1 hp hd,Part.row]
  ·simp [hd,g80,g64]
   refine hK Hl _ ?_ ?_ ?_ ?_ ?_<;>simp [rZ hp hd,g48,g5000]
 ·have hp0:0<P.length:=List.length_pos_iff.2 hp
  simp [hp0,g80,g48,g5000,g5001,g64];intro b;refine ⟨by omega,λH=>?_⟩;by_cases hd:0<D
  ·simp [hd,g80,g64]
   intro b2;refine ⟨by omega,λH2=>hK H2 _ ?_ ?_ ?_ ?_ ?_⟩<;>simp [r3 hp hd,Part.row]
  ·simp [hd,g80,g64]
   refine hK H _ ?_ ?_ ?_ ?_ ?_<;>simp [r2 hp hd,Part.row]
theorem hZ {F:List Part} {m:Nat} (h:m<F.length) {g:List CD->List CD} {p:Part} (hg:g F[m].row=p.row):(F.map Part.row).modify m g=(F.set m p).map Part.row:=by
 apply List.ext_getElem?
 intro j;rw [List.getElem?_modify];simp only [List.getElem?_map,List.getElem?_set];by_cases hj:m=j
 ·subst hj
  simp [h,hg]
 ·simp [hj]
theorem rh (o:List Part) (ho:∀ p∈o,aq p) (hl:o.length<=10000):ak Tryz.prog 166 [.c (.s (o.map Part.row))] (.one (.c (.s ((normal o).map Part.row)) 3)):=by
 refine pci al Tryz.func166 (λw0 base=>?_);simp;intro b3 b4 b5
 refine bk eok (λx:Nat×Hd×Hd=>x.1<=o.length) (λx=>⟨73,0,[(13,.v (.int .i64 x.1)),(12,.v (.int .i64 o.length)),(11,.ro (o.map Part.row)),(3,.p 48 b3 0),(4,.p 64 b4 0),(5,.p 80 b5 0),(6,.clo 208 [.p 64 b4 0,.p 48 b3 0,.p 80 b5 0])],
  [(48, .vars b3 28 [.sl 5000 x.2.1 3 0 (az (o.take x.1)).1.length]), (64, .vars b4 23 [.sl 5001 x.2.2 1 0 (az (o.take x.1)).2.1.length]), (80, .vars b5 3 [.v (.int .i64 (az (o.take x.1)).2.2)]),
   (5000,.rows x.2.1 3 ((az (o.take x.1)).1.map Part.row) true),(5001,.rows x.2.2 1 ((az (o.take x.1)).2.1.map aJ) true)]⟩) (λx=>o.length - x.1) (0,none,none) (by simp) (by simp [az]) (λx hx=>Ent.refl ?_)
 obtain ⟨i,Hl,Hp⟩:=x;simp only at hx ⊢;have hok:=ff ho i hx;by_cases h:i<o.length
 ·have hs:=cC h
  have hpb:=(ho _ (List.getElem_mem h)).bounds;generalize az (o.take i)=s at hok hs;obtain ⟨L,P,D⟩:=s;obtain ⟨k1,k2,k3,k4,k5⟩:=hok;simp only at k1 k2 k3 k4 k5;have e:Go.IntKind.i64.wrap ((i:Int)+1)=((i+1:Nat):Int):=aA (by omega);simp [h,Part.row];intro b8;by_cases c2:o[i].kind=2
  ·simp [c2]
   refine ⟨by omega,λH=>?_⟩;refine Ent.refl ⟨i+1,by omega,by omega,Hl,H,?_⟩;rw [hs];simp [bJ,c2,e]
  ·by_cases c3:o[i].kind=3
   ·have e3:Go.IntKind.i64.wrap (D+o[i].n)=D+o[i].n:=Go.IntWalk.i64_in _ (by omega)
    simp [c3,e3];refine Ent.refl ⟨i+1,by omega,by omega,Hl,Hp,?_⟩;rw [hs];simp [bJ,c3,e]
   ·by_cases cn:0<o[i].n
    ·simp [c2,c3,cn]
     refine el (L:=L) (P:=P) (D:=D) (Hl:=Hl) (Hp:=Hp) (by omega) (by omega) (by simp) (by simp) (by simp) (by simp) (by simp) (λHl' h' g48 g5000 g64 g80 g128=>?_);have f1:=ei L P D;have f2:=fO (P:=P) k3 k4 k5;have hstep:bJ (L,P,D) o[i]=(aZ (ao L P D) o[i].n,[],0):=by simp [bJ,c2,c3,cn]
     rw [hstep] at hs;generalize ao L P D=F at f1 f2 g48 g5000 hs;simp at g128;by_cases hF:0<F.length
     ·obtain ⟨m,hm⟩:∃ m,F.length=m+1:=⟨F.length - 1,by omega⟩
      have hmlt:m<F.length:=by omega
      have em:Go.IntKind.i64.wrap (m:Int)=m:=kz (by omega)
      have hk:aZ F o[i].n=if F[m].kind=1 then F.set m ⟨1,F[m].n+o[i].n,F[m].signs⟩ else F++[⟨1,o[i].n,[]⟩]:=by
       have e0:F.length - 1=m:=by omega
       simp [aZ,hF,e0]
      have hq:=f2 _ (List.getElem_mem hmlt);simp [g48,g5000,hm,em,Part.row];by_cases ck:F[m].kind=1
      ·rw [if_pos ck] at hk
       have em2:Go.IntKind.i64.wrap (F[m].n+o[i].n)=F[m].n+o[i].n:=Go.IntWalk.i64_in _ (by omega);have hmm:(m:Int)<m+1:=by omega
       simp [ck,hmm];refine drw eok mix [0,1,2,3,4,5,6,7,8,9,10] [11] (.c 11 11 2045 2 (.l 11 2) .s) ?_;simp [g48,g5000,g128,hm,em,Part.row,ck,em2,hmm];refine Ent.kill 5001 (Ent.refl ⟨i+1,by omega,by omega,Hl',none,?_⟩);rw [hs,hk];have hmod:=hZ (F:=F) (m:=m) hmlt (g:=λrow=>bN row 1 [CD.v (Value.int IntKind.i64 (F[m].n+o[i].n))]) (p:=⟨1,F[m].n+o[i].n,F[m].signs⟩) (by simp [Part.row,ck]);simp [e,g48,g64,g80,hm,hmod]
      ·rw [if_neg ck] at hk
       simp [ck,g48,g5000,g128,hm];refine ⟨by omega,λb=>⟨by omega,λH=>?_⟩⟩;refine Ent.kill 5001 (Ent.refl ⟨i+1,by omega,by omega,H,none,?_⟩);rw [hs,hk];simp [e,Part.row,g64,g80,hm]
     ·have hF0:F=[]:=List.eq_nil_of_length_eq_zero (by omega)
      subst hF0;have hk:aZ [] o[i].n=[⟨1,o[i].n,[]⟩]:=by simp [aZ]
      simp [g48,g5000,g128];intro b H;refine Ent.kill 5001 (Ent.refl ⟨i+1,by omega,by omega,H,none,?_⟩);rw [hs,hk];simp [e,Part.row,g64,g80]
    ·simp [c2,c3,cn]
     refine Ent.refl ⟨i+1,by omega,by omega,Hl,Hp,?_⟩;rw [hs];simp [bJ,c2,c3,cn,e]
 ·have he:o.take i=o:=List.take_of_length_le (by omega)
  rw [he] at hok ⊢;have hn:normal o=ao (az o).1 (az o).2.1 (az o).2.2:=rfl;rw [hn];generalize az o=s at hok;obtain ⟨L,P,D⟩:=s;obtain ⟨k1,k2,k3,k4,k5⟩:=hok;simp only at k1 k2 k3 k4 k5;simp [h];refine el (L:=L) (P:=P) (D:=D) (Hl:=Hl) (Hp:=Hp) (by omega) (by omega) (by simp) (by simp) (by simp) (by simp) (by simp) (λHl' h' g48 g5000 g64 g80 g128=>?_);simp [g48,g5000]
theorem ec {w0:World} {bF bG:Nat->Prop} {bl:Bool} {st:ASt} {dst:Option Nat} {K:ASt->Prop} {L:List Part} {P:List Int} {D:Int} {b:Nat} {Hl Hp:Hd} (hL:L.length<=2 ^ 20) (_hP:P.length<=2 ^ 40)
 (g160:st.h.get 160=.vars b 177 [.sl 5000 Hl 3 0 L.length,.sl 5001 Hp 1 0 P.length,.v (.int .i64 D)])
 (g5000:st.h.get 5000=.rows Hl 3 (L.map Part.row) true) (g5001:st.h.get 5001=.rows Hp 1 (P.map aJ) true)
 (hK:∀ Hl' h',AH.get h' 160=.vars b 177 [.sl 5000 Hl' 3 0 (ao L P D).length,.nil,.v (.int .i64 0)] -> AH.get h' 5000=.rows Hl' 3 ((ao L P D).map Part.row) true ->
  AH.get h' 80=st.h.get 80->au ⟨st.n,st.kb,st.t,h'⟩ dst (.tup []) K):aa ⟨Tryz.prog,tt,w0,⟨bF,bG,bl,λ_=>True⟩⟩ 197 [.p 160 b 0] st dst K:=by
 refine inl al Tryz.func197 20000 (λw1 F=>?_);simp [g160];by_cases hp:P=[]
 ·have hp0:¬ 0<P.length:=by simp [hp]
  simp [hp0,g160];by_cases hd:0<D
  ·simp [hd]
   refine drw eok mix [0,1,2,3,4,5,6,7,8,9,12,13] [10,11,14] (.c 12 10 4 4091 (.c 12 11 128 3963 (.c 12 14 3961 2 (.l 12 2) .s) .s) .s) ?_;simp [g160,g5000];intro b1;refine ⟨by omega,λH=>hK H _ ?_ ?_ ?_⟩<;>simp [r1 hp hd,Part.row]
  ·simp [hd,g160]
   refine hK Hl _ ?_ ?_ ?_<;>simp [rZ hp hd,g5000]
 ·have hp0:0<P.length:=List.length_pos_iff.2 hp
  simp [hp0];refine drw eok mix [0,1,2,3,4,5,6,7,8,9,12,13] [10,11,14] (.c 12 10 4 4091 (.c 12 11 128 3963 (.c 12 14 3961 2 (.l 12 2) .s) .s) .s) ?_;simp [g160,g5000,g5001];intro b1;refine ⟨by omega,λH=>?_⟩;by_cases hd:0<D
  ·simp [hd]
   refine drw eok mix [0,1,2,3,4,5,6,7,8,9,12,13] [10,11,14] (.c 12 10 4 4091 (.c 12 11 128 3963 (.c 12 14 3961 2 (.l 12 2) .s) .s) .s) ?_;simp;intro b2;refine ⟨by omega,λH2=>hK H2 _ ?_ ?_ ?_⟩<;>simp [r3 hp hd,Part.row]
  ·simp [hd]
   refine hK H _ ?_ ?_ ?_<;>simp [r2 hp hd,Part.row]
theorem iS {w0:World} {bF bG:Nat->Prop} {bl:Bool} {st:ASt} {dst:Option Nat} {K:ASt->Prop} {L:List Part} {P:List Int} {D n:Int} {b:Nat} {Hl Hp:Hd} (hL:L.length<=2 ^ 19) (hP:P.length<=2 ^ 40) (hn0:0<n) (hn:n<=200) (hF:∀ q∈ao L P D,0<=q.n/\q.n<=2 ^ 40)
 (g160:st.h.get 160=.vars b 177 [.sl 5000 Hl 3 0 L.length,.sl 5001 Hp 1 0 P.length,.v (.int .i64 D)])
 (g5000:st.h.get 5000=.rows Hl 3 (L.map Part.row) true) (g5001:st.h.get 5001=.rows Hp 1 (P.map aJ) true)
 (hK:∀ Hl' h',AH.get h' 160=.vars b 177 [.sl 5000 Hl' 3 0 (aZ (ao L P D) n).length,.nil,.v (.int .i64 0)] -> AH.get h' 5000=.rows Hl' 3 ((aZ (ao L P D) n).map Part.row) true ->
  AH.get h' 80=st.h.get 80->au ⟨st.n,st.kb,st.t,h'⟩ dst (.tup []) K):aa ⟨Tryz.prog,tt,w0,⟨bF,bG,bl,λ_=>True⟩⟩ 152 [.p 160 b 0,.v (.int .i64 n)] st dst K:=by
 refine inl al Tryz.func152 30000 (λw1 F=>?_);have n0:¬ n=0:=by omega
 simp [n0];refine ec (L:=L) (P:=P) (D:=D) (Hl:=Hl) (Hp:=Hp) (by omega) hP (by simp [g160]) (by simp [g5000]) (by simp [g5001]) (λHl' h' k160 k5000 k80=>?_);have f1:=ei L P D;generalize ao L P D=F at f1 hF k160 k5000 hK;by_cases hF0:0<F.length
 ·obtain ⟨m,hm⟩:∃ m,F.length=m+1:=⟨F.length - 1,by omega⟩
  have hmlt:m<F.length:=by omega
  have hmm:(m:Int)<m+1:=by omega
  have em:Go.IntKind.i64.wrap (m:Int)=m:=kz (by omega)
  have hk:aZ F n=if F[m].kind=1 then F.set m ⟨1,F[m].n+n,F[m].signs⟩ else F++[⟨1,n,[]⟩]:=by
   have e0:F.length - 1=m:=by omega
   simp [aZ,hF0,e0]
  have hq:=hF _ (List.getElem_mem hmlt);have em2:Go.IntKind.i64.wrap (F[m].n+n)=F[m].n+n:=Go.IntWalk.i64_in _ (by omega);simp [k160,k5000,hm,em,hmm,Part.row];by_cases ck:F[m].kind=1
  ·rw [if_pos ck] at hk
   simp [ck];refine drw eok mix [0,1,2,3,4,5,6,7,8,9,10,11,12,13,14,15,16,17,18] [19] (.c 19 19 524285 2 (.l 19 2) .s) ?_;simp [k160,k5000,hm,em,hmm,Part.row,ck,em2];have hmod:=hZ (F:=F) (m:=m) hmlt (g:=λrow=>bN row 1 [CD.v (Value.int IntKind.i64 (F[m].n+n))]) (p:=⟨1,F[m].n+n,F[m].signs⟩) (by simp [Part.row,ck]);refine hK Hl' _ ?_ ?_ ?_
   ·simp [k160,hk,hm]
   ·simp [hk,hmod]
   ·simp [k80]
  ·rw [if_neg ck] at hk
   simp [ck,k160,k5000,hm];intro b1;refine ⟨by omega,λH=>hK H _ ?_ ?_ ?_⟩<;>simp [hk,hm,Part.row,k80]
 ·have hF1:F=[]:=List.eq_nil_of_length_eq_zero (by omega)
  subst hF1;have hk:aZ [] n=[⟨1,n,[]⟩]:=by simp [aZ]
  simp [k160,k5000];intro b1 H;refine hK H _ ?_ ?_ ?_<;>simp [hk,Part.row,k80]
open Classical in
noncomputable def aY (o:List Part):List Part:=if cg o then normal o else []
theorem kt (o:List Part) (hl:nL aE o<=2 ^ 40):ak Tryz.prog 122 [.c (.s (o.map Part.row))] (.one (.c (.s ((aY o).map Part.row)) 3)):=by
 refine pci al Tryz.func122 (λw0 base=>?_);simp;refine aa.pure (eU o hl) (by simp) ?_;by_cases h:cg o
 ·have e:aY o=normal o:=by unfold aY;rw [if_pos h]
  simp [h,e];refine aa.pure (rh o h.1.1 (by have:=h.1.2;omega)) (by simp) ?_;simp
 ·have e:aY o=[]:=by unfold aY;rw [if_neg h]
  have e2:dc (cg o)=false:=by rw [bM];exact h
  simp [e,e2]
theorem j3 (o:List Part) (hl:nL aE o<=2 ^ 40):ak Tryz.prog 113 [.c (.s (o.map Part.row))] (.one (.c (.s ((aY o).map Part.row)) 3)):=by
 refine pci al Tryz.func113 (λw0 base=>?_);simp;refine aa.pure (eO o hl) (by simp) ?_;by_cases hopk:cg o
 rotate_left
 ·have e:aY o=[]:=by unfold aY;rw [if_neg hopk]
  have e2:dc (cg o)=false:=by rw [bM];exact hopk
  simp [e,e2]
 have e:aY o=normal o:=by unfold aY;rw [if_pos hopk]
 have ho:=hopk.1.1;have hlen:=hopk.1.2;simp [hopk,e];intro b
 refine bk eok (λx:Nat×Hd×Hd=>x.1<=o.length) (λx=>⟨38,0,[(13,.v (.int .i64 x.1)),(12,.v (.int .i64 o.length)),(11,.ro (o.map Part.row)),(3,.p 160 b 0)],
  [(160, .vars b 177 [.sl 5000 x.2.1 3 0 (az (o.take x.1)).1.length, .sl 5001 x.2.2 1 0 (az (o.take x.1)).2.1.length, .v (.int .i64 (az (o.take x.1)).2.2)]),
   (5000,.rows x.2.1 3 ((az (o.take x.1)).1.map Part.row) true),(5001,.rows x.2.2 1 ((az (o.take x.1)).2.1.map aJ) true)]⟩) (λx=>o.length - x.1) (0,none,none) (by simp) (by simp [az]) (λx hx=>Ent.refl ?_)
 obtain ⟨i,Hl,Hp⟩:=x;simp only at hx ⊢;have hok:=ff ho i hx;by_cases h:i<o.length
 ·have hs:=cC h
  have hpb:=(ho _ (List.getElem_mem h)).bounds;generalize az (o.take i)=s at hok hs;obtain ⟨L,P,D⟩:=s;obtain ⟨k1,k2,k3,k4,k5⟩:=hok;simp only at k1 k2 k3 k4 k5;have e:Go.IntKind.i64.wrap ((i:Int)+1)=((i+1:Nat):Int):=aA (by omega);simp [h,Part.row];intro b5;by_cases c1:o[i].kind=1
  ·simp [c1]
   by_cases cn:0<o[i].n
   ·have hstep:bJ (L,P,D) o[i]=(aZ (ao L P D) o[i].n,[],0):=by simp [bJ,c1,cn]
    rw [hstep] at hs;have f2:=fO (P:=P) k3 k4 k5;refine iS (L:=L) (P:=P) (D:=D) (Hl:=Hl) (Hp:=Hp) (by omega) (by omega) cn hpb.2.2.1 (λq hq=>by have:=f2 q hq;omega) (by simp) (by simp) (by simp) (λHl' h' k160 k5000 k80=>?_);simp;refine Ent.kill 5001 (Ent.refl ⟨i+1,by omega,by omega,Hl',none,?_⟩);rw [hs];simp [e,k160,k5000]
   ·have cn0:o[i].n=0:=by omega
    refine inl al Tryz.func152 30000 (λw1 F=>?_);simp [cn0];refine Ent.refl ⟨i+1,by omega,by omega,Hl,Hp,?_⟩;rw [hs];simp [bJ,c1,cn0,e]
  ·by_cases c2:o[i].kind=2
   ·simp [c2]
    refine inl al Tryz.func153 30000 (λw1 F=>?_);simp;refine ⟨by omega,λH=>?_⟩;refine Ent.refl ⟨i+1,by omega,by omega,Hl,H,?_⟩;rw [hs];simp [bJ,c2,e]
   ·have c3:o[i].kind=3:=by omega
    have e3:Go.IntKind.i64.wrap (D+o[i].n)=D+o[i].n:=Go.IntWalk.i64_in _ (by omega);simp [c1,c2];refine inl al Tryz.func154 30000 (λw1 F=>?_);simp [e3];refine Ent.refl ⟨i+1,by omega,by omega,Hl,Hp,?_⟩;rw [hs];simp [bJ,c3,e]
 ·have he:o.take i=o:=List.take_of_length_le (by omega)
  rw [he] at hok ⊢;have hn:normal o=ao (az o).1 (az o).2.1 (az o).2.2:=rfl;rw [hn];generalize az o=s at hok;obtain ⟨L,P,D⟩:=s;obtain ⟨k1,k2,k3,k4,k5⟩:=hok;simp only at k1 k2 k3 k4 k5;simp [h];refine inl al Tryz.func155 30000 (λw1 F=>?_);simp;refine ec (L:=L) (P:=P) (D:=D) (Hl:=Hl) (Hp:=Hp) (by omega) (by omega) (by simp) (by simp) (by simp) (λHl' h' k160 k5000 k80=>?_);simp [k160,k5000]
theorem jp (a b:List Int) (hl:a.length<=2 ^ 40):ak Tryz.prog 116 [.c (.s (a.map aJ)),.c (.s (b.map aJ))] (.one (.c (vb (a=b)) 1)):=by
 refine pci al Tryz.func116 (λw0 base=>?_);by_cases h:a.length=b.length
 ·simp [h]
  refine aQ.intro eok (λi:Nat=>i<=a.length/\a.take i=b.take i) (λi=>⟨26,0,[(13,.v (.int .i64 i)),(12,.v (.int .i64 b.length)),(1,.ro (b.map aJ)),(0,.ro (a.map aJ))],[]⟩) (λi=>a.length - i) 0 (by simp) (by simp) (λi hi=>?_);by_cases hlt:i<a.length
  ·have hlt':i<b.length:=by omega
   simp [hlt'];refine ay.quiet eok mix (by kernel_rfl) ?_;simp [hlt,hlt'];refine Br.mk (λh1=>?_) (λh1=>?_)
   ·simp
    exact ⟨i+1,⟨by omega,ez hlt hlt' hi.2 (eh h1)⟩,by omega,aA (by omega)⟩
   ·simp [bM]
    exact nX hlt hlt' (gb h1)
  ·have hlt':¬ i<b.length:=by omega
   simp [hlt',eq];exact e8 (by omega) (by omega) hi.2
 ·have hz:¬ (a.length:Int)=b.length:=by omega
  simp [hz,bM];exact λh2=>absurd (by rw [h2]) h
theorem mC (p q:Part) (hl:p.signs.length<=2 ^ 40):ak Tryz.prog 157 [.agg p.row,.agg q.row] (.one (.c (vb (p=q)) 1)):=by
 refine pci al Tryz.func157 (λw0 base=>?_);obtain ⟨k1,n1,s1⟩:=p;obtain ⟨k2,n2,s2⟩:=q;simp [Part.row];intro b1 b2;by_cases h1:k1=k2
 ·by_cases h2:n1=n2
  ·simp [h1,h2]
   refine aa.pure (jp s1 s2 hl) (by simp) ?_;simp
  ·simp [h1,h2]
 ·simp [h1]
theorem l3 (a b:List Part) (hl:a.length<=2 ^ 40) (hs:∀ p∈a,p.signs.length<=2 ^ 40):ak Tryz.prog 156 [.c (.s (a.map Part.row)),.c (.s (b.map Part.row)),.c (.v (.func (.func 157) #[] #[]))] (.one (.c (vb (a=b)) 1)):=by
 refine pci al Tryz.func156 (λw0 base=>?_);by_cases h:a.length=b.length
 ·simp [h]
  refine aQ.intro eok (λi:Nat=>i<=a.length/\a.take i=b.take i) (λi=>⟨32,0,[(17,.v (.int .i64 i)),(16,.v (.int .i64 b.length)),(15,.ro (a.map Part.row)),(2,.v (.func (.func 157) #[] #[])),(1,.ro (b.map Part.row))],[]⟩) (λi=>a.length - i) 0 (by simp) (by simp) (λi hi=>?_);by_cases hlt:i<a.length
  ·have hlt':i<b.length:=by omega
   simp [hlt,hlt',Part.row];intro b1 b2;refine aa.pure (mC a[i] b[i] (hs _ (List.getElem_mem hlt))) (by simp [Part.row]) ?_;simp;refine Br.mk (λh1=>?_) (λh1=>?_)
   ·simp
    exact ⟨i+1,⟨by omega,ez hlt hlt' hi.2 (eh h1)⟩,by omega,aA (by omega)⟩
   ·simp [bM]
    exact nX hlt hlt' (gb h1)
  ·have hlt':¬ i<b.length:=by omega
   simp [hlt',eq];exact e8 (by omega) (by omega) hi.2
 ·have hz:¬ (a.length:Int)=b.length:=by omega
  simp [hz,bM];exact λh2=>absurd (by rw [h2]) h
theorem ra (a b:List Part) (hl:a.length<=2 ^ 40) (hs:∀ p∈a,p.signs.length<=2 ^ 40):ak Tryz.prog 115 [.c (.s (a.map Part.row)),.c (.s (b.map Part.row))] (.one (.c (vb (a=b)) 1)):=by
 refine pci al Tryz.func115 (λw0 base=>?_);simp;refine aa.pure (l3 a b hl hs) (by simp) ?_;simp
theorem kr (a b:List Part) (h:nL aE a<=2 ^ 40):ak Tryz.prog 115 [.c (.s (a.map Part.row)),.c (.s (b.map Part.row))] (.one (.c (vb (a=b)) 1)):=ra a b (eS h) (λ_p hp=>rm h hp)
def mY (o:List Part):Prop:=cg o/\aY o=o
def cT (t:List Int):Prop:=t.length<=200/\bn t
theorem kl (t:List Int) (hl:t.length<=2 ^ 40):ak Tryz.prog 83 [.c (.s (t.map aJ))] (.one (.c (vb (cT t)) 1)):=by
 refine pci al Tryz.func83 (λw0 base=>?_);by_cases h:t.length<=200
 ·have h':(t.length:Int)<=200:=by omega
  simp [h'];refine aa.pure (du t hl) (by simp) ?_;simp [cT,h]
 ·have h':¬ (t.length:Int)<=200:=by omega
  simp [h',cT,h]
theorem jY (t:List Int) (hl:t.length<=2 ^ 40):ak Tryz.prog 76 [.c (.s (t.map aJ))] (.one (.c (vb (cT t)) 1)):=by
 refine pci al Tryz.func76 (λw0 base=>?_);simp;refine aa.pure (dq t hl) (by simp) ?_;have e:((t.length:Int)<=200)=(t.length<=200):=by simp;omega
 by_cases hg:bn t
 ·simp [hg,cT,e]
 ·simp [hg,cT]
def psz (p:Part):Nat:=p.n.toNat+p.signs.length
def zJ (p:Part) (n:Nat):Part:=if p.kind=2 then ⟨p.kind,p.n,p.signs.take n⟩ else ⟨p.kind,n,p.signs⟩
def bQ (p:Part) (n:Nat):Part:=if p.kind=2 then ⟨p.kind,p.n,p.signs.drop n⟩ else ⟨p.kind,p.n - n,p.signs⟩
theorem dj {p:Part} (h:aq p):(psz p:Int)=p.n+p.signs.length/\psz p<=200:=by
 have hb:=h.bounds;unfold psz;by_cases hk:p.kind=2
 ·have:=hb.2.2.2.2.1 hk
  omega
 ·have:=hb.2.2.2.2.2 hk
  rw [this];simp;omega
@[simp] theorem yI {p:Part} {n:Nat}:(zJ p n).kind=p.kind:=by unfold zJ;split<;>rfl
@[simp] theorem wC {p:Part} {n:Nat}:(bQ p n).kind=p.kind:=by unfold bQ;split<;>rfl
theorem q0 {p:Part} (h:aq p) {n:Nat} (hn:n<=psz p):aq (bQ p n):=by
 have hp:=dj h;unfold bQ;by_cases hk:p.kind=2
 ·rw [if_pos hk]
  rw [cX hk] at h;refine .inr ⟨hk,h.1,?_,λm hm=>h.2.2 m (List.mem_of_mem_drop hm)⟩;simp;omega
 ·rw [if_neg hk]
  have hb:=h.bounds;have hk2:p.kind=1\/p.kind=3:=by omega
  have:=hb.2.2.2.2.2 hk;refine .inl ⟨hk2,?_,this⟩;rw [this] at hp;simp at hp;simp only;omega
theorem hQ {p:Part} (h:aq p) {n:Nat} (hn:n<=psz p):psz (bQ p n)=psz p - n:=by
 have hb:=h.bounds;unfold psz bQ at *;by_cases hk:p.kind=2
 ·rw [if_pos hk]
  have:=hb.2.2.2.2.1 hk;simp only [this,List.length_drop] at hn ⊢;omega
 ·rw [if_neg hk]
  have:=hb.2.2.2.2.2 hk;simp only [this,List.length_nil] at hn ⊢;omega
theorem lz {p:Part} {m n:Nat}:bQ (bQ p m) n=bQ p (m+n):=by
 unfold bQ;by_cases hk:p.kind=2
 ·simp [hk,List.drop_drop]
 ·simp [hk]
  omega
theorem mF {p:Part}:bQ p 0=p:=by unfold bQ;split<;>simp
def nxt:List Part->List Part
 | []=>[]
 |p::l=>if psz p=0 then nxt l else p::l
def tsz:List Part->Nat
 | []=>0
 |p::l=>psz p+tsz l
def frs:List Part->Nat
 | []=>0
 |p::l=>(if p.kind=2 then 0 else psz p)+frs l
def tos:List Part->Nat
 | []=>0
 |p::l=>(if p.kind=3 then 0 else psz p)+tos l
theorem kB:∀ {o:List Part},(∀ p∈o,aq p)->(frs o:Int)=bc (dR 2) o
 | [],_=>rfl
 | p :: o, h => by
   have ih:=kB (λq hq=>h q (List.mem_cons_of_mem _ hq));have hp:=dj (h p (List.mem_cons_self ..));simp only [frs,bc,dR]
   split<;>simp<;>omega
theorem jX:∀ {o:List Part},(∀ p∈o,aq p)->(tos o:Int)=bc (dR 3) o
 | [],_=>rfl
 | p :: o, h => by
   have ih:=jX (λq hq=>h q (List.mem_cons_of_mem _ hq));have hp:=dj (h p (List.mem_cons_self ..));simp only [tos,bc,dR]
   split<;>simp<;>omega
theorem rX {o:List Part} (h:cg o):(frs o:Int)=cb o:=by
 rw [kB h.1.1,ca (λp hp=>xJ (h.1.1 p hp)),cU];unfold cb aK;rw [if_pos h.1]
theorem vH {o:List Part} (h:cg o):(tos o:Int)=gC o:=by
 rw [jX h.1.1,ca (λp hp=>xI (h.1.1 p hp)),cU];unfold gC aK;rw [if_pos h.1]
theorem p0:∀ (o:List Part),tsz o<=frs o+tos o
 | []=>by simp [tsz]
 | p :: o => by
   have:=p0 o;simp only [tsz,frs,tos]
   split<;>split<;>omega
def cur (o:List Part) (i d:Nat):List Part:=
 match o.drop i with
 | []=>[]
 |p::l=>bQ p d::l
theorem kM {o:List Part} {i d:Nat} (h:o.length<=i):cur o i d=[]:=by unfold cur;rw [List.drop_eq_nil_of_le h]
theorem iu {o:List Part} {i d:Nat} (h:i<o.length):cur o i d=bQ o[i] d::o.drop (i+1):=by unfold cur;rw [List.drop_eq_getElem_cons h]
theorem sb {o:List Part} {i:Nat}:cur o i 0=o.drop i:=by
 unfold cur
 cases o.drop i with
 |nil=>rfl
 |cons p l=>simp [mF]
theorem sd {o:List Part} (ho:∀ p∈o,aq p) {i:Nat} (h:i<o.length):nxt (cur o i (psz o[i]))=nxt (cur o (i+1) 0):=by
 rw [iu h,sb];have:=hQ (ho _ (List.getElem_mem h)) (Nat.le_refl _);simp [nxt,this]
theorem sc {o:List Part} (ho:∀ p∈o,aq p) {i d:Nat} (h:i<o.length) (hd:d<psz o[i]):nxt (cur o i d)=cur o i d:=by
 rw [iu h];have:=hQ (ho _ (List.getElem_mem h)) (Nat.le_of_lt hd);have h2:¬ psz (bQ o[i] d)=0:=by omega
 simp [nxt,h2]
theorem se {o:List Part} {i d n:Nat} (h:i<o.length) {p:Part} {l:List Part} (hc:cur o i d=p::l):bQ p n::l=cur o i (d+n):=by
 rw [iu h] at hc ⊢
 cases hc
 rw [lz]
set_option maxHeartbeats 1600000
theorem jE (p:Part) (h:aq p):ak Tryz.prog 244 [.agg p.row] (.one (.c (vi (psz p)) 1)):=by
 refine pci al Tryz.func244 (λw0 base=>?_);have hp:=dj h;have hb:=h.bounds;rw [hp.1];simp [Part.row];by_cases hk:p.kind=2
 ·have:=hb.2.2.2.2.1 hk
  simp [hk,this]
 ·have:=hb.2.2.2.2.2 hk
  simp [hk,this]
structure Cu (a:List Part) (i d:Nat) (X:List Part):Prop where
 ok:∀ p∈a,aq p
 le:i<=a.length
 v:∀ h:i<a.length,d<=psz a[i]
 z:i=a.length->d=0
 c:cur a i d=X
def hdK:List Part->Int
 | []=>0
 |p::_=>p.kind
structure CR (kx ky bx by_:Nat) (h0 h:AH) (a b:List Part) (i d j e:Nat) (X Y:List Part):Prop where
 ne:kx≠ky
 lx:kx<14000 - 16
 ly:ky<14000 - 16
 gx:AH.get h kx=.vars bx 253 [.ro (a.map Part.row),.v (.int .i64 i),.v (.int .i64 d)]
 gy:AH.get h ky=.vars by_ 253 [.ro (b.map Part.row),.v (.int .i64 j),.v (.int .i64 e)]
 o:∀ q,q≠kx->q≠ky->q<14000->AH.get h q=AH.get h0 q
 cx:Cu a i d X
 cy:Cu b j e Y
theorem Cu.bnd {a:List Part} {i d:Nat} {X:List Part} (h:Cu a i d X):d<=200:=by
 by_cases hlt:i<a.length
 ·have:=h.v hlt
  have:=(dj (h.ok _ (List.getElem_mem hlt))).2;omega
 ·have:=h.z (by have:=h.le;omega)
  omega
theorem pa {w0:World} {bF bG:Nat->Prop} {bl:Bool} {st:ASt} {dst:Option Nat} {K:ASt->Prop} {kx b i d:Nat} {a X:List Part} (_hk:kx<14000) (hl:a.length<=2 ^ 20) (cx:Cu a i d X)
 (g:st.h.get kx=.vars b 253 [.ro (a.map Part.row),.v (.int .i64 i),.v (.int .i64 d)])
 (hK:∀ h' i' d',Cu a i' d' (nxt X)->AH.get h' kx=.vars b 253 [.ro (a.map Part.row),.v (.int .i64 i'),.v (.int .i64 d')]->(∀ q,q≠kx->q<20000->AH.get h' q=st.h.get q)->au ⟨st.n,st.kb,st.t,h'⟩ dst (.v (.int .i64 (hdK (nxt X)))) K) :
 aa ⟨Tryz.prog,tt,w0,⟨bF,bG,bl,λ_=>True⟩⟩ 220 [.p kx b 0] st dst K:=by
 refine inl al Tryz.func220 20000 (λw1 F=>?_);simp;refine lc eok (λx:Nat×Nat=>Cu a x.1 x.2 (cur a x.1 x.2)/\nxt (cur a x.1 x.2)=nxt X) (λx=>⟨62,20000,[(0,.p kx b 0),(2,.v (.int .i64 0))],(kx,.vars b 253 [.ro (a.map Part.row),.v (.int .i64 x.1),.v (.int .i64 x.2)])::st.h⟩) (λx=>a.length - x.1) (i,d) ⟨⟨cx.ok,cx.le,cx.v,cx.z,rfl⟩,by rw [cx.c]⟩ (by simp [g]) (λx hx=>?_);obtain ⟨i,d⟩:=x;obtain ⟨hc,hn⟩:=hx;have hcl:=hc.le;have hb:=hc.bnd;simp only at hc hn hcl ⊢;simp;by_cases hlt:i<a.length
 ·have hp:=hc.ok _ (List.getElem_mem hlt)
  have hd:=hc.v hlt;have hps:=dj hp;refine ay.quiet eok mix (by kernel_rfl) ?_;simp [hlt];refine ⟨_,_,jE a[i] hp,by simp [Part.row],?_⟩;by_cases he:d=psz a[i]
  ·have e1:Go.IntKind.i64.wrap ((i:Int)+1)=((i+1:Nat):Int):=aA (by omega)
   simp [he,e1];refine ⟨i+1,0,⟨⟨hc.ok,by omega,λ_=>by omega,λ_=>rfl,rfl⟩,?_⟩,by omega,by omega,rfl⟩;rw [<- hn,he,sd hc.ok hlt]
  ·have he2:¬ (d:Int)=psz a[i]:=by omega
   have hne:¬ i=a.length:=by omega
   simp [he2];refine ay.quiet eok mix (by kernel_rfl) ?_;have hne2:¬ (i:Int)=a.length:=by omega
   simp [hne2];refine ay.quiet eok mix (by kernel_rfl) ?_;simp [hlt,Part.row];have hs:=sc hc.ok hlt (show d<psz a[i] by omega);rw [hs] at hn;have hk2:hdK (nxt X)=a[i].kind:=by rw [<- hn,iu hlt];simp [hdK]
   rw [hk2] at hK;refine hK _ i d ⟨hc.ok,hc.le,hc.v,hc.z,hn⟩ (by simp) (λq q1 q2=>by simp [q1])
 ·have hi:i=a.length:=by omega
  have hd:=hc.z hi;refine ay.quiet eok mix (by kernel_rfl) ?_;simp [hlt];refine ay.quiet eok mix (by kernel_rfl) ?_;simp [hi];have hn2:nxt X=[]:=by rw [<- hn,kM (by omega)];rfl
  rw [hn2] at hK;refine hK _ i d ⟨hc.ok,hc.le,hc.v,hc.z,kM (by omega)⟩ (by simp [hi]) (λq q1 q2=>by simp [q1])
theorem Cu.head {a:List Part} {i d:Nat} {p:Part} {l:List Part} (h:Cu a i d (p::l)):∃ hi:i<a.length,p=bQ a[i] d/\l=a.drop (i+1)/\psz p=psz a[i] - d/\d<=psz a[i]/\p.kind=a[i].kind/\aq p:=by
 have hi:i<a.length:=by
  have:=h.le;rcases Nat.lt_or_ge i a.length with h1|h1
  ·exact h1
  ·have:=h.c
   rw [kM h1] at this
   cases this
 have hc:=h.c;rw [iu hi] at hc
 cases hc
 have hp:=h.ok _ (List.getElem_mem hi);exact ⟨hi,rfl,rfl,hQ hp (h.v hi),h.v hi,by simp,q0 hp (h.v hi)⟩
theorem Cu.add {a:List Part} {i d n:Nat} {p:Part} {l:List Part} (h:Cu a i d (p::l)) (hn:n<=psz p):Cu a i (d+n) (bQ p n::l):=by
 obtain ⟨hi,h1,h2,h3,h4,-,-⟩:=h.head;exact ⟨h.ok,h.le,λ_=>by omega,λhe=>by omega,(se hi h.c).symm⟩
theorem o3 {w0:World} {bF bG:Nat->Prop} {bl:Bool} {st:ASt} {dst:Option Nat} {K:ASt->Prop} {kx b i d:Nat} {a l:List Part} {p:Part} (cx:Cu a i d (p::l))
 (g:st.h.get kx=.vars b 253 [.ro (a.map Part.row),.v (.int .i64 i),.v (.int .i64 d)])
 (hK:au st dst (.v (.int .i64 (psz p))) K) :
 aa ⟨Tryz.prog,tt,w0,⟨bF,bG,bl,λ_=>True⟩⟩ 221 [.p kx b 0] st dst K:=by
 refine inl al Tryz.func221 20000 (λw1 F=>?_);obtain ⟨hi,h1,h2,h3,h4,-,-⟩:=cx.head;have hp:=cx.ok _ (List.getElem_mem hi);have hps:=dj hp;simp;refine ay.quiet eok mix (by kernel_rfl) ?_;simp [g,hi];refine ⟨_,_,jE a[i] hp,by simp [Part.row],?_⟩;have e:Go.IntKind.i64.wrap ((psz a[i]:Int) - (d:Int))=(psz p:Int):=by rw [Go.IntWalk.i64_in _ (by omega)];omega
 simp [e];exact hK
theorem kN {w0:World} {bF bG:Nat->Prop} {bl:Bool} {st:ASt} {dst:Option Nat} {K:ASt->Prop} {kx b i d n:Nat} {a l:List Part} {p:Part} (_hk:kx<14000) (cx:Cu a i d (p::l)) (hk2:p.kind=2) (hn:n<=psz p)
 (g:st.h.get kx=.vars b 253 [.ro (a.map Part.row),.v (.int .i64 i),.v (.int .i64 d)])
 (hK:∀ h',Cu a i (d+n) (bQ p n::l)->AH.get h' kx=.vars b 253 [.ro (a.map Part.row),.v (.int .i64 i),.v (.int .i64 ((d+n:Nat):Int))]->(∀ q,q≠kx->q<20000->AH.get h' q=st.h.get q)->au ⟨st.n,st.kb,st.t,h'⟩ dst (.ro ((p.signs.take n).map aJ)) K) :
 aa ⟨Tryz.prog,tt,w0,⟨bF,bG,bl,λ_=>True⟩⟩ 222 [.p kx b 0,.v (.int .i64 n)] st dst K:=by
 refine inl al Tryz.func222 20000 (λw1 F=>?_);obtain ⟨hi,h1,h2,h3,h4,h5,-⟩:=cx.head;have hp:=cx.ok _ (List.getElem_mem hi);have hps:=dj hp;have hkk:a[i].kind=2:=by rw [<- h5];exact hk2
 have hn0:=hp.bounds.2.2.2.2.1 hkk;have hsz:psz a[i]=a[i].signs.length:=by omega
 have hs:p.signs=a[i].signs.drop d:=by rw [h1];simp [bQ,hkk]
 have e:Go.IntKind.i64.wrap ((d:Int)+(n:Int))=((d+n:Nat):Int):=by rw [Go.IntWalk.i64_in _ (by omega)];omega
 have hle:d+n<=a[i].signs.length:=by omega
 have hv:cut (a[i].signs.map aJ) d n=(p.signs.take n).map aJ:=by
  unfold cut
  split
  ·rename_i hh
   rw [hs,hh.1];simp at hh;simp [hh.2]
  ·rw [hs,List.map_take,List.map_drop]
 obtain ⟨m,hm⟩:∃ m,d+n=m:=⟨_,rfl⟩;have e2:m - d=n:=by omega
 have hadd:=cx.add hn;rw [hm] at e hle hK hadd;simp;refine ay.quiet eok mix (by kernel_rfl) ?_;simp [g,hi,Part.row,e,e2,hv];simp only [List.map_take] at hK;refine ⟨hle,by omega,hK _ hadd ?_ (λq q1 q2=>?_)⟩
 ·simp
 ·simp [q1]
section
variable {w0:World} {bF bG:Nat->Prop} {bl:Bool} {st:ASt} {dst:Option Nat} {K:ASt->Prop} {kx ky bx by_ i d j e:Nat} {h0:AH} {a b X Y:List Part}
theorem CR.kind (R:CR kx ky bx by_ h0 st.h a b i d j e X Y) (hl:a.length<=2 ^ 20) (hK:∀ h' i' d',CR kx ky bx by_ h0 h' a b i' d' j e (nxt X) Y->au ⟨st.n,st.kb,st.t,h'⟩ dst (.v (.int .i64 (hdK (nxt X)))) K) :
 aa ⟨Tryz.prog,tt,w0,⟨bF,bG,bl,λ_=>True⟩⟩ 220 [.p kx bx 0] st dst K:=by
 have:=R.lx;have:=R.ly;refine pa (by omega) hl R.cx R.gx (λh1 i1 d1 c1 g1 o1=>hK h1 i1 d1 ⟨R.ne,R.lx,R.ly,g1,by rw [o1 ky R.ne.symm (by omega)];exact R.gy,λq q1 q2 q3=>by rw [o1 q q1 (by omega)];exact R.o q q1 q2 q3,c1,R.cy⟩)
theorem CR.left {p:Part} {l:List Part} (R:CR kx ky bx by_ h0 st.h a b i d j e (p::l) Y) (hK:au st dst (.v (.int .i64 (psz p))) K) :
 aa ⟨Tryz.prog,tt,w0,⟨bF,bG,bl,λ_=>True⟩⟩ 221 [.p kx bx 0] st dst K:=o3 R.cx R.gx hK
theorem CR.take {p:Part} {l:List Part} {n:Nat} (R:CR kx ky bx by_ h0 st.h a b i d j e (p::l) Y) (hk2:p.kind=2) (hn:n<=psz p) (hK:∀ h',CR kx ky bx by_ h0 h' a b i (d+n) j e (bQ p n::l) Y->au ⟨st.n,st.kb,st.t,h'⟩ dst (.ro ((p.signs.take n).map aJ)) K) :
 aa ⟨Tryz.prog,tt,w0,⟨bF,bG,bl,λ_=>True⟩⟩ 222 [.p kx bx 0,.v (.int .i64 n)] st dst K:=by
 have:=R.lx;have:=R.ly;refine kN (by omega) R.cx hk2 hn R.gx (λh1 c1 g1 o1=>hK h1 ⟨R.ne,R.lx,R.ly,g1,by rw [o1 ky R.ne.symm (by omega)];exact R.gy,λq q1 q2 q3=>by rw [o1 q q1 (by omega)];exact R.o q q1 q2 q3,c1,R.cy⟩)
theorem CR.done {p:Part} {l:List Part} {n:Nat} (R:CR kx ky bx by_ h0 st.h a b i d j e (p::l) Y) (hn:n<=psz p):CR kx ky bx by_ ((kx,.vars bx 253 [.ro (a.map Part.row),.v (.int .i64 i),.v (.int .i64 ((d+n:Nat):Int))])::st.h) ((kx,.vars bx 253 [.ro (a.map Part.row),.v (.int .i64 i),.v (.int .i64 ((d+n:Nat):Int))])::st.h) a b i (d+n) j e (bQ p n::l) Y:=
 ⟨R.ne,R.lx,R.ly,by simp,by rw [an,if_neg R.ne.symm];exact R.gy,λ_ _ _ _=>rfl,R.cx.add hn,R.cy⟩
end
open Go.AM
set_option maxRecDepth 20000
set_option maxHeartbeats 1600000
def Rep.zero:Rep:=⟨0,0,0,[],false,[],[]⟩
theorem ey {α β:Type} {f:α->β} {l:List α} {i:Nat} (h:i<l.length):List.take i (l.map f)++[f l[i]]=List.take (i+1) (l.map f):=by
 rw [List.take_add_one];simp [h]
def Call.zero:Call:=⟨0,⟨#[]⟩,0,0,0,[],[]⟩
def xO (t:List Int) (s:List Int×Int) (p:Part):List Int×Int:=
 if p.kind=1 then (s.1++(t.drop s.2.toNat).take p.n.toNat,s.2+p.n) else if p.kind=2 then (s.1++p.signs,s.2) else (s.1,s.2+p.n)
def Az (o:List Part) (t:List Int):List Int×Int:=o.foldl (xO t) ([],0)
def Ap (o:List Part) (t:List Int):Prop:=cg o/\cT t/\cb o=t.length
open Classical in
noncomputable def apply (o:List Part) (t:List Int):List Int×Bool:=if Ap o t then ((Az o t).1,true) else ([],false)
def cD (s:ByteArray):Prop:=(1<=s.size/\s.size<=8)/\∀ (i:Nat) (h:i<s.size),97<=s[i].toNat/\s[i].toNat<=122
theorem aL {p:Prop} (h:¬ p):dc p=false:=by rw [bM];exact h
def rk (s:ByteArray) (i:Nat):Prop:=∀ h:i<s.size,97<=s[i].toNat/\s[i].toNat<=122
def Doc.zero:Doc:=⟨⟨#[]⟩,0,[],[],[]⟩
def Net.zero:Net:=⟨Doc.zero,[]⟩
theorem kv (s:ByteArray) (hl:s.size<=2 ^ 40):ak Tryz.prog 44 [.c (.v (.string s))] (.one (.c (vb (cD s)) 1)):=by
 refine pci al Tryz.func44 (λw0 base=>?_);simp;refine aQ.intro eok (λi:Nat=>i<=s.size/\∀ j,j<i->rk s j) (λi=>⟨23,0,[(3,.v (.int .i64 i)),(0,.v (.string s))],[]⟩) (λi=>s.size - i) 0 (by simp) (by simp) (λi hi=>?_);by_cases hlt:i<s.size
 ·simp [hlt]
  by_cases h1:(s[i].toNat:Int)<97
  ·have hno:¬ cD s:=λh=>by have:=(h.2 i hlt).1;omega
   simp [h1,aL hno]
  ·by_cases h2:122<(s[i].toNat:Int)
   ·have hno:¬ cD s:=λh=>by have:=(h.2 i hlt).2;omega
    simp [h1,h2,hlt,aL hno]
   ·simp [h1,h2,hlt]
    refine ⟨i+1,⟨by omega,λj hj=>?_⟩,by omega,aA (by omega)⟩;by_cases hji:j=i
    ·subst hji;exact λ_=>by omega
    ·exact hi.2 j (by omega)
 ·simp [hlt]
  refine aa.pure (bb s.size 1 8) (by simp) ?_;have hsz:(1<=(s.size:Int)/\(s.size:Int)<=8) ↔ (1<=s.size/\s.size<=8):=by omega
  by_cases h3:1<=s.size/\s.size<=8
  ·have hy:cD s:=⟨h3,λj hj=>hi.2 j (by omega) hj⟩
   have h4:=hsz.2 h3;simp [h4,hy]
  ·have hno:¬ cD s:=λh=>h3 h.1
   have h4:¬ (1<=(s.size:Int)/\(s.size:Int)<=8):=λh=>h3 (hsz.1 h)
   simp [aL h4,aL hno]
theorem j5 (s:ByteArray) (hl:s.size<=2 ^ 40):ak Tryz.prog 32 [.c (.v (.string s))] (.one (.c (vb (cD s)) 1)):=by
 refine pci al Tryz.func32 (λw0 base=>?_);simp;refine aQ.intro eok (λi:Nat=>i<=s.size/\∀ j,j<i->rk s j) (λi=>⟨23,0,[(3,.v (.int .i64 i)),(0,.v (.string s))],[]⟩) (λi=>s.size - i) 0 (by simp) (by simp) (λi hi=>?_);by_cases hlt:i<s.size
 ·simp [hlt]
  by_cases h1:(s[i].toNat:Int)<97
  ·have hno:¬ cD s:=λh=>by have:=(h.2 i hlt).1;omega
   simp [h1,aL hno]
  ·by_cases h2:122<(s[i].toNat:Int)
   ·have hno:¬ cD s:=λh=>by have:=(h.2 i hlt).2;omega
    simp [h1,h2,hlt,aL hno]
   ·simp [h1,h2,hlt]
    refine ⟨i+1,⟨by omega,λj hj=>?_⟩,by omega,aA (by omega)⟩;by_cases hji:j=i
    ·subst hji;exact λ_=>by omega
    ·exact hi.2 j (by omega)
 ·simp [hlt]
  refine aa.pure (co s.size 1 8) (by simp) ?_;have hsz:(1<=(s.size:Int)/\(s.size:Int)<=8) ↔ (1<=s.size/\s.size<=8):=by omega
  by_cases h3:1<=s.size/\s.size<=8
  ·have hy:cD s:=⟨h3,λj hj=>hi.2 j (by omega) hj⟩
   have h4:=hsz.2 h3;simp [h4,hy]
  ·have hno:¬ cD s:=λh=>h3 h.1
   have h4:¬ (1<=(s.size:Int)/\(s.size:Int)<=8):=λh=>h3 (hsz.1 h)
   simp [aL h4,aL hno]
end Go.Proofs.YthckkpphnmmfdaaGreatDoor
