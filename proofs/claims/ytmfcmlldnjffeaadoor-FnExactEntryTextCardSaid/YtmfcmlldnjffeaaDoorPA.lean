import Derived.Test.YtmfcmlldnjffeaaDoorNA
import Derived.Test.YtmfcmlldnjffeaaDoorMF

namespace Go.Proofs.YtmfcmlldnjffeaaDoor
open Go.AM
set_option maxRecDepth 20000
theorem dr (n lo hi:Int):ai Tryd.prog 32 [.c (vi n),.c (vi lo),.c (vi hi)] (.one (.c (vb (lo<=n/\n<=hi)) 1)):=by
 refine pci an Tryd.func32 (λw0 base=>?_);by_cases h1:lo<=n<;>by_cases h2:n<=hi<;>simp [h1,h2]
theorem ey (n lo hi:Int):ai Tryd.prog 29 [.c (vi n),.c (vi lo),.c (vi hi)] (.one (.c (vb (lo<=n/\n<=hi)) 1)):=by
 refine pci an Tryd.func29 (λw0 base=>?_);by_cases h1:lo<=n<;>by_cases h2:n<=hi<;>simp [h1,h2]
def c6 (n:Int):Prop:=(0<=n/\n<=1114111)/\¬ (55296<=n/\n<=57343)
def bi (l:List Int):Prop:=∀ n∈l,c6 n
theorem jq (n:Int):ai Tryd.prog 70 [.c (vi n)] (.one (.c (vb (c6 n)) 1)):=by
 refine pci an Tryd.func70 (λw0 base=>?_);simp;refine ac.pure (dr n 0 1114111) (by simp) ?_;by_cases h:0<=n/\n<=1114111
 ·simp [h]
  refine ac.pure (dr n 55296 57343) (by simp) ?_;by_cases h2:55296<=n/\n<=57343<;>simp [h2,c6,h]
  try (rw [eZ];omega)
 ·have e:dc (0<=n/\n<=1114111)=false:=by rw [bY];exact h
  simp [c6,h]
theorem i8 (n:Int):ai Tryd.prog 69 [.c (vi n)] (.one (.c (vb (c6 n)) 1)):=by
 refine pci an Tryd.func69 (λw0 base=>?_);simp;refine ac.pure (ey n 0 1114111) (by simp) ?_;by_cases h:0<=n/\n<=1114111
 ·simp [h]
  refine ac.pure (ey n 55296 57343) (by simp) ?_;by_cases h2:55296<=n/\n<=57343<;>simp [h2,c6,h]
  try (rw [eZ];omega)
 ·have e:dc (0<=n/\n<=1114111)=false:=by rw [bY];exact h
  simp [c6,h]
theorem ga {α:Type} {P:α->Prop} {l:List α} {i:Nat} (h:i<l.length) (ha:∀ a∈l.take i,P a) (hi:P l[i]):∀ a∈l.take (i+1),P a:=by
 rw [<- List.take_append_getElem h];intro a ha';rcases List.mem_append.1 ha' with h1|h1
 ·exact ha a h1
 ·simp at h1;subst h1;exact hi
theorem gc {α:Type} {P:α->Prop} {l:List α} {i:Nat} (h:l.length<=i) (ha:∀ a∈l.take i,P a):∀ a∈l,P a:=by
 rwa [List.take_of_length_le h] at ha
theorem gb {α:Type} {P:α->Prop} {l:List α} {i:Nat} (h:i<l.length) (hi:¬ P l[i]):¬ ∀ a∈l,P a:=λha=>hi (ha _ (List.getElem_mem h))
theorem hU (l:List Int) (hl:l.length<=2 ^ 40):ai Tryd.prog 58 [.c (.s (l.map aM))] (.one (.c (vb (bi l)) 1)):=by
 refine pci an Tryd.func58 (λw0 base=>?_);simp;refine aV.intro eok (λi:Nat=>i<=l.length/\∀ n∈l.take i,c6 n) (λi=>⟨15,0,[(7,.v (.int .i64 i)),(6,.v (.int .i64 l.length)),(5,.ro (l.map aM))],[]⟩) (λi=>l.length - i) 0 (by simp) (by simp) (λi hi=>?_);by_cases h:i<l.length
 ·simp [h]
  refine ac.pure (jq l[i]) (by simp) ?_;simp;refine Br.mk (λh1=>?_) (λh1=>?_)
  ·simp
   exact ⟨i+1,⟨by omega,ga h hi.2 (eS h1)⟩,by omega,aB (by omega)⟩
  ·simp [bY]
   exact gb h (iF h1)
 ·simp [h,eZ]
  exact gc (by omega) hi.2
theorem dZ (l:List Int) (hl:l.length<=2 ^ 40):ai Tryd.prog 57 [.c (.s (l.map aM))] (.one (.c (vb (bi l)) 1)):=by
 refine pci an Tryd.func57 (λw0 base=>?_);simp;refine aV.intro eok (λi:Nat=>i<=l.length/\∀ n∈l.take i,c6 n) (λi=>⟨15,0,[(7,.v (.int .i64 i)),(6,.v (.int .i64 l.length)),(5,.ro (l.map aM))],[]⟩) (λi=>l.length - i) 0 (by simp) (by simp) (λi hi=>?_);by_cases h:i<l.length
 ·simp [h]
  refine ac.pure (i8 l[i]) (by simp) ?_;simp;refine Br.mk (λh1=>?_) (λh1=>?_)
  ·simp
   exact ⟨i+1,⟨by omega,ga h hi.2 (eS h1)⟩,by omega,aB (by omega)⟩
  ·simp [bY]
   exact gb h (iF h1)
 ·simp [h,eZ]
  exact gc (by omega) hi.2
def ak (p:Part):Prop:=((p.kind=1\/p.kind=3)/\(0<=p.n/\p.n<=200)/\p.signs=[])\/(p.kind=2/\p.n=0/\p.signs.length<=200/\bi p.signs)
theorem ff {p:Part} (h:p.kind=1\/p.kind=3):ak p=((0<=p.n/\p.n<=200)/\p.signs=[]):=by
 have h2:¬ p.kind=2:=by omega
 simp [ak,h,h2]
theorem cx {p:Part} (h:p.kind=2):ak p=(p.n=0/\p.signs.length<=200/\bi p.signs):=by simp [ak,h]
theorem iC {p:Part} (h1:p.kind≠1) (h2:p.kind≠2) (h3:p.kind≠3):¬ ak p:=by simp [ak,h1,h2,h3]
theorem jr (p:Part) (hl:p.signs.length<=2 ^ 40):ai Tryd.prog 67 [.agg p.row] (.one (.c (vb (ak p)) 1)):=by
 refine pci an Tryd.func67 (λw0 base=>?_);simp [Part.row];intros;by_cases h13:p.kind=1\/p.kind=3
 ·rw [ff h13]
  rcases h13 with h|h
  ·simp [h]
   refine ac.pure (dr p.n 0 200) (by simp) ?_;by_cases hn:0<=p.n/\p.n<=200
   ·simp [hn]
   ·have e:dc (0<=p.n/\p.n<=200)=false:=by rw [bY];exact hn
    simp [hn]
  ·simp [h]
   refine ac.pure (dr p.n 0 200) (by simp) ?_;by_cases hn:0<=p.n/\p.n<=200
   ·simp [hn]
   ·have e:dc (0<=p.n/\p.n<=200)=false:=by rw [bY];exact hn
    simp [hn]
 ·have h1:¬ p.kind=1:=λh=>h13 (.inl h)
  have h3:¬ p.kind=3:=λh=>h13 (.inr h)
  by_cases h2:p.kind=2
  ·rw [cx h2]
   simp [h2];by_cases hn:p.n=0
   ·by_cases hs:p.signs.length<=200
    ·have hs':(p.signs.length:Int)<=200:=by omega
     simp [hn,hs'];refine ac.pure (hU p.signs hl) (by simp) ?_;simp [hs]
    ·have hs':¬ (p.signs.length:Int)<=200:=by omega
     simp [hn,hs',hs]
   ·simp [hn]
  ·simp [h1,h2,h3,iC]
theorem ja (p:Part) (hl:p.signs.length<=2 ^ 40):ai Tryd.prog 65 [.agg p.row] (.one (.c (vb (ak p)) 1)):=by
 refine pci an Tryd.func65 (λw0 base=>?_);simp [Part.row];intros;by_cases h13:p.kind=1\/p.kind=3
 ·rw [ff h13]
  rcases h13 with h|h
  ·simp [h]
   refine ac.pure (ey p.n 0 200) (by simp) ?_;by_cases hn:0<=p.n/\p.n<=200
   ·simp [hn]
   ·have e:dc (0<=p.n/\p.n<=200)=false:=by rw [bY];exact hn
    simp [hn]
  ·simp [h]
   refine ac.pure (ey p.n 0 200) (by simp) ?_;by_cases hn:0<=p.n/\p.n<=200
   ·simp [hn]
   ·have e:dc (0<=p.n/\p.n<=200)=false:=by rw [bY];exact hn
    simp [hn]
 ·have h1:¬ p.kind=1:=λh=>h13 (.inl h)
  have h3:¬ p.kind=3:=λh=>h13 (.inr h)
  by_cases h2:p.kind=2
  ·rw [cx h2]
   simp [h2];by_cases hn:p.n=0
   ·simp [hn]
    refine ac.pure (dZ p.signs hl) (by simp) ?_;have e:((p.signs.length:Int)<=200)=(p.signs.length<=200):=by simp;omega
    by_cases hg:bi p.signs
    ·simp [hg,e]
    ·simp [hg]
   ·simp [hn]
  ·simp [h1,h2,h3,iC]
def aY (o:List Part):Prop:=(∀ p∈o,ak p)/\o.length<=600
theorem d4 (o:List Part) (hl:nL ar o<=2 ^ 40):ai Tryd.prog 54 [.c (.s (o.map Part.row))] (.one (.c (vb (aY o)) 1)):=by
 refine pci an Tryd.func54 (λw0 base=>?_);have hle:=eU hl;simp;refine aV.intro eok (λi:Nat=>i<=o.length/\∀ p∈o.take i,ak p) (λi=>⟨18,0,[(7,.v (.int .i64 i)),(6,.v (.int .i64 o.length)),(5,.ro (o.map Part.row)),(0,.ro (o.map Part.row))],[]⟩) (λi=>o.length - i) 0 (by simp) (by simp) (λi hi=>?_);by_cases h:i<o.length
 ·simp [h,Part.row]
  intros;refine ac.pure (jr o[i] (mz hl h)) (by simp [Part.row]) ?_;simp;refine Br.mk (λh1=>?_) (λh1=>?_)
  ·simp
   exact ⟨i+1,⟨by omega,ga h hi.2 (eS h1)⟩,by omega,aB (by omega)⟩
  ·simp [bY]
   exact λhp=>gb h (iF h1) hp.1
 ·have ha:=gc (by omega) hi.2
  simp [h];refine kR ?_;unfold aY;exact ⟨λh=>by have:=h.2;omega,λh=>⟨ha,by omega⟩⟩
theorem d3 (o:List Part) (hl:nL ar o<=2 ^ 40):ai Tryd.prog 51 [.c (.s (o.map Part.row))] (.one (.c (vb (aY o)) 1)):=by
 refine pci an Tryd.func51 (λw0 base=>?_);have hle:=eU hl;simp;refine aV.intro eok (λi:Nat=>i<=o.length/\∀ p∈o.take i,ak p) (λi=>⟨18,0,[(7,.v (.int .i64 i)),(6,.v (.int .i64 o.length)),(5,.ro (o.map Part.row)),(0,.ro (o.map Part.row))],[]⟩) (λi=>o.length - i) 0 (by simp) (by simp) (λi hi=>?_);by_cases h:i<o.length
 ·simp [h,Part.row]
  intros;refine ac.pure (ja o[i] (mz hl h)) (by simp [Part.row]) ?_;simp;refine Br.mk (λh1=>?_) (λh1=>?_)
  ·simp
   exact ⟨i+1,⟨by omega,ga h hi.2 (eS h1)⟩,by omega,aB (by omega)⟩
  ·simp [bY]
   exact λhp=>gb h (iF h1) hp.1
 ·have ha:=gc (by omega) hi.2
  simp [h];refine kR ?_;unfold aY;exact ⟨λh=>by have:=h.2;omega,λh=>⟨ha,by omega⟩⟩
set_option maxHeartbeats 1600000
def aL (f:Part->Int):List Part->Int
 | []=>0
 |p::o=>f p+aL f o
theorem fd {f:Part->Int}:∀ (a b:List Part),aL f (a++b)=aL f a+aL f b
 | [],b=>by simp [aL]
 |p::a,b=>by simp only [List.cons_append,aL,fd a b];omega
theorem en {f:Part->Int} {o:List Part} {i:Nat} (h:i<o.length):aL f (o.take (i+1))=aL f (o.take i)+f o[i]:=by
 rw [<- List.take_append_getElem h,fd];simp [aL]
theorem bH {f g:Part->Int}:∀ {o:List Part},(∀ p∈o,f p=g p)->aL f o=aL g o
 | [],_=>rfl
 | p :: o, h => by
   simp only [aL];rw [h p (List.mem_cons_self ..),bH (λq hq=>h q (List.mem_cons_of_mem _ hq))]
theorem ct {f g:Part->Int}:∀ (o:List Part),aL (λp=>f p+g p) o=aL f o+aL g o
 | []=>by simp [aL]
 |p::o=>by simp only [aL,ct o];omega
def fK (p:Part):Int:=if p.kind=1 then p.n else 0
def fP (p:Part):Int:=if p.kind=2 then p.signs.length else 0
def fD (p:Part):Int:=if p.kind=1 then 0 else if p.kind=2 then 0 else p.n
def db (k:Int) (p:Part):Int:=if p.kind=k then 0 else p.n+p.signs.length
theorem ak.bounds {p:Part} (h:ak p):(p.kind=1\/p.kind=2\/p.kind=3)/\0<=p.n/\p.n<=200/\p.signs.length<=200/\(p.kind=2->p.n=0)/\(p.kind≠2->p.signs=[]):=by
 rcases h with ⟨h1,h2,h3⟩|⟨h1,h2,h3,h4⟩
 ·refine ⟨by omega,by omega,by omega,by simp [h3],by omega,λ_=>h3⟩
 ·refine ⟨by omega,by omega,by omega,h3,λ_=>h2,λh=>absurd h1 h⟩
theorem vg {p:Part} (h:ak p):db 2 p=fK p+fD p:=by
 obtain ⟨h1,h2,h3,h4,h5,h6⟩:=h.bounds;unfold db fK fD;by_cases k2:p.kind=2
 ·simp [k2]
 ·by_cases k1:p.kind=1<;>simp [k1,k2,h6 k2]
theorem vf {p:Part} (h:ak p):db 3 p=fK p+fP p:=by
 obtain ⟨h1,h2,h3,h4,h5,h6⟩:=h.bounds;unfold db fK fP;rcases h1 with k|k|k
 ·simp [k,h6 (by omega)]
 ·simp [k,h5 k]
 ·simp [k]
theorem bn {f:Part->Int} {B:Int} (hf:∀ p,ak p->0<=f p/\f p<=B):∀ {o:List Part},(∀ p∈o,ak p)->0<=aL f o/\aL f o<=B*o.length
 | [],_=>by simp [aL]
 | p :: o, h => by
   have h1:=hf p (h p (List.mem_cons_self ..));have h2:=bn hf (o:=o) (λq hq=>h q (List.mem_cons_of_mem _ hq));simp only [aL,List.length_cons];rw [show B*((o.length+1:Nat):Int)=B*o.length+B by rw [Int.natCast_add];simp [Int.mul_add]];omega
theorem x6 {p:Part} (h:ak p):0<=fK p/\fK p<=200:=by have:=h.bounds;unfold fK;split<;>omega
theorem x5 {p:Part} (h:ak p):0<=fP p/\fP p<=200:=by have:=h.bounds;unfold fP;split<;>omega
theorem x7 {p:Part} (h:ak p):0<=fD p/\fD p<=200:=by have:=h.bounds;unfold fD;split<;>(try split)<;>omega
theorem u6 {k:Int} {p:Part} (h:ak p):0<=db k p/\db k p<=400:=by have:=h.bounds;unfold db;split<;>omega
theorem fZ {o:List Part} (h:∀ p∈o,ak p) (i:Nat):∀ p∈o.take i,ak p:=λp hp=>h p (List.mem_of_mem_take hp)
theorem tW (p:Part) (hp:ak p):ai Tryd.prog 83 [.agg p.row] (.one (.c (vi (p.n+p.signs.length)) 1)):=by
 refine pci an Tryd.func83 (λw0 base=>?_);have:=hp.bounds;have e:Go.IntKind.i64.wrap (p.n+(p.signs.length:Int))=p.n+p.signs.length:=Go.IntWalk.i64_in _ (by omega);simp [Part.row,e]
open Classical in
noncomputable def sizeOf (o:List Part) (k:Int):Int:=if aY o then aL (db k) o else 0
theorem eA (o:List Part) (hl:nL ar o<=2 ^ 40) (k:Int):ai Tryd.prog 68 [.c (.s (o.map Part.row)),.c (vi k)] (.one (.c (vi (sizeOf o k)) 1)):=by
 refine pci an Tryd.func68 (λw0 base=>?_);have hle:=eU hl;simp;refine ac.pure (d4 o hl) (by simp) ?_;by_cases ho:aY o
 ·have hr:sizeOf o k=aL (db k) o:=by unfold sizeOf;rw [if_pos ho]
  simp [ho,hr];refine aV.intro eok (λi:Nat=>i<=o.length) (λi=>⟨27,0,[(13,.v (.int .i64 i)),(12,.v (.int .i64 o.length)),(11,.ro (o.map Part.row)),(5,.v (.int .i64 (aL (db k) (o.take i)))),(1,.v (.int .i64 k))],[]⟩) (λi=>o.length - i) 0 (by simp) (by simp [aL]) (λi hi=>?_);by_cases h:i<o.length
  ·have hp:=ho.1 _ (List.getElem_mem h)
   have hb:=bn (f:=db k) (λp h=>u6 h) (fZ ho.1 i);have hb2:=hp.bounds;have hlen:=ho.2;have hlt:(o.take i).length<=600:=by simp;omega
   have hs:=en (f:=db k) h;obtain ⟨q,hq⟩:∃ q,aL (db k) (o.take i)=q:=⟨_,rfl⟩;have e:Go.IntKind.i64.wrap ((i:Int)+1)=((i+1:Nat):Int):=aB (by omega);rw [hq] at hs hb;simp [h,Part.row,hq];intros;by_cases hk:o[i].kind=k
   ·simp [hk]
    refine ⟨i+1,by omega,by omega,e,?_⟩;rw [hs];simp [db,hk]
   ·simp [hk]
    refine ac.pure (tW o[i] hp) (by simp [Part.row]) ?_;have e2:Go.IntKind.i64.wrap (q+(o[i].n+(o[i].signs.length:Int)))=q+(o[i].n+o[i].signs.length):=Go.IntWalk.i64_in _ (by omega);simp [e2];refine ⟨i+1,by omega,by omega,e,?_⟩;rw [hs];simp [db,hk]
  ·simp [h]
   rw [List.take_of_length_le (by omega)]
 ·have e:dc (aY o)=false:=by rw [bY];exact ho
  have hr:sizeOf o k=0:=by unfold sizeOf;rw [if_neg ho]
  simp [e,hr]
open Classical in
noncomputable def ax (o:List Part):Int×Int×Int:=if aY o then (aL fK o,aL fP o,aL fD o) else (0,0,0)
theorem ku (o:List Part) (hl:nL ar o<=2 ^ 40):ai Tryd.prog 66 [.c (.s (o.map Part.row))] (.tup [.c (vi (ax o).1) 1,.c (vi (ax o).2.1) 1,.c (vi (ax o).2.2) 1]):=by
 refine pci an Tryd.func66 (λw0 base=>?_);have hle:=eU hl;simp;refine ac.pure (d3 o hl) (by simp) ?_;by_cases ho:aY o
 ·have hr:ax o=(aL fK o,aL fP o,aL fD o):=by unfold ax;rw [if_pos ho]
  simp [ho,hr];refine aV.intro eok (λi:Nat=>i<=o.length) (λi=>⟨42,0,[(15,.v (.int .i64 i)),(14,.v (.int .i64 o.length)),(13,.ro (o.map Part.row)),(5,.v (.int .i64 (aL fK (o.take i)))),(6,.v (.int .i64 (aL fP (o.take i)))),(7,.v (.int .i64 (aL fD (o.take i))))],[]⟩) (λi=>o.length - i) 0 (by simp) (by simp [aL]) (λi hi=>?_);by_cases h:i<o.length
  ·have hp:=ho.1 _ (List.getElem_mem h)
   have hb1:=bn (f:=fK) (λp h=>x6 h) (fZ ho.1 i);have hb2:=bn (f:=fP) (λp h=>x5 h) (fZ ho.1 i);have hb3:=bn (f:=fD) (λp h=>x7 h) (fZ ho.1 i);have hpb:=hp.bounds;have hlen:=ho.2;have hlt:(o.take i).length<=600:=by simp;omega
   have hs1:=en (f:=fK) h;have hs2:=en (f:=fP) h;have hs3:=en (f:=fD) h;obtain ⟨q1,hq1⟩:∃ q,aL fK (o.take i)=q:=⟨_,rfl⟩;obtain ⟨q2,hq2⟩:∃ q,aL fP (o.take i)=q:=⟨_,rfl⟩;obtain ⟨q3,hq3⟩:∃ q,aL fD (o.take i)=q:=⟨_,rfl⟩;have e:Go.IntKind.i64.wrap ((i:Int)+1)=((i+1:Nat):Int):=aB (by omega);rw [hq1] at hs1 hb1;rw [hq2] at hs2 hb2;rw [hq3] at hs3 hb3;simp [h,Part.row,hq1,hq2,hq3];intros;have e1:Go.IntKind.i64.wrap (q1+o[i].n)=q1+o[i].n:=Go.IntWalk.i64_in _ (by omega);have e2:Go.IntKind.i64.wrap (q2+(o[i].signs.length:Int))=q2+o[i].signs.length:=Go.IntWalk.i64_in _ (by omega);have e3:Go.IntKind.i64.wrap (q3+o[i].n)=q3+o[i].n:=Go.IntWalk.i64_in _ (by omega);by_cases k1:o[i].kind=1
   ·simp [k1,e1]
    refine ⟨i+1,by omega,by omega,e,?_,?_,?_⟩
    ·rw [hs1];simp [fK,k1]
    ·rw [hs2];simp [fP,k1]
    ·rw [hs3];simp [fD,k1]
   ·by_cases k2:o[i].kind=2
    ·simp [k2,e2]
     refine ⟨i+1,by omega,by omega,e,?_,?_,?_⟩
     ·rw [hs1];simp [fK,k2]
     ·rw [hs2];simp [fP,k2]
     ·rw [hs3];simp [fD,k2]
    ·simp [k1,k2,e3]
     refine ⟨i+1,by omega,by omega,e,?_,?_,?_⟩
     ·rw [hs1];simp [fK,k1]
     ·rw [hs2];simp [fP,k2]
     ·rw [hs3];simp [fD,k1,k2]
  ·simp [h]
   rw [List.take_of_length_le (by omega)];simp
 ·have e:dc (aY o)=false:=by rw [bY];exact ho
  have hr:ax o=(0,0,0):=by unfold ax;rw [if_neg ho]
  simp [e,hr]
noncomputable def bI (o:List Part):Int:=(ax o).1+(ax o).2.2
noncomputable def fO (o:List Part):Int:=(ax o).1+(ax o).2.1
theorem kf (o:List Part):sizeOf o 2=bI o:=by
 unfold sizeOf bI ax
 split
 ·rename_i h
  show _=aL fK o+aL fD o
  rw [<- ct];exact bH (λp hp=>vg (h.1 p hp))
 ·rfl
theorem nj (o:List Part):sizeOf o 3=fO o:=by
 unfold sizeOf fO ax
 split
 ·rename_i h
  show _=aL fK o+aL fP o
  rw [<- ct];exact bH (λp hp=>vf (h.1 p hp))
 ·rfl
theorem kv (o:List Part):(0<=(ax o).1/\(ax o).1<=120000)/\(0<=(ax o).2.1/\(ax o).2.1<=120000)/\0<=(ax o).2.2/\(ax o).2.2<=120000:=by
 unfold ax
 split
 ·rename_i h
  have h1:=bn (f:=fK) (λp h=>x6 h) h.1;have h2:=bn (f:=fP) (λp h=>x5 h) h.1;have h3:=bn (f:=fD) (λp h=>x7 h) h.1;have h4:=h.2;simp only;omega
 ·simp
theorem jw (o:List Part) (hl:nL ar o<=2 ^ 40):ai Tryd.prog 55 [.c (.s (o.map Part.row))] (.one (.c (vi (bI o)) 1)):=by
 refine pci an Tryd.func55 (λw0 base=>?_);simp;refine ac.pure (eA o hl 2) (by simp) ?_;simp [kf]
theorem lL (o:List Part) (hl:nL ar o<=2 ^ 40):ai Tryd.prog 56 [.c (.s (o.map Part.row))] (.one (.c (vi (fO o)) 1)):=by
 refine pci an Tryd.func56 (λw0 base=>?_);simp;refine ac.pure (eA o hl 3) (by simp) ?_;simp [nj]
theorem jd (o:List Part) (hl:nL ar o<=2 ^ 40):ai Tryd.prog 52 [.c (.s (o.map Part.row))] (.one (.c (vi (bI o)) 1)):=by
 refine pci an Tryd.func52 (λw0 base=>?_);simp;refine ac.pure (ku o hl) (by simp) ?_;have:=kv o;have e:Go.IntKind.i64.wrap ((ax o).1+(ax o).2.2)=bI o:=Go.IntWalk.i64_in _ (by omega);simp [e]
theorem lq (o:List Part) (hl:nL ar o<=2 ^ 40):ai Tryd.prog 53 [.c (.s (o.map Part.row))] (.one (.c (vi (fO o)) 1)):=by
 refine pci an Tryd.func53 (λw0 base=>?_);simp;refine ac.pure (ku o hl) (by simp) ?_;have:=kv o;have e:Go.IntKind.i64.wrap ((ax o).1+(ax o).2.1)=fO o:=Go.IntWalk.i64_in _ (by omega);simp [e]
def ca (o:List Part):Prop:=aY o/\bI o<=200/\fO o<=200
theorem gv (o:List Part) (hl:nL ar o<=2 ^ 40):ai Tryd.prog 33 [.c (.s (o.map Part.row))] (.one (.c (vb (ca o)) 1)):=by
 refine pci an Tryd.func33 (λw0 base=>?_);simp;refine ac.pure (d4 o hl) (by simp) ?_;by_cases h:aY o
 ·simp [h]
  refine ac.pure (jw o hl) (by simp) ?_;by_cases h1:bI o<=200
  ·simp [h1]
   refine ac.pure (lL o hl) (by simp) ?_;simp [ca,h,h1]
  ·simp [h1,ca,h]
 ·simp [h,ca]
theorem gh (o:List Part) (hl:nL ar o<=2 ^ 40):ai Tryd.prog 30 [.c (.s (o.map Part.row))] (.one (.c (vb (ca o)) 1)):=by
 refine pci an Tryd.func30 (λw0 base=>?_);simp;refine ac.pure (d3 o hl) (by simp) ?_;by_cases h:aY o
 ·simp [h]
  refine ac.pure (jd o hl) (by simp) ?_;by_cases h1:bI o<=200
  ·simp [h1]
   refine ac.pure (lq o hl) (by simp) ?_;simp [ca,h,h1]
  ·simp [h1,ca,h]
 ·simp [h,ca]
def ag (L:List Part) (P:List Int) (D:Int):List Part:=L++((if P=[] then [] else [⟨2,0,P⟩])++(if 0<D then [⟨3,D,[]⟩] else []))
def aI (L:List Part) (n:Int):List Part:=
 if h:0<L.length then
  if (L[L.length - 1]'(by omega)).kind=1 then L.set (L.length - 1) ⟨1,(L[L.length - 1]'(by omega)).n+n,(L[L.length - 1]'(by omega)).signs⟩ else L++[⟨1,n,[]⟩]
 else [⟨1,n,[]⟩]
def bp (s:List Part×List Int×Int) (p:Part):List Part×List Int×Int:=
 if p.kind=2 then (s.1,s.2.1++p.signs,s.2.2)
 else if p.kind=3 then (s.1,s.2.1,s.2.2+p.n)
 else if 0<p.n then (aI (ag s.1 s.2.1 s.2.2) p.n,[],0) else s
def ao (o:List Part):List Part×List Int×Int:=o.foldl bp ([],[],0)
def normal (o:List Part):List Part:=ag (ao o).1 (ao o).2.1 (ao o).2.2
theorem cb {o:List Part} {i:Nat} (h:i<o.length):ao (o.take (i+1))=bp (ao (o.take i)) o[i]:=by
 unfold ao;rw [<- List.take_append_getElem h,List.foldl_append];rfl
structure NbOk (m:Nat) (s:List Part×List Int×Int):Prop where
 l:s.1.length<=3*m
 p:s.2.1.length<=200*m
 d0:0<=s.2.2
 d:s.2.2<=200*m
 q:∀ q∈s.1,0<=q.n/\q.n<=200*m
theorem dA (L:List Part) (P:List Int) (D:Int):(ag L P D).length<=L.length+2:=by
 unfold ag
 split<;>split<;>simp
theorem eT {L:List Part} {P:List Int} {D B:Int} (h0:0<=D) (hD:D<=B) (hL:∀ q∈L,0<=q.n/\q.n<=B):∀ q∈ag L P D,0<=q.n/\q.n<=B:=by
 intro q hq;unfold ag at hq;simp only [List.mem_append] at hq;rcases hq with hq|hq|hq
 ·exact hL q hq
 ·split at hq
  ·simp at hq
  ·simp at hq;subst hq;simp;omega
 ·split at hq
  ·simp at hq;subst hq;simp;omega
  ·simp at hq
theorem er {o:List Part} (ho:∀ p∈o,ak p):∀ (i:Nat),i<=o.length->NbOk i (ao (o.take i))
 | 0, _ => by
   simp [ao];exact ⟨by simp,by simp,by simp,by simp,by simp⟩
 | i + 1, hi => by
   have ih:=er ho i (by omega);have hlt:i<o.length:=by omega
   rw [cb hlt];have hp:=(ho _ (List.getElem_mem hlt)).bounds;generalize ao (o.take i)=s at ih;generalize o[i]=p at hp;obtain ⟨L,P,D⟩:=s;obtain ⟨h1,h2,h3,h4,h5⟩:=ih;simp only at h1 h2 h3 h4 h5;have w:∀ q∈L,0<=q.n/\q.n<=200*((i+1:Nat):Int):=λq hq=>by have:=h5 q hq;omega
   unfold bp
   split
   ·exact ⟨by simp;omega,by simp;omega,h3,by simp;omega,w⟩
   ·split
    ·exact ⟨by simp;omega,by simp;omega,by simp;omega,by simp;omega,w⟩
    ·split
     ·have f1:=dA L P D
      have f2:=eT (P:=P) h3 h4 h5;refine ⟨?_,by simp,by simp,by simp;omega,?_⟩
      ·simp only [aI]
       split
       ·split<;>simp<;>omega
       ·simp;omega
      ·simp only [aI]
       intro q hq
       split at hq
       ·split at hq
        ·rcases List.mem_or_eq_of_mem_set hq with hq|rfl
         ·have:=f2 q hq;omega
         ·have:=f2 _ (List.getElem_mem (show (ag L P D).length - 1<(ag L P D).length by omega))
          simp only;omega
        ·rcases List.mem_append.1 hq with hq|hq
         ·have:=f2 q hq;omega
         ·simp at hq;subst hq;simp;omega
       ·simp at hq;subst hq;simp;omega
     ·exact ⟨by simp;omega,by simp;omega,h3,by simp;omega,w⟩
theorem p6 {L:List Part} {P:List Int} {D:Int} (hP:¬ P=[]) (hD:0<D):ag L P D=L++[⟨2,0,P⟩]++[⟨3,D,[]⟩]:=by simp [ag,hP,hD]
theorem p5 {L:List Part} {P:List Int} {D:Int} (hP:¬ P=[]) (hD:¬ 0<D):ag L P D=L++[⟨2,0,P⟩]:=by simp [ag,hP,hD]
theorem p4 {L:List Part} {P:List Int} {D:Int} (hP:P=[]) (hD:0<D):ag L P D=L++[⟨3,D,[]⟩]:=by simp [ag,hP,hD]
theorem p3 {L:List Part} {P:List Int} {D:Int} (hP:P=[]) (hD:¬ 0<D):ag L P D=L:=by simp [ag,hP,hD]
theorem dD {w0:World} {bF bG:Nat->Prop} {bl:Bool} {st:ASt} {dst:Option Nat} {K:ASt->Prop} {L:List Part} {P:List Int} {D:Int} {b3 b4 b5:Nat} {Hl Hp:Hd} (hL:L.length<=2 ^ 20) (_hP:P.length<=2 ^ 40)
 (g48:st.h.get 48=.vars b3 27 [.sl 5000 Hl 3 0 L.length]) (g64:st.h.get 64=.vars b4 42 [.sl 5001 Hp 1 0 P.length]) (g80:st.h.get 80=.vars b5 3 [.v (.int .i64 D)])
 (g5000:st.h.get 5000=.rows Hl 3 (L.map Part.row) true) (g5001:st.h.get 5001=.rows Hp 1 (P.map aM) true)
 (hK:∀ Hl' h',AH.get h' 48=.vars b3 27 [.sl 5000 Hl' 3 0 (ag L P D).length] -> AH.get h' 5000=.rows Hl' 3 ((ag L P D).map Part.row) true -> AH.get h' 64=.vars b4 42 [.nil] -> AH.get h' 80=.vars b5 3 [.v (.int .i64 0)] ->
  AH.get h' 128=st.h.get 128->am ⟨st.n,st.kb,st.t,h'⟩ dst (.tup []) K):ac ⟨Tryd.prog,tt,w0,⟨bF,bG,bl,λ_=>True⟩⟩ 95 [.p 64 b4 0,.p 48 b3 0,.p 80 b5 0] st dst K:=by
 refine inl an Tryd.func95 20000 (λw1 F=>?_);simp [g64];by_cases hp:P=[]
 ·have hp0:¬ 0<P.length:=by simp [hp]
  simp [hp0,g80];by_cases hd:0<D
  ·simp [hd,g48,g5000,g80,g64]
   intro b;refine ⟨by omega,λH=>hK H _ ?_ ?_ ?_ ?_ ?_⟩<;>simp [p4 hp hd,Part.row]
  ·simp [hd,g80,g64]
   refine hK Hl _ ?_ ?_ ?_ ?_ ?_<;>simp [p3 hp hd,g48,g5000]
 ·have hp0:0<P.length:=List.length_pos_iff.2 hp
  simp [hp0,g80,g48,g5000,g5001,g64];intro b;refine ⟨by omega,λH=>?_⟩;by_cases hd:0<D
  ·simp [hd,g80,g64]
   intro b2;refine ⟨by omega,λH2=>hK H2 _ ?_ ?_ ?_ ?_ ?_⟩<;>simp [p6 hp hd,Part.row]
  ·simp [hd,g80,g64]
   refine hK H _ ?_ ?_ ?_ ?_ ?_<;>simp [p5 hp hd,Part.row]
theorem gn {F:List Part} {m:Nat} (h:m<F.length) {g:List CD->List CD} {p:Part} (hg:g F[m].row=p.row):(F.map Part.row).modify m g=(F.set m p).map Part.row:=by
 apply List.ext_getElem?
 intro j;rw [List.getElem?_modify];simp only [List.getElem?_map,List.getElem?_set];by_cases hj:m=j
 ·subst hj
  simp [h,hg]
 ·simp [hj]
theorem pp (o:List Part) (ho:∀ p∈o,ak p) (hl:o.length<=10000):ai Tryd.prog 82 [.c (.s (o.map Part.row))] (.one (.c (.s ((normal o).map Part.row)) 3)):=by
 refine pci an Tryd.func82 (λw0 base=>?_);simp;intro b3 b4 b5
 refine be eok (λx:Nat×Hd×Hd=>x.1<=o.length) (λx=>⟨73,0,[(13,.v (.int .i64 x.1)),(12,.v (.int .i64 o.length)),(11,.ro (o.map Part.row)),(3,.p 48 b3 0),(4,.p 64 b4 0),(5,.p 80 b5 0),(6,.clo 95 [.p 64 b4 0,.p 48 b3 0,.p 80 b5 0])],
  [(48, .vars b3 27 [.sl 5000 x.2.1 3 0 (ao (o.take x.1)).1.length]), (64, .vars b4 42 [.sl 5001 x.2.2 1 0 (ao (o.take x.1)).2.1.length]), (80, .vars b5 3 [.v (.int .i64 (ao (o.take x.1)).2.2)]),
   (5000,.rows x.2.1 3 ((ao (o.take x.1)).1.map Part.row) true),(5001,.rows x.2.2 1 ((ao (o.take x.1)).2.1.map aM) true)]⟩) (λx=>o.length - x.1) (0,none,none) (by simp) (by simp [ao]) (λx hx=>Ent.refl ?_)
 obtain ⟨i,Hl,Hp⟩:=x;simp only at hx ⊢;have hok:=er ho i hx;by_cases h:i<o.length
 ·have hs:=cb h
  have hpb:=(ho _ (List.getElem_mem h)).bounds;generalize ao (o.take i)=s at hok hs;obtain ⟨L,P,D⟩:=s;obtain ⟨k1,k2,k3,k4,k5⟩:=hok;simp only at k1 k2 k3 k4 k5;have e:Go.IntKind.i64.wrap ((i:Int)+1)=((i+1:Nat):Int):=aB (by omega);simp [h,Part.row];intro b8;by_cases c2:o[i].kind=2
  ·simp [c2]
   refine ⟨by omega,λH=>?_⟩;refine Ent.refl ⟨i+1,by omega,by omega,Hl,H,?_⟩;rw [hs];simp [bp,c2,e]
  ·by_cases c3:o[i].kind=3
   ·have e3:Go.IntKind.i64.wrap (D+o[i].n)=D+o[i].n:=Go.IntWalk.i64_in _ (by omega)
    simp [c3,e3];refine Ent.refl ⟨i+1,by omega,by omega,Hl,Hp,?_⟩;rw [hs];simp [bp,c3,e]
   ·by_cases cn:0<o[i].n
    ·simp [c2,c3,cn]
     refine dD (L:=L) (P:=P) (D:=D) (Hl:=Hl) (Hp:=Hp) (by omega) (by omega) (by simp) (by simp) (by simp) (by simp) (by simp) (λHl' h' g48 g5000 g64 g80 g128=>?_);have f1:=dA L P D;have f2:=eT (P:=P) k3 k4 k5;have hstep:bp (L,P,D) o[i]=(aI (ag L P D) o[i].n,[],0):=by simp [bp,c2,c3,cn]
     rw [hstep] at hs;generalize ag L P D=F at f1 f2 g48 g5000 hs;simp at g128;by_cases hF:0<F.length
     ·obtain ⟨m,hm⟩:∃ m,F.length=m+1:=⟨F.length - 1,by omega⟩
      have hmlt:m<F.length:=by omega
      have em:Go.IntKind.i64.wrap (m:Int)=m:=jy (by omega)
      have hk:aI F o[i].n=if F[m].kind=1 then F.set m ⟨1,F[m].n+o[i].n,F[m].signs⟩ else F++[⟨1,o[i].n,[]⟩]:=by
       have e0:F.length - 1=m:=by omega
       simp [aI,hF,e0]
      have hq:=f2 _ (List.getElem_mem hmlt);simp [g48,g5000,hm,em,Part.row];by_cases ck:F[m].kind=1
      ·rw [if_pos ck] at hk
       have em2:Go.IntKind.i64.wrap (F[m].n+o[i].n)=F[m].n+o[i].n:=Go.IntWalk.i64_in _ (by omega);have hmm:(m:Int)<m+1:=by omega
       simp [ck,hmm];refine drw eok mix [0,1,2,3,4,5,6,7,8,9,10] [11] (.c 11 11 2045 2 (.l 11 2) .s) ?_;simp [g48,g5000,g128,hm,em,Part.row,ck,em2,hmm];refine Ent.kill 5001 (Ent.refl ⟨i+1,by omega,by omega,Hl',none,?_⟩);rw [hs,hk];have hmod:=gn (F:=F) (m:=m) hmlt (g:=λrow=>br row 1 [CD.v (Value.int IntKind.i64 (F[m].n+o[i].n))]) (p:=⟨1,F[m].n+o[i].n,F[m].signs⟩) (by simp [Part.row,ck]);simp [e,g48,g64,g80,hm,hmod]
      ·rw [if_neg ck] at hk
       simp [ck,g48,g5000,g128,hm];refine ⟨by omega,λb=>⟨by omega,λH=>?_⟩⟩;refine Ent.kill 5001 (Ent.refl ⟨i+1,by omega,by omega,H,none,?_⟩);rw [hs,hk];simp [e,Part.row,g64,g80,hm]
     ·have hF0:F=[]:=List.eq_nil_of_length_eq_zero (by omega)
      subst hF0;have hk:aI [] o[i].n=[⟨1,o[i].n,[]⟩]:=by simp [aI]
      simp [g48,g5000,g128];intro b H;refine Ent.kill 5001 (Ent.refl ⟨i+1,by omega,by omega,H,none,?_⟩);rw [hs,hk];simp [e,Part.row,g64,g80]
    ·simp [c2,c3,cn]
     refine Ent.refl ⟨i+1,by omega,by omega,Hl,Hp,?_⟩;rw [hs];simp [bp,c2,c3,cn,e]
 ·have he:o.take i=o:=List.take_of_length_le (by omega)
  rw [he] at hok ⊢;have hn:normal o=ag (ao o).1 (ao o).2.1 (ao o).2.2:=rfl;rw [hn];generalize ao o=s at hok;obtain ⟨L,P,D⟩:=s;obtain ⟨k1,k2,k3,k4,k5⟩:=hok;simp only at k1 k2 k3 k4 k5;simp [h];refine dD (L:=L) (P:=P) (D:=D) (Hl:=Hl) (Hp:=Hp) (by omega) (by omega) (by simp) (by simp) (by simp) (by simp) (by simp) (λHl' h' g48 g5000 g64 g80 g128=>?_);simp [g48,g5000]
theorem dv {w0:World} {bF bG:Nat->Prop} {bl:Bool} {st:ASt} {dst:Option Nat} {K:ASt->Prop} {L:List Part} {P:List Int} {D:Int} {b:Nat} {Hl Hp:Hd} (hL:L.length<=2 ^ 20) (_hP:P.length<=2 ^ 40)
 (g160:st.h.get 160=.vars b 89 [.sl 5000 Hl 3 0 L.length,.sl 5001 Hp 1 0 P.length,.v (.int .i64 D)])
 (g5000:st.h.get 5000=.rows Hl 3 (L.map Part.row) true) (g5001:st.h.get 5001=.rows Hp 1 (P.map aM) true)
 (hK:∀ Hl' h',AH.get h' 160=.vars b 89 [.sl 5000 Hl' 3 0 (ag L P D).length,.nil,.v (.int .i64 0)] -> AH.get h' 5000=.rows Hl' 3 ((ag L P D).map Part.row) true ->
  AH.get h' 80=st.h.get 80->am ⟨st.n,st.kb,st.t,h'⟩ dst (.tup []) K):ac ⟨Tryd.prog,tt,w0,⟨bF,bG,bl,λ_=>True⟩⟩ 84 [.p 160 b 0] st dst K:=by
 refine inl an Tryd.func84 20000 (λw1 F=>?_);simp [g160];by_cases hp:P=[]
 ·have hp0:¬ 0<P.length:=by simp [hp]
  simp [hp0,g160];by_cases hd:0<D
  ·simp [hd]
   refine drw eok mix [0,1,2,3,4,5,6,7,8,9,12,13] [10,11,14] (.c 12 10 4 4091 (.c 12 11 128 3963 (.c 12 14 3961 2 (.l 12 2) .s) .s) .s) ?_;simp [g160,g5000];intro b1;refine ⟨by omega,λH=>hK H _ ?_ ?_ ?_⟩<;>simp [p4 hp hd,Part.row]
  ·simp [hd,g160]
   refine hK Hl _ ?_ ?_ ?_<;>simp [p3 hp hd,g5000]
 ·have hp0:0<P.length:=List.length_pos_iff.2 hp
  simp [hp0];refine drw eok mix [0,1,2,3,4,5,6,7,8,9,12,13] [10,11,14] (.c 12 10 4 4091 (.c 12 11 128 3963 (.c 12 14 3961 2 (.l 12 2) .s) .s) .s) ?_;simp [g160,g5000,g5001];intro b1;refine ⟨by omega,λH=>?_⟩;by_cases hd:0<D
  ·simp [hd]
   refine drw eok mix [0,1,2,3,4,5,6,7,8,9,12,13] [10,11,14] (.c 12 10 4 4091 (.c 12 11 128 3963 (.c 12 14 3961 2 (.l 12 2) .s) .s) .s) ?_;simp;intro b2;refine ⟨by omega,λH2=>hK H2 _ ?_ ?_ ?_⟩<;>simp [p6 hp hd,Part.row]
  ·simp [hd]
   refine hK H _ ?_ ?_ ?_<;>simp [p5 hp hd,Part.row]
theorem gY {w0:World} {bF bG:Nat->Prop} {bl:Bool} {st:ASt} {dst:Option Nat} {K:ASt->Prop} {L:List Part} {P:List Int} {D n:Int} {b:Nat} {Hl Hp:Hd} (hL:L.length<=2 ^ 19) (hP:P.length<=2 ^ 40) (hn0:0<n) (hn:n<=200) (hF:∀ q∈ag L P D,0<=q.n/\q.n<=2 ^ 40)
 (g160:st.h.get 160=.vars b 89 [.sl 5000 Hl 3 0 L.length,.sl 5001 Hp 1 0 P.length,.v (.int .i64 D)])
 (g5000:st.h.get 5000=.rows Hl 3 (L.map Part.row) true) (g5001:st.h.get 5001=.rows Hp 1 (P.map aM) true)
 (hK:∀ Hl' h',AH.get h' 160=.vars b 89 [.sl 5000 Hl' 3 0 (aI (ag L P D) n).length,.nil,.v (.int .i64 0)] -> AH.get h' 5000=.rows Hl' 3 ((aI (ag L P D) n).map Part.row) true ->
  AH.get h' 80=st.h.get 80->am ⟨st.n,st.kb,st.t,h'⟩ dst (.tup []) K):ac ⟨Tryd.prog,tt,w0,⟨bF,bG,bl,λ_=>True⟩⟩ 71 [.p 160 b 0,.v (.int .i64 n)] st dst K:=by
 refine inl an Tryd.func71 30000 (λw1 F=>?_);have n0:¬ n=0:=by omega
 simp [n0];refine dv (L:=L) (P:=P) (D:=D) (Hl:=Hl) (Hp:=Hp) (by omega) hP (by simp [g160]) (by simp [g5000]) (by simp [g5001]) (λHl' h' k160 k5000 k80=>?_);have f1:=dA L P D;generalize ag L P D=F at f1 hF k160 k5000 hK;by_cases hF0:0<F.length
 ·obtain ⟨m,hm⟩:∃ m,F.length=m+1:=⟨F.length - 1,by omega⟩
  have hmlt:m<F.length:=by omega
  have hmm:(m:Int)<m+1:=by omega
  have em:Go.IntKind.i64.wrap (m:Int)=m:=jy (by omega)
  have hk:aI F n=if F[m].kind=1 then F.set m ⟨1,F[m].n+n,F[m].signs⟩ else F++[⟨1,n,[]⟩]:=by
   have e0:F.length - 1=m:=by omega
   simp [aI,hF0,e0]
  have hq:=hF _ (List.getElem_mem hmlt);have em2:Go.IntKind.i64.wrap (F[m].n+n)=F[m].n+n:=Go.IntWalk.i64_in _ (by omega);simp [k160,k5000,hm,em,hmm,Part.row];by_cases ck:F[m].kind=1
  ·rw [if_pos ck] at hk
   simp [ck];refine drw eok mix [0,1,2,3,4,5,6,7,8,9,10,11,12,13,14,15,16,17,18] [19] (.c 19 19 524285 2 (.l 19 2) .s) ?_;simp [k160,k5000,hm,em,hmm,Part.row,ck,em2];have hmod:=gn (F:=F) (m:=m) hmlt (g:=λrow=>br row 1 [CD.v (Value.int IntKind.i64 (F[m].n+n))]) (p:=⟨1,F[m].n+n,F[m].signs⟩) (by simp [Part.row,ck]);refine hK Hl' _ ?_ ?_ ?_
   ·simp [k160,hk,hm]
   ·simp [hk,hmod]
   ·simp [k80]
  ·rw [if_neg ck] at hk
   simp [ck,k160,k5000,hm];intro b1;refine ⟨by omega,λH=>hK H _ ?_ ?_ ?_⟩<;>simp [hk,hm,Part.row,k80]
 ·have hF1:F=[]:=List.eq_nil_of_length_eq_zero (by omega)
  subst hF1;have hk:aI [] n=[⟨1,n,[]⟩]:=by simp [aI]
  simp [k160,k5000];intro b1 H;refine hK H _ ?_ ?_ ?_<;>simp [hk,Part.row,k80]
open Classical in
noncomputable def aG (o:List Part):List Part:=if ca o then normal o else []
theorem jv (o:List Part) (hl:nL ar o<=2 ^ 40):ai Tryd.prog 63 [.c (.s (o.map Part.row))] (.one (.c (.s ((aG o).map Part.row)) 3)):=by
 refine pci an Tryd.func63 (λw0 base=>?_);simp;refine ac.pure (gv o hl) (by simp) ?_;by_cases h:ca o
 ·have e:aG o=normal o:=by unfold aG;rw [if_pos h]
  simp [h,e];refine ac.pure (pp o h.1.1 (by have:=h.1.2;omega)) (by simp) ?_;simp
 ·have e:aG o=[]:=by unfold aG;rw [if_neg h]
  have e2:dc (ca o)=false:=by rw [bY];exact h
  simp [e,e2]
theorem jc (o:List Part) (hl:nL ar o<=2 ^ 40):ai Tryd.prog 60 [.c (.s (o.map Part.row))] (.one (.c (.s ((aG o).map Part.row)) 3)):=by
 refine pci an Tryd.func60 (λw0 base=>?_);simp;refine ac.pure (gh o hl) (by simp) ?_;by_cases hopk:ca o
 rotate_left
 ·have e:aG o=[]:=by unfold aG;rw [if_neg hopk]
  have e2:dc (ca o)=false:=by rw [bY];exact hopk
  simp [e,e2]
 have e:aG o=normal o:=by unfold aG;rw [if_pos hopk]
 have ho:=hopk.1.1;have hlen:=hopk.1.2;simp [hopk,e];intro b
 refine be eok (λx:Nat×Hd×Hd=>x.1<=o.length) (λx=>⟨38,0,[(13,.v (.int .i64 x.1)),(12,.v (.int .i64 o.length)),(11,.ro (o.map Part.row)),(3,.p 160 b 0)],
  [(160, .vars b 89 [.sl 5000 x.2.1 3 0 (ao (o.take x.1)).1.length, .sl 5001 x.2.2 1 0 (ao (o.take x.1)).2.1.length, .v (.int .i64 (ao (o.take x.1)).2.2)]),
   (5000,.rows x.2.1 3 ((ao (o.take x.1)).1.map Part.row) true),(5001,.rows x.2.2 1 ((ao (o.take x.1)).2.1.map aM) true)]⟩) (λx=>o.length - x.1) (0,none,none) (by simp) (by simp [ao]) (λx hx=>Ent.refl ?_)
 obtain ⟨i,Hl,Hp⟩:=x;simp only at hx ⊢;have hok:=er ho i hx;by_cases h:i<o.length
 ·have hs:=cb h
  have hpb:=(ho _ (List.getElem_mem h)).bounds;generalize ao (o.take i)=s at hok hs;obtain ⟨L,P,D⟩:=s;obtain ⟨k1,k2,k3,k4,k5⟩:=hok;simp only at k1 k2 k3 k4 k5;have e:Go.IntKind.i64.wrap ((i:Int)+1)=((i+1:Nat):Int):=aB (by omega);simp [h,Part.row];intro b5;by_cases c1:o[i].kind=1
  ·simp [c1]
   by_cases cn:0<o[i].n
   ·have hstep:bp (L,P,D) o[i]=(aI (ag L P D) o[i].n,[],0):=by simp [bp,c1,cn]
    rw [hstep] at hs;have f2:=eT (P:=P) k3 k4 k5;refine gY (L:=L) (P:=P) (D:=D) (Hl:=Hl) (Hp:=Hp) (by omega) (by omega) cn hpb.2.2.1 (λq hq=>by have:=f2 q hq;omega) (by simp) (by simp) (by simp) (λHl' h' k160 k5000 k80=>?_);simp;refine Ent.kill 5001 (Ent.refl ⟨i+1,by omega,by omega,Hl',none,?_⟩);rw [hs];simp [e,k160,k5000]
   ·have cn0:o[i].n=0:=by omega
    refine inl an Tryd.func71 30000 (λw1 F=>?_);simp [cn0];refine Ent.refl ⟨i+1,by omega,by omega,Hl,Hp,?_⟩;rw [hs];simp [bp,c1,cn0,e]
  ·by_cases c2:o[i].kind=2
   ·simp [c2]
    refine inl an Tryd.func72 30000 (λw1 F=>?_);simp;refine ⟨by omega,λH=>?_⟩;refine Ent.refl ⟨i+1,by omega,by omega,Hl,H,?_⟩;rw [hs];simp [bp,c2,e]
   ·have c3:o[i].kind=3:=by omega
    have e3:Go.IntKind.i64.wrap (D+o[i].n)=D+o[i].n:=Go.IntWalk.i64_in _ (by omega);simp [c1,c2];refine inl an Tryd.func73 30000 (λw1 F=>?_);simp [e3];refine Ent.refl ⟨i+1,by omega,by omega,Hl,Hp,?_⟩;rw [hs];simp [bp,c3,e]
 ·have he:o.take i=o:=List.take_of_length_le (by omega)
  rw [he] at hok ⊢;have hn:normal o=ag (ao o).1 (ao o).2.1 (ao o).2.2:=rfl;rw [hn];generalize ao o=s at hok;obtain ⟨L,P,D⟩:=s;obtain ⟨k1,k2,k3,k4,k5⟩:=hok;simp only at k1 k2 k3 k4 k5;simp [h];refine inl an Tryd.func74 30000 (λw1 F=>?_);simp;refine dv (L:=L) (P:=P) (D:=D) (Hl:=Hl) (Hp:=Hp) (by omega) (by omega) (by simp) (by simp) (by simp) (λHl' h' k160 k5000 k80=>?_);simp [k160,k5000]
def lI (o:List Part):Prop:=ca o/\aG o=o
def tR (t:List Int):Prop:=t.length<=200/\bi t
def psz (p:Part):Nat:=p.n.toNat+p.signs.length
def xr (p:Part) (n:Nat):Part:=if p.kind=2 then ⟨p.kind,p.n,p.signs.take n⟩ else ⟨p.kind,n,p.signs⟩
def cw (p:Part) (n:Nat):Part:=if p.kind=2 then ⟨p.kind,p.n,p.signs.drop n⟩ else ⟨p.kind,p.n - n,p.signs⟩
theorem ji {p:Part} (h:ak p):(psz p:Int)=p.n+p.signs.length/\psz p<=200:=by
 have hb:=h.bounds;unfold psz;by_cases hk:p.kind=2
 ·have:=hb.2.2.2.2.1 hk
  omega
 ·have:=hb.2.2.2.2.2 hk
  rw [this];simp;omega
@[simp] theorem wh {p:Part} {n:Nat}:(xr p n).kind=p.kind:=by unfold xr;split<;>rfl
@[simp] theorem ud {p:Part} {n:Nat}:(cw p n).kind=p.kind:=by unfold cw;split<;>rfl
theorem pb {p:Part} (h:ak p) {n:Nat} (hn:n<=psz p):ak (cw p n):=by
 have hp:=ji h;unfold cw;by_cases hk:p.kind=2
 ·rw [if_pos hk]
  rw [cx hk] at h;refine .inr ⟨hk,h.1,?_,λm hm=>h.2.2 m (List.mem_of_mem_drop hm)⟩;simp;omega
 ·rw [if_neg hk]
  have hb:=h.bounds;have hk2:p.kind=1\/p.kind=3:=by omega
  have:=hb.2.2.2.2.2 hk;refine .inl ⟨hk2,?_,this⟩;rw [this] at hp;simp at hp;simp only;omega
theorem pa {p:Part} (h:ak p) {n:Nat} (hn:n<=psz p):psz (cw p n)=psz p - n:=by
 have hb:=h.bounds;unfold psz cw at *;by_cases hk:p.kind=2
 ·rw [if_pos hk]
  have:=hb.2.2.2.2.1 hk;simp only [this,List.length_drop] at hn ⊢;omega
 ·rw [if_neg hk]
  have:=hb.2.2.2.2.2 hk;simp only [this,List.length_nil] at hn ⊢;omega
theorem kc {p:Part} {m n:Nat}:cw (cw p m) n=cw p (m+n):=by
 unfold cw;by_cases hk:p.kind=2
 ·simp [hk,List.drop_drop]
 ·simp [hk]
  omega
def tsz:List Part->Nat
 | []=>0
 |p::l=>psz p+tsz l
def frs:List Part->Nat
 | []=>0
 |p::l=>(if p.kind=2 then 0 else psz p)+frs l
def tos:List Part->Nat
 | []=>0
 |p::l=>(if p.kind=3 then 0 else psz p)+tos l
theorem jA:∀ {o:List Part},(∀ p∈o,ak p)->(frs o:Int)=aL (db 2) o
 | [],_=>rfl
 | p :: o, h => by
   have ih:=jA (λq hq=>h q (List.mem_cons_of_mem _ hq));have hp:=ji (h p (List.mem_cons_self ..));simp only [frs,aL,db]
   split<;>simp<;>omega
theorem i7:∀ {o:List Part},(∀ p∈o,ak p)->(tos o:Int)=aL (db 3) o
 | [],_=>rfl
 | p :: o, h => by
   have ih:=i7 (λq hq=>h q (List.mem_cons_of_mem _ hq));have hp:=ji (h p (List.mem_cons_self ..));simp only [tos,aL,db]
   split<;>simp<;>omega
theorem pZ {o:List Part} (h:ca o):(frs o:Int)=bI o:=by
 rw [jA h.1.1,bH (λp hp=>vg (h.1.1 p hp)),ct];unfold bI ax;rw [if_pos h.1]
theorem s9 {o:List Part} (h:ca o):(tos o:Int)=fO o:=by
 rw [i7 h.1.1,bH (λp hp=>vf (h.1.1 p hp)),ct];unfold fO ax;rw [if_pos h.1]
theorem oA:∀ (o:List Part),tsz o<=frs o+tos o
 | []=>by simp [tsz]
 | p :: o => by
   have:=oA o;simp only [tsz,frs,tos]
   split<;>split<;>omega
def cur (o:List Part) (i d:Nat):List Part:=
 match o.drop i with
 | []=>[]
 |p::l=>cw p d::l
theorem sd {o:List Part} {i d:Nat} (h:o.length<=i):cur o i d=[]:=by unfold cur;rw [List.drop_eq_nil_of_le h]
theorem qf {o:List Part} {i d:Nat} (h:i<o.length):cur o i d=cw o[i] d::o.drop (i+1):=by unfold cur;rw [List.drop_eq_getElem_cons h]
theorem qe {o:List Part} {i d n:Nat} (h:i<o.length) {p:Part} {l:List Part} (hc:cur o i d=p::l):cw p n::l=cur o i (d+n):=by
 rw [qf h] at hc ⊢
 cases hc
 rw [kc]
structure Cu (a:List Part) (i d:Nat) (X:List Part):Prop where
 ok:∀ p∈a,ak p
 le:i<=a.length
 v:∀ h:i<a.length,d<=psz a[i]
 z:i=a.length->d=0
 c:cur a i d=X
theorem Cu.head {a:List Part} {i d:Nat} {p:Part} {l:List Part} (h:Cu a i d (p::l)):∃ hi:i<a.length,p=cw a[i] d/\l=a.drop (i+1)/\psz p=psz a[i] - d/\d<=psz a[i]/\p.kind=a[i].kind/\ak p:=by
 have hi:i<a.length:=by
  have:=h.le;rcases Nat.lt_or_ge i a.length with h1|h1
  ·exact h1
  ·have:=h.c
   rw [sd h1] at this
   cases this
 have hc:=h.c;rw [qf hi] at hc
 cases hc
 have hp:=h.ok _ (List.getElem_mem hi);exact ⟨hi,rfl,rfl,pa hp (h.v hi),h.v hi,by simp,pb hp (h.v hi)⟩
theorem Cu.add {a:List Part} {i d n:Nat} {p:Part} {l:List Part} (h:Cu a i d (p::l)) (hn:n<=psz p):Cu a i (d+n) (cw p n::l):=by
 obtain ⟨hi,h1,h2,h3,h4,-,-⟩:=h.head;exact ⟨h.ok,h.le,λ_=>by omega,λhe=>by omega,(qe hi h.c).symm⟩
def Rep.zero:Rep:=⟨0,0,0,[],false,[],[]⟩
theorem dR {α β:Type} {f:α->β} {l:List α} {i:Nat} (h:i<l.length):List.take i (l.map f)++[f l[i]]=List.take (i+1) (l.map f):=by
 rw [List.take_add_one];simp [h]
def Call.zero:Call:=⟨0,⟨#[]⟩,0,0,0,[],[]⟩
def vm (t:List Int) (s:List Int×Int) (p:Part):List Int×Int:=
 if p.kind=1 then (s.1++(t.drop s.2.toNat).take p.n.toNat,s.2+p.n) else if p.kind=2 then (s.1++p.signs,s.2) else (s.1,s.2+p.n)
def yc (o:List Part) (t:List Int):List Int×Int:=o.foldl (vm t) ([],0)
def x3 (o:List Part) (t:List Int):Prop:=ca o/\tR t/\bI o=t.length
open Classical in
noncomputable def apply (o:List Part) (t:List Int):List Int×Bool:=if x3 o t then ((yc o t).1,true) else ([],false)
def Doc.zero:Doc:=⟨⟨#[]⟩,0,[],[],[]⟩
def Net.zero:Net:=⟨Doc.zero,[]⟩
inductive At where
 |k
 |p (c:Int)
 |d
def ats (p:Part):List At:=if p.kind=2 then p.signs.map At.p else if p.kind=3 then List.replicate (psz p) .d else List.replicate (psz p) .k
def au:List Part->List At
 | []=>[]
 |p::l=>ats p++au l
theorem bT:∀ (a b:List Part),au (a++b)=au a++au b
 | [],b=>rfl
 |p::a,b=>by simp [au,bT a b]
def frA:List At->Nat
 | []=>0
 | .p _::l=>frA l
 |_::l=>frA l+1
def toA:List At->Nat
 | []=>0
 | .d::l=>toA l
 |_::l=>toA l+1
theorem cc:∀ (a b:List At),frA (a++b)=frA a+frA b
 | [],b=>by simp [frA]
 | .p c::a,b=>by simp [frA,cc a b]
 | .k::a,b=>by simp [frA,cc a b];omega
 | .d::a,b=>by simp [frA,cc a b];omega
theorem bE:∀ (a b:List At),toA (a++b)=toA a+toA b
 | [],b=>by simp [toA]
 | .d::a,b=>by simp [toA,bE a b]
 | .k::a,b=>by simp [toA,bE a b];omega
 | .p c::a,b=>by simp [toA,bE a b];omega
theorem jB:∀ l:List Int,frA (l.map At.p)=0
 | []=>rfl
 |c::l=>by simp [frA,jB l]
theorem ge:∀ l:List Int,toA (l.map At.p)=l.length
 | []=>rfl
 |c::l=>by simp [toA,ge l]
theorem p0:∀ n:Nat,frA (List.replicate n At.k)=n
 |0=>rfl
 |n+1=>by simp [List.replicate_succ,frA,p0 n]
theorem jC:∀ n:Nat,frA (List.replicate n At.d)=n
 |0=>rfl
 |n+1=>by simp [List.replicate_succ,frA,jC n]
theorem ln:∀ n:Nat,toA (List.replicate n At.k)=n
 |0=>rfl
 |n+1=>by simp [List.replicate_succ,toA,ln n]
theorem gf:∀ n:Nat,toA (List.replicate n At.d)=0
 |0=>rfl
 |n+1=>by simp [List.replicate_succ,toA,gf n]
theorem ri {p:Part} (h:ak p) (k:p.kind=2):psz p=p.signs.length:=by
 rw [cx k] at h;unfold psz;omega
theorem vl {p:Part}:frA (ats p)=if p.kind=2 then 0 else psz p:=by
 unfold ats
 split
 ·exact jB _
 ·split
  ·exact jC _
  ·exact p0 _
theorem vk {p:Part} (h:ak p):toA (ats p)=if p.kind=3 then 0 else psz p:=by
 unfold ats;by_cases k:p.kind=2
 ·have:¬ p.kind=3:=by omega
  rw [if_pos k,if_neg this,ge,ri h k]
 ·rw [if_neg k]
  split
  ·exact gf _
  ·exact ln _
theorem lO:∀ (o:List Part),frs o=frA (au o)
 | []=>rfl
 |p::o=>by simp only [frs,au,cc,vl,lO o]
theorem oB:∀ {o:List Part},(∀ p∈o,ak p)->tos o=toA (au o)
 | [],_=>rfl
 | p :: o, h => by
   simp only [tos,au,bE,vk (h p (List.mem_cons_self ..)),oB (λq hq=>h q (List.mem_cons_of_mem _ hq))]
def nA:List Int->Nat->List At->List At
 |P,n,[]=>P.map At.p++List.replicate n .d
 |P,n,.k::l=>P.map At.p++(List.replicate n .d ++ .k::nA [] 0 l)
 |P,n,.p c::l=>nA (P++[c]) n l
 |P,n,.d::l=>nA P (n+1) l
def eq (l:List At):List At:=nA [] 0 l
theorem mD:∀ (l:List At) (P:List Int) (n:Nat),frA (nA P n l)=n+frA l
 | [],P,n=>by simp [nA,frA,cc,jB,jC]
 | .k::l,P,n=>by simp [nA,frA,cc,jB,jC,mD l]
 | .p c::l,P,n=>by simp [nA,frA,mD l]
 | .d::l,P,n=>by simp [nA,frA,mD l];omega
theorem mA:∀ (l:List At) (P:List Int) (n:Nat),toA (nA P n l)=P.length+toA l
 | [],P,n=>by simp [nA,toA,bE,ge,gf]
 | .k::l,P,n=>by simp [nA,toA,bE,ge,gf,mA l]
 | .p c::l,P,n=>by simp [nA,toA,mA l];omega
 | .d::l,P,n=>by simp [nA,toA,mA l]
theorem mB:∀ (Q P:List Int) (n:Nat) (l:List At),nA P n (Q.map At.p++l)=nA (P++Q) n l
 | [],P,n,l=>by simp
 |c::Q,P,n,l=>by simp [nA,mB Q]
theorem mE:∀ (m:Nat) (P:List Int) (n:Nat) (l:List At),nA P n (List.replicate m .d++l)=nA P (n+m) l
 |0,P,n,l=>by simp
 |m+1,P,n,l=>by simp [List.replicate_succ,nA,mE m];congr 1;omega
theorem sS:∀ (m:Nat) (l:List At),nA [] 0 (List.replicate m .k++l)=List.replicate m .k++nA [] 0 l
 |0,l=>by simp
 |m+1,l=>by simp [List.replicate_succ,nA,sS m]
def bA (s:List Part×List Int×Int):List At:=au s.1++(s.2.1.map At.p++List.replicate s.2.2.toNat .d)
theorem kL {L:List Part} {P:List Int} {D:Int}:au (ag L P D)=bA (L,P,D):=by
 unfold ag bA;rw [bT,bT]
 congr 1
 congr 1
 ·split
  ·rename_i h;simp [h,au]
  ·simp [au,ats]
 ·split
  ·simp [au,ats,psz]
  ·have:D.toNat=0:=by omega
   simp [au,this]
theorem dM:∀ (L:List Part) (_h:0<L.length) (p:Part),au (L.set (L.length - 1) p)=au L.dropLast++ats p
 | [q],h,p=>by simp [au]
 | q :: r :: L, h, p => by
   have ih:=dM (r::L) (by simp) p;simp only [List.length_cons,Nat.add_sub_cancel] at ih ⊢;rw [List.set_cons_succ,au,ih];simp [au]
theorem gJ:∀ (L:List Part) (h:0<L.length),au L=au L.dropLast++ats (L[L.length - 1]'(by omega))
 | [q],h=>by simp [au]
 | q :: r :: L, h => by
   have ih:=gJ (r::L) (by simp);simp only [List.length_cons,Nat.add_sub_cancel] at ih ⊢;rw [au,ih];simp [au]
theorem rT {L:List Part} {n:Int} (hn:0<n) (hL:∀ q∈L,0<=q.n) (hk:∀ q∈L,q.kind=1->q.signs=[]):au (aI L n)=au L++List.replicate n.toNat .k:=by
 unfold aI
 split
 ·rename_i h
  split
  ·rename_i k
   have h1:=hL _ (List.getElem_mem (show L.length - 1<L.length by omega));have h2:=hk _ (List.getElem_mem (show L.length - 1<L.length by omega)) k;rw [dM L h,gJ L h,List.append_assoc]
   congr 1
   generalize L[L.length - 1]'(by omega)=q at h1 h2 k;obtain ⟨a,b,c⟩:=q;simp only at h1 h2 k;subst k h2;simp [ats,psz,List.replicate_append_replicate];omega
  ·rw [bT]
   simp [au,ats,psz]
 ·rename_i h
  have:L=[]:=List.eq_nil_of_length_eq_zero (by omega);subst this;simp [au,ats,psz]
theorem fu {L:List Part} {P:List Int} {D:Int} (h:∀ q∈L,q.kind=1->q.signs=[]):∀ q∈ag L P D,q.kind=1->q.signs=[]:=by
 intro q hq hk;unfold ag at hq;rcases List.mem_append.1 hq with hq|hq
 ·exact h q hq hk
 ·rcases List.mem_append.1 hq with hq|hq
  ·split at hq
   ·simp at hq
   ·simp at hq;subst hq;simp at hk
  ·split at hq
   ·simp at hq;subst hq;rfl
   ·simp at hq
theorem lH {L:List Part} {n:Int} (h:∀ q∈L,q.kind=1->q.signs=[]):∀ q∈aI L n,q.kind=1->q.signs=[]:=by
 intro q hq hk;unfold aI at hq
 split at hq
 ·rename_i hl
  split at hq
  ·rename_i k
   rcases List.mem_or_eq_of_mem_set hq with hq|rfl
   ·exact h q hq hk
   ·exact (h (L[L.length - 1]'(by omega)) (List.getElem_mem _) k :)
  ·rcases List.mem_append.1 hq with hq|hq
   ·exact h q hq hk
   ·simp at hq;subst hq;rfl
 ·simp at hq;subst hq;rfl
theorem kl {o:List Part} (ho:∀ p ∈ o,ak p):∀ (i:Nat),i <= o.length -> (∀ q ∈ (ao (o.take i)).1,q.kind=1 -> q.signs=[]) /\ 0 <= (ao (o.take i)).2.2 /\ (∀ q ∈ (ao (o.take i)).1,0 <= q.n) /\
 ∀ l,eq (au (o.take i)++l)=au (ao (o.take i)).1++nA (ao (o.take i)).2.1 (ao (o.take i)).2.2.toNat l
 |0,_=>by simp [ao,au,eq]
 | i + 1, hi => by
   obtain ⟨h1,h2,h3,h4⟩:=kl ho i (by omega);have hlt:i<o.length:=by omega
   have hq:=(er ho (i+1) hi);have hp:=(ho _ (List.getElem_mem hlt));have hb:=hp.bounds;refine ⟨?_,hq.d0,λq hq'=>(hq.q q hq').1,λl=>?_⟩
   ·rw [cb hlt]
    unfold bp
    split
    ·exact h1
    ·split
     ·exact h1
     ·split
      ·exact lH (fu h1)
      ·exact h1
   ·rw [<- List.take_append_getElem hlt,bT,List.append_assoc,h4,List.take_append_getElem hlt,cb hlt]
    generalize ao (o.take i)=s at h1 h2 h3;generalize o[i]=p at hp hb;obtain ⟨L,P,D⟩:=s;simp only at h1 h2 h3;simp only [au,List.append_nil];unfold bp;by_cases k2:p.kind=2
    ·simp only [k2,if_true]
     rw [show ats p=p.signs.map At.p by unfold ats;rw [if_pos k2],mB]
    ·by_cases k3:p.kind=3
     ·have hs:=hb.2.2.2.2.2 k2
      have e:(D+p.n).toNat=D.toNat+p.n.toNat:=by omega
      simp only [k3,if_true];rw [show ats p=List.replicate (psz p) .d by unfold ats;rw [if_neg k2,if_pos k3],mE];simp [e,psz,hs]
     ·have k1:p.kind=1:=by omega
      have hs:=hb.2.2.2.2.2 k2;have e:ats p=List.replicate p.n.toNat .k:=by unfold ats;rw [if_neg k2,if_neg k3];simp [psz,hs]
      simp only [k2,k3,if_false];rw [e]
      split
      ·rename_i hn
       have hfl:∀ q∈ag L P D,0<=q.n:=by
        intro q hq';unfold ag at hq';rcases List.mem_append.1 hq' with hq' | hq'
        ·exact h3 q hq'
        ·rcases List.mem_append.1 hq' with hq' | hq'
         ·split at hq'
          ·simp at hq'
          ·simp at hq';subst hq';simp
         ·split at hq'
          ·simp at hq';subst hq';simp;omega
          ·simp at hq'
       simp only;rw [rT hn hfl (fu h1),kL];obtain ⟨m,hm⟩:∃ m,p.n.toNat=m+1:=⟨p.n.toNat - 1,by omega⟩;rw [hm];simp [bA,List.replicate_succ,nA,sS,List.append_assoc]
      ·have:p.n.toNat=0:=by omega
       simp [this]
theorem dT {o:List Part} (ho:∀ p∈o,ak p):au (normal o)=eq (au o):=by
 have h:=(kl ho o.length (Nat.le_refl _)).2.2.2 [];rw [List.take_length,List.append_nil] at h;unfold normal;rw [kL,h];unfold bA;simp [nA]
theorem pr (l:List At):frA (eq l)=frA l:=by unfold eq;rw [mD];omega
theorem pq (l:List At):toA (eq l)=toA l:=by unfold eq;rw [mA];simp
structure Shp (q:Part):Prop where
 k:q.kind=1\/q.kind=2\/q.kind=3
 n:0<=q.n
 put:q.kind=2->q.n=0/\bi q.signs
 run:q.kind≠2->q.signs=[]
 pos:0<psz q
theorem iv {L:List Part} {P:List Int} {D:Int} (hL:∀ q∈L,Shp q) (hP:bi P):∀ q∈ag L P D,Shp q:=by
 intro q hq;unfold ag at hq;rcases List.mem_append.1 hq with hq|hq
 ·exact hL q hq
 ·rcases List.mem_append.1 hq with hq|hq
  ·split at hq
   ·simp at hq
   ·rename_i h
    simp at hq;subst hq;have:0<P.length:=List.length_pos_iff.2 h;exact ⟨.inr (.inl rfl),by simp,λ_=>⟨rfl,hP⟩,λh=>absurd rfl h,by simpa [psz] using this⟩
  ·split at hq
   ·rename_i h
    simp at hq;subst hq;exact ⟨.inr (.inr rfl),by simp only;omega,λh=>by simp at h,λ_=>rfl,by simp [psz];omega⟩
   ·simp at hq
theorem oW {L:List Part} {n:Int} (hL:∀ q∈L,Shp q) (hn:0<n):∀ q∈aI L n,Shp q:=by
 intro q hq;have one:Shp ⟨1,n,[]⟩:=⟨.inl rfl,by simp only;omega,λh=>by simp at h,λ_=>rfl,by simp [psz];omega⟩;unfold aI at hq
 split at hq
 ·rename_i hl
  split at hq
  ·rename_i k
   rcases List.mem_or_eq_of_mem_set hq with hq|rfl
   ·exact hL q hq
   ·have h:=hL (L[L.length - 1]'(by omega)) (List.getElem_mem _)
    have h1:=h.n;have h2:=h.run (by omega);exact ⟨.inl rfl,by simp only;omega,λh=>by simp at h,λ_=>h2,by simp [psz];omega⟩
  ·rcases List.mem_append.1 hq with hq|hq
   ·exact hL q hq
   ·simp at hq;subst hq;exact one
 ·simp at hq;subst hq;exact one
theorem iH {o:List Part} (ho:∀ p∈o,ak p):∀ (i:Nat),i<=o.length->(∀ q∈(ao (o.take i)).1,Shp q)/\bi (ao (o.take i)).2.1
 |0,_=>by simp [ao,bi]
 | i + 1, hi => by
   obtain ⟨h1,h2⟩:=iH ho i (by omega);have hlt:i<o.length:=by omega
   have hp:=ho _ (List.getElem_mem hlt);rw [cb hlt];generalize ao (o.take i)=s at h1 h2;generalize o[i]=p at hp;obtain ⟨L,P,D⟩:=s;simp only at h1 h2;unfold bp
   split
   ·rename_i k
    rw [cx k] at hp;refine ⟨h1,λn hn=>?_⟩;rcases List.mem_append.1 hn with hn|hn
    ·exact h2 n hn
    ·exact hp.2.2 n hn
   ·split
    ·exact ⟨h1,h2⟩
    ·split
     ·rename_i hn
      exact ⟨oW (iv h1 h2) hn,by simp [bi]⟩
     ·exact ⟨h1,h2⟩
theorem ec {o:List Part} (ho:∀ p∈o,ak p):∀ q∈normal o,Shp q:=by
 have h:=iH ho o.length (Nat.le_refl _);rw [List.take_length] at h;exact iv h.1 h.2
theorem mj:∀ {L:List Part},(∀ q∈L,Shp q)->tos L=toA (au L)
 | [],_=>rfl
 | p :: L, h => by
   have hp:=h p (List.mem_cons_self ..);simp only [tos,au,bE,mj (λq hq=>h q (List.mem_cons_of_mem _ hq))]
   congr 1
   unfold ats;by_cases k:p.kind=2
   ·have k3:¬ p.kind=3:=by omega
    have:=(hp.put k).1;rw [if_pos k,if_neg k3,ge];simp [psz,this]
   ·rw [if_neg k]
    split
    ·exact (gf _).symm
    ·exact (ln _).symm
theorem r6 {L:List Part} {q:Part} (h:q∈L) (k:q.kind≠2):psz q<=frs L:=by
 induction L with
 |nil=>simp at h
 | cons p L ih =>
   simp only [frs];rcases List.mem_cons.1 h with rfl|h
   ·rw [if_neg k];omega
   ·have:=ih h;omega
theorem q4 {L:List Part} {q:Part} (h:q∈L) (k:q.kind≠3):psz q<=tos L:=by
 induction L with
 |nil=>simp at h
 | cons p L ih =>
   simp only [tos];rcases List.mem_cons.1 h with rfl|h
   ·rw [if_neg k];omega
   ·have:=ih h;omega
theorem mi:∀ {L:List Part},(∀ q∈L,Shp q)->L.length<=tsz L
 | [],_=>by simp [tsz]
 | p :: L, h => by
   have:=mi (λq hq=>h q (List.mem_cons_of_mem _ hq));have:=(h p (List.mem_cons_self ..)).pos;simp only [tsz,List.length_cons];omega
theorem tX {L:List Part} (h:∀ q∈L,Shp q) (h1:frs L<=200) (h2:tos L<=200):aY L:=by
 have hl:=mi h;have ht:=oA L;refine ⟨λq hq=>?_,by omega⟩;have hs:=h q hq;have hn:=hs.n;by_cases k:q.kind=2
 ·have h3:=q4 hq (by omega)
  have h4:=hs.put k;exact .inr ⟨k,h4.1,by unfold psz at h3;omega,h4.2⟩
 ·have h3:=r6 hq k
  have h4:=hs.run k;have hk:=hs.k;exact .inl ⟨by omega,⟨hn,by unfold psz at h3;omega⟩,h4⟩
theorem lv {o:List Part} (h:aY o):(frs o:Int)=bI o:=by
 rw [jA h.1,bH (λp hp=>vg (h.1 p hp)),ct];unfold bI ax;rw [if_pos h]
theorem pf {o:List Part} (h:aY o):(tos o:Int)=fO o:=by
 rw [i7 h.1,bH (λp hp=>vf (h.1 p hp)),ct];unfold fO ax;rw [if_pos h]
theorem iG {o:List Part} (h:ca o):ca (normal o)/\bI (normal o)=bI o/\fO (normal o)=fO o:=by
 have hs:=ec h.1.1;have e1:frs (normal o)=frs o:=by rw [lO,dT h.1.1,pr,<- lO]
 have e2:tos (normal o)=tos o:=by rw [mj hs,dT h.1.1,pq,<- oB h.1.1]
 have f:=pZ h;have t:=s9 h;have hp:=tX hs (by have:=h.2.1;omega) (by have:=h.2.2;omega);have f2:=lv hp;have t2:=pf hp;have:=h.2;exact ⟨⟨hp,by omega,by omega⟩,by omega,by omega⟩
end Go.Proofs.YtmfcmlldnjffeaaDoor
