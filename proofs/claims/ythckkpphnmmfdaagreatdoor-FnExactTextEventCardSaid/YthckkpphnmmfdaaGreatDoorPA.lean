import Derived.Test.YthckkpphnmmfdaaGreatDoorNA
import Derived.Test.YthckkpphnmmfdaaGreatDoorMF
namespace Go.Proofs.YthckkpphnmmfdaaGreatDoor
open Go.AM
set_option maxRecDepth 20000
theorem di (n lo hi:Int):ax Tryz.prog 45 [.c (vi n),.c (vi lo),.c (vi hi)] (.one (.c (vb (lo<=n/\n<=hi)) 1)):=by
 refine pci aq Tryz.func45 (λw0 base=>?_);by_cases h1:lo<=n<;>by_cases h2:n<=hi<;>simp [h1,h2]
theorem dY (n lo hi:Int):ax Tryz.prog 30 [.c (vi n),.c (vi lo),.c (vi hi)] (.one (.c (vb (lo<=n/\n<=hi)) 1)):=by
 refine pci aq Tryz.func30 (λw0 base=>?_);by_cases h1:lo<=n<;>by_cases h2:n<=hi<;>simp [h1,h2]
def cP (n:Int):Prop:=(0<=n/\n<=1114111)/\¬ (55296<=n/\n<=57343)
def bj (l:List Int):Prop:=∀ n∈l,cP n
theorem mW (n:Int):ax Tryz.prog 118 [.c (vi n)] (.one (.c (vb (cP n)) 1)):=by
 refine pci aq Tryz.func118 (λw0 base=>?_);simp;refine aa.pure (di n 0 1114111) (by simp) ?_;by_cases h:0<=n/\n<=1114111
 ·simp [h]
  refine aa.pure (di n 55296 57343) (by simp) ?_;by_cases h2:55296<=n/\n<=57343<;>simp [h2,cP,h]
  try (rw [fl];omega)
 ·have e:dc (0<=n/\n<=1114111)=false:=by rw [bV];exact h
  simp [cP,h]
theorem gm (n:Int):ax Tryz.prog 99 [.c (vi n)] (.one (.c (vb (cP n)) 1)):=by
 refine pci aq Tryz.func99 (λw0 base=>?_);simp;refine aa.pure (dY n 0 1114111) (by simp) ?_;by_cases h:0<=n/\n<=1114111
 ·simp [h]
  refine aa.pure (dY n 55296 57343) (by simp) ?_;by_cases h2:55296<=n/\n<=57343<;>simp [h2,cP,h]
  try (rw [fl];omega)
 ·have e:dc (0<=n/\n<=1114111)=false:=by rw [bV];exact h
  simp [cP,h]
theorem gT {α:Type} {P:α->Prop} {l:List α} {i:Nat} (h:i<l.length) (ha:∀ a∈l.take i,P a) (hi:P l[i]):∀ a∈l.take (i+1),P a:=by
 rw [<- List.take_append_getElem h];intro a ha';rcases List.mem_append.1 ha' with h1|h1
 ·exact ha a h1
 ·simp at h1;subst h1;exact hi
theorem jB {α:Type} {P:α->Prop} {l:List α} {i:Nat} (h:l.length<=i) (ha:∀ a∈l.take i,P a):∀ a∈l,P a:=by
 rwa [List.take_of_length_le h] at ha
theorem jA {α:Type} {P:α->Prop} {l:List α} {i:Nat} (h:i<l.length) (hi:¬ P l[i]):¬ ∀ a∈l,P a:=λha=>hi (ha _ (List.getElem_mem h))
theorem lf (l:List Int) (hl:l.length<=2 ^ 40):ax Tryz.prog 88 [.c (.s (l.map aU))] (.one (.c (vb (bj l)) 1)):=by
 refine pci aq Tryz.func88 (λw0 base=>?_);simp;refine aL.intro eok (λi:Nat=>i<=l.length/\∀ n∈l.take i,cP n) (λi=>⟨15,0,[(7,.v (.int .i64 i)),(6,.v (.int .i64 l.length)),(5,.ro (l.map aU))],[]⟩) (λi=>l.length - i) 0 (by simp) (by simp) (λi hi=>?_);by_cases h:i<l.length
 ·simp [h]
  refine aa.pure (mW l[i]) (by simp) ?_;simp;refine Br.mk (λh1=>?_) (λh1=>?_)
  ·simp
   exact ⟨i+1,⟨by omega,gT h hi.2 (fZ h1)⟩,by omega,au (by omega)⟩
  ·simp [bV]
   exact jA h (jU h1)
 ·simp [h,fl]
  exact jB (by omega) hi.2
theorem fN (l:List Int) (hl:l.length<=2 ^ 40):ax Tryz.prog 80 [.c (.s (l.map aU))] (.one (.c (vb (bj l)) 1)):=by
 refine pci aq Tryz.func80 (λw0 base=>?_);simp;refine aL.intro eok (λi:Nat=>i<=l.length/\∀ n∈l.take i,cP n) (λi=>⟨15,0,[(7,.v (.int .i64 i)),(6,.v (.int .i64 l.length)),(5,.ro (l.map aU))],[]⟩) (λi=>l.length - i) 0 (by simp) (by simp) (λi hi=>?_);by_cases h:i<l.length
 ·simp [h]
  refine aa.pure (gm l[i]) (by simp) ?_;simp;refine Br.mk (λh1=>?_) (λh1=>?_)
  ·simp
   exact ⟨i+1,⟨by omega,gT h hi.2 (fZ h1)⟩,by omega,au (by omega)⟩
  ·simp [bV]
   exact jA h (jU h1)
 ·simp [h,fl]
  exact jB (by omega) hi.2
def aw (p:Part):Prop:=((p.kind=1\/p.kind=3)/\(0<=p.n/\p.n<=200)/\p.signs=[])\/(p.kind=2/\p.n=0/\p.signs.length<=200/\bj p.signs)
theorem iB {p:Part} (h:p.kind=1\/p.kind=3):aw p=((0<=p.n/\p.n<=200)/\p.signs=[]):=by
 have h2:¬ p.kind=2:=by omega
 simp [aw,h,h2]
theorem dG {p:Part} (h:p.kind=2):aw p=(p.n=0/\p.signs.length<=200/\bj p.signs):=by simp [aw,h]
theorem lO {p:Part} (h1:p.kind≠1) (h2:p.kind≠2) (h3:p.kind≠3):¬ aw p:=by simp [aw,h1,h2,h3]
theorem mX (p:Part) (hl:p.signs.length<=2 ^ 40):ax Tryz.prog 114 [.agg p.row] (.one (.c (vb (aw p)) 1)):=by
 refine pci aq Tryz.func114 (λw0 base=>?_);simp [Part.row];intros;by_cases h13:p.kind=1\/p.kind=3
 ·rw [iB h13]
  rcases h13 with h|h
  ·simp [h]
   refine aa.pure (di p.n 0 200) (by simp) ?_;by_cases hn:0<=p.n/\p.n<=200
   ·simp [hn]
   ·have e:dc (0<=p.n/\p.n<=200)=false:=by rw [bV];exact hn
    simp [hn]
  ·simp [h]
   refine aa.pure (di p.n 0 200) (by simp) ?_;by_cases hn:0<=p.n/\p.n<=200
   ·simp [hn]
   ·have e:dc (0<=p.n/\p.n<=200)=false:=by rw [bV];exact hn
    simp [hn]
 ·have h1:¬ p.kind=1:=λh=>h13 (.inl h)
  have h3:¬ p.kind=3:=λh=>h13 (.inr h)
  by_cases h2:p.kind=2
  ·rw [dG h2]
   simp [h2];by_cases hn:p.n=0
   ·by_cases hs:p.signs.length<=200
    ·have hs':(p.signs.length:Int)<=200:=by omega
     simp [hn,hs'];refine aa.pure (lf p.signs hl) (by simp) ?_;simp [hs]
    ·have hs':¬ (p.signs.length:Int)<=200:=by omega
     simp [hn,hs',hs]
   ·simp [hn]
  ·simp [h1,h2,h3,lO]
theorem mC (p:Part) (hl:p.signs.length<=2 ^ 40):ax Tryz.prog 111 [.agg p.row] (.one (.c (vb (aw p)) 1)):=by
 refine pci aq Tryz.func111 (λw0 base=>?_);simp [Part.row];intros;by_cases h13:p.kind=1\/p.kind=3
 ·rw [iB h13]
  rcases h13 with h|h
  ·simp [h]
   refine aa.pure (dY p.n 0 200) (by simp) ?_;by_cases hn:0<=p.n/\p.n<=200
   ·simp [hn]
   ·have e:dc (0<=p.n/\p.n<=200)=false:=by rw [bV];exact hn
    simp [hn]
  ·simp [h]
   refine aa.pure (dY p.n 0 200) (by simp) ?_;by_cases hn:0<=p.n/\p.n<=200
   ·simp [hn]
   ·have e:dc (0<=p.n/\p.n<=200)=false:=by rw [bV];exact hn
    simp [hn]
 ·have h1:¬ p.kind=1:=λh=>h13 (.inl h)
  have h3:¬ p.kind=3:=λh=>h13 (.inr h)
  by_cases h2:p.kind=2
  ·rw [dG h2]
   simp [h2];by_cases hn:p.n=0
   ·simp [hn]
    refine aa.pure (fN p.signs hl) (by simp) ?_;have e:((p.signs.length:Int)<=200)=(p.signs.length<=200):=by simp;omega
    by_cases hg:bj p.signs
    ·simp [hg,e]
    ·simp [hg]
   ·simp [hn]
  ·simp [h1,h2,h3,lO]
def bC (o:List Part):Prop:=(∀ p∈o,aw p)/\o.length<=600
theorem fR (o:List Part) (hl:nL az o<=2 ^ 40):ax Tryz.prog 82 [.c (.s (o.map Part.row))] (.one (.c (vb (bC o)) 1)):=by
 refine pci aq Tryz.func82 (λw0 base=>?_);have hle:=fd hl;simp;refine aL.intro eok (λi:Nat=>i<=o.length/\∀ p∈o.take i,aw p) (λi=>⟨18,0,[(7,.v (.int .i64 i)),(6,.v (.int .i64 o.length)),(5,.ro (o.map Part.row)),(0,.ro (o.map Part.row))],[]⟩) (λi=>o.length - i) 0 (by simp) (by simp) (λi hi=>?_);by_cases h:i<o.length
 ·simp [h,Part.row]
  intros;refine aa.pure (mX o[i] (n7 hl h)) (by simp [Part.row]) ?_;simp;refine Br.mk (λh1=>?_) (λh1=>?_)
  ·simp
   exact ⟨i+1,⟨by omega,gT h hi.2 (fZ h1)⟩,by omega,au (by omega)⟩
  ·simp [bV]
   exact λhp=>jA h (jU h1) hp.1
 ·have ha:=jB (by omega) hi.2
  simp [h];refine oV ?_;unfold bC;exact ⟨λh=>by have:=h.2;omega,λh=>⟨ha,by omega⟩⟩
theorem fO (o:List Part) (hl:nL az o<=2 ^ 40):ax Tryz.prog 75 [.c (.s (o.map Part.row))] (.one (.c (vb (bC o)) 1)):=by
 refine pci aq Tryz.func75 (λw0 base=>?_);have hle:=fd hl;simp;refine aL.intro eok (λi:Nat=>i<=o.length/\∀ p∈o.take i,aw p) (λi=>⟨18,0,[(7,.v (.int .i64 i)),(6,.v (.int .i64 o.length)),(5,.ro (o.map Part.row)),(0,.ro (o.map Part.row))],[]⟩) (λi=>o.length - i) 0 (by simp) (by simp) (λi hi=>?_);by_cases h:i<o.length
 ·simp [h,Part.row]
  intros;refine aa.pure (mC o[i] (n7 hl h)) (by simp [Part.row]) ?_;simp;refine Br.mk (λh1=>?_) (λh1=>?_)
  ·simp
   exact ⟨i+1,⟨by omega,gT h hi.2 (fZ h1)⟩,by omega,au (by omega)⟩
  ·simp [bV]
   exact λhp=>jA h (jU h1) hp.1
 ·have ha:=jB (by omega) hi.2
  simp [h];refine oV ?_;unfold bC;exact ⟨λh=>by have:=h.2;omega,λh=>⟨ha,by omega⟩⟩
def bi (f:Part->Int):List Part->Int
 | []=>0
 |p::o=>f p+bi f o
theorem iv {f:Part->Int}:∀ (a b:List Part),bi f (a++b)=bi f a+bi f b
 | [],b=>by simp [bi]
 |p::a,b=>by simp only [List.cons_append,bi,iv a b];omega
theorem gk {f:Part->Int} {o:List Part} {i:Nat} (h:i<o.length):bi f (o.take (i+1))=bi f (o.take i)+f o[i]:=by
 rw [<- List.take_append_getElem h,iv];simp [bi]
theorem cC {f g:Part->Int}:∀ {o:List Part},(∀ p∈o,f p=g p)->bi f o=bi g o
 | [],_=>rfl
 | p :: o, h => by
   simp only [bi];rw [h p (List.mem_cons_self ..),cC (λq hq=>h q (List.mem_cons_of_mem _ hq))]
theorem dD {f g:Part->Int}:∀ (o:List Part),bi (λp=>f p+g p) o=bi f o+bi g o
 | []=>by simp [bi]
 |p::o=>by simp only [bi,dD o];omega
def fK (p:Part):Int:=if p.kind=1 then p.n else 0
def fP (p:Part):Int:=if p.kind=2 then p.signs.length else 0
def fD (p:Part):Int:=if p.kind=1 then 0 else if p.kind=2 then 0 else p.n
def eF (k:Int) (p:Part):Int:=if p.kind=k then 0 else p.n+p.signs.length
theorem aw.bounds {p:Part} (h:aw p):(p.kind=1\/p.kind=2\/p.kind=3)/\0<=p.n/\p.n<=200/\p.signs.length<=200/\(p.kind=2->p.n=0)/\(p.kind≠2->p.signs=[]):=by
 rcases h with ⟨h1,h2,h3⟩|⟨h1,h2,h3,h4⟩
 ·refine ⟨by omega,by omega,by omega,by simp [h3],by omega,λ_=>h3⟩
 ·refine ⟨by omega,by omega,by omega,h3,λ_=>h2,λh=>absurd h1 h⟩
theorem Ax {p:Part} (h:aw p):eF 2 p=fK p+fD p:=by
 obtain ⟨h1,h2,h3,h4,h5,h6⟩:=h.bounds;unfold eF fK fD;by_cases k2:p.kind=2
 ·simp [k2]
 ·by_cases k1:p.kind=1<;>simp [k1,k2,h6 k2]
theorem Aw {p:Part} (h:aw p):eF 3 p=fK p+fP p:=by
 obtain ⟨h1,h2,h3,h4,h5,h6⟩:=h.bounds;unfold eF fK fP;rcases h1 with k|k|k
 ·simp [k,h6 (by omega)]
 ·simp [k,h5 k]
 ·simp [k]
theorem cb {f:Part->Int} {B:Int} (hf:∀ p,aw p->0<=f p/\f p<=B):∀ {o:List Part},(∀ p∈o,aw p)->0<=bi f o/\bi f o<=B*o.length
 | [],_=>by simp [bi]
 | p :: o, h => by
   have h1:=hf p (h p (List.mem_cons_self ..));have h2:=cb hf (o:=o) (λq hq=>h q (List.mem_cons_of_mem _ hq));simp only [bi,List.length_cons];rw [show B*((o.length+1:Nat):Int)=B*o.length+B by rw [Int.natCast_add];simp [Int.mul_add]];omega
theorem C8 {p:Part} (h:aw p):0<=fK p/\fK p<=200:=by have:=h.bounds;unfold fK;split<;>omega
theorem C7 {p:Part} (h:aw p):0<=fP p/\fP p<=200:=by have:=h.bounds;unfold fP;split<;>omega
theorem C9 {p:Part} (h:aw p):0<=fD p/\fD p<=200:=by have:=h.bounds;unfold fD;split<;>(try split)<;>omega
theorem Ap {k:Int} {p:Part} (h:aw p):0<=eF k p/\eF k p<=400:=by have:=h.bounds;unfold eF;split<;>omega
theorem jr {o:List Part} (h:∀ p∈o,aw p) (i:Nat):∀ p∈o.take i,aw p:=λp hp=>h p (List.mem_of_mem_take hp)
theorem zk (p:Part) (hp:aw p):ax Tryz.prog 158 [.agg p.row] (.one (.c (vi (p.n+p.signs.length)) 1)):=by
 refine pci aq Tryz.func158 (λw0 base=>?_);have:=hp.bounds;have e:Go.IntKind.i64.wrap (p.n+(p.signs.length:Int))=p.n+p.signs.length:=Go.IntWalk.i64_in _ (by omega);simp [Part.row,e]
open Classical in
noncomputable def sizeOf (o:List Part) (k:Int):Int:=if bC o then bi (eF k) o else 0
theorem gJ (o:List Part) (hl:nL az o<=2 ^ 40) (k:Int):ax Tryz.prog 117 [.c (.s (o.map Part.row)),.c (vi k)] (.one (.c (vi (sizeOf o k)) 1)):=by
 refine pci aq Tryz.func117 (λw0 base=>?_);have hle:=fd hl;simp;refine aa.pure (fR o hl) (by simp) ?_;by_cases ho:bC o
 ·have hr:sizeOf o k=bi (eF k) o:=by unfold sizeOf;rw [if_pos ho]
  simp [ho,hr];refine aL.intro eok (λi:Nat=>i<=o.length) (λi=>⟨27,0,[(13,.v (.int .i64 i)),(12,.v (.int .i64 o.length)),(11,.ro (o.map Part.row)),(5,.v (.int .i64 (bi (eF k) (o.take i)))),(1,.v (.int .i64 k))],[]⟩) (λi=>o.length - i) 0 (by simp) (by simp [bi]) (λi hi=>?_);by_cases h:i<o.length
  ·have hp:=ho.1 _ (List.getElem_mem h)
   have hb:=cb (f:=eF k) (λp h=>Ap h) (jr ho.1 i);have hb2:=hp.bounds;have hlen:=ho.2;have hlt:(o.take i).length<=600:=by simp;omega
   have hs:=gk (f:=eF k) h;obtain ⟨q,hq⟩:∃ q,bi (eF k) (o.take i)=q:=⟨_,rfl⟩;have e:Go.IntKind.i64.wrap ((i:Int)+1)=((i+1:Nat):Int):=au (by omega);rw [hq] at hs hb;simp [h,Part.row,hq];intros;by_cases hk:o[i].kind=k
   ·simp [hk]
    refine ⟨i+1,by omega,by omega,e,?_⟩;rw [hs];simp [eF,hk]
   ·simp [hk]
    refine aa.pure (zk o[i] hp) (by simp [Part.row]) ?_;have e2:Go.IntKind.i64.wrap (q+(o[i].n+(o[i].signs.length:Int)))=q+(o[i].n+o[i].signs.length):=Go.IntWalk.i64_in _ (by omega);simp [e2];refine ⟨i+1,by omega,by omega,e,?_⟩;rw [hs];simp [eF,hk]
  ·simp [h]
   rw [List.take_of_length_le (by omega)]
 ·have e:dc (bC o)=false:=by rw [bV];exact ho
  have hr:sizeOf o k=0:=by unfold sizeOf;rw [if_neg ho]
  simp [e,hr]
open Classical in
noncomputable def aR (o:List Part):Int×Int×Int:=if bC o then (bi fK o,bi fP o,bi fD o) else (0,0,0)
theorem oi (o:List Part) (hl:nL az o<=2 ^ 40):ax Tryz.prog 112 [.c (.s (o.map Part.row))] (.tup [.c (vi (aR o).1) 1,.c (vi (aR o).2.1) 1,.c (vi (aR o).2.2) 1]):=by
 refine pci aq Tryz.func112 (λw0 base=>?_);have hle:=fd hl;simp;refine aa.pure (fO o hl) (by simp) ?_;by_cases ho:bC o
 ·have hr:aR o=(bi fK o,bi fP o,bi fD o):=by unfold aR;rw [if_pos ho]
  simp [ho,hr];refine aL.intro eok (λi:Nat=>i<=o.length) (λi=>⟨42,0,[(15,.v (.int .i64 i)),(14,.v (.int .i64 o.length)),(13,.ro (o.map Part.row)),(5,.v (.int .i64 (bi fK (o.take i)))),(6,.v (.int .i64 (bi fP (o.take i)))),(7,.v (.int .i64 (bi fD (o.take i))))],[]⟩) (λi=>o.length - i) 0 (by simp) (by simp [bi]) (λi hi=>?_);by_cases h:i<o.length
  ·have hp:=ho.1 _ (List.getElem_mem h)
   have hb1:=cb (f:=fK) (λp h=>C8 h) (jr ho.1 i);have hb2:=cb (f:=fP) (λp h=>C7 h) (jr ho.1 i);have hb3:=cb (f:=fD) (λp h=>C9 h) (jr ho.1 i);have hpb:=hp.bounds;have hlen:=ho.2;have hlt:(o.take i).length<=600:=by simp;omega
   have hs1:=gk (f:=fK) h;have hs2:=gk (f:=fP) h;have hs3:=gk (f:=fD) h;obtain ⟨q1,hq1⟩:∃ q,bi fK (o.take i)=q:=⟨_,rfl⟩;obtain ⟨q2,hq2⟩:∃ q,bi fP (o.take i)=q:=⟨_,rfl⟩;obtain ⟨q3,hq3⟩:∃ q,bi fD (o.take i)=q:=⟨_,rfl⟩;have e:Go.IntKind.i64.wrap ((i:Int)+1)=((i+1:Nat):Int):=au (by omega);rw [hq1] at hs1 hb1;rw [hq2] at hs2 hb2;rw [hq3] at hs3 hb3;simp [h,Part.row,hq1,hq2,hq3];intros;have e1:Go.IntKind.i64.wrap (q1+o[i].n)=q1+o[i].n:=Go.IntWalk.i64_in _ (by omega);have e2:Go.IntKind.i64.wrap (q2+(o[i].signs.length:Int))=q2+o[i].signs.length:=Go.IntWalk.i64_in _ (by omega);have e3:Go.IntKind.i64.wrap (q3+o[i].n)=q3+o[i].n:=Go.IntWalk.i64_in _ (by omega);by_cases k1:o[i].kind=1
   ·simp [k1,e1]
    refine ⟨i+1,by omega,by omega,e,?_,?_,?_⟩
    ·rw [hs1];simp [fK,k1]
    ·rw [hs2];simp [fP,k1]
    ·rw [hs3];simp [fD,k1]
   ·by_cases k2:o[i].kind=2
    ·simp [k2,e2]
     refine ⟨i+1,by omega,by omega,e,?_,?_,?_⟩
     ·rw [hs1];simp [fK,k2]
     ·rw [hs2];simp [fP,k2]
     ·rw [hs3];simp [fD,k2]
    ·simp [k1,k2,e3]
     refine ⟨i+1,by omega,by omega,e,?_,?_,?_⟩
     ·rw [hs1];simp [fK,k1]
     ·rw [hs2];simp [fP,k2]
     ·rw [hs3];simp [fD,k1,k2]
  ·simp [h]
   rw [List.take_of_length_le (by omega)];simp
 ·have e:dc (bC o)=false:=by rw [bV];exact ho
  have hr:aR o=(0,0,0):=by unfold aR;rw [if_neg ho]
  simp [e,hr]
noncomputable def cp (o:List Part):Int:=(aR o).1+(aR o).2.2
noncomputable def ib (o:List Part):Int:=(aR o).1+(aR o).2.1
theorem n1 (o:List Part):sizeOf o 2=cp o:=by
 unfold sizeOf cp aR
 split
 ·rename_i h
  show _=bi fK o+bi fD o
  rw [<- dD];exact cC (λp hp=>Ax (h.1 p hp))
 ·rfl
theorem rB (o:List Part):sizeOf o 3=ib o:=by
 unfold sizeOf ib aR
 split
 ·rename_i h
  show _=bi fK o+bi fP o
  rw [<- dD];exact cC (λp hp=>Aw (h.1 p hp))
 ·rfl
theorem oj (o:List Part):(0<=(aR o).1/\(aR o).1<=120000)/\(0<=(aR o).2.1/\(aR o).2.1<=120000)/\0<=(aR o).2.2/\(aR o).2.2<=120000:=by
 unfold aR
 split
 ·rename_i h
  have h1:=cb (f:=fK) (λp h=>C8 h) h.1;have h2:=cb (f:=fP) (λp h=>C7 h) h.1;have h3:=cb (f:=fD) (λp h=>C9 h) h.1;have h4:=h.2;simp only;omega
 ·simp
theorem mZ (o:List Part) (hl:nL az o<=2 ^ 40):ax Tryz.prog 86 [.c (.s (o.map Part.row))] (.one (.c (vi (cp o)) 1)):=by
 refine pci aq Tryz.func86 (λw0 base=>?_);simp;refine aa.pure (gJ o hl 2) (by simp) ?_;simp [n1]
theorem pT (o:List Part) (hl:nL az o<=2 ^ 40):ax Tryz.prog 87 [.c (.s (o.map Part.row))] (.one (.c (vi (ib o)) 1)):=by
 refine pci aq Tryz.func87 (λw0 base=>?_);simp;refine aa.pure (gJ o hl 3) (by simp) ?_;simp [rB]
theorem mE (o:List Part) (hl:nL az o<=2 ^ 40):ax Tryz.prog 77 [.c (.s (o.map Part.row))] (.one (.c (vi (cp o)) 1)):=by
 refine pci aq Tryz.func77 (λw0 base=>?_);simp;refine aa.pure (oi o hl) (by simp) ?_;have:=oj o;have e:Go.IntKind.i64.wrap ((aR o).1+(aR o).2.2)=cp o:=Go.IntWalk.i64_in _ (by omega);simp [e]
theorem po (o:List Part) (hl:nL az o<=2 ^ 40):ax Tryz.prog 78 [.c (.s (o.map Part.row))] (.one (.c (vi (ib o)) 1)):=by
 refine pci aq Tryz.func78 (λw0 base=>?_);simp;refine aa.pure (oi o hl) (by simp) ?_;have:=oj o;have e:Go.IntKind.i64.wrap ((aR o).1+(aR o).2.1)=ib o:=Go.IntWalk.i64_in _ (by omega);simp [e]
def b7 (o:List Part):Prop:=bC o/\cp o<=200/\ib o<=200
theorem eC (o:List Part) (hl:nL az o<=2 ^ 40):ax Tryz.prog 42 [.c (.s (o.map Part.row))] (.one (.c (vb (b7 o)) 1)):=by
 refine pci aq Tryz.func42 (λw0 base=>?_);simp;refine aa.pure (fR o hl) (by simp) ?_;by_cases h:bC o
 ·simp [h]
  refine aa.pure (mZ o hl) (by simp) ?_;by_cases h1:cp o<=200
  ·simp [h1]
   refine aa.pure (pT o hl) (by simp) ?_;simp [b7,h,h1]
  ·simp [h1,b7,h]
 ·simp [h,b7]
theorem ew (o:List Part) (hl:nL az o<=2 ^ 40):ax Tryz.prog 29 [.c (.s (o.map Part.row))] (.one (.c (vb (b7 o)) 1)):=by
 refine pci aq Tryz.func29 (λw0 base=>?_);simp;refine aa.pure (fO o hl) (by simp) ?_;by_cases h:bC o
 ·simp [h]
  refine aa.pure (mE o hl) (by simp) ?_;by_cases h1:cp o<=200
  ·simp [h1]
   refine aa.pure (po o hl) (by simp) ?_;simp [b7,h,h1]
  ·simp [h1,b7,h]
 ·simp [h,b7]
def ar (L:List Part) (P:List Int) (D:Int):List Part:=L++((if P=[] then [] else [⟨2,0,P⟩])++(if 0<D then [⟨3,D,[]⟩] else []))
def a8 (L:List Part) (n:Int):List Part:=
 if h:0<L.length then
  if (L[L.length - 1]'(by omega)).kind=1 then L.set (L.length - 1) ⟨1,(L[L.length - 1]'(by omega)).n+n,(L[L.length - 1]'(by omega)).signs⟩ else L++[⟨1,n,[]⟩]
 else [⟨1,n,[]⟩]
def bW (s:List Part×List Int×Int) (p:Part):List Part×List Int×Int:=
 if p.kind=2 then (s.1,s.2.1++p.signs,s.2.2)
 else if p.kind=3 then (s.1,s.2.1,s.2.2+p.n)
 else if 0<p.n then (a8 (ar s.1 s.2.1 s.2.2) p.n,[],0) else s
def aF (o:List Part):List Part×List Int×Int:=o.foldl bW ([],[],0)
def normal (o:List Part):List Part:=ar (aF o).1 (aF o).2.1 (aF o).2.2
theorem cK {o:List Part} {i:Nat} (h:i<o.length):aF (o.take (i+1))=bW (aF (o.take i)) o[i]:=by
 unfold aF;rw [<- List.take_append_getElem h,List.foldl_append];rfl
structure NbOk (m:Nat) (s:List Part×List Int×Int):Prop where
 l:s.1.length<=3*m
 p:s.2.1.length<=200*m
 d0:0<=s.2.2
 d:s.2.2<=200*m
 q:∀ q∈s.1,0<=q.n/\q.n<=200*m
theorem dX (L:List Part) (P:List Int) (D:Int):(ar L P D).length<=L.length+2:=by
 unfold ar
 split<;>split<;>simp
theorem ic {L:List Part} {P:List Int} {D B:Int} (h0:0<=D) (hD:D<=B) (hL:∀ q∈L,0<=q.n/\q.n<=B):∀ q∈ar L P D,0<=q.n/\q.n<=B:=by
 intro q hq;unfold ar at hq;simp only [List.mem_append] at hq;rcases hq with hq|hq|hq
 ·exact hL q hq
 ·split at hq
  ·simp at hq
  ·simp at hq;subst hq;simp;omega
 ·split at hq
  ·simp at hq;subst hq;simp;omega
  ·simp at hq
theorem fc {o:List Part} (ho:∀ p∈o,aw p):∀ (i:Nat),i<=o.length->NbOk i (aF (o.take i))
 | 0, _ => by
   simp [aF];exact ⟨by simp,by simp,by simp,by simp,by simp⟩
 | i + 1, hi => by
   have ih:=fc ho i (by omega);have hlt:i<o.length:=by omega
   rw [cK hlt];have hp:=(ho _ (List.getElem_mem hlt)).bounds;generalize aF (o.take i)=s at ih;generalize o[i]=p at hp;obtain ⟨L,P,D⟩:=s;obtain ⟨h1,h2,h3,h4,h5⟩:=ih;simp only at h1 h2 h3 h4 h5;have w:∀ q∈L,0<=q.n/\q.n<=200*((i+1:Nat):Int):=λq hq=>by have:=h5 q hq;omega
   unfold bW
   split
   ·exact ⟨by simp;omega,by simp;omega,h3,by simp;omega,w⟩
   ·split
    ·exact ⟨by simp;omega,by simp;omega,by simp;omega,by simp;omega,w⟩
    ·split
     ·have f1:=dX L P D
      have f2:=ic (P:=P) h3 h4 h5;refine ⟨?_,by simp,by simp,by simp;omega,?_⟩
      ·simp only [a8]
       split
       ·split<;>simp<;>omega
       ·simp;omega
      ·simp only [a8]
       intro q hq
       split at hq
       ·split at hq
        ·rcases List.mem_or_eq_of_mem_set hq with hq|rfl
         ·have:=f2 q hq;omega
         ·have:=f2 _ (List.getElem_mem (show (ar L P D).length - 1<(ar L P D).length by omega))
          simp only;omega
        ·rcases List.mem_append.1 hq with hq|hq
         ·have:=f2 q hq;omega
         ·simp at hq;subst hq;simp;omega
       ·simp at hq;subst hq;simp;omega
     ·exact ⟨by simp;omega,by simp;omega,h3,by simp;omega,w⟩
theorem u0 {L:List Part} {P:List Int} {D:Int} (hP:¬ P=[]) (hD:0<D):ar L P D=L++[⟨2,0,P⟩]++[⟨3,D,[]⟩]:=by simp [ar,hP,hD]
theorem uZ {L:List Part} {P:List Int} {D:Int} (hP:¬ P=[]) (hD:¬ 0<D):ar L P D=L++[⟨2,0,P⟩]:=by simp [ar,hP,hD]
theorem uY {L:List Part} {P:List Int} {D:Int} (hP:P=[]) (hD:0<D):ar L P D=L++[⟨3,D,[]⟩]:=by simp [ar,hP,hD]
theorem uX {L:List Part} {P:List Int} {D:Int} (hP:P=[]) (hD:¬ 0<D):ar L P D=L:=by simp [ar,hP,hD]
theorem fh {w0:World} {bF bG:Nat->Prop} {bl:Bool} {st:ASt} {dst:Option Nat} {K:ASt->Prop} {L:List Part} {P:List Int} {D:Int} {b3 b4 b5:Nat} {Hl Hp:Hd} (hL:L.length<=2 ^ 20) (_hP:P.length<=2 ^ 40)
 (g48:st.h.get 48=.vars b3 28 [.sl 5000 Hl 3 0 L.length]) (g64:st.h.get 64=.vars b4 23 [.sl 5001 Hp 1 0 P.length]) (g80:st.h.get 80=.vars b5 3 [.v (.int .i64 D)])
 (g5000:st.h.get 5000=.rows Hl 3 (L.map Part.row) true) (g5001:st.h.get 5001=.rows Hp 1 (P.map aU) true)
 (hK:∀ Hl' h',AH.get h' 48=.vars b3 28 [.sl 5000 Hl' 3 0 (ar L P D).length] -> AH.get h' 5000=.rows Hl' 3 ((ar L P D).map Part.row) true -> AH.get h' 64=.vars b4 23 [.nil] -> AH.get h' 80=.vars b5 3 [.v (.int .i64 0)] ->
  AH.get h' 128=st.h.get 128->aC ⟨st.n,st.kb,st.t,h'⟩ dst (.tup []) K):aa ⟨Tryz.prog,tt,w0,⟨bF,bG,bl,λ_=>True⟩⟩ 208 [.p 64 b4 0,.p 48 b3 0,.p 80 b5 0] st dst K:=by
 refine inl aq Tryz.func208 20000 (λw1 F=>?_);simp [g64];by_cases hp:P=[]
 ·have hp0:¬ 0<P.length:=by simp [hp]
  simp [hp0,g80];by_cases hd:0<D
  ·simp [hd,g48,g5000,g80,g64]
   intro b;refine ⟨by omega,λH=>hK H _ ?_ ?_ ?_ ?_ ?_⟩<;>simp [uY hp hd,Part.row]
  ·simp [hd,g80,g64]
   refine hK Hl _ ?_ ?_ ?_ ?_ ?_<;>simp [uX hp hd,g48,g5000]
 ·have hp0:0<P.length:=List.length_pos_iff.2 hp
  simp [hp0,g80,g48,g5000,g5001,g64];intro b;refine ⟨by omega,λH=>?_⟩;by_cases hd:0<D
  ·simp [hd,g80,g64]
   intro b2;refine ⟨by omega,λH2=>hK H2 _ ?_ ?_ ?_ ?_ ?_⟩<;>simp [u0 hp hd,Part.row]
  ·simp [hd,g80,g64]
   refine hK H _ ?_ ?_ ?_ ?_ ?_<;>simp [uZ hp hd,Part.row]
theorem j4 {F:List Part} {m:Nat} (h:m<F.length) {g:List CD->List CD} {p:Part} (hg:g F[m].row=p.row):(F.map Part.row).modify m g=(F.set m p).map Part.row:=by
 apply List.ext_getElem?
 intro j;rw [List.getElem?_modify];simp only [List.getElem?_map,List.getElem?_set];by_cases hj:m=j
 ·subst hj
  simp [h,hg]
 ·simp [hj]
theorem ug (o:List Part) (ho:∀ p∈o,aw p) (hl:o.length<=10000):ax Tryz.prog 166 [.c (.s (o.map Part.row))] (.one (.c (.s ((normal o).map Part.row)) 3)):=by
 refine pci aq Tryz.func166 (λw0 base=>?_);simp;intro b3 b4 b5
 refine aD eok (λx:Nat×Hd×Hd=>x.1<=o.length) (λx=>⟨73,0,[(13,.v (.int .i64 x.1)),(12,.v (.int .i64 o.length)),(11,.ro (o.map Part.row)),(3,.p 48 b3 0),(4,.p 64 b4 0),(5,.p 80 b5 0),(6,.clo 208 [.p 64 b4 0,.p 48 b3 0,.p 80 b5 0])],
  [(48, .vars b3 28 [.sl 5000 x.2.1 3 0 (aF (o.take x.1)).1.length]), (64, .vars b4 23 [.sl 5001 x.2.2 1 0 (aF (o.take x.1)).2.1.length]), (80, .vars b5 3 [.v (.int .i64 (aF (o.take x.1)).2.2)]),
   (5000,.rows x.2.1 3 ((aF (o.take x.1)).1.map Part.row) true),(5001,.rows x.2.2 1 ((aF (o.take x.1)).2.1.map aU) true)]⟩) (λx=>o.length - x.1) (0,none,none) (by simp) (by simp [aF]) (λx hx=>Ent.refl ?_)
 obtain ⟨i,Hl,Hp⟩:=x;simp only at hx ⊢;have hok:=fc ho i hx;by_cases h:i<o.length
 ·have hs:=cK h
  have hpb:=(ho _ (List.getElem_mem h)).bounds;generalize aF (o.take i)=s at hok hs;obtain ⟨L,P,D⟩:=s;obtain ⟨k1,k2,k3,k4,k5⟩:=hok;simp only at k1 k2 k3 k4 k5;have e:Go.IntKind.i64.wrap ((i:Int)+1)=((i+1:Nat):Int):=au (by omega);simp [h,Part.row];intro b8;by_cases c2:o[i].kind=2
  ·simp [c2]
   refine ⟨by omega,λH=>?_⟩;refine Ent.refl ⟨i+1,by omega,by omega,Hl,H,?_⟩;rw [hs];simp [bW,c2,e]
  ·by_cases c3:o[i].kind=3
   ·have e3:Go.IntKind.i64.wrap (D+o[i].n)=D+o[i].n:=Go.IntWalk.i64_in _ (by omega)
    simp [c3,e3];refine Ent.refl ⟨i+1,by omega,by omega,Hl,Hp,?_⟩;rw [hs];simp [bW,c3,e]
   ·by_cases cn:0<o[i].n
    ·simp [c2,c3,cn]
     refine fh (L:=L) (P:=P) (D:=D) (Hl:=Hl) (Hp:=Hp) (by omega) (by omega) (by simp) (by simp) (by simp) (by simp) (by simp) (λHl' h' g48 g5000 g64 g80 g128=>?_);have f1:=dX L P D;have f2:=ic (P:=P) k3 k4 k5;have hstep:bW (L,P,D) o[i]=(a8 (ar L P D) o[i].n,[],0):=by simp [bW,c2,c3,cn]
     rw [hstep] at hs;generalize ar L P D=F at f1 f2 g48 g5000 hs;simp at g128;by_cases hF:0<F.length
     ·obtain ⟨m,hm⟩:∃ m,F.length=m+1:=⟨F.length - 1,by omega⟩
      have hmlt:m<F.length:=by omega
      have em:Go.IntKind.i64.wrap (m:Int)=m:=qV (by omega)
      have hk:a8 F o[i].n=if F[m].kind=1 then F.set m ⟨1,F[m].n+o[i].n,F[m].signs⟩ else F++[⟨1,o[i].n,[]⟩]:=by
       have e0:F.length - 1=m:=by omega
       simp [a8,hF,e0]
      have hq:=f2 _ (List.getElem_mem hmlt);simp [g48,g5000,hm,em,Part.row];by_cases ck:F[m].kind=1
      ·rw [if_pos ck] at hk
       have em2:Go.IntKind.i64.wrap (F[m].n+o[i].n)=F[m].n+o[i].n:=Go.IntWalk.i64_in _ (by omega);have hmm:(m:Int)<m+1:=by omega
       simp [ck,hmm];refine drw eok mix [0,1,2,3,4,5,6,7,8,9,10] [11] (.c 11 11 2045 2 (.l 11 2) .s) ?_;simp [g48,g5000,g128,hm,em,Part.row,ck,em2,hmm];refine Ent.kill 5001 (Ent.refl ⟨i+1,by omega,by omega,Hl',none,?_⟩);rw [hs,hk];have hmod:=j4 (F:=F) (m:=m) hmlt (g:=λrow=>ch row 1 [CD.v (Value.int IntKind.i64 (F[m].n+o[i].n))]) (p:=⟨1,F[m].n+o[i].n,F[m].signs⟩) (by simp [Part.row,ck]);simp [e,g48,g64,g80,hm,hmod]
      ·rw [if_neg ck] at hk
       simp [ck,g48,g5000,g128,hm];refine ⟨by omega,λb=>⟨by omega,λH=>?_⟩⟩;refine Ent.kill 5001 (Ent.refl ⟨i+1,by omega,by omega,H,none,?_⟩);rw [hs,hk];simp [e,Part.row,g64,g80,hm]
     ·have hF0:F=[]:=List.eq_nil_of_length_eq_zero (by omega)
      subst hF0;have hk:a8 [] o[i].n=[⟨1,o[i].n,[]⟩]:=by simp [a8]
      simp [g48,g5000,g128];intro b H;refine Ent.kill 5001 (Ent.refl ⟨i+1,by omega,by omega,H,none,?_⟩);rw [hs,hk];simp [e,Part.row,g64,g80]
    ·simp [c2,c3,cn]
     refine Ent.refl ⟨i+1,by omega,by omega,Hl,Hp,?_⟩;rw [hs];simp [bW,c2,c3,cn,e]
 ·have he:o.take i=o:=List.take_of_length_le (by omega)
  rw [he] at hok ⊢;have hn:normal o=ar (aF o).1 (aF o).2.1 (aF o).2.2:=rfl;rw [hn];generalize aF o=s at hok;obtain ⟨L,P,D⟩:=s;obtain ⟨k1,k2,k3,k4,k5⟩:=hok;simp only at k1 k2 k3 k4 k5;simp [h];refine fh (L:=L) (P:=P) (D:=D) (Hl:=Hl) (Hp:=Hp) (by omega) (by omega) (by simp) (by simp) (by simp) (by simp) (by simp) (λHl' h' g48 g5000 g64 g80 g128=>?_);simp [g48,g5000]
theorem eX {w0:World} {bF bG:Nat->Prop} {bl:Bool} {st:ASt} {dst:Option Nat} {K:ASt->Prop} {L:List Part} {P:List Int} {D:Int} {b:Nat} {Hl Hp:Hd} (hL:L.length<=2 ^ 20) (_hP:P.length<=2 ^ 40)
 (g160:st.h.get 160=.vars b 177 [.sl 5000 Hl 3 0 L.length,.sl 5001 Hp 1 0 P.length,.v (.int .i64 D)])
 (g5000:st.h.get 5000=.rows Hl 3 (L.map Part.row) true) (g5001:st.h.get 5001=.rows Hp 1 (P.map aU) true)
 (hK:∀ Hl' h',AH.get h' 160=.vars b 177 [.sl 5000 Hl' 3 0 (ar L P D).length,.nil,.v (.int .i64 0)] -> AH.get h' 5000=.rows Hl' 3 ((ar L P D).map Part.row) true ->
  AH.get h' 80=st.h.get 80->aC ⟨st.n,st.kb,st.t,h'⟩ dst (.tup []) K):aa ⟨Tryz.prog,tt,w0,⟨bF,bG,bl,λ_=>True⟩⟩ 197 [.p 160 b 0] st dst K:=by
 refine inl aq Tryz.func197 20000 (λw1 F=>?_);simp [g160];by_cases hp:P=[]
 ·have hp0:¬ 0<P.length:=by simp [hp]
  simp [hp0,g160];by_cases hd:0<D
  ·simp [hd]
   refine drw eok mix [0,1,2,3,4,5,6,7,8,9,12,13] [10,11,14] (.c 12 10 4 4091 (.c 12 11 128 3963 (.c 12 14 3961 2 (.l 12 2) .s) .s) .s) ?_;simp [g160,g5000];intro b1;refine ⟨by omega,λH=>hK H _ ?_ ?_ ?_⟩<;>simp [uY hp hd,Part.row]
  ·simp [hd,g160]
   refine hK Hl _ ?_ ?_ ?_<;>simp [uX hp hd,g5000]
 ·have hp0:0<P.length:=List.length_pos_iff.2 hp
  simp [hp0];refine drw eok mix [0,1,2,3,4,5,6,7,8,9,12,13] [10,11,14] (.c 12 10 4 4091 (.c 12 11 128 3963 (.c 12 14 3961 2 (.l 12 2) .s) .s) .s) ?_;simp [g160,g5000,g5001];intro b1;refine ⟨by omega,λH=>?_⟩;by_cases hd:0<D
  ·simp [hd]
   refine drw eok mix [0,1,2,3,4,5,6,7,8,9,12,13] [10,11,14] (.c 12 10 4 4091 (.c 12 11 128 3963 (.c 12 14 3961 2 (.l 12 2) .s) .s) .s) ?_;simp;intro b2;refine ⟨by omega,λH2=>hK H2 _ ?_ ?_ ?_⟩<;>simp [u0 hp hd,Part.row]
  ·simp [hd]
   refine hK H _ ?_ ?_ ?_<;>simp [uZ hp hd,Part.row]
theorem kZ {w0:World} {bF bG:Nat->Prop} {bl:Bool} {st:ASt} {dst:Option Nat} {K:ASt->Prop} {L:List Part} {P:List Int} {D n:Int} {b:Nat} {Hl Hp:Hd} (hL:L.length<=2 ^ 19) (hP:P.length<=2 ^ 40) (hn0:0<n) (hn:n<=200) (hF:∀ q∈ar L P D,0<=q.n/\q.n<=2 ^ 40)
 (g160:st.h.get 160=.vars b 177 [.sl 5000 Hl 3 0 L.length,.sl 5001 Hp 1 0 P.length,.v (.int .i64 D)])
 (g5000:st.h.get 5000=.rows Hl 3 (L.map Part.row) true) (g5001:st.h.get 5001=.rows Hp 1 (P.map aU) true)
 (hK:∀ Hl' h',AH.get h' 160=.vars b 177 [.sl 5000 Hl' 3 0 (a8 (ar L P D) n).length,.nil,.v (.int .i64 0)] -> AH.get h' 5000=.rows Hl' 3 ((a8 (ar L P D) n).map Part.row) true ->
  AH.get h' 80=st.h.get 80->aC ⟨st.n,st.kb,st.t,h'⟩ dst (.tup []) K):aa ⟨Tryz.prog,tt,w0,⟨bF,bG,bl,λ_=>True⟩⟩ 152 [.p 160 b 0,.v (.int .i64 n)] st dst K:=by
 refine inl aq Tryz.func152 30000 (λw1 F=>?_);have n0:¬ n=0:=by omega
 simp [n0];refine eX (L:=L) (P:=P) (D:=D) (Hl:=Hl) (Hp:=Hp) (by omega) hP (by simp [g160]) (by simp [g5000]) (by simp [g5001]) (λHl' h' k160 k5000 k80=>?_);have f1:=dX L P D;generalize ar L P D=F at f1 hF k160 k5000 hK;by_cases hF0:0<F.length
 ·obtain ⟨m,hm⟩:∃ m,F.length=m+1:=⟨F.length - 1,by omega⟩
  have hmlt:m<F.length:=by omega
  have hmm:(m:Int)<m+1:=by omega
  have em:Go.IntKind.i64.wrap (m:Int)=m:=qV (by omega)
  have hk:a8 F n=if F[m].kind=1 then F.set m ⟨1,F[m].n+n,F[m].signs⟩ else F++[⟨1,n,[]⟩]:=by
   have e0:F.length - 1=m:=by omega
   simp [a8,hF0,e0]
  have hq:=hF _ (List.getElem_mem hmlt);have em2:Go.IntKind.i64.wrap (F[m].n+n)=F[m].n+n:=Go.IntWalk.i64_in _ (by omega);simp [k160,k5000,hm,em,hmm,Part.row];by_cases ck:F[m].kind=1
  ·rw [if_pos ck] at hk
   simp [ck];refine drw eok mix [0,1,2,3,4,5,6,7,8,9,10,11,12,13,14,15,16,17,18] [19] (.c 19 19 524285 2 (.l 19 2) .s) ?_;simp [k160,k5000,hm,em,hmm,Part.row,ck,em2];have hmod:=j4 (F:=F) (m:=m) hmlt (g:=λrow=>ch row 1 [CD.v (Value.int IntKind.i64 (F[m].n+n))]) (p:=⟨1,F[m].n+n,F[m].signs⟩) (by simp [Part.row,ck]);refine hK Hl' _ ?_ ?_ ?_
   ·simp [k160,hk,hm]
   ·simp [hk,hmod]
   ·simp [k80]
  ·rw [if_neg ck] at hk
   simp [ck,k160,k5000,hm];intro b1;refine ⟨by omega,λH=>hK H _ ?_ ?_ ?_⟩<;>simp [hk,hm,Part.row,k80]
 ·have hF1:F=[]:=List.eq_nil_of_length_eq_zero (by omega)
  subst hF1;have hk:a8 [] n=[⟨1,n,[]⟩]:=by simp [a8]
  simp [k160,k5000];intro b1 H;refine hK H _ ?_ ?_ ?_<;>simp [hk,Part.row,k80]
open Classical in
noncomputable def aP (o:List Part):List Part:=if b7 o then normal o else []
theorem gL (o:List Part) (hl:nL az o<=2 ^ 40):ax Tryz.prog 122 [.c (.s (o.map Part.row))] (.one (.c (.s ((aP o).map Part.row)) 3)):=by
 refine pci aq Tryz.func122 (λw0 base=>?_);simp;refine aa.pure (eC o hl) (by simp) ?_;by_cases h:b7 o
 ·have e:aP o=normal o:=by unfold aP;rw [if_pos h]
  simp [h,e];refine aa.pure (ug o h.1.1 (by have:=h.1.2;omega)) (by simp) ?_;simp
 ·have e:aP o=[]:=by unfold aP;rw [if_neg h]
  have e2:dc (b7 o)=false:=by rw [bV];exact h
  simp [e,e2]
theorem go (o:List Part) (hl:nL az o<=2 ^ 40):ax Tryz.prog 113 [.c (.s (o.map Part.row))] (.one (.c (.s ((aP o).map Part.row)) 3)):=by
 refine pci aq Tryz.func113 (λw0 base=>?_);simp;refine aa.pure (ew o hl) (by simp) ?_;by_cases hopk:b7 o
 rotate_left
 ·have e:aP o=[]:=by unfold aP;rw [if_neg hopk]
  have e2:dc (b7 o)=false:=by rw [bV];exact hopk
  simp [e,e2]
 have e:aP o=normal o:=by unfold aP;rw [if_pos hopk]
 have ho:=hopk.1.1;have hlen:=hopk.1.2;simp [hopk,e];intro b
 refine aD eok (λx:Nat×Hd×Hd=>x.1<=o.length) (λx=>⟨38,0,[(13,.v (.int .i64 x.1)),(12,.v (.int .i64 o.length)),(11,.ro (o.map Part.row)),(3,.p 160 b 0)],
  [(160, .vars b 177 [.sl 5000 x.2.1 3 0 (aF (o.take x.1)).1.length, .sl 5001 x.2.2 1 0 (aF (o.take x.1)).2.1.length, .v (.int .i64 (aF (o.take x.1)).2.2)]),
   (5000,.rows x.2.1 3 ((aF (o.take x.1)).1.map Part.row) true),(5001,.rows x.2.2 1 ((aF (o.take x.1)).2.1.map aU) true)]⟩) (λx=>o.length - x.1) (0,none,none) (by simp) (by simp [aF]) (λx hx=>Ent.refl ?_)
 obtain ⟨i,Hl,Hp⟩:=x;simp only at hx ⊢;have hok:=fc ho i hx;by_cases h:i<o.length
 ·have hs:=cK h
  have hpb:=(ho _ (List.getElem_mem h)).bounds;generalize aF (o.take i)=s at hok hs;obtain ⟨L,P,D⟩:=s;obtain ⟨k1,k2,k3,k4,k5⟩:=hok;simp only at k1 k2 k3 k4 k5;have e:Go.IntKind.i64.wrap ((i:Int)+1)=((i+1:Nat):Int):=au (by omega);simp [h,Part.row];intro b5;by_cases c1:o[i].kind=1
  ·simp [c1]
   by_cases cn:0<o[i].n
   ·have hstep:bW (L,P,D) o[i]=(a8 (ar L P D) o[i].n,[],0):=by simp [bW,c1,cn]
    rw [hstep] at hs;have f2:=ic (P:=P) k3 k4 k5;refine kZ (L:=L) (P:=P) (D:=D) (Hl:=Hl) (Hp:=Hp) (by omega) (by omega) cn hpb.2.2.1 (λq hq=>by have:=f2 q hq;omega) (by simp) (by simp) (by simp) (λHl' h' k160 k5000 k80=>?_);simp;refine Ent.kill 5001 (Ent.refl ⟨i+1,by omega,by omega,Hl',none,?_⟩);rw [hs];simp [e,k160,k5000]
   ·have cn0:o[i].n=0:=by omega
    refine inl aq Tryz.func152 30000 (λw1 F=>?_);simp [cn0];refine Ent.refl ⟨i+1,by omega,by omega,Hl,Hp,?_⟩;rw [hs];simp [bW,c1,cn0,e]
  ·by_cases c2:o[i].kind=2
   ·simp [c2]
    refine inl aq Tryz.func153 30000 (λw1 F=>?_);simp;refine ⟨by omega,λH=>?_⟩;refine Ent.refl ⟨i+1,by omega,by omega,Hl,H,?_⟩;rw [hs];simp [bW,c2,e]
   ·have c3:o[i].kind=3:=by omega
    have e3:Go.IntKind.i64.wrap (D+o[i].n)=D+o[i].n:=Go.IntWalk.i64_in _ (by omega);simp [c1,c2];refine inl aq Tryz.func154 30000 (λw1 F=>?_);simp [e3];refine Ent.refl ⟨i+1,by omega,by omega,Hl,Hp,?_⟩;rw [hs];simp [bW,c3,e]
 ·have he:o.take i=o:=List.take_of_length_le (by omega)
  rw [he] at hok ⊢;have hn:normal o=ar (aF o).1 (aF o).2.1 (aF o).2.2:=rfl;rw [hn];generalize aF o=s at hok;obtain ⟨L,P,D⟩:=s;obtain ⟨k1,k2,k3,k4,k5⟩:=hok;simp only at k1 k2 k3 k4 k5;simp [h];refine inl aq Tryz.func155 30000 (λw1 F=>?_);simp;refine eX (L:=L) (P:=P) (D:=D) (Hl:=Hl) (Hp:=Hp) (by omega) (by omega) (by simp) (by simp) (by simp) (λHl' h' k160 k5000 k80=>?_);simp [k160,k5000]
theorem nP (a b:List Int) (hl:a.length<=2 ^ 40):ax Tryz.prog 191 [.c (.s (a.map aU)),.c (.s (b.map aU))] (.one (.c (vb (a=b)) 1)):=by
 refine pci aq Tryz.func191 (λw0 base=>?_);by_cases h:a.length=b.length
 ·simp [h]
  refine aL.intro eok (λi:Nat=>i<=a.length/\a.take i=b.take i) (λi=>⟨26,0,[(13,.v (.int .i64 i)),(12,.v (.int .i64 b.length)),(1,.ro (b.map aU)),(0,.ro (a.map aU))],[]⟩) (λi=>a.length - i) 0 (by simp) (by simp) (λi hi=>?_);by_cases hlt:i<a.length
  ·have hlt':i<b.length:=by omega
   simp [hlt'];refine aN.quiet eok mix (by kernel_rfl) ?_;simp [hlt,hlt'];refine Br.mk (λh1=>?_) (λh1=>?_)
   ·simp
    exact ⟨i+1,⟨by omega,fx hlt hlt' hi.2 (fZ h1)⟩,by omega,au (by omega)⟩
   ·simp [bV]
    exact lU hlt hlt' (jU h1)
  ·have hlt':¬ i<b.length:=by omega
   simp [hlt',fl];exact gj (by omega) (by omega) hi.2
 ·have hz:¬ (a.length:Int)=b.length:=by omega
  simp [hz,bV];exact λh2=>absurd (by rw [h2]) h
theorem mD (a b:List Part) (hl:a.length<=2 ^ 40) (hs:∀ p∈a,p.signs.length<=2 ^ 40):ax Tryz.prog 167 [.c (.s (a.map Part.row)),.c (.s (b.map Part.row))] (.one (.c (vb (a=b)) 1)):=by
 refine pci aq Tryz.func167 (λw0 base=>?_);by_cases h:a.length=b.length
 ·simp [h]
  refine aL.intro eok (λi:Nat=>i<=a.length/\a.take i=b.take i) (λi=>⟨49,0,[(14,.v (.int .i64 i)),(13,.v (.int .i64 b.length)),(12,.ro (a.map Part.row)),(1,.ro (b.map Part.row))],[]⟩) (λi=>a.length - i) 0 (by simp) (by simp) (λi hi=>?_);by_cases hlt:i<a.length
  ·have hlt':i<b.length:=by omega
   simp [hlt,hlt',Part.row];intro b1;refine aN.quiet eok mix (by kernel_rfl) ?_;simp [hlt',Part.row];by_cases h1:a[i].kind=b[i].kind
   ·by_cases h2:a[i].n=b[i].n
    ·simp [h1,h2,hlt',Part.row]
     refine ⟨_,_,nP a[i].signs b[i].signs (hs _ (List.getElem_mem hlt)),by simp,?_⟩;simp;by_cases h3:a[i].signs=b[i].signs
     ·simp [h3]
      have he:a[i]=b[i]:=by
       cases hx:a[i];cases hy:b[i]
       rw [hx,hy] at h1 h2 h3;simp at h1 h2 h3;rw [h1,h2,h3]
      exact ⟨i+1,⟨by omega,fx hlt hlt' hi.2 he⟩,by omega,au (by omega)⟩
     ·simp [h3,bV]
      exact lU hlt hlt' (λhe=>h3 (by rw [he]))
    ·simp [h1,h2,hlt',Part.row,bV]
     exact lU hlt hlt' (λhe=>h2 (by rw [he]))
   ·simp [h1,bV]
    exact lU hlt hlt' (λhe=>h1 (by rw [he]))
  ·have hlt':¬ i<b.length:=by omega
   simp [hlt',fl];exact gj (by omega) (by omega) hi.2
 ·have hz:¬ (a.length:Int)=b.length:=by omega
  simp [hz,bV];exact λh2=>absurd (by rw [h2]) h
theorem kY (a b:List Part) (h:nL az a<=2 ^ 40):ax Tryz.prog 167 [.c (.s (a.map Part.row)),.c (.s (b.map Part.row))] (.one (.c (vb (a=b)) 1)):=mD a b (fd h) (λ_p hp=>uo h hp)
theorem cI {α:Type} {f:α->Nat}:∀ (a b:List α),cg f (a++b)=cg f a+cg f b
 | [],b=>by simp [cg]
 |x::a,b=>by simp only [List.cons_append,cg,cI a b];omega
theorem nM {α:Type} {f:α->Nat}:∀ (l:List α) (i:Nat) (h:i<l.length) (x:α),f x=f l[i]->cg f (l.set i x)=cg f l
 |a::l,0,_,x,hx=>by simp at hx;simp [cg,hx]
 | a :: l, i + 1, h, x, hx => by
   simp only [List.set_cons_succ,cg];rw [nM l i (by simpa using h) x (by simpa using hx)]
theorem iG {L:List Part} {P:List Int} {D:Int}:cg az (ar L P D)=cg az L+P.length:=by
 unfold ar;rw [cI,cI];by_cases hp:P=[]<;>by_cases hd:0<D<;>simp [hp,hd,cg,az]
theorem pG {L:List Part} {n:Int}:cg az (a8 L n)=cg az L:=by
 unfold a8
 split
 ·rename_i h
  split
  ·exact nM L _ (by omega) _ rfl
  ·rw [cI];simp [cg,az]
 ·rename_i h
  have:L=[]:=List.eq_nil_of_length_eq_zero (by omega);subst this;simp [cg,az]
theorem lV {o:List Part}:∀ (i:Nat),i<=o.length->cg az (aF (o.take i)).1+(aF (o.take i)).2.1.length<=cg az (o.take i)
 |0,_=>by simp [aF,cg]
 | i + 1, hi => by
   have ih:=lV (o:=o) i (by omega);have hlt:i<o.length:=by omega
   rw [cK hlt,<- List.take_append_getElem hlt,cI];generalize aF (o.take i)=s at ih;generalize o[i]=p;obtain ⟨L,P,D⟩:=s;simp only at ih;have hp:cg az [p]=p.signs.length:=by simp [cg,az]
   rw [hp];unfold bW
   split
   ·simp;omega
   ·split
    ·simp;omega
    ·split
     ·simp only [pG,iG];simp;omega
     ·simp;omega
theorem pD (o:List Part):cg az (normal o)<=cg az o:=by
 have h:=lV (o:=o) o.length (by omega);rw [List.take_length] at h;unfold normal;rw [iG];exact h
theorem pE {o:List Part} (ho:∀ p∈o,aw p):(normal o).length<=3*o.length+2:=by
 have h:=(fc ho o.length (by omega)).l;rw [List.take_length] at h;have:=dX (aF o).1 (aF o).2.1 (aF o).2.2;unfold normal;omega
theorem jM {o:List Part} (ho:∀ p∈o,aw p):cg az o<=200*o.length:=by
 induction o with
 |nil=>simp [cg]
 | cons p o ih =>
   have h1:=(ho p (List.mem_cons_self ..)).bounds;have h2:=ih (λq hq=>ho q (List.mem_cons_of_mem _ hq));simp only [cg,az,List.length_cons];omega
theorem jZ {o:List Part} (ho:∀ p∈o,aw p):nL az o<=201*o.length:=by
 have:=jM ho;unfold nL;omega
theorem rE {o:List Part} (ho:∀ p∈o,aw p):nL az (normal o)<=203*o.length+2:=by
 have h1:=pD o;have h2:=pE ho;have h3:=jM ho;unfold nL;omega
theorem t7 (o:List Part):nL az (aP o)<=2 ^ 20:=by
 unfold aP
 split
 ·rename_i h
  have:=rE h.1.1;have:=h.1.2;omega
 ·simp [nL,cg]
def aI (o:List Part):Prop:=b7 o/\aP o=o
theorem mF (o:List Part) (hl:nL az o<=2 ^ 40):ax Tryz.prog 123 [.c (.s (o.map Part.row))] (.one (.c (vb (aI o)) 1)):=by
 refine pci aq Tryz.func123 (λw0 base=>?_);simp;refine aa.pure (ew o hl) (by simp) ?_;by_cases h:b7 o
 ·simp [h]
  refine aa.pure (go o hl) (by simp) ?_;simp;intro H;refine aa.pure (kY (aP o) o (Nat.le_trans (t7 o) (by decide))) (by simp) ?_;simp [aI,h]
 ·simp [h,aI]
def zf (t:List Int):Prop:=t.length<=200/\bj t
def psz (p:Part):Nat:=p.n.toNat+p.signs.length
def Cs (p:Part) (n:Nat):Part:=if p.kind=2 then ⟨p.kind,p.n,p.signs.take n⟩ else ⟨p.kind,n,p.signs⟩
def co (p:Part) (n:Nat):Part:=if p.kind=2 then ⟨p.kind,p.n,p.signs.drop n⟩ else ⟨p.kind,p.n - n,p.signs⟩
theorem dW {p:Part} (h:aw p):(psz p:Int)=p.n+p.signs.length/\psz p<=200:=by
 have hb:=h.bounds;unfold psz;by_cases hk:p.kind=2
 ·have:=hb.2.2.2.2.1 hk
  omega
 ·have:=hb.2.2.2.2.2 hk
  rw [this];simp;omega
@[simp] theorem Bt {p:Part} {n:Nat}:(Cs p n).kind=p.kind:=by unfold Cs;split<;>rfl
@[simp] theorem zs {p:Part} {n:Nat}:(co p n).kind=p.kind:=by unfold co;split<;>rfl
theorem tU {p:Part} (h:aw p) {n:Nat} (hn:n<=psz p):aw (co p n):=by
 have hp:=dW h;unfold co;by_cases hk:p.kind=2
 ·rw [if_pos hk]
  rw [dG hk] at h;refine .inr ⟨hk,h.1,?_,λm hm=>h.2.2 m (List.mem_of_mem_drop hm)⟩;simp;omega
 ·rw [if_neg hk]
  have hb:=h.bounds;have hk2:p.kind=1\/p.kind=3:=by omega
  have:=hb.2.2.2.2.2 hk;refine .inl ⟨hk2,?_,this⟩;rw [this] at hp;simp at hp;simp only;omega
theorem jT {p:Part} (h:aw p) {n:Nat} (hn:n<=psz p):psz (co p n)=psz p - n:=by
 have hb:=h.bounds;unfold psz co at *;by_cases hk:p.kind=2
 ·rw [if_pos hk]
  have:=hb.2.2.2.2.1 hk;simp only [this,List.length_drop] at hn ⊢;omega
 ·rw [if_neg hk]
  have:=hb.2.2.2.2.2 hk;simp only [this,List.length_nil] at hn ⊢;omega
theorem nY {p:Part} {m n:Nat}:co (co p m) n=co p (m+n):=by
 unfold co;by_cases hk:p.kind=2
 ·simp [hk,List.drop_drop]
 ·simp [hk]
  omega
theorem pw {p:Part}:co p 0=p:=by unfold co;split<;>simp
def nxt:List Part->List Part
 | []=>[]
 |p::l=>if psz p=0 then nxt l else p::l
def tsz:List Part->Nat
 | []=>0
 |p::l=>psz p+tsz l
def frs:List Part->Nat
 | []=>0
 |p::l=>(if p.kind=2 then 0 else psz p)+frs l
def tos:List Part->Nat
 | []=>0
 |p::l=>(if p.kind=3 then 0 else psz p)+tos l
theorem m4:∀ {o:List Part},(∀ p∈o,aw p)->(frs o:Int)=bi (eF 2) o
 | [],_=>rfl
 | p :: o, h => by
   have ih:=m4 (λq hq=>h q (List.mem_cons_of_mem _ hq));have hp:=dW (h p (List.mem_cons_self ..));simp only [frs,bi,eF]
   split<;>simp<;>omega
theorem ms:∀ {o:List Part},(∀ p∈o,aw p)->(tos o:Int)=bi (eF 3) o
 | [],_=>rfl
 | p :: o, h => by
   have ih:=ms (λq hq=>h q (List.mem_cons_of_mem _ hq));have hp:=dW (h p (List.mem_cons_self ..));simp only [tos,bi,eF]
   split<;>simp<;>omega
theorem uV {o:List Part} (h:b7 o):(frs o:Int)=cp o:=by
 rw [m4 h.1.1,cC (λp hp=>Ax (h.1.1 p hp)),dD];unfold cp aR;rw [if_pos h.1]
theorem yB {o:List Part} (h:b7 o):(tos o:Int)=ib o:=by
 rw [ms h.1.1,cC (λp hp=>Aw (h.1.1 p hp)),dD];unfold ib aR;rw [if_pos h.1]
theorem sR:∀ (o:List Part),tsz o<=frs o+tos o
 | []=>by simp [tsz]
 | p :: o => by
   have:=sR o;simp only [tsz,frs,tos]
   split<;>split<;>omega
def cur (o:List Part) (i d:Nat):List Part:=
 match o.drop i with
 | []=>[]
 |p::l=>co p d::l
theorem nk {o:List Part} {i d:Nat} (h:o.length<=i):cur o i d=[]:=by unfold cur;rw [List.drop_eq_nil_of_le h]
theorem kv {o:List Part} {i d:Nat} (h:i<o.length):cur o i d=co o[i] d::o.drop (i+1):=by unfold cur;rw [List.drop_eq_getElem_cons h]
theorem u9 {o:List Part} {i:Nat}:cur o i 0=o.drop i:=by
 unfold cur
 cases o.drop i with
 |nil=>rfl
 |cons p l=>simp [pw]
theorem vc {o:List Part} (ho:∀ p∈o,aw p) {i:Nat} (h:i<o.length):nxt (cur o i (psz o[i]))=nxt (cur o (i+1) 0):=by
 rw [kv h,u9];have:=jT (ho _ (List.getElem_mem h)) (Nat.le_refl _);simp [nxt,this]
theorem va {o:List Part} (ho:∀ p∈o,aw p) {i d:Nat} (h:i<o.length) (hd:d<psz o[i]):nxt (cur o i d)=cur o i d:=by
 rw [kv h];have:=jT (ho _ (List.getElem_mem h)) (Nat.le_of_lt hd);have h2:¬ psz (co o[i] d)=0:=by omega
 simp [nxt,h2]
theorem ve {o:List Part} {i d n:Nat} (h:i<o.length) {p:Part} {l:List Part} (hc:cur o i d=p::l):co p n::l=cur o i (d+n):=by
 rw [kv h] at hc ⊢
 cases hc
 rw [nY]
set_option maxHeartbeats 1600000
theorem l5 (p:Part) (h:aw p):ax Tryz.prog 244 [.agg p.row] (.one (.c (vi (psz p)) 1)):=by
 refine pci aq Tryz.func244 (λw0 base=>?_);have hp:=dW h;have hb:=h.bounds;rw [hp.1];simp [Part.row];by_cases hk:p.kind=2
 ·have:=hb.2.2.2.2.1 hk
  simp [hk,this]
 ·have:=hb.2.2.2.2.2 hk
  simp [hk,this]
structure Cu (a:List Part) (i d:Nat) (X:List Part):Prop where
 ok:∀ p∈a,aw p
 le:i<=a.length
 v:∀ h:i<a.length,d<=psz a[i]
 z:i=a.length->d=0
 c:cur a i d=X
def hdK:List Part->Int
 | []=>0
 |p::_=>p.kind
structure CR (kx ky bx by_:Nat) (h0 h:AH) (a b:List Part) (i d j e:Nat) (X Y:List Part):Prop where
 ne:kx≠ky
 lx:kx<14000 - 16
 ly:ky<14000 - 16
 gx:AH.get h kx=.vars bx 253 [.ro (a.map Part.row),.v (.int .i64 i),.v (.int .i64 d)]
 gy:AH.get h ky=.vars by_ 253 [.ro (b.map Part.row),.v (.int .i64 j),.v (.int .i64 e)]
 o:∀ q,q≠kx->q≠ky->q<14000->AH.get h q=AH.get h0 q
 cx:Cu a i d X
 cy:Cu b j e Y
theorem Cu.bnd {a:List Part} {i d:Nat} {X:List Part} (h:Cu a i d X):d<=200:=by
 by_cases hlt:i<a.length
 ·have:=h.v hlt
  have:=(dW (h.ok _ (List.getElem_mem hlt))).2;omega
 ·have:=h.z (by have:=h.le;omega)
  omega
theorem rU {w0:World} {bF bG:Nat->Prop} {bl:Bool} {st:ASt} {dst:Option Nat} {K:ASt->Prop} {kx b i d:Nat} {a X:List Part} (_hk:kx<14000) (hl:a.length<=2 ^ 20) (cx:Cu a i d X)
 (g:st.h.get kx=.vars b 253 [.ro (a.map Part.row),.v (.int .i64 i),.v (.int .i64 d)])
 (hK:∀ h' i' d',Cu a i' d' (nxt X)->AH.get h' kx=.vars b 253 [.ro (a.map Part.row),.v (.int .i64 i'),.v (.int .i64 d')]->(∀ q,q≠kx->q<20000->AH.get h' q=st.h.get q)->aC ⟨st.n,st.kb,st.t,h'⟩ dst (.v (.int .i64 (hdK (nxt X)))) K) :
 aa ⟨Tryz.prog,tt,w0,⟨bF,bG,bl,λ_=>True⟩⟩ 220 [.p kx b 0] st dst K:=by
 refine inl aq Tryz.func220 20000 (λw1 F=>?_);simp;refine nG eok (λx:Nat×Nat=>Cu a x.1 x.2 (cur a x.1 x.2)/\nxt (cur a x.1 x.2)=nxt X) (λx=>⟨62,20000,[(0,.p kx b 0),(2,.v (.int .i64 0))],(kx,.vars b 253 [.ro (a.map Part.row),.v (.int .i64 x.1),.v (.int .i64 x.2)])::st.h⟩) (λx=>a.length - x.1) (i,d) ⟨⟨cx.ok,cx.le,cx.v,cx.z,rfl⟩,by rw [cx.c]⟩ (by simp [g]) (λx hx=>?_);obtain ⟨i,d⟩:=x;obtain ⟨hc,hn⟩:=hx;have hcl:=hc.le;have hb:=hc.bnd;simp only at hc hn hcl ⊢;simp;by_cases hlt:i<a.length
 ·have hp:=hc.ok _ (List.getElem_mem hlt)
  have hd:=hc.v hlt;have hps:=dW hp;refine aN.quiet eok mix (by kernel_rfl) ?_;simp [hlt];refine ⟨_,_,l5 a[i] hp,by simp [Part.row],?_⟩;by_cases he:d=psz a[i]
  ·have e1:Go.IntKind.i64.wrap ((i:Int)+1)=((i+1:Nat):Int):=au (by omega)
   simp [he,e1];refine ⟨i+1,0,⟨⟨hc.ok,by omega,λ_=>by omega,λ_=>rfl,rfl⟩,?_⟩,by omega,by omega,rfl⟩;rw [<- hn,he,vc hc.ok hlt]
  ·have he2:¬ (d:Int)=psz a[i]:=by omega
   have hne:¬ i=a.length:=by omega
   simp [he2];refine aN.quiet eok mix (by kernel_rfl) ?_;have hne2:¬ (i:Int)=a.length:=by omega
   simp [hne2];refine aN.quiet eok mix (by kernel_rfl) ?_;simp [hlt,Part.row];have hs:=va hc.ok hlt (show d<psz a[i] by omega);rw [hs] at hn;have hk2:hdK (nxt X)=a[i].kind:=by rw [<- hn,kv hlt];simp [hdK]
   rw [hk2] at hK;refine hK _ i d ⟨hc.ok,hc.le,hc.v,hc.z,hn⟩ (by simp) (λq q1 q2=>by simp [q1])
 ·have hi:i=a.length:=by omega
  have hd:=hc.z hi;refine aN.quiet eok mix (by kernel_rfl) ?_;simp [hlt];refine aN.quiet eok mix (by kernel_rfl) ?_;simp [hi];have hn2:nxt X=[]:=by rw [<- hn,nk (by omega)];rfl
  rw [hn2] at hK;refine hK _ i d ⟨hc.ok,hc.le,hc.v,hc.z,nk (by omega)⟩ (by simp [hi]) (λq q1 q2=>by simp [q1])
theorem Cu.head {a:List Part} {i d:Nat} {p:Part} {l:List Part} (h:Cu a i d (p::l)):∃ hi:i<a.length,p=co a[i] d/\l=a.drop (i+1)/\psz p=psz a[i] - d/\d<=psz a[i]/\p.kind=a[i].kind/\aw p:=by
 have hi:i<a.length:=by
  have:=h.le;rcases Nat.lt_or_ge i a.length with h1|h1
  ·exact h1
  ·have:=h.c
   rw [nk h1] at this
   cases this
 have hc:=h.c;rw [kv hi] at hc
 cases hc
 have hp:=h.ok _ (List.getElem_mem hi);exact ⟨hi,rfl,rfl,jT hp (h.v hi),h.v hi,by simp,tU hp (h.v hi)⟩
theorem Cu.add {a:List Part} {i d n:Nat} {p:Part} {l:List Part} (h:Cu a i d (p::l)) (hn:n<=psz p):Cu a i (d+n) (co p n::l):=by
 obtain ⟨hi,h1,h2,h3,h4,-,-⟩:=h.head;exact ⟨h.ok,h.le,λ_=>by omega,λhe=>by omega,(ve hi h.c).symm⟩
theorem rN {w0:World} {bF bG:Nat->Prop} {bl:Bool} {st:ASt} {dst:Option Nat} {K:ASt->Prop} {kx b i d:Nat} {a l:List Part} {p:Part} (cx:Cu a i d (p::l))
 (g:st.h.get kx=.vars b 253 [.ro (a.map Part.row),.v (.int .i64 i),.v (.int .i64 d)])
 (hK:aC st dst (.v (.int .i64 (psz p))) K) :
 aa ⟨Tryz.prog,tt,w0,⟨bF,bG,bl,λ_=>True⟩⟩ 221 [.p kx b 0] st dst K:=by
 refine inl aq Tryz.func221 20000 (λw1 F=>?_);obtain ⟨hi,h1,h2,h3,h4,-,-⟩:=cx.head;have hp:=cx.ok _ (List.getElem_mem hi);have hps:=dW hp;simp;refine aN.quiet eok mix (by kernel_rfl) ?_;simp [g,hi];refine ⟨_,_,l5 a[i] hp,by simp [Part.row],?_⟩;have e:Go.IntKind.i64.wrap ((psz a[i]:Int) - (d:Int))=(psz p:Int):=by rw [Go.IntWalk.i64_in _ (by omega)];omega
 simp [e];exact hK
theorem nn {w0:World} {bF bG:Nat->Prop} {bl:Bool} {st:ASt} {dst:Option Nat} {K:ASt->Prop} {kx b i d n:Nat} {a l:List Part} {p:Part} (_hk:kx<14000) (cx:Cu a i d (p::l)) (hk2:p.kind=2) (hn:n<=psz p)
 (g:st.h.get kx=.vars b 253 [.ro (a.map Part.row),.v (.int .i64 i),.v (.int .i64 d)])
 (hK:∀ h',Cu a i (d+n) (co p n::l)->AH.get h' kx=.vars b 253 [.ro (a.map Part.row),.v (.int .i64 i),.v (.int .i64 ((d+n:Nat):Int))]->(∀ q,q≠kx->q<20000->AH.get h' q=st.h.get q)->aC ⟨st.n,st.kb,st.t,h'⟩ dst (.ro ((p.signs.take n).map aU)) K) :
 aa ⟨Tryz.prog,tt,w0,⟨bF,bG,bl,λ_=>True⟩⟩ 222 [.p kx b 0,.v (.int .i64 n)] st dst K:=by
 refine inl aq Tryz.func222 20000 (λw1 F=>?_);obtain ⟨hi,h1,h2,h3,h4,h5,-⟩:=cx.head;have hp:=cx.ok _ (List.getElem_mem hi);have hps:=dW hp;have hkk:a[i].kind=2:=by rw [<- h5];exact hk2
 have hn0:=hp.bounds.2.2.2.2.1 hkk;have hsz:psz a[i]=a[i].signs.length:=by omega
 have hs:p.signs=a[i].signs.drop d:=by rw [h1];simp [co,hkk]
 have e:Go.IntKind.i64.wrap ((d:Int)+(n:Int))=((d+n:Nat):Int):=by rw [Go.IntWalk.i64_in _ (by omega)];omega
 have hle:d+n<=a[i].signs.length:=by omega
 have hv:cut (a[i].signs.map aU) d n=(p.signs.take n).map aU:=by
  unfold cut
  split
  ·rename_i hh
   rw [hs,hh.1];simp at hh;simp [hh.2]
  ·rw [hs,List.map_take,List.map_drop]
 obtain ⟨m,hm⟩:∃ m,d+n=m:=⟨_,rfl⟩;have e2:m - d=n:=by omega
 have hadd:=cx.add hn;rw [hm] at e hle hK hadd;simp;refine aN.quiet eok mix (by kernel_rfl) ?_;simp [g,hi,Part.row,e,e2,hv];simp only [List.map_take] at hK;refine ⟨hle,by omega,hK _ hadd ?_ (λq q1 q2=>?_)⟩
 ·simp
 ·simp [q1]
section
variable {w0:World} {bF bG:Nat->Prop} {bl:Bool} {st:ASt} {dst:Option Nat} {K:ASt->Prop} {kx ky bx by_ i d j e:Nat} {h0:AH} {a b X Y:List Part}
theorem CR.kind (R:CR kx ky bx by_ h0 st.h a b i d j e X Y) (hl:a.length<=2 ^ 20) (hK:∀ h' i' d',CR kx ky bx by_ h0 h' a b i' d' j e (nxt X) Y->aC ⟨st.n,st.kb,st.t,h'⟩ dst (.v (.int .i64 (hdK (nxt X)))) K) :
 aa ⟨Tryz.prog,tt,w0,⟨bF,bG,bl,λ_=>True⟩⟩ 220 [.p kx bx 0] st dst K:=by
 have:=R.lx;have:=R.ly;refine rU (by omega) hl R.cx R.gx (λh1 i1 d1 c1 g1 o1=>hK h1 i1 d1 ⟨R.ne,R.lx,R.ly,g1,by rw [o1 ky R.ne.symm (by omega)];exact R.gy,λq q1 q2 q3=>by rw [o1 q q1 (by omega)];exact R.o q q1 q2 q3,c1,R.cy⟩)
theorem CR.left {p:Part} {l:List Part} (R:CR kx ky bx by_ h0 st.h a b i d j e (p::l) Y) (hK:aC st dst (.v (.int .i64 (psz p))) K) :
 aa ⟨Tryz.prog,tt,w0,⟨bF,bG,bl,λ_=>True⟩⟩ 221 [.p kx bx 0] st dst K:=rN R.cx R.gx hK
theorem CR.take {p:Part} {l:List Part} {n:Nat} (R:CR kx ky bx by_ h0 st.h a b i d j e (p::l) Y) (hk2:p.kind=2) (hn:n<=psz p) (hK:∀ h',CR kx ky bx by_ h0 h' a b i (d+n) j e (co p n::l) Y->aC ⟨st.n,st.kb,st.t,h'⟩ dst (.ro ((p.signs.take n).map aU)) K) :
 aa ⟨Tryz.prog,tt,w0,⟨bF,bG,bl,λ_=>True⟩⟩ 222 [.p kx bx 0,.v (.int .i64 n)] st dst K:=by
 have:=R.lx;have:=R.ly;refine nn (by omega) R.cx hk2 hn R.gx (λh1 c1 g1 o1=>hK h1 ⟨R.ne,R.lx,R.ly,g1,by rw [o1 ky R.ne.symm (by omega)];exact R.gy,λq q1 q2 q3=>by rw [o1 q q1 (by omega)];exact R.o q q1 q2 q3,c1,R.cy⟩)
theorem CR.done {p:Part} {l:List Part} {n:Nat} (R:CR kx ky bx by_ h0 st.h a b i d j e (p::l) Y) (hn:n<=psz p):CR kx ky bx by_ ((kx,.vars bx 253 [.ro (a.map Part.row),.v (.int .i64 i),.v (.int .i64 ((d+n:Nat):Int))])::st.h) ((kx,.vars bx 253 [.ro (a.map Part.row),.v (.int .i64 i),.v (.int .i64 ((d+n:Nat):Int))])::st.h) a b i (d+n) j e (co p n::l) Y:=
 ⟨R.ne,R.lx,R.ly,by simp,by rw [an,if_neg R.ne.symm];exact R.gy,λ_ _ _ _=>rfl,R.cx.add hn,R.cy⟩
end
open Go.AM
set_option maxRecDepth 20000
set_option maxHeartbeats 1600000
def Rep.zero:Rep:=⟨0,0,0,[],false,[],[]⟩
theorem fw {α β:Type} {f:α->β} {l:List α} {i:Nat} (h:i<l.length):List.take i (l.map f)++[f l[i]]=List.take (i+1) (l.map f):=by
 rw [List.take_add_one];simp [h]
def Call.zero:Call:=⟨0,⟨#[]⟩,0,0,0,[],[]⟩
def AD (t:List Int) (s:List Int×Int) (p:Part):List Int×Int:=
 if p.kind=1 then (s.1++(t.drop s.2.toNat).take p.n.toNat,s.2+p.n) else if p.kind=2 then (s.1++p.signs,s.2) else (s.1,s.2+p.n)
def De (o:List Part) (t:List Int):List Int×Int:=o.foldl (AD t) ([],0)
def C5 (o:List Part) (t:List Int):Prop:=b7 o/\zf t/\cp o=t.length
open Classical in
noncomputable def apply (o:List Part) (t:List Int):List Int×Bool:=if C5 o t then ((De o t).1,true) else ([],false)
def Doc.zero:Doc:=⟨⟨#[]⟩,0,[],[],[]⟩
def Net.zero:Net:=⟨Doc.zero,[]⟩
end Go.Proofs.YthckkpphnmmfdaaGreatDoor
