import Derived.Test.YtibkifnmhkealaaGreatDoorNA
import Derived.Test.YtibkifnmhkealaaGreatDoorMF
namespace Go.Proofs.YtibkifnmhkealaaGreatDoor
open Go.AM
set_option maxRecDepth 20000
theorem aT (n lo hi:Int):ai Tryz.prog 87 [.c (vi n),.c (vi lo),.c (vi hi)] (.one (.c (vb (lo<=n/\n<=hi)) 1)):=by
 refine pci ae Tryz.func87 (λw0 base=>?_);by_cases h1:lo<=n<;>by_cases h2:n<=hi<;>simp [h1,h2]
theorem bX (n lo hi:Int):ai Tryz.prog 43 [.c (vi n),.c (vi lo),.c (vi hi)] (.one (.c (vb (lo<=n/\n<=hi)) 1)):=by
 refine pci ae Tryz.func43 (λw0 base=>?_);by_cases h1:lo<=n<;>by_cases h2:n<=hi<;>simp [h1,h2]
def ia (n:Int):Prop:=(0<=n/\n<=1114111)/\¬ (55296<=n/\n<=57343)
def cc (l:List Int):Prop:=∀ n∈l,ia n
theorem Bx (n:Int):ai Tryz.prog 214 [.c (vi n)] (.one (.c (vb (ia n)) 1)):=by
 refine pci ae Tryz.func214 (λw0 base=>?_);simp;refine aa.pure (aT n 0 1114111) (by simp) ?_;by_cases h:0<=n/\n<=1114111
 ·simp [h]
  refine aa.pure (aT n 55296 57343) (by simp) ?_;by_cases h2:55296<=n/\n<=57343<;>simp [h2,ia,h]
  try (rw [md];omega)
 ·have e:dc (0<=n/\n<=1114111)=false:=by rw [aN];exact h
  simp [ia,h]
theorem rI (n:Int):ai Tryz.prog 143 [.c (vi n)] (.one (.c (vb (ia n)) 1)):=by
 refine pci ae Tryz.func143 (λw0 base=>?_);simp;refine aa.pure (bX n 0 1114111) (by simp) ?_;by_cases h:0<=n/\n<=1114111
 ·simp [h]
  refine aa.pure (bX n 55296 57343) (by simp) ?_;by_cases h2:55296<=n/\n<=57343<;>simp [h2,ia,h]
  try (rw [md];omega)
 ·have e:dc (0<=n/\n<=1114111)=false:=by rw [aN];exact h
  simp [ia,h]
theorem kM {α:Type} {P:α->Prop} {l:List α} {i:Nat} (h:i<l.length) (ha:∀ a∈l.take i,P a) (hi:P l[i]):∀ a∈l.take (i+1),P a:=by
 rw [<- List.take_append_getElem h];intro a ha';rcases List.mem_append.1 ha' with h1|h1
 ·exact ha a h1
 ·simp at h1;subst h1;exact hi
theorem lO {α:Type} {P:α->Prop} {l:List α} {i:Nat} (h:l.length<=i) (ha:∀ a∈l.take i,P a):∀ a∈l,P a:=by
 rwa [List.take_of_length_le h] at ha
theorem vU {α:Type} {P:α->Prop} {l:List α} {i:Nat} (h:i<l.length) (hi:¬ P l[i]):¬ ∀ a∈l,P a:=λha=>hi (ha _ (List.getElem_mem h))
theorem gi (l:List Int) (hl:l.length<=2 ^ 40):ai Tryz.prog 125 [.c (.s (l.map al))] (.one (.c (vb (cc l)) 1)):=by
 refine pci ae Tryz.func125 (λw0 base=>?_);simp;refine az.intro eok (λi:Nat=>i<=l.length/\∀ n∈l.take i,ia n) (λi=>⟨15,0,[(7,.v (.int .i64 i)),(6,.v (.int .i64 l.length)),(5,.ro (l.map al))],[]⟩) (λi=>l.length - i) 0 (by simp) (by simp) (λi hi=>?_);by_cases h:i<l.length
 ·simp [h]
  refine aa.pure (Bx l[i]) (by simp) ?_;simp;refine Br.mk (λh1=>?_) (λh1=>?_)
  ·simp
   exact ⟨i+1,⟨by omega,kM h hi.2 (q8 h1)⟩,by omega,aj (by omega)⟩
  ·simp [aN]
   exact vU h (w5 h1)
 ·simp [h,md]
  exact lO (by omega) hi.2
theorem ii (l:List Int) (hl:l.length<=2 ^ 40):ai Tryz.prog 156 [.c (.s (l.map al))] (.one (.c (vb (cc l)) 1)):=by
 refine pci ae Tryz.func156 (λw0 base=>?_);simp;refine az.intro eok (λi:Nat=>i<=l.length/\∀ n∈l.take i,ia n) (λi=>⟨15,0,[(7,.v (.int .i64 i)),(6,.v (.int .i64 l.length)),(5,.ro (l.map al))],[]⟩) (λi=>l.length - i) 0 (by simp) (by simp) (λi hi=>?_);by_cases h:i<l.length
 ·simp [h]
  refine aa.pure (rI l[i]) (by simp) ?_;simp;refine Br.mk (λh1=>?_) (λh1=>?_)
  ·simp
   exact ⟨i+1,⟨by omega,kM h hi.2 (q8 h1)⟩,by omega,aj (by omega)⟩
  ·simp [aN]
   exact vU h (w5 h1)
 ·simp [h,md]
  exact lO (by omega) hi.2
def ar (p:Part):Prop:=((p.kind=1\/p.kind=3)/\(0<=p.n/\p.n<=200)/\p.signs=[])\/(p.kind=2/\p.n=0/\p.signs.length<=200/\cc p.signs)
theorem uD {p:Part} (h:p.kind=1\/p.kind=3):ar p=((0<=p.n/\p.n<=200)/\p.signs=[]):=by
 have h2:¬ p.kind=2:=by omega
 simp [ar,h,h2]
theorem iF {p:Part} (h:p.kind=2):ar p=(p.n=0/\p.signs.length<=200/\cc p.signs):=by simp [ar,h]
theorem zT {p:Part} (h1:p.kind≠1) (h2:p.kind≠2) (h3:p.kind≠3):¬ ar p:=by simp [ar,h1,h2,h3]
theorem BC (p:Part) (hl:p.signs.length<=2 ^ 40):ai Tryz.prog 257 [.agg p.row] (.one (.c (vb (ar p)) 1)):=by
 refine pci ae Tryz.func257 (λw0 base=>?_);simp [Part.row];intros;by_cases h13:p.kind=1\/p.kind=3
 ·rw [uD h13]
  rcases h13 with h|h
  ·simp [h]
   refine aa.pure (aT p.n 0 200) (by simp) ?_;by_cases hn:0<=p.n/\p.n<=200
   ·simp [hn]
   ·have e:dc (0<=p.n/\p.n<=200)=false:=by rw [aN];exact hn
    simp [hn]
  ·simp [h]
   refine aa.pure (aT p.n 0 200) (by simp) ?_;by_cases hn:0<=p.n/\p.n<=200
   ·simp [hn]
   ·have e:dc (0<=p.n/\p.n<=200)=false:=by rw [aN];exact hn
    simp [hn]
 ·have h1:¬ p.kind=1:=λh=>h13 (.inl h)
  have h3:¬ p.kind=3:=λh=>h13 (.inr h)
  by_cases h2:p.kind=2
  ·rw [iF h2]
   simp [h2];by_cases hn:p.n=0
   ·by_cases hs:p.signs.length<=200
    ·have hs':(p.signs.length:Int)<=200:=by omega
     simp [hn,hs'];refine aa.pure (gi p.signs hl) (by simp) ?_;simp [hs]
    ·have hs':¬ (p.signs.length:Int)<=200:=by omega
     simp [hn,hs',hs]
   ·simp [hn]
  ·simp [h1,h2,h3,zT]
theorem A7 (p:Part) (hl:p.signs.length<=2 ^ 40):ai Tryz.prog 226 [.agg p.row] (.one (.c (vb (ar p)) 1)):=by
 refine pci ae Tryz.func226 (λw0 base=>?_);simp [Part.row];intros;by_cases h13:p.kind=1\/p.kind=3
 ·rw [uD h13]
  rcases h13 with h|h
  ·simp [h]
   refine aa.pure (bX p.n 0 200) (by simp) ?_;by_cases hn:0<=p.n/\p.n<=200
   ·simp [hn]
   ·have e:dc (0<=p.n/\p.n<=200)=false:=by rw [aN];exact hn
    simp [hn]
  ·simp [h]
   refine aa.pure (bX p.n 0 200) (by simp) ?_;by_cases hn:0<=p.n/\p.n<=200
   ·simp [hn]
   ·have e:dc (0<=p.n/\p.n<=200)=false:=by rw [aN];exact hn
    simp [hn]
 ·have h1:¬ p.kind=1:=λh=>h13 (.inl h)
  have h3:¬ p.kind=3:=λh=>h13 (.inr h)
  by_cases h2:p.kind=2
  ·rw [iF h2]
   simp [h2];by_cases hn:p.n=0
   ·simp [hn]
    refine aa.pure (ii p.signs hl) (by simp) ?_;have e:((p.signs.length:Int)<=200)=(p.signs.length<=200):=by simp;omega
    by_cases hg:cc p.signs
    ·simp [hg,e]
    ·simp [hg]
   ·simp [hn]
  ·simp [h1,h2,h3,zT]
def dE (o:List Part):Prop:=(∀ p∈o,ar p)/\o.length<=600
theorem lY (o:List Part) (hl:nL aq o<=2 ^ 40):ai Tryz.prog 188 [.c (.s (o.map Part.row))] (.one (.c (vb (dE o)) 1)):=by
 refine pci ae Tryz.func188 (λw0 base=>?_);have hle:=bf hl;simp;refine az.intro eok (λi:Nat=>i<=o.length/\∀ p∈o.take i,ar p) (λi=>⟨18,0,[(7,.v (.int .i64 i)),(6,.v (.int .i64 o.length)),(5,.ro (o.map Part.row)),(0,.ro (o.map Part.row))],[]⟩) (λi=>o.length - i) 0 (by simp) (by simp) (λi hi=>?_);by_cases h:i<o.length
 ·simp [h,Part.row]
  intros;refine aa.pure (BC o[i] (et hl h)) (by simp [Part.row]) ?_;simp;refine Br.mk (λh1=>?_) (λh1=>?_)
  ·simp
   exact ⟨i+1,⟨by omega,kM h hi.2 (q8 h1)⟩,by omega,aj (by omega)⟩
  ·simp [aN]
   exact λhp=>vU h (w5 h1) hp.1
 ·have ha:=lO (by omega) hi.2
  simp [h];refine lm ?_;unfold dE;exact ⟨λh=>by have:=h.2;omega,λh=>⟨ha,by omega⟩⟩
theorem lV (o:List Part) (hl:nL aq o<=2 ^ 40):ai Tryz.prog 147 [.c (.s (o.map Part.row))] (.one (.c (vb (dE o)) 1)):=by
 refine pci ae Tryz.func147 (λw0 base=>?_);have hle:=bf hl;simp;refine az.intro eok (λi:Nat=>i<=o.length/\∀ p∈o.take i,ar p) (λi=>⟨18,0,[(7,.v (.int .i64 i)),(6,.v (.int .i64 o.length)),(5,.ro (o.map Part.row)),(0,.ro (o.map Part.row))],[]⟩) (λi=>o.length - i) 0 (by simp) (by simp) (λi hi=>?_);by_cases h:i<o.length
 ·simp [h,Part.row]
  intros;refine aa.pure (A7 o[i] (et hl h)) (by simp [Part.row]) ?_;simp;refine Br.mk (λh1=>?_) (λh1=>?_)
  ·simp
   exact ⟨i+1,⟨by omega,kM h hi.2 (q8 h1)⟩,by omega,aj (by omega)⟩
  ·simp [aN]
   exact λhp=>vU h (w5 h1) hp.1
 ·have ha:=lO (by omega) hi.2
  simp [h];refine lm ?_;unfold dE;exact ⟨λh=>by have:=h.2;omega,λh=>⟨ha,by omega⟩⟩
def bN (f:Part->Int):List Part->Int
 | []=>0
 |p::o=>f p+bN f o
theorem el {f:Part->Int}:∀ (a b:List Part),bN f (a++b)=bN f a+bN f b
 | [],b=>by simp [bN]
 |p::a,b=>by simp only [List.cons_append,bN,el a b];omega
theorem dW {f:Part->Int} {o:List Part} {i:Nat} (h:i<o.length):bN f (o.take (i+1))=bN f (o.take i)+f o[i]:=by
 rw [<- List.take_append_getElem h,el];simp [bN]
theorem fR {f g:Part->Int}:∀ {o:List Part},(∀ p∈o,f p=g p)->bN f o=bN g o
 | [],_=>rfl
 | p :: o, h => by
   simp only [bN];rw [h p (List.mem_cons_self ..),fR (λq hq=>h q (List.mem_cons_of_mem _ hq))]
theorem kT {f g:Part->Int}:∀ (o:List Part),bN (λp=>f p+g p) o=bN f o+bN g o
 | []=>by simp [bN]
 |p::o=>by simp only [bN,kT o];omega
def fK (p:Part):Int:=if p.kind=1 then p.n else 0
def fP (p:Part):Int:=if p.kind=2 then p.signs.length else 0
def fD (p:Part):Int:=if p.kind=1 then 0 else if p.kind=2 then 0 else p.n
def nu (k:Int) (p:Part):Int:=if p.kind=k then 0 else p.n+p.signs.length
def fOf (k:Int) (p:Part):Int:=if p.kind=k then p.n+p.signs.length else 0
theorem ar.bounds {p:Part} (h:ar p):(p.kind=1\/p.kind=2\/p.kind=3)/\0<=p.n/\p.n<=200/\p.signs.length<=200/\(p.kind=2->p.n=0)/\(p.kind≠2->p.signs=[]):=by
 rcases h with ⟨h1,h2,h3⟩|⟨h1,h2,h3,h4⟩
 ·refine ⟨by omega,by omega,by omega,by simp [h3],by omega,λ_=>h3⟩
 ·refine ⟨by omega,by omega,by omega,h3,λ_=>h2,λh=>absurd h1 h⟩
theorem PI {p:Part} (h:ar p):nu 2 p=fK p+fD p:=by
 obtain ⟨h1,h2,h3,h4,h5,h6⟩:=h.bounds;unfold nu fK fD;by_cases k2:p.kind=2
 ·simp [k2]
 ·by_cases k1:p.kind=1<;>simp [k1,k2,h6 k2]
theorem PH {p:Part} (h:ar p):nu 3 p=fK p+fP p:=by
 obtain ⟨h1,h2,h3,h4,h5,h6⟩:=h.bounds;unfold nu fK fP;rcases h1 with k|k|k
 ·simp [k,h6 (by omega)]
 ·simp [k,h5 k]
 ·simp [k]
theorem of2 {p:Part} (h:ar p):fOf 2 p=fP p:=by
 obtain ⟨h1,h2,h3,h4,h5,h6⟩:=h.bounds;unfold fOf fP;by_cases k:p.kind=2
 ·simp [k,h5 k]
 ·simp [k]
theorem of3 {p:Part} (h:ar p):fOf 3 p=fD p:=by
 obtain ⟨h1,h2,h3,h4,h5,h6⟩:=h.bounds;unfold fOf fD;rcases h1 with k|k|k
 ·simp [k]
 ·simp [k]
 ·simp [k,h6 (by omega)]
theorem dZ {f:Part->Int} {B:Int} (hf:∀ p,ar p->0<=f p/\f p<=B):∀ {o:List Part},(∀ p∈o,ar p)->0<=bN f o/\bN f o<=B*o.length
 | [],_=>by simp [bN]
 | p :: o, h => by
   have h1:=hf p (h p (List.mem_cons_self ..));have h2:=dZ hf (o:=o) (λq hq=>h q (List.mem_cons_of_mem _ hq));simp only [bN,List.length_cons];rw [show B*((o.length+1:Nat):Int)=B*o.length+B by rw [Int.natCast_add];simp [Int.mul_add]];omega
theorem DO {p:Part} (h:ar p):0<=fK p/\fK p<=200:=by have:=h.bounds;unfold fK;split<;>omega
theorem Sq {p:Part} (h:ar p):0<=fP p/\fP p<=200:=by have:=h.bounds;unfold fP;split<;>omega
theorem DS {p:Part} (h:ar p):0<=fD p/\fD p<=200:=by have:=h.bounds;unfold fD;split<;>(try split)<;>omega
theorem PA {k:Int} {p:Part} (h:ar p):0<=nu k p/\nu k p<=400:=by have:=h.bounds;unfold nu;split<;>omega
theorem Sr {k:Int} {p:Part} (h:ar p):0<=fOf k p/\fOf k p<=400:=by have:=h.bounds;unfold fOf;split<;>omega
theorem ku {o:List Part} (h:∀ p∈o,ar p) (i:Nat):∀ p∈o.take i,ar p:=λp hp=>h p (List.mem_of_mem_take hp)
theorem JB (p:Part) (hp:ar p):ai Tryz.prog 270 [.agg p.row] (.one (.c (vi (p.n+p.signs.length)) 1)):=by
 refine pci ae Tryz.func270 (λw0 base=>?_);have:=hp.bounds;have e:Go.IntKind.i64.wrap (p.n+(p.signs.length:Int))=p.n+p.signs.length:=Go.IntWalk.i64_in _ (by omega);simp [Part.row,e]
open Classical in
noncomputable def sizeOf (o:List Part) (k:Int):Int:=if dE o then bN (nu k) o else 0
theorem sw (o:List Part) (hl:nL aq o<=2 ^ 40) (k:Int):ai Tryz.prog 275 [.c (.s (o.map Part.row)),.c (vi k)] (.one (.c (vi (sizeOf o k)) 1)):=by
 refine pci ae Tryz.func275 (λw0 base=>?_);have hle:=bf hl;simp;refine aa.pure (lY o hl) (by simp) ?_;by_cases ho:dE o
 ·have hr:sizeOf o k=bN (nu k) o:=by unfold sizeOf;rw [if_pos ho]
  simp [ho,hr];refine az.intro eok (λi:Nat=>i<=o.length) (λi=>⟨27,0,[(13,.v (.int .i64 i)),(12,.v (.int .i64 o.length)),(11,.ro (o.map Part.row)),(5,.v (.int .i64 (bN (nu k) (o.take i)))),(1,.v (.int .i64 k))],[]⟩) (λi=>o.length - i) 0 (by simp) (by simp [bN]) (λi hi=>?_);by_cases h:i<o.length
  ·have hp:=ho.1 _ (List.getElem_mem h)
   have hb:=dZ (f:=nu k) (λp h=>PA h) (ku ho.1 i);have hb2:=hp.bounds;have hlen:=ho.2;have hlt:(o.take i).length<=600:=by simp;omega
   have hs:=dW (f:=nu k) h;obtain ⟨q,hq⟩:∃ q,bN (nu k) (o.take i)=q:=⟨_,rfl⟩;have e:Go.IntKind.i64.wrap ((i:Int)+1)=((i+1:Nat):Int):=aj (by omega);rw [hq] at hs hb;simp [h,Part.row,hq];intros;by_cases hk:o[i].kind=k
   ·simp [hk]
    refine ⟨i+1,by omega,by omega,e,?_⟩;rw [hs];simp [nu,hk]
   ·simp [hk]
    refine aa.pure (JB o[i] hp) (by simp [Part.row]) ?_;have e2:Go.IntKind.i64.wrap (q+(o[i].n+(o[i].signs.length:Int)))=q+(o[i].n+o[i].signs.length):=Go.IntWalk.i64_in _ (by omega);simp [e2];refine ⟨i+1,by omega,by omega,e,?_⟩;rw [hs];simp [nu,hk]
  ·simp [h]
   rw [List.take_of_length_le (by omega)]
 ·have e:dc (dE o)=false:=by rw [aN];exact ho
  have hr:sizeOf o k=0:=by unfold sizeOf;rw [if_neg ho]
  simp [e,hr]
open Classical in
noncomputable def cu (o:List Part):Int×Int×Int:=if dE o then (bN fK o,bN fP o,bN fD o) else (0,0,0)
theorem sr (o:List Part) (hl:nL aq o<=2 ^ 40):ai Tryz.prog 239 [.c (.s (o.map Part.row))] (.tup [.c (vi (cu o).1) 1,.c (vi (cu o).2.1) 1,.c (vi (cu o).2.2) 1]):=by
 refine pci ae Tryz.func239 (λw0 base=>?_);have hle:=bf hl;simp;refine aa.pure (lV o hl) (by simp) ?_;by_cases ho:dE o
 ·have hr:cu o=(bN fK o,bN fP o,bN fD o):=by unfold cu;rw [if_pos ho]
  simp [ho,hr];refine az.intro eok (λi:Nat=>i<=o.length) (λi=>⟨42,0,[(15,.v (.int .i64 i)),(14,.v (.int .i64 o.length)),(13,.ro (o.map Part.row)),(5,.v (.int .i64 (bN fK (o.take i)))),(6,.v (.int .i64 (bN fP (o.take i)))),(7,.v (.int .i64 (bN fD (o.take i))))],[]⟩) (λi=>o.length - i) 0 (by simp) (by simp [bN]) (λi hi=>?_);by_cases h:i<o.length
  ·have hp:=ho.1 _ (List.getElem_mem h)
   have hb1:=dZ (f:=fK) (λp h=>DO h) (ku ho.1 i);have hb2:=dZ (f:=fP) (λp h=>Sq h) (ku ho.1 i);have hb3:=dZ (f:=fD) (λp h=>DS h) (ku ho.1 i);have hpb:=hp.bounds;have hlen:=ho.2;have hlt:(o.take i).length<=600:=by simp;omega
   have hs1:=dW (f:=fK) h;have hs2:=dW (f:=fP) h;have hs3:=dW (f:=fD) h;obtain ⟨q1,hq1⟩:∃ q,bN fK (o.take i)=q:=⟨_,rfl⟩;obtain ⟨q2,hq2⟩:∃ q,bN fP (o.take i)=q:=⟨_,rfl⟩;obtain ⟨q3,hq3⟩:∃ q,bN fD (o.take i)=q:=⟨_,rfl⟩;have e:Go.IntKind.i64.wrap ((i:Int)+1)=((i+1:Nat):Int):=aj (by omega);rw [hq1] at hs1 hb1;rw [hq2] at hs2 hb2;rw [hq3] at hs3 hb3;simp [h,Part.row,hq1,hq2,hq3];intros;have e1:Go.IntKind.i64.wrap (q1+o[i].n)=q1+o[i].n:=Go.IntWalk.i64_in _ (by omega);have e2:Go.IntKind.i64.wrap (q2+(o[i].signs.length:Int))=q2+o[i].signs.length:=Go.IntWalk.i64_in _ (by omega);have e3:Go.IntKind.i64.wrap (q3+o[i].n)=q3+o[i].n:=Go.IntWalk.i64_in _ (by omega);by_cases k1:o[i].kind=1
   ·simp [k1,e1]
    refine ⟨i+1,by omega,by omega,e,?_,?_,?_⟩
    ·rw [hs1];simp [fK,k1]
    ·rw [hs2];simp [fP,k1]
    ·rw [hs3];simp [fD,k1]
   ·by_cases k2:o[i].kind=2
    ·simp [k2,e2]
     refine ⟨i+1,by omega,by omega,e,?_,?_,?_⟩
     ·rw [hs1];simp [fK,k2]
     ·rw [hs2];simp [fP,k2]
     ·rw [hs3];simp [fD,k2]
    ·simp [k1,k2,e3]
     refine ⟨i+1,by omega,by omega,e,?_,?_,?_⟩
     ·rw [hs1];simp [fK,k1]
     ·rw [hs2];simp [fP,k2]
     ·rw [hs3];simp [fD,k1,k2]
  ·simp [h]
   rw [List.take_of_length_le (by omega)];simp
 ·have e:dc (dE o)=false:=by rw [aN];exact ho
  have hr:cu o=(0,0,0):=by unfold cu;rw [if_neg ho]
  simp [e,hr]
noncomputable def aO (o:List Part):Int:=(cu o).1+(cu o).2.2
noncomputable def fp (o:List Part):Int:=(cu o).1+(cu o).2.1
theorem C9 (o:List Part):sizeOf o 2=aO o:=by
 unfold sizeOf aO cu
 split
 ·rename_i h
  show _=bN fK o+bN fD o
  rw [<- kT];exact fR (λp hp=>PI (h.1 p hp))
 ·rfl
theorem Hj (o:List Part):sizeOf o 3=fp o:=by
 unfold sizeOf fp cu
 split
 ·rename_i h
  show _=bN fK o+bN fP o
  rw [<- kT];exact fR (λp hp=>PH (h.1 p hp))
 ·rfl
theorem Dq (o:List Part):(0<=(cu o).1/\(cu o).1<=120000)/\(0<=(cu o).2.1/\(cu o).2.1<=120000)/\0<=(cu o).2.2/\(cu o).2.2<=120000:=by
 unfold cu
 split
 ·rename_i h
  have h1:=dZ (f:=fK) (λp h=>DO h) h.1;have h2:=dZ (f:=fP) (λp h=>Sq h) h.1;have h3:=dZ (f:=fD) (λp h=>DS h) h.1;have h4:=h.2;simp only;omega
 ·simp
theorem eH (o:List Part) (hl:nL aq o<=2 ^ 40):ai Tryz.prog 217 [.c (.s (o.map Part.row))] (.one (.c (vi (aO o)) 1)):=by
 refine pci ae Tryz.func217 (λw0 base=>?_);simp;refine aa.pure (sw o hl 2) (by simp) ?_;simp [C9]
theorem nd (o:List Part) (hl:nL aq o<=2 ^ 40):ai Tryz.prog 204 [.c (.s (o.map Part.row))] (.one (.c (vi (fp o)) 1)):=by
 refine pci ae Tryz.func204 (λw0 base=>?_);simp;refine aa.pure (sw o hl 3) (by simp) ?_;simp [Hj]
theorem d9 (o:List Part) (hl:nL aq o<=2 ^ 40):ai Tryz.prog 225 [.c (.s (o.map Part.row))] (.one (.c (vi (aO o)) 1)):=by
 refine pci ae Tryz.func225 (λw0 base=>?_);simp;refine aa.pure (sr o hl) (by simp) ?_;have:=Dq o;have e:Go.IntKind.i64.wrap ((cu o).1+(cu o).2.2)=aO o:=Go.IntWalk.i64_in _ (by omega);simp [e]
theorem mT (o:List Part) (hl:nL aq o<=2 ^ 40):ai Tryz.prog 160 [.c (.s (o.map Part.row))] (.one (.c (vi (fp o)) 1)):=by
 refine pci ae Tryz.func160 (λw0 base=>?_);simp;refine aa.pure (sr o hl) (by simp) ?_;have:=Dq o;have e:Go.IntKind.i64.wrap ((cu o).1+(cu o).2.1)=fp o:=Go.IntWalk.i64_in _ (by omega);simp [e]
def aR (o:List Part):Prop:=dE o/\aO o<=200/\fp o<=200
theorem cF (o:List Part) (hl:nL aq o<=2 ^ 40):ai Tryz.prog 186 [.c (.s (o.map Part.row))] (.one (.c (vb (aR o)) 1)):=by
 refine pci ae Tryz.func186 (λw0 base=>?_);simp;refine aa.pure (lY o hl) (by simp) ?_;by_cases h:dE o
 ·simp [h]
  refine aa.pure (eH o hl) (by simp) ?_;by_cases h1:aO o<=200
  ·simp [h1]
   refine aa.pure (nd o hl) (by simp) ?_;simp [aR,h,h1]
  ·simp [h1,aR,h]
 ·simp [h,aR]
theorem cE (o:List Part) (hl:nL aq o<=2 ^ 40):ai Tryz.prog 144 [.c (.s (o.map Part.row))] (.one (.c (vb (aR o)) 1)):=by
 refine pci ae Tryz.func144 (λw0 base=>?_);simp;refine aa.pure (lV o hl) (by simp) ?_;by_cases h:dE o
 ·simp [h]
  refine aa.pure (d9 o hl) (by simp) ?_;by_cases h1:aO o<=200
  ·simp [h1]
   refine aa.pure (mT o hl) (by simp) ?_;simp [aR,h,h1]
  ·simp [h1,aR,h]
 ·simp [h,aR]
def aD (L:List Part) (P:List Int) (D:Int):List Part:=L++((if P=[] then [] else [⟨2,0,P⟩])++(if 0<D then [⟨3,D,[]⟩] else []))
def bO (L:List Part) (n:Int):List Part:=
 if h:0<L.length then
  if (L[L.length - 1]'(by omega)).kind=1 then L.set (L.length - 1) ⟨1,(L[L.length - 1]'(by omega)).n+n,(L[L.length - 1]'(by omega)).signs⟩ else L++[⟨1,n,[]⟩]
 else [⟨1,n,[]⟩]
def cM (s:List Part×List Int×Int) (p:Part):List Part×List Int×Int:=
 if p.kind=2 then (s.1,s.2.1++p.signs,s.2.2)
 else if p.kind=3 then (s.1,s.2.1,s.2.2+p.n)
 else if 0<p.n then (bO (aD s.1 s.2.1 s.2.2) p.n,[],0) else s
def aP (o:List Part):List Part×List Int×Int:=o.foldl cM ([],[],0)
def normal (o:List Part):List Part:=aD (aP o).1 (aP o).2.1 (aP o).2.2
theorem iP {o:List Part} {i:Nat} (h:i<o.length):aP (o.take (i+1))=cM (aP (o.take i)) o[i]:=by
 unfold aP;rw [<- List.take_append_getElem h,List.foldl_append];rfl
structure NbOk (m:Nat) (s:List Part×List Int×Int):Prop where
 l:s.1.length<=3*m
 p:s.2.1.length<=200*m
 d0:0<=s.2.2
 d:s.2.2<=200*m
 q:∀ q∈s.1,0<=q.n/\q.n<=200*m
theorem fQ (L:List Part) (P:List Int) (D:Int):(aD L P D).length<=L.length+2:=by
 unfold aD
 split<;>split<;>simp
theorem gg {L:List Part} {P:List Int} {D B:Int} (h0:0<=D) (hD:D<=B) (hL:∀ q∈L,0<=q.n/\q.n<=B):∀ q∈aD L P D,0<=q.n/\q.n<=B:=by
 intro q hq;unfold aD at hq;simp only [List.mem_append] at hq;rcases hq with hq|hq|hq
 ·exact hL q hq
 ·split at hq
  ·simp at hq
  ·simp at hq;subst hq;simp;omega
 ·split at hq
  ·simp at hq;subst hq;simp;omega
  ·simp at hq
theorem kY {o:List Part} (ho:∀ p∈o,ar p):∀ (i:Nat),i<=o.length->NbOk i (aP (o.take i))
 | 0, _ => by
   simp [aP];exact ⟨by simp,by simp,by simp,by simp,by simp⟩
 | i + 1, hi => by
   have ih:=kY ho i (by omega);have hlt:i<o.length:=by omega
   rw [iP hlt];have hp:=(ho _ (List.getElem_mem hlt)).bounds;generalize aP (o.take i)=s at ih;generalize o[i]=p at hp;obtain ⟨L,P,D⟩:=s;obtain ⟨h1,h2,h3,h4,h5⟩:=ih;simp only at h1 h2 h3 h4 h5;have w:∀ q∈L,0<=q.n/\q.n<=200*((i+1:Nat):Int):=λq hq=>by have:=h5 q hq;omega
   unfold cM
   split
   ·exact ⟨by simp;omega,by simp;omega,h3,by simp;omega,w⟩
   ·split
    ·exact ⟨by simp;omega,by simp;omega,by simp;omega,by simp;omega,w⟩
    ·split
     ·have f1:=fQ L P D
      have f2:=gg (P:=P) h3 h4 h5;refine ⟨?_,by simp,by simp,by simp;omega,?_⟩
      ·simp only [bO]
       split
       ·split<;>simp<;>omega
       ·simp;omega
      ·simp only [bO]
       intro q hq
       split at hq
       ·split at hq
        ·rcases List.mem_or_eq_of_mem_set hq with hq|rfl
         ·have:=f2 q hq;omega
         ·have:=f2 _ (List.getElem_mem (show (aD L P D).length - 1<(aD L P D).length by omega))
          simp only;omega
        ·rcases List.mem_append.1 hq with hq|hq
         ·have:=f2 q hq;omega
         ·simp at hq;subst hq;simp;omega
       ·simp at hq;subst hq;simp;omega
     ·exact ⟨by simp;omega,by simp;omega,h3,by simp;omega,w⟩
theorem ma {L:List Part} {P:List Int} {D:Int} (hP:¬ P=[]) (hD:0<D):aD L P D=L++[⟨2,0,P⟩]++[⟨3,D,[]⟩]:=by simp [aD,hP,hD]
theorem l9 {L:List Part} {P:List Int} {D:Int} (hP:¬ P=[]) (hD:¬ 0<D):aD L P D=L++[⟨2,0,P⟩]:=by simp [aD,hP,hD]
theorem l8 {L:List Part} {P:List Int} {D:Int} (hP:P=[]) (hD:0<D):aD L P D=L++[⟨3,D,[]⟩]:=by simp [aD,hP,hD]
theorem l7 {L:List Part} {P:List Int} {D:Int} (hP:P=[]) (hD:¬ 0<D):aD L P D=L:=by simp [aD,hP,hD]
theorem oT {w0:World} {bF bG:Nat->Prop} {bl:Bool} {st:ASt} {dst:Option Nat} {K:ASt->Prop} {L:List Part} {P:List Int} {D:Int} {b3 b4 b5:Nat} {Hl Hp:Hd} (hL:L.length<=2 ^ 20) (_hP:P.length<=2 ^ 40)
 (g48:st.h.get 48=.vars b3 49 [.sl 5000 Hl 3 0 L.length]) (g64:st.h.get 64=.vars b4 31 [.sl 5001 Hp 1 0 P.length]) (g80:st.h.get 80=.vars b5 3 [.v (.int .i64 D)])
 (g5000:st.h.get 5000=.rows Hl 3 (L.map Part.row) true) (g5001:st.h.get 5001=.rows Hp 1 (P.map al) true)
 (hK:∀ Hl' h',AH.get h' 48=.vars b3 49 [.sl 5000 Hl' 3 0 (aD L P D).length] -> AH.get h' 5000=.rows Hl' 3 ((aD L P D).map Part.row) true -> AH.get h' 64=.vars b4 31 [.nil] -> AH.get h' 80=.vars b5 3 [.v (.int .i64 0)] ->
  AH.get h' 128=st.h.get 128->bk ⟨st.n,st.kb,st.t,h'⟩ dst (.tup []) K):aa ⟨Tryz.prog,tt,w0,⟨bF,bG,bl,λ_=>True⟩⟩ 302 [.p 64 b4 0,.p 48 b3 0,.p 80 b5 0] st dst K:=by
 refine inl ae Tryz.func302 20000 (λw1 F=>?_);simp [g64];by_cases hp:P=[]
 ·have hp0:¬ 0<P.length:=by simp [hp]
  simp [hp0,g80];by_cases hd:0<D
  ·simp [hd,g48,g5000,g80,g64]
   intro b;refine ⟨by omega,λH=>hK H _ ?_ ?_ ?_ ?_ ?_⟩<;>simp [l8 hp hd,Part.row]
  ·simp [hd,g80,g64]
   refine hK Hl _ ?_ ?_ ?_ ?_ ?_<;>simp [l7 hp hd,g48,g5000]
 ·have hp0:0<P.length:=List.length_pos_iff.2 hp
  simp [hp0,g80,g48,g5000,g5001,g64];intro b;refine ⟨by omega,λH=>?_⟩;by_cases hd:0<D
  ·simp [hd,g80,g64]
   intro b2;refine ⟨by omega,λH2=>hK H2 _ ?_ ?_ ?_ ?_ ?_⟩<;>simp [ma hp hd,Part.row]
  ·simp [hd,g80,g64]
   refine hK H _ ?_ ?_ ?_ ?_ ?_<;>simp [l9 hp hd,Part.row]
theorem jD {F:List Part} {m:Nat} (h:m<F.length) {g:List CD->List CD} {p:Part} (hg:g F[m].row=p.row):(F.map Part.row).modify m g=(F.set m p).map Part.row:=by
 apply List.ext_getElem?
 intro j;rw [List.getElem?_modify];simp only [List.getElem?_map,List.getElem?_set];by_cases hj:m=j
 ·subst hj
  simp [h,hg]
 ·simp [hj]
theorem sd (o:List Part) (ho:∀ p∈o,ar p) (hl:o.length<=10000):ai Tryz.prog 272 [.c (.s (o.map Part.row))] (.one (.c (.s ((normal o).map Part.row)) 3)):=by
 refine pci ae Tryz.func272 (λw0 base=>?_);simp;intro b3 b4 b5
 refine ah eok (λx:Nat×Hd×Hd=>x.1<=o.length) (λx=>⟨73,0,[(13,.v (.int .i64 x.1)),(12,.v (.int .i64 o.length)),(11,.ro (o.map Part.row)),(3,.p 48 b3 0),(4,.p 64 b4 0),(5,.p 80 b5 0),(6,.clo 302 [.p 64 b4 0,.p 48 b3 0,.p 80 b5 0])],
  [(48, .vars b3 49 [.sl 5000 x.2.1 3 0 (aP (o.take x.1)).1.length]), (64, .vars b4 31 [.sl 5001 x.2.2 1 0 (aP (o.take x.1)).2.1.length]), (80, .vars b5 3 [.v (.int .i64 (aP (o.take x.1)).2.2)]),
   (5000,.rows x.2.1 3 ((aP (o.take x.1)).1.map Part.row) true),(5001,.rows x.2.2 1 ((aP (o.take x.1)).2.1.map al) true)]⟩) (λx=>o.length - x.1) (0,none,none) (by simp) (by simp [aP]) (λx hx=>Ent.refl ?_)
 obtain ⟨i,Hl,Hp⟩:=x;simp only at hx ⊢;have hok:=kY ho i hx;by_cases h:i<o.length
 ·have hs:=iP h
  have hpb:=(ho _ (List.getElem_mem h)).bounds;generalize aP (o.take i)=s at hok hs;obtain ⟨L,P,D⟩:=s;obtain ⟨k1,k2,k3,k4,k5⟩:=hok;simp only at k1 k2 k3 k4 k5;have e:Go.IntKind.i64.wrap ((i:Int)+1)=((i+1:Nat):Int):=aj (by omega);simp [h,Part.row];intro b8;by_cases c2:o[i].kind=2
  ·simp [c2]
   refine ⟨by omega,λH=>?_⟩;refine Ent.refl ⟨i+1,by omega,by omega,Hl,H,?_⟩;rw [hs];simp [cM,c2,e]
  ·by_cases c3:o[i].kind=3
   ·have e3:Go.IntKind.i64.wrap (D+o[i].n)=D+o[i].n:=Go.IntWalk.i64_in _ (by omega)
    simp [c3,e3];refine Ent.refl ⟨i+1,by omega,by omega,Hl,Hp,?_⟩;rw [hs];simp [cM,c3,e]
   ·by_cases cn:0<o[i].n
    ·simp [c2,c3,cn]
     refine oT (L:=L) (P:=P) (D:=D) (Hl:=Hl) (Hp:=Hp) (by omega) (by omega) (by simp) (by simp) (by simp) (by simp) (by simp) (λHl' h' g48 g5000 g64 g80 g128=>?_);have f1:=fQ L P D;have f2:=gg (P:=P) k3 k4 k5;have hstep:cM (L,P,D) o[i]=(bO (aD L P D) o[i].n,[],0):=by simp [cM,c2,c3,cn]
     rw [hstep] at hs;generalize aD L P D=F at f1 f2 g48 g5000 hs;simp at g128;by_cases hF:0<F.length
     ·obtain ⟨m,hm⟩:∃ m,F.length=m+1:=⟨F.length - 1,by omega⟩
      have hmlt:m<F.length:=by omega
      have em:Go.IntKind.i64.wrap (m:Int)=m:=ec (by omega)
      have hk:bO F o[i].n=if F[m].kind=1 then F.set m ⟨1,F[m].n+o[i].n,F[m].signs⟩ else F++[⟨1,o[i].n,[]⟩]:=by
       have e0:F.length - 1=m:=by omega
       simp [bO,hF,e0]
      have hq:=f2 _ (List.getElem_mem hmlt);simp [g48,g5000,hm,em,Part.row];by_cases ck:F[m].kind=1
      ·rw [if_pos ck] at hk
       have em2:Go.IntKind.i64.wrap (F[m].n+o[i].n)=F[m].n+o[i].n:=Go.IntWalk.i64_in _ (by omega);have hmm:(m:Int)<m+1:=by omega
       simp [ck,hmm];refine drw eok mix [0,1,2,3,4,5,6,7,8,9,10] [11] (.c 11 11 2045 2 (.l 11 2) .s) ?_;simp [g48,g5000,g128,hm,em,Part.row,ck,em2,hmm];refine Ent.kill 5001 (Ent.refl ⟨i+1,by omega,by omega,Hl',none,?_⟩);rw [hs,hk];have hmod:=jD (F:=F) (m:=m) hmlt (g:=λrow=>fW row 1 [CD.v (Value.int IntKind.i64 (F[m].n+o[i].n))]) (p:=⟨1,F[m].n+o[i].n,F[m].signs⟩) (by simp [Part.row,ck]);simp [e,g48,g64,g80,hm,hmod]
      ·rw [if_neg ck] at hk
       simp [ck,g48,g5000,g128,hm];refine ⟨by omega,λb=>⟨by omega,λH=>?_⟩⟩;refine Ent.kill 5001 (Ent.refl ⟨i+1,by omega,by omega,H,none,?_⟩);rw [hs,hk];simp [e,Part.row,g64,g80,hm]
     ·have hF0:F=[]:=List.eq_nil_of_length_eq_zero (by omega)
      subst hF0;have hk:bO [] o[i].n=[⟨1,o[i].n,[]⟩]:=by simp [bO]
      simp [g48,g5000,g128];intro b H;refine Ent.kill 5001 (Ent.refl ⟨i+1,by omega,by omega,H,none,?_⟩);rw [hs,hk];simp [e,Part.row,g64,g80]
    ·simp [c2,c3,cn]
     refine Ent.refl ⟨i+1,by omega,by omega,Hl,Hp,?_⟩;rw [hs];simp [cM,c2,c3,cn,e]
 ·have he:o.take i=o:=List.take_of_length_le (by omega)
  rw [he] at hok ⊢;have hn:normal o=aD (aP o).1 (aP o).2.1 (aP o).2.2:=rfl;rw [hn];generalize aP o=s at hok;obtain ⟨L,P,D⟩:=s;obtain ⟨k1,k2,k3,k4,k5⟩:=hok;simp only at k1 k2 k3 k4 k5;simp [h];refine oT (L:=L) (P:=P) (D:=D) (Hl:=Hl) (Hp:=Hp) (by omega) (by omega) (by simp) (by simp) (by simp) (by simp) (by simp) (λHl' h' g48 g5000 g64 g80 g128=>?_);simp [g48,g5000]
theorem ou {w0:World} {bF bG:Nat->Prop} {bl:Bool} {st:ASt} {dst:Option Nat} {K:ASt->Prop} {L:List Part} {P:List Int} {D:Int} {b:Nat} {Hl Hp:Hd} (hL:L.length<=2 ^ 20) (_hP:P.length<=2 ^ 40)
 (g160:st.h.get 160=.vars b 204 [.sl 5000 Hl 3 0 L.length,.sl 5001 Hp 1 0 P.length,.v (.int .i64 D)])
 (g5000:st.h.get 5000=.rows Hl 3 (L.map Part.row) true) (g5001:st.h.get 5001=.rows Hp 1 (P.map al) true)
 (hK:∀ Hl' h',AH.get h' 160=.vars b 204 [.sl 5000 Hl' 3 0 (aD L P D).length,.nil,.v (.int .i64 0)] -> AH.get h' 5000=.rows Hl' 3 ((aD L P D).map Part.row) true ->
  AH.get h' 80=st.h.get 80->bk ⟨st.n,st.kb,st.t,h'⟩ dst (.tup []) K):aa ⟨Tryz.prog,tt,w0,⟨bF,bG,bl,λ_=>True⟩⟩ 285 [.p 160 b 0] st dst K:=by
 refine inl ae Tryz.func285 20000 (λw1 F=>?_);simp [g160];by_cases hp:P=[]
 ·have hp0:¬ 0<P.length:=by simp [hp]
  simp [hp0,g160];by_cases hd:0<D
  ·simp [hd]
   refine drw eok mix [0,1,2,3,4,5,6,7,8,9,12,13] [10,11,14] (.c 12 10 4 4091 (.c 12 11 128 3963 (.c 12 14 3961 2 (.l 12 2) .s) .s) .s) ?_;simp [g160,g5000];intro b1;refine ⟨by omega,λH=>hK H _ ?_ ?_ ?_⟩<;>simp [l8 hp hd,Part.row]
  ·simp [hd,g160]
   refine hK Hl _ ?_ ?_ ?_<;>simp [l7 hp hd,g5000]
 ·have hp0:0<P.length:=List.length_pos_iff.2 hp
  simp [hp0];refine drw eok mix [0,1,2,3,4,5,6,7,8,9,12,13] [10,11,14] (.c 12 10 4 4091 (.c 12 11 128 3963 (.c 12 14 3961 2 (.l 12 2) .s) .s) .s) ?_;simp [g160,g5000,g5001];intro b1;refine ⟨by omega,λH=>?_⟩;by_cases hd:0<D
  ·simp [hd]
   refine drw eok mix [0,1,2,3,4,5,6,7,8,9,12,13] [10,11,14] (.c 12 10 4 4091 (.c 12 11 128 3963 (.c 12 14 3961 2 (.l 12 2) .s) .s) .s) ?_;simp;intro b2;refine ⟨by omega,λH2=>hK H2 _ ?_ ?_ ?_⟩<;>simp [ma hp hd,Part.row]
  ·simp [hd]
   refine hK H _ ?_ ?_ ?_<;>simp [l9 hp hd,Part.row]
theorem yH {w0:World} {bF bG:Nat->Prop} {bl:Bool} {st:ASt} {dst:Option Nat} {K:ASt->Prop} {L:List Part} {P:List Int} {D n:Int} {b:Nat} {Hl Hp:Hd} (hL:L.length<=2 ^ 19) (hP:P.length<=2 ^ 40) (hn0:0<n) (hn:n<=200) (hF:∀ q∈aD L P D,0<=q.n/\q.n<=2 ^ 40)
 (g160:st.h.get 160=.vars b 204 [.sl 5000 Hl 3 0 L.length,.sl 5001 Hp 1 0 P.length,.v (.int .i64 D)])
 (g5000:st.h.get 5000=.rows Hl 3 (L.map Part.row) true) (g5001:st.h.get 5001=.rows Hp 1 (P.map al) true)
 (hK:∀ Hl' h',AH.get h' 160=.vars b 204 [.sl 5000 Hl' 3 0 (bO (aD L P D) n).length,.nil,.v (.int .i64 0)] -> AH.get h' 5000=.rows Hl' 3 ((bO (aD L P D) n).map Part.row) true ->
  AH.get h' 80=st.h.get 80->bk ⟨st.n,st.kb,st.t,h'⟩ dst (.tup []) K):aa ⟨Tryz.prog,tt,w0,⟨bF,bG,bl,λ_=>True⟩⟩ 235 [.p 160 b 0,.v (.int .i64 n)] st dst K:=by
 refine inl ae Tryz.func235 30000 (λw1 F=>?_);have n0:¬ n=0:=by omega
 simp [n0];refine ou (L:=L) (P:=P) (D:=D) (Hl:=Hl) (Hp:=Hp) (by omega) hP (by simp [g160]) (by simp [g5000]) (by simp [g5001]) (λHl' h' k160 k5000 k80=>?_);have f1:=fQ L P D;generalize aD L P D=F at f1 hF k160 k5000 hK;by_cases hF0:0<F.length
 ·obtain ⟨m,hm⟩:∃ m,F.length=m+1:=⟨F.length - 1,by omega⟩
  have hmlt:m<F.length:=by omega
  have hmm:(m:Int)<m+1:=by omega
  have em:Go.IntKind.i64.wrap (m:Int)=m:=ec (by omega)
  have hk:bO F n=if F[m].kind=1 then F.set m ⟨1,F[m].n+n,F[m].signs⟩ else F++[⟨1,n,[]⟩]:=by
   have e0:F.length - 1=m:=by omega
   simp [bO,hF0,e0]
  have hq:=hF _ (List.getElem_mem hmlt);have em2:Go.IntKind.i64.wrap (F[m].n+n)=F[m].n+n:=Go.IntWalk.i64_in _ (by omega);simp [k160,k5000,hm,em,hmm,Part.row];by_cases ck:F[m].kind=1
  ·rw [if_pos ck] at hk
   simp [ck];refine drw eok mix [0,1,2,3,4,5,6,7,8,9,10,11,12,13,14,15,16,17,18] [19] (.c 19 19 524285 2 (.l 19 2) .s) ?_;simp [k160,k5000,hm,em,hmm,Part.row,ck,em2];have hmod:=jD (F:=F) (m:=m) hmlt (g:=λrow=>fW row 1 [CD.v (Value.int IntKind.i64 (F[m].n+n))]) (p:=⟨1,F[m].n+n,F[m].signs⟩) (by simp [Part.row,ck]);refine hK Hl' _ ?_ ?_ ?_
   ·simp [k160,hk,hm]
   ·simp [hk,hmod]
   ·simp [k80]
  ·rw [if_neg ck] at hk
   simp [ck,k160,k5000,hm];intro b1;refine ⟨by omega,λH=>hK H _ ?_ ?_ ?_⟩<;>simp [hk,hm,Part.row,k80]
 ·have hF1:F=[]:=List.eq_nil_of_length_eq_zero (by omega)
  subst hF1;have hk:bO [] n=[⟨1,n,[]⟩]:=by simp [bO]
  simp [k160,k5000];intro b1 H;refine hK H _ ?_ ?_ ?_<;>simp [hk,Part.row,k80]
open Classical in
noncomputable def bn (o:List Part):List Part:=if aR o then normal o else []
theorem gU (o:List Part) (hl:nL aq o<=2 ^ 40):ai Tryz.prog 255 [.c (.s (o.map Part.row))] (.one (.c (.s ((bn o).map Part.row)) 3)):=by
 refine pci ae Tryz.func255 (λw0 base=>?_);simp;refine aa.pure (cF o hl) (by simp) ?_;by_cases h:aR o
 ·have e:bn o=normal o:=by unfold bn;rw [if_pos h]
  simp [h,e];refine aa.pure (sd o h.1.1 (by have:=h.1.2;omega)) (by simp) ?_;simp
 ·have e:bn o=[]:=by unfold bn;rw [if_neg h]
  have e2:dc (aR o)=false:=by rw [aN];exact h
  simp [e,e2]
theorem kA (o:List Part) (hl:nL aq o<=2 ^ 40):ai Tryz.prog 246 [.c (.s (o.map Part.row))] (.one (.c (.s ((bn o).map Part.row)) 3)):=by
 refine pci ae Tryz.func246 (λw0 base=>?_);simp;refine aa.pure (cE o hl) (by simp) ?_;by_cases hopk:aR o
 rotate_left
 ·have e:bn o=[]:=by unfold bn;rw [if_neg hopk]
  have e2:dc (aR o)=false:=by rw [aN];exact hopk
  simp [e,e2]
 have e:bn o=normal o:=by unfold bn;rw [if_pos hopk]
 have ho:=hopk.1.1;have hlen:=hopk.1.2;simp [hopk,e];intro b
 refine ah eok (λx:Nat×Hd×Hd=>x.1<=o.length) (λx=>⟨38,0,[(13,.v (.int .i64 x.1)),(12,.v (.int .i64 o.length)),(11,.ro (o.map Part.row)),(3,.p 160 b 0)],
  [(160, .vars b 204 [.sl 5000 x.2.1 3 0 (aP (o.take x.1)).1.length, .sl 5001 x.2.2 1 0 (aP (o.take x.1)).2.1.length, .v (.int .i64 (aP (o.take x.1)).2.2)]),
   (5000,.rows x.2.1 3 ((aP (o.take x.1)).1.map Part.row) true),(5001,.rows x.2.2 1 ((aP (o.take x.1)).2.1.map al) true)]⟩) (λx=>o.length - x.1) (0,none,none) (by simp) (by simp [aP]) (λx hx=>Ent.refl ?_)
 obtain ⟨i,Hl,Hp⟩:=x;simp only at hx ⊢;have hok:=kY ho i hx;by_cases h:i<o.length
 ·have hs:=iP h
  have hpb:=(ho _ (List.getElem_mem h)).bounds;generalize aP (o.take i)=s at hok hs;obtain ⟨L,P,D⟩:=s;obtain ⟨k1,k2,k3,k4,k5⟩:=hok;simp only at k1 k2 k3 k4 k5;have e:Go.IntKind.i64.wrap ((i:Int)+1)=((i+1:Nat):Int):=aj (by omega);simp [h,Part.row];intro b5;by_cases c1:o[i].kind=1
  ·simp [c1]
   by_cases cn:0<o[i].n
   ·have hstep:cM (L,P,D) o[i]=(bO (aD L P D) o[i].n,[],0):=by simp [cM,c1,cn]
    rw [hstep] at hs;have f2:=gg (P:=P) k3 k4 k5;refine yH (L:=L) (P:=P) (D:=D) (Hl:=Hl) (Hp:=Hp) (by omega) (by omega) cn hpb.2.2.1 (λq hq=>by have:=f2 q hq;omega) (by simp) (by simp) (by simp) (λHl' h' k160 k5000 k80=>?_);simp;refine Ent.kill 5001 (Ent.refl ⟨i+1,by omega,by omega,Hl',none,?_⟩);rw [hs];simp [e,k160,k5000]
   ·have cn0:o[i].n=0:=by omega
    refine inl ae Tryz.func235 30000 (λw1 F=>?_);simp [cn0];refine Ent.refl ⟨i+1,by omega,by omega,Hl,Hp,?_⟩;rw [hs];simp [cM,c1,cn0,e]
  ·by_cases c2:o[i].kind=2
   ·simp [c2]
    refine inl ae Tryz.func232 30000 (λw1 F=>?_);simp;refine ⟨by omega,λH=>?_⟩;refine Ent.refl ⟨i+1,by omega,by omega,Hl,H,?_⟩;rw [hs];simp [cM,c2,e]
   ·have c3:o[i].kind=3:=by omega
    have e3:Go.IntKind.i64.wrap (D+o[i].n)=D+o[i].n:=Go.IntWalk.i64_in _ (by omega);simp [c1,c2];refine inl ae Tryz.func231 30000 (λw1 F=>?_);simp [e3];refine Ent.refl ⟨i+1,by omega,by omega,Hl,Hp,?_⟩;rw [hs];simp [cM,c3,e]
 ·have he:o.take i=o:=List.take_of_length_le (by omega)
  rw [he] at hok ⊢;have hn:normal o=aD (aP o).1 (aP o).2.1 (aP o).2.2:=rfl;rw [hn];generalize aP o=s at hok;obtain ⟨L,P,D⟩:=s;obtain ⟨k1,k2,k3,k4,k5⟩:=hok;simp only at k1 k2 k3 k4 k5;simp [h];refine inl ae Tryz.func236 30000 (λw1 F=>?_);simp;refine ou (L:=L) (P:=P) (D:=D) (Hl:=Hl) (Hp:=Hp) (by omega) (by omega) (by simp) (by simp) (by simp) (λHl' h' k160 k5000 k80=>?_);simp [k160,k5000]
theorem pC (a b:List Int) (hl:a.length<=2 ^ 40):ai Tryz.prog 182 [.c (.s (a.map al)),.c (.s (b.map al))] (.one (.c (vb (a=b)) 1)):=by
 refine pci ae Tryz.func182 (λw0 base=>?_);by_cases h:a.length=b.length
 ·simp [h]
  refine az.intro eok (λi:Nat=>i<=a.length/\a.take i=b.take i) (λi=>⟨26,0,[(13,.v (.int .i64 i)),(12,.v (.int .i64 b.length)),(1,.ro (b.map al)),(0,.ro (a.map al))],[]⟩) (λi=>a.length - i) 0 (by simp) (by simp) (λi hi=>?_);by_cases hlt:i<a.length
  ·have hlt':i<b.length:=by omega
   simp [hlt'];refine be.quiet eok mix (by kernel_rfl) ?_;simp [hlt,hlt'];refine Br.mk (λh1=>?_) (λh1=>?_)
   ·simp
    exact ⟨i+1,⟨by omega,pz hlt hlt' hi.2 (q8 h1)⟩,by omega,aj (by omega)⟩
   ·simp [aN]
    exact zZ hlt hlt' (w5 h1)
  ·have hlt':¬ i<b.length:=by omega
   simp [hlt',md];exact rF (by omega) (by omega) hi.2
 ·have hz:¬ (a.length:Int)=b.length:=by omega
  simp [hz,aN];exact λh2=>absurd (by rw [h2]) h
theorem oz (a b:List Int) (hl:a.length<=2 ^ 40):ai Tryz.prog 140 [.c (.s (a.map al)),.c (.s (b.map al))] (.one (.c (vb (a=b)) 1)):=by
 refine pci ae Tryz.func140 (λw0 base=>?_);by_cases h:a.length=b.length
 ·simp [h]
  refine az.intro eok (λi:Nat=>i<=a.length/\a.take i=b.take i) (λi=>⟨26,0,[(13,.v (.int .i64 i)),(12,.v (.int .i64 b.length)),(1,.ro (b.map al)),(0,.ro (a.map al))],[]⟩) (λi=>a.length - i) 0 (by simp) (by simp) (λi hi=>?_);by_cases hlt:i<a.length
  ·have hlt':i<b.length:=by omega
   simp [hlt'];refine be.quiet eok mix (by kernel_rfl) ?_;simp [hlt,hlt'];refine Br.mk (λh1=>?_) (λh1=>?_)
   ·simp
    exact ⟨i+1,⟨by omega,pz hlt hlt' hi.2 (q8 h1)⟩,by omega,aj (by omega)⟩
   ·simp [aN]
    exact zZ hlt hlt' (w5 h1)
  ·have hlt':¬ i<b.length:=by omega
   simp [hlt',md];exact rF (by omega) (by omega) hi.2
 ·have hz:¬ (a.length:Int)=b.length:=by omega
  simp [hz,aN];exact λh2=>absurd (by rw [h2]) h
theorem EI (p q:Part) (hl:p.signs.length<=2 ^ 40):ai Tryz.prog 296 [.agg p.row,.agg q.row] (.one (.c (vb (p=q)) 1)):=by
 refine pci ae Tryz.func296 (λw0 base=>?_);obtain ⟨k1,n1,s1⟩:=p;obtain ⟨k2,n2,s2⟩:=q;simp [Part.row];intro b1 b2;by_cases h1:k1=k2
 ·by_cases h2:n1=n2
  ·simp [h1,h2]
   refine aa.pure (pC s1 s2 hl) (by simp) ?_;simp
  ·simp [h1,h2]
 ·simp [h1]
theorem DZ (a b:List Part) (hl:a.length<=2 ^ 40) (hs:∀ p∈a,p.signs.length<=2 ^ 40):ai Tryz.prog 295 [.c (.s (a.map Part.row)),.c (.s (b.map Part.row)),.c (.v (.func (.func 296) #[] #[]))] (.one (.c (vb (a=b)) 1)):=by
 refine pci ae Tryz.func295 (λw0 base=>?_);by_cases h:a.length=b.length
 ·simp [h]
  refine az.intro eok (λi:Nat=>i<=a.length/\a.take i=b.take i) (λi=>⟨32,0,[(17,.v (.int .i64 i)),(16,.v (.int .i64 b.length)),(15,.ro (a.map Part.row)),(2,.v (.func (.func 296) #[] #[])),(1,.ro (b.map Part.row))],[]⟩) (λi=>a.length - i) 0 (by simp) (by simp) (λi hi=>?_);by_cases hlt:i<a.length
  ·have hlt':i<b.length:=by omega
   simp [hlt,hlt',Part.row];intro b1 b2;refine aa.pure (EI a[i] b[i] (hs _ (List.getElem_mem hlt))) (by simp [Part.row]) ?_;simp;refine Br.mk (λh1=>?_) (λh1=>?_)
   ·simp
    exact ⟨i+1,⟨by omega,pz hlt hlt' hi.2 (q8 h1)⟩,by omega,aj (by omega)⟩
   ·simp [aN]
    exact zZ hlt hlt' (w5 h1)
  ·have hlt':¬ i<b.length:=by omega
   simp [hlt',md];exact rF (by omega) (by omega) hi.2
 ·have hz:¬ (a.length:Int)=b.length:=by omega
  simp [hz,aN];exact λh2=>absurd (by rw [h2]) h
theorem JY (a b:List Part) (hl:a.length<=2 ^ 40) (hs:∀ p∈a,p.signs.length<=2 ^ 40):ai Tryz.prog 258 [.c (.s (a.map Part.row)),.c (.s (b.map Part.row))] (.one (.c (vb (a=b)) 1)):=by
 refine pci ae Tryz.func258 (λw0 base=>?_);simp;refine aa.pure (DZ a b hl hs) (by simp) ?_;simp
theorem A8 (a b:List Part) (hl:a.length<=2 ^ 40) (hs:∀ p∈a,p.signs.length<=2 ^ 40):ai Tryz.prog 282 [.c (.s (a.map Part.row)),.c (.s (b.map Part.row))] (.one (.c (vb (a=b)) 1)):=by
 refine pci ae Tryz.func282 (λw0 base=>?_);by_cases h:a.length=b.length
 ·simp [h]
  refine az.intro eok (λi:Nat=>i<=a.length/\a.take i=b.take i) (λi=>⟨49,0,[(14,.v (.int .i64 i)),(13,.v (.int .i64 b.length)),(12,.ro (a.map Part.row)),(1,.ro (b.map Part.row))],[]⟩) (λi=>a.length - i) 0 (by simp) (by simp) (λi hi=>?_);by_cases hlt:i<a.length
  ·have hlt':i<b.length:=by omega
   simp [hlt,hlt',Part.row];intro b1;refine be.quiet eok mix (by kernel_rfl) ?_;simp [hlt',Part.row];by_cases h1:a[i].kind=b[i].kind
   ·by_cases h2:a[i].n=b[i].n
    ·simp [h1,h2,hlt',Part.row]
     refine ⟨_,_,oz a[i].signs b[i].signs (hs _ (List.getElem_mem hlt)),by simp,?_⟩;simp;by_cases h3:a[i].signs=b[i].signs
     ·simp [h3]
      have he:a[i]=b[i]:=by
       cases hx:a[i];cases hy:b[i]
       rw [hx,hy] at h1 h2 h3;simp at h1 h2 h3;rw [h1,h2,h3]
      exact ⟨i+1,⟨by omega,pz hlt hlt' hi.2 he⟩,by omega,aj (by omega)⟩
     ·simp [h3,aN]
      exact zZ hlt hlt' (λhe=>h3 (by rw [he]))
    ·simp [h1,h2,hlt',Part.row,aN]
     exact zZ hlt hlt' (λhe=>h2 (by rw [he]))
   ·simp [h1,aN]
    exact zZ hlt hlt' (λhe=>h1 (by rw [he]))
  ·have hlt':¬ i<b.length:=by omega
   simp [hlt',md];exact rF (by omega) (by omega) hi.2
 ·have hz:¬ (a.length:Int)=b.length:=by omega
  simp [hz,aN];exact λh2=>absurd (by rw [h2]) h
theorem nf (a b:List Part) (h:nL aq a<=2 ^ 40):ai Tryz.prog 258 [.c (.s (a.map Part.row)),.c (.s (b.map Part.row))] (.one (.c (vb (a=b)) 1)):=JY a b (bf h) (λ_p hp=>dK h hp)
theorem qj (a b:List Part) (h:nL aq a<=2 ^ 40):ai Tryz.prog 282 [.c (.s (a.map Part.row)),.c (.s (b.map Part.row))] (.one (.c (vb (a=b)) 1)):=A8 a b (bf h) (λ_p hp=>dK h hp)
theorem gC {α:Type} {f:α->Nat}:∀ (a b:List α),cJ f (a++b)=cJ f a+cJ f b
 | [],b=>by simp [cJ]
 |x::a,b=>by simp only [List.cons_append,cJ,gC a b];omega
theorem CE {α:Type} {f:α->Nat}:∀ (l:List α) (i:Nat) (h:i<l.length) (x:α),f x=f l[i]->cJ f (l.set i x)=cJ f l
 |a::l,0,_,x,hx=>by simp at hx;simp [cJ,hx]
 | a :: l, i + 1, h, x, hx => by
   simp only [List.set_cons_succ,cJ];rw [CE l i (by simpa using h) x (by simpa using hx)]
theorem uI {L:List Part} {P:List Int} {D:Int}:cJ aq (aD L P D)=cJ aq L+P.length:=by
 unfold aD;rw [gC,gC];by_cases hp:P=[]<;>by_cases hd:0<D<;>simp [hp,hd,cJ,aq]
theorem EY {L:List Part} {n:Int}:cJ aq (bO L n)=cJ aq L:=by
 unfold bO
 split
 ·rename_i h
  split
  ·exact CE L _ (by omega) _ rfl
  ·rw [gC];simp [cJ,aq]
 ·rename_i h
  have:L=[]:=List.eq_nil_of_length_eq_zero (by omega);subst this;simp [cJ,aq]
theorem z1 {o:List Part}:∀ (i:Nat),i<=o.length->cJ aq (aP (o.take i)).1+(aP (o.take i)).2.1.length<=cJ aq (o.take i)
 |0,_=>by simp [aP,cJ]
 | i + 1, hi => by
   have ih:=z1 (o:=o) i (by omega);have hlt:i<o.length:=by omega
   rw [iP hlt,<- List.take_append_getElem hlt,gC];generalize aP (o.take i)=s at ih;generalize o[i]=p;obtain ⟨L,P,D⟩:=s;simp only at ih;have hp:cJ aq [p]=p.signs.length:=by simp [cJ,aq]
   rw [hp];unfold cM
   split
   ·simp;omega
   ·split
    ·simp;omega
    ·split
     ·simp only [EY,uI];simp;omega
     ·simp;omega
theorem EV (o:List Part):cJ aq (normal o)<=cJ aq o:=by
 have h:=z1 (o:=o) o.length (by omega);rw [List.take_length] at h;unfold normal;rw [uI];exact h
theorem EW {o:List Part} (ho:∀ p∈o,ar p):(normal o).length<=3*o.length+2:=by
 have h:=(kY ho o.length (by omega)).l;rw [List.take_length] at h;have:=fQ (aP o).1 (aP o).2.1 (aP o).2.2;unfold normal;omega
theorem wi {o:List Part} (ho:∀ p∈o,ar p):cJ aq o<=200*o.length:=by
 induction o with
 |nil=>simp [cJ]
 | cons p o ih =>
   have h1:=(ho p (List.mem_cons_self ..)).bounds;have h2:=ih (λq hq=>ho q (List.mem_cons_of_mem _ hq));simp only [cJ,aq,List.length_cons];omega
theorem jf {o:List Part} (ho:∀ p∈o,ar p):nL aq o<=201*o.length:=by
 have:=wi ho;unfold nL;omega
theorem jC {o:List Part} (ho:∀ p∈o,ar p):nL aq (normal o)<=203*o.length+2:=by
 have h1:=EV o;have h2:=EW ho;have h3:=wi ho;unfold nL;omega
theorem sa (o:List Part):nL aq (bn o)<=2 ^ 20:=by
 unfold bn
 split
 ·rename_i h
  have:=jC h.1.1;have:=h.1.2;omega
 ·simp [nL,cJ]
def aZ (o:List Part):Prop:=aR o/\bn o=o
theorem ni (o:List Part) (hl:nL aq o<=2 ^ 40):ai Tryz.prog 216 [.c (.s (o.map Part.row))] (.one (.c (vb (aZ o)) 1)):=by
 refine pci ae Tryz.func216 (λw0 base=>?_);simp;refine aa.pure (cF o hl) (by simp) ?_;by_cases h:aR o
 ·simp [h]
  refine aa.pure (gU o hl) (by simp) ?_;simp;intro H;refine aa.pure (nf o (bn o) hl) (by simp) ?_;simp [aZ,h];exact lm ⟨λh=>h.symm,λh=>h.symm⟩
 ·simp [h,aZ]
theorem kB (o:List Part) (hl:nL aq o<=2 ^ 40):ai Tryz.prog 224 [.c (.s (o.map Part.row))] (.one (.c (vb (aZ o)) 1)):=by
 refine pci ae Tryz.func224 (λw0 base=>?_);simp;refine aa.pure (cE o hl) (by simp) ?_;by_cases h:aR o
 ·simp [h]
  refine aa.pure (kA o hl) (by simp) ?_;simp;intro H;refine aa.pure (qj (bn o) o (Nat.le_trans (sa o) (by decide))) (by simp) ?_;simp [aZ,h]
 ·simp [h,aZ]
open Classical in
noncomputable def wS (o:List Part):Int:=if aR o then bN fP o else 0
open Classical in
noncomputable def sU (o:List Part):Int:=if aR o then bN fD o else 0
open Classical in
noncomputable def fU (o:List Part) (k:Int):Int:=if aR o then bN (fOf k) o else 0
theorem G7 (o:List Part):fU o 2=wS o:=by
 unfold fU wS
 split
 ·rename_i h;exact fR (λp hp=>of2 (h.1.1 p hp))
 ·rfl
theorem Fw (o:List Part):fU o 3=sU o:=by
 unfold fU sU
 split
 ·rename_i h;exact fR (λp hp=>of3 (h.1.1 p hp))
 ·rfl
theorem mv (o:List Part) (hl:nL aq o<=2 ^ 40) (k:Int):ai Tryz.prog 303 [.c (.s (o.map Part.row)),.c (vi k)] (.one (.c (vi (fU o k)) 1)):=by
 refine pci ae Tryz.func303 (λw0 base=>?_);have hle:=bf hl;simp;refine aa.pure (cF o hl) (by simp) ?_;by_cases hok:aR o
 ·have ho:=hok.1
  have hr:fU o k=bN (fOf k) o:=by unfold fU;rw [if_pos hok]
  simp [hok,hr];refine az.intro eok (λi:Nat=>i<=o.length) (λi=>⟨27,0,[(13,.v (.int .i64 i)),(12,.v (.int .i64 o.length)),(11,.ro (o.map Part.row)),(5,.v (.int .i64 (bN (fOf k) (o.take i)))),(1,.v (.int .i64 k))],[]⟩) (λi=>o.length - i) 0 (by simp) (by simp [bN]) (λi hi=>?_);by_cases h:i<o.length
  ·have hp:=ho.1 _ (List.getElem_mem h)
   have hb:=dZ (f:=fOf k) (λp h=>Sr h) (ku ho.1 i);have hb2:=hp.bounds;have hlen:=ho.2;have hlt:(o.take i).length<=600:=by simp;omega
   have hs:=dW (f:=fOf k) h;obtain ⟨q,hq⟩:∃ q,bN (fOf k) (o.take i)=q:=⟨_,rfl⟩;have e:Go.IntKind.i64.wrap ((i:Int)+1)=((i+1:Nat):Int):=aj (by omega);rw [hq] at hs hb;simp [h,Part.row,hq];intros;by_cases hk:o[i].kind=k
   ·simp [hk]
    refine aa.pure (JB o[i] hp) (by simp [Part.row,hk]) ?_;have e2:Go.IntKind.i64.wrap (q+(o[i].n+(o[i].signs.length:Int)))=q+(o[i].n+o[i].signs.length):=Go.IntWalk.i64_in _ (by omega);simp [e2];refine ⟨i+1,by omega,by omega,e,?_⟩;rw [hs];simp [fOf,hk]
   ·simp [hk]
    refine ⟨i+1,by omega,by omega,e,?_⟩;rw [hs];simp [fOf,hk]
  ·simp [h]
   rw [List.take_of_length_le (by omega)]
 ·have e:dc (aR o)=false:=by rw [aN];exact hok
  have hr:fU o k=0:=by unfold fU;rw [if_neg hok]
  simp [e,hr]
theorem Fg (o:List Part) (hl:nL aq o<=2 ^ 40):ai Tryz.prog 273 [.c (.s (o.map Part.row))] (.one (.c (vi (wS o)) 1)):=by
 refine pci ae Tryz.func273 (λw0 base=>?_);simp;refine aa.pure (mv o hl 2) (by simp) ?_;simp [G7]
theorem Dz (o:List Part) (hl:nL aq o<=2 ^ 40):ai Tryz.prog 274 [.c (.s (o.map Part.row))] (.one (.c (vi (sU o)) 1)):=by
 refine pci ae Tryz.func274 (λw0 base=>?_);simp;refine aa.pure (mv o hl 3) (by simp) ?_;simp [Fw]
theorem EE (o:List Part) (hl:nL aq o<=2 ^ 40):ai Tryz.prog 237 [.c (.s (o.map Part.row))] (.one (.c (vi (wS o)) 1)):=by
 refine pci ae Tryz.func237 (λw0 base=>?_);simp;refine aa.pure (cE o hl) (by simp) ?_;by_cases h:aR o
 ·simp [h]
  refine aa.pure (sr o hl) (by simp) ?_;simp [wS,h,cu,h.1]
 ·have e:dc (aR o)=false:=by rw [aN];exact h
  simp [wS,h]
theorem CJ (o:List Part) (hl:nL aq o<=2 ^ 40):ai Tryz.prog 238 [.c (.s (o.map Part.row))] (.one (.c (vi (sU o)) 1)):=by
 refine pci ae Tryz.func238 (λw0 base=>?_);simp;refine aa.pure (cE o hl) (by simp) ?_;by_cases h:aR o
 ·simp [h]
  refine aa.pure (sr o hl) (by simp) ?_;simp [sU,h,cu,h.1]
 ·have e:dc (aR o)=false:=by rw [aN];exact h
  simp [sU,h]
def ld (o:List Part):Prop:=aR o/\wS o=0/\sU o=0
theorem rj (o:List Part) (hl:nL aq o<=2 ^ 40):ai Tryz.prog 203 [.c (.s (o.map Part.row))] (.one (.c (vb (ld o)) 1)):=by
 refine pci ae Tryz.func203 (λw0 base=>?_);simp;refine aa.pure (cF o hl) (by simp) ?_;by_cases h:aR o
 ·simp [h]
  refine aa.pure (Fg o hl) (by simp) ?_;by_cases h1:wS o=0
  ·simp [h1]
   refine aa.pure (Dz o hl) (by simp) ?_;simp [ld,h,h1]
  ·simp [h1,ld]
 ·simp [h,ld]
theorem qW (o:List Part) (hl:nL aq o<=2 ^ 40):ai Tryz.prog 158 [.c (.s (o.map Part.row))] (.one (.c (vb (ld o)) 1)):=by
 refine pci ae Tryz.func158 (λw0 base=>?_);simp;refine aa.pure (cE o hl) (by simp) ?_;by_cases h:aR o
 ·simp [h]
  refine aa.pure (EE o hl) (by simp) ?_;by_cases h1:wS o=0
  ·simp [h1]
   refine aa.pure (CJ o hl) (by simp) ?_;simp [ld,h,h1]
  ·simp [h1,ld]
 ·simp [h,ld]
def cD (t:List Int):Prop:=t.length<=200/\cc t
theorem gS (t:List Int) (hl:t.length<=2 ^ 40):ai Tryz.prog 189 [.c (.s (t.map al))] (.one (.c (vb (cD t)) 1)):=by
 refine pci ae Tryz.func189 (λw0 base=>?_);by_cases h:t.length<=200
 ·have h':(t.length:Int)<=200:=by omega
  simp [h'];refine aa.pure (gi t hl) (by simp) ?_;simp [cD,h]
 ·have h':¬ (t.length:Int)<=200:=by omega
  simp [h',cD,h]
theorem gN (t:List Int) (hl:t.length<=2 ^ 40):ai Tryz.prog 148 [.c (.s (t.map al))] (.one (.c (vb (cD t)) 1)):=by
 refine pci ae Tryz.func148 (λw0 base=>?_);simp;refine aa.pure (ii t hl) (by simp) ?_;have e:((t.length:Int)<=200)=(t.length<=200):=by simp;omega
 by_cases hg:cc t
 ·simp [hg,cD,e]
 ·simp [hg,cD]
open Classical in
noncomputable def bM (n:Int):List Part:=if 1<=n/\n<=200 then [⟨1,n,[]⟩] else []
theorem io (n:Int):ai Tryz.prog 176 [.c (vi n)] (.one (.c (.s ((bM n).map Part.row)) 3)):=by
 refine pci ae Tryz.func176 (λw0 base=>?_);simp;refine aa.pure (aT n 1 200) (by simp) ?_;by_cases h:1<=n/\n<=200
 ·simp [h,bM,Part.row]
 ·have e:dc (1<=n/\n<=200)=false:=by rw [aN];exact h
  have k:bM n=[]:=by unfold bM;rw [if_neg h]
  simp [e,k]
theorem ij (n:Int):ai Tryz.prog 133 [.c (vi n)] (.one (.c (.s ((bM n).map Part.row)) 3)):=by
 refine pci ae Tryz.func133 (λw0 base=>?_);simp;refine aa.pure (bX n 1 200) (by simp) ?_;by_cases h:1<=n/\n<=200
 ·simp [h,bM,Part.row]
 ·have e:dc (1<=n/\n<=200)=false:=by rw [aN];exact h
  have k:bM n=[]:=by unfold bM;rw [if_neg h]
  simp [e,k]
def psz (p:Part):Nat:=p.n.toNat+p.signs.length
def dI (p:Part) (n:Nat):Part:=if p.kind=2 then ⟨p.kind,p.n,p.signs.take n⟩ else ⟨p.kind,n,p.signs⟩
def aV (p:Part) (n:Nat):Part:=if p.kind=2 then ⟨p.kind,p.n,p.signs.drop n⟩ else ⟨p.kind,p.n - n,p.signs⟩
theorem fC {p:Part} (h:ar p):(psz p:Int)=p.n+p.signs.length/\psz p<=200:=by
 have hb:=h.bounds;unfold psz;by_cases hk:p.kind=2
 ·have:=hb.2.2.2.2.1 hk
  omega
 ·have:=hb.2.2.2.2.2 hk
  rw [this];simp;omega
@[simp] theorem QK {p:Part} {n:Nat}:(dI p n).kind=p.kind:=by unfold dI;split<;>rfl
@[simp] theorem OP {p:Part} {n:Nat}:(aV p n).kind=p.kind:=by unfold aV;split<;>rfl
theorem je {p:Part} (h:ar p) {n:Nat} (hn:n<=psz p):ar (dI p n):=by
 have hp:=fC h;unfold dI;by_cases hk:p.kind=2
 ·rw [if_pos hk]
  rw [iF hk] at h;refine .inr ⟨hk,h.1,?_,λm hm=>h.2.2 m (List.mem_of_mem_take hm)⟩;simp;omega
 ·rw [if_neg hk]
  have hb:=h.bounds;have hk2:p.kind=1\/p.kind=3:=by omega
  have:=hb.2.2.2.2.2 hk;refine .inl ⟨hk2,?_,this⟩;simp only;omega
theorem C6 {p:Part} (h:ar p) {n:Nat} (hn:n<=psz p):ar (aV p n):=by
 have hp:=fC h;unfold aV;by_cases hk:p.kind=2
 ·rw [if_pos hk]
  rw [iF hk] at h;refine .inr ⟨hk,h.1,?_,λm hm=>h.2.2 m (List.mem_of_mem_drop hm)⟩;simp;omega
 ·rw [if_neg hk]
  have hb:=h.bounds;have hk2:p.kind=1\/p.kind=3:=by omega
  have:=hb.2.2.2.2.2 hk;refine .inl ⟨hk2,?_,this⟩;rw [this] at hp;simp at hp;simp only;omega
theorem fH {p:Part} (h:ar p) {n:Nat} (hn:n<=psz p):psz (aV p n)=psz p - n:=by
 have hb:=h.bounds;unfold psz aV at *;by_cases hk:p.kind=2
 ·rw [if_pos hk]
  have:=hb.2.2.2.2.1 hk;simp only [this,List.length_drop] at hn ⊢;omega
 ·rw [if_neg hk]
  have:=hb.2.2.2.2.2 hk;simp only [this,List.length_nil] at hn ⊢;omega
theorem cV {p:Part} (h:ar p):dI p (psz p)=p:=by
 have hb:=h.bounds;unfold psz dI;by_cases hk:p.kind=2
 ·rw [if_pos hk]
  have:=hb.2.2.2.2.1 hk;rw [List.take_of_length_le (by omega)]
 ·rw [if_neg hk]
  have:=hb.2.2.2.2.2 hk;obtain ⟨k,n,s⟩:=p;simp only at this hb;subst this;simp;omega
theorem C5 {p:Part} {m n:Nat}:aV (aV p m) n=aV p (m+n):=by
 unfold aV;by_cases hk:p.kind=2
 ·simp [hk,List.drop_drop]
 ·simp [hk]
  omega
theorem EN {p:Part}:aV p 0=p:=by unfold aV;split<;>simp
def nxt:List Part->List Part
 | []=>[]
 |p::l=>if psz p=0 then nxt l else p::l
def tsz:List Part->Nat
 | []=>0
 |p::l=>psz p+tsz l
def frs:List Part->Nat
 | []=>0
 |p::l=>(if p.kind=2 then 0 else psz p)+frs l
def tos:List Part->Nat
 | []=>0
 |p::l=>(if p.kind=3 then 0 else psz p)+tos l
theorem sb:∀ l:List Part,tsz (nxt l)=tsz l
 | []=>rfl
 | p :: l => by
   unfold nxt
   split
   ·rename_i h;rw [sb l];simp [tsz,h]
   ·rfl
theorem iu:∀ l:List Part,frs (nxt l)=frs l
 | []=>rfl
 | p :: l => by
   unfold nxt
   split
   ·rename_i h;rw [iu l];simp [frs,h]
   ·rfl
theorem vM:∀ l:List Part,tos (nxt l)=tos l
 | []=>rfl
 | p :: l => by
   unfold nxt
   split
   ·rename_i h;rw [vM l];simp [tos,h]
   ·rfl
theorem dn:∀ {l:List Part} {p:Part} {l':List Part},nxt l=p::l'->0<psz p
 | [],p,l',h=>by simp [nxt] at h
 | q :: l, p, l', h => by
   unfold nxt at h
   split at h
   ·exact dn h
   ·simp at h;rw [<- h.1];omega
theorem cw:∀ l:List Part,nxt (nxt l)=nxt l
 | []=>rfl
 | p :: l => by
   by_cases h:psz p=0
   ·simp only [nxt,h,if_true];exact cw l
   ·simp only [nxt,h,if_false]
theorem q9:∀ l:List Part,∃ k,k<=l.length/\nxt l=l.drop k/\∀ i,(h:i<l.length)->i<k->psz l[i]=0
 | []=>⟨0,by simp,rfl,λi h=>by simp at h⟩
 | p :: l => by
   by_cases h:psz p=0
   ·obtain ⟨k,h1,h2,h3⟩:=q9 l
    refine ⟨k+1,by simp;omega,by simp [nxt,h,h2],λi hi hk=>?_⟩
    cases i with
    |zero=>simpa using h
    |succ i=>simpa using h3 i (by simpa using hi) (by omega)
   ·exact ⟨0,by simp,by simp [nxt,h],λi _ hk=>by omega⟩
theorem it {l:List Part} {p:Part} (h:p∈nxt l):p∈l:=by
 obtain ⟨k,_,h2,_⟩:=q9 l;rw [h2] at h;exact List.mem_of_mem_drop h
theorem vN (l:List Part):(nxt l).length<=l.length:=by
 obtain ⟨k,_,h2,_⟩:=q9 l;rw [h2];simp
def fM (x y:List Part):Option (List Part×List Part×List Part):=
 match nxt x with
 | p :: x' => if p.kind = 3 then some ([dI p (psz p)], aV p (psz p) :: x', y) else match nxt y with
   | q :: y' => if q.kind = 2 then some ([dI q (psz q)], p :: x', aV q (psz q) :: y') else
       some (if q.kind=1 then [dI p (min (psz p) (psz q))] else if p.kind=1 then [dI q (min (psz p) (psz q))] else [],aV p (min (psz p) (psz q))::x',aV q (min (psz p) (psz q))::y')
   | []=>none
 | [] => match nxt y with
   |q::y'=>if q.kind=2 then some ([dI q (psz q)],[],aV q (psz q)::y') else none
   | []=>none
structure CInv (x y:List Part):Prop where
 px:∀ p∈x,ar p
 py:∀ p∈y,ar p
 b:tos x=frs y
theorem gh {l l':List Part} {p:Part} {n:Nat} (hl:∀ q∈l,ar q) (he:nxt l=p::l') (hn:n<=psz p):∀ q∈aV p n::l',ar q:=by
 intro q hq;rcases List.mem_cons.1 hq with rfl|hq
 ·exact C6 (hl p (it (he ▸ List.mem_cons_self ..))) hn
 ·exact hl q (it (he ▸ List.mem_cons_of_mem _ hq))
theorem eb {l l':List Part} {p:Part} (hl:∀ q∈l,ar q) (he:nxt l=p::l'):ar p/\∀ q∈p::l',ar q:=
 ⟨hl p (it (he ▸ List.mem_cons_self ..)),λq hq=>hl q (it (he ▸ hq))⟩
structure CNext (x y:List Part) (r:List Part×List Part×List Part):Prop where
 inv:CInv r.2.1 r.2.2
 dec:tsz r.2.1+tsz r.2.2<tsz x+tsz y
 ok:∀ p∈r.1,ar p
 len:r.1.length<=1
theorem gb {x y:List Part} (hi:CInv x y) {r:List Part×List Part×List Part} (h:fM x y=some r):CNext x y r:=by
 have hx:=sb x;have hy:=sb y;have hxt:=vM x;have hyf:=iu y;have hb:=hi.b;unfold fM at h
 cases ex:nxt x with
 | nil =>
   rw [ex] at h hx hxt
   cases ey:nxt y with
   |nil=>simp [ey] at h
   | cons q y' =>
     rw [ey] at hy hyf;have hq:=eb hi.py ey;have hp:=dn ey;simp only [ey] at h
     split at h
     ·rename_i k
      cases h
      have hs:=fH hq.1 (Nat.le_refl _);refine ⟨⟨by simp,gh hi.py ey (Nat.le_refl _),?_⟩,?_,?_,by simp⟩
      ·simp [tos,frs,k] at hxt hyf ⊢;omega
      ·simp [tsz] at hx hy ⊢;omega
      ·intro p hp;simp at hp;subst hp;exact je hq.1 (Nat.le_refl _)
     ·cases h
 | cons p x' =>
   rw [ex] at h hx hxt;have hp:=eb hi.px ex;have hpp:=dn ex;simp only at h
   split at h
   ·rename_i k
    cases h
    have hs:=fH hp.1 (Nat.le_refl _);refine ⟨⟨gh hi.px ex (Nat.le_refl _),hi.py,?_⟩,?_,?_,by simp⟩
    ·simp [tos,k] at hxt ⊢;omega
    ·simp [tsz] at hx ⊢;omega
    ·intro q hq;simp at hq;subst hq;exact je hp.1 (Nat.le_refl _)
   ·rename_i k3
    cases ey:nxt y with
    |nil=>simp [ey] at h
    | cons q y' =>
      rw [ey] at hy hyf;have hq:=eb hi.py ey;have hqp:=dn ey;simp only [ey] at h
      split at h
      ·rename_i k
       cases h
       have hs:=fH hq.1 (Nat.le_refl _);refine ⟨⟨hp.2,gh hi.py ey (Nat.le_refl _),?_⟩,?_,?_,by simp⟩
       ·simp [tos,frs,k,k3] at hxt hyf ⊢;omega
       ·simp [tsz] at hx hy ⊢;omega
       ·intro p hp;simp at hp;subst hp;exact je hq.1 (Nat.le_refl _)
      ·rename_i k2
       cases h
       have hn1:min (psz p) (psz q)<=psz p:=by omega
       have hn2:min (psz p) (psz q)<=psz q:=by omega
       have hs1:=fH hp.1 hn1;have hs2:=fH hq.1 hn2;refine ⟨⟨gh hi.px ex hn1,gh hi.py ey hn2,?_⟩,?_,?_,?_⟩
       ·simp [tos,frs,k2,k3] at hxt hyf ⊢;omega
       ·simp [tsz] at hx hy ⊢;omega
       ·intro r hr
        simp only at hr
        split at hr
        ·simp at hr;subst hr;exact je hp.1 hn1
        ·split at hr
         ·simp at hr;subst hr;exact je hq.1 hn2
         ·simp at hr
       ·simp only;split<;>(try split)<;>simp
noncomputable def vA:Nat->List Part->List Part->List Part
 |0,_,_=>[]
 | k + 1, x, y => match fM x y with
   |none=>[]
   |some r=>r.1++vA k r.2.1 r.2.2
noncomputable def cmp (x y:List Part):List Part:=vA (tsz x+tsz y) x y
theorem GC:∀ (k m:Nat) {x y:List Part},CInv x y->tsz x+tsz y<=k->tsz x+tsz y<=m->vA k x y=vA m x y
 |0,0,_,_,_,_,_=>rfl
 | k + 1, 0, x, y, hi, h, h2 => by
   rw [vA,vA]
   cases hs:fM x y with
   |none=>rfl
   |some r=>have:=(gb hi hs).dec;omega
 | 0, m + 1, x, y, hi, h, h2 => by
   rw [vA,vA]
   cases hs:fM x y with
   |none=>rfl
   |some r=>have:=(gb hi hs).dec;omega
 | k + 1, m + 1, x, y, hi, h, h2 => by
   rw [vA,vA]
   cases hs:fM x y with
   |none=>rfl
   | some r =>
     have hn:=gb hi hs;have:=hn.dec;simp only;rw [GC k m hn.inv (by omega) (by omega)]
theorem D5 {x y:List Part} (h:fM x y=none):cmp x y=[]:=by
 unfold cmp
 cases tsz x+tsz y with
 |zero=>rfl
 |succ k=>rw [vA,h]
theorem pi {x y:List Part} (hi:CInv x y) {r:List Part×List Part×List Part} (h:fM x y=some r):cmp x y=r.1++cmp r.2.1 r.2.2:=by
 have hn:=gb hi h;have hd:=hn.dec;unfold cmp;obtain ⟨k,hk⟩:∃ k,tsz x+tsz y=k+1:=⟨tsz x+tsz y - 1,by omega⟩;rw [hk,vA,h];simp only;rw [GC k (tsz r.2.1+tsz r.2.2) hn.inv (by omega) (by omega)]
end Go.Proofs.YtibkifnmhkealaaGreatDoor
