import Derived.Test.YthckkpphnmmfdaaGreatDoorNA
import Derived.Test.YthckkpphnmmfdaaGreatDoorMF
namespace Go.Proofs.YthckkpphnmmfdaaGreatDoor
open Go.AM
set_option maxRecDepth 20000
theorem bN (n lo hi:Int):az Tryz.prog 45 [.c (vi n),.c (vi lo),.c (vi hi)] (.one (.c (vb (lo<=n/\n<=hi)) 1)):=by
 refine pci aq Tryz.func45 (λw0 base=>?_);by_cases h1:lo<=n<;>by_cases h2:n<=hi<;>simp [h1,h2]
theorem dh (n lo hi:Int):az Tryz.prog 30 [.c (vi n),.c (vi lo),.c (vi hi)] (.one (.c (vb (lo<=n/\n<=hi)) 1)):=by
 refine pci aq Tryz.func30 (λw0 base=>?_);by_cases h1:lo<=n<;>by_cases h2:n<=hi<;>simp [h1,h2]
def cT (n:Int):Prop:=(0<=n/\n<=1114111)/\¬ (55296<=n/\n<=57343)
def a8 (l:List Int):Prop:=∀ n∈l,cT n
theorem nB (n:Int):az Tryz.prog 118 [.c (vi n)] (.one (.c (vb (cT n)) 1)):=by
 refine pci aq Tryz.func118 (λw0 base=>?_);simp;refine aa.pure (bN n 0 1114111) (by simp) ?_;by_cases h:0<=n/\n<=1114111
 ·simp [h]
  refine aa.pure (bN n 55296 57343) (by simp) ?_;by_cases h2:55296<=n/\n<=57343<;>simp [h2,cT,h]
  try (rw [ex];omega)
 ·have e:dc (0<=n/\n<=1114111)=false:=by rw [bT];exact h
  simp [cT,h]
theorem gM (n:Int):az Tryz.prog 99 [.c (vi n)] (.one (.c (vb (cT n)) 1)):=by
 refine pci aq Tryz.func99 (λw0 base=>?_);simp;refine aa.pure (dh n 0 1114111) (by simp) ?_;by_cases h:0<=n/\n<=1114111
 ·simp [h]
  refine aa.pure (dh n 55296 57343) (by simp) ?_;by_cases h2:55296<=n/\n<=57343<;>simp [h2,cT,h]
  try (rw [ex];omega)
 ·have e:dc (0<=n/\n<=1114111)=false:=by rw [bT];exact h
  simp [cT,h]
theorem iq {α:Type} {P:α->Prop} {l:List α} {i:Nat} (h:i<l.length) (ha:∀ a∈l.take i,P a) (hi:P l[i]):∀ a∈l.take (i+1),P a:=by
 rw [<- List.take_append_getElem h];intro a ha';rcases List.mem_append.1 ha' with h1|h1
 ·exact ha a h1
 ·simp at h1;subst h1;exact hi
theorem jT {α:Type} {P:α->Prop} {l:List α} {i:Nat} (h:l.length<=i) (ha:∀ a∈l.take i,P a):∀ a∈l,P a:=by
 rwa [List.take_of_length_le h] at ha
theorem jS {α:Type} {P:α->Prop} {l:List α} {i:Nat} (h:i<l.length) (hi:¬ P l[i]):¬ ∀ a∈l,P a:=λha=>hi (ha _ (List.getElem_mem h))
theorem dz (l:List Int) (hl:l.length<=2 ^ 40):az Tryz.prog 88 [.c (.s (l.map bb))] (.one (.c (vb (a8 l)) 1)):=by
 refine pci aq Tryz.func88 (λw0 base=>?_);simp;refine aV.intro eok (λi:Nat=>i<=l.length/\∀ n∈l.take i,cT n) (λi=>⟨15,0,[(7,.v (.int .i64 i)),(6,.v (.int .i64 l.length)),(5,.ro (l.map bb))],[]⟩) (λi=>l.length - i) 0 (by simp) (by simp) (λi hi=>?_);by_cases h:i<l.length
 ·simp [h]
  refine aa.pure (nB l[i]) (by simp) ?_;simp;refine Br.mk (λh1=>?_) (λh1=>?_)
  ·simp
   exact ⟨i+1,⟨by omega,iq h hi.2 (eZ h1)⟩,by omega,aB (by omega)⟩
  ·simp [bT]
   exact jS h (gT h1)
 ·simp [h,ex]
  exact jT (by omega) hi.2
theorem ep (l:List Int) (hl:l.length<=2 ^ 40):az Tryz.prog 80 [.c (.s (l.map bb))] (.one (.c (vb (a8 l)) 1)):=by
 refine pci aq Tryz.func80 (λw0 base=>?_);simp;refine aV.intro eok (λi:Nat=>i<=l.length/\∀ n∈l.take i,cT n) (λi=>⟨15,0,[(7,.v (.int .i64 i)),(6,.v (.int .i64 l.length)),(5,.ro (l.map bb))],[]⟩) (λi=>l.length - i) 0 (by simp) (by simp) (λi hi=>?_);by_cases h:i<l.length
 ·simp [h]
  refine aa.pure (gM l[i]) (by simp) ?_;simp;refine Br.mk (λh1=>?_) (λh1=>?_)
  ·simp
   exact ⟨i+1,⟨by omega,iq h hi.2 (eZ h1)⟩,by omega,aB (by omega)⟩
  ·simp [bT]
   exact jS h (gT h1)
 ·simp [h,ex]
  exact jT (by omega) hi.2
def aH (p:Part):Prop:=((p.kind=1\/p.kind=3)/\(0<=p.n/\p.n<=200)/\p.signs=[])\/(p.kind=2/\p.n=0/\p.signs.length<=200/\a8 p.signs)
theorem iZ {p:Part} (h:p.kind=1\/p.kind=3):aH p=((0<=p.n/\p.n<=200)/\p.signs=[]):=by
 have h2:¬ p.kind=2:=by omega
 simp [aH,h,h2]
theorem dZ {p:Part} (h:p.kind=2):aH p=(p.n=0/\p.signs.length<=200/\a8 p.signs):=by simp [aH,h]
theorem ms {p:Part} (h1:p.kind≠1) (h2:p.kind≠2) (h3:p.kind≠3):¬ aH p:=by simp [aH,h1,h2,h3]
theorem nD (p:Part) (hl:p.signs.length<=2 ^ 40):az Tryz.prog 114 [.agg p.row] (.one (.c (vb (aH p)) 1)):=by
 refine pci aq Tryz.func114 (λw0 base=>?_);simp [Part.row];intros;by_cases h13:p.kind=1\/p.kind=3
 ·rw [iZ h13]
  rcases h13 with h|h
  ·simp [h]
   refine aa.pure (bN p.n 0 200) (by simp) ?_;by_cases hn:0<=p.n/\p.n<=200
   ·simp [hn]
   ·have e:dc (0<=p.n/\p.n<=200)=false:=by rw [bT];exact hn
    simp [hn]
  ·simp [h]
   refine aa.pure (bN p.n 0 200) (by simp) ?_;by_cases hn:0<=p.n/\p.n<=200
   ·simp [hn]
   ·have e:dc (0<=p.n/\p.n<=200)=false:=by rw [bT];exact hn
    simp [hn]
 ·have h1:¬ p.kind=1:=λh=>h13 (.inl h)
  have h3:¬ p.kind=3:=λh=>h13 (.inr h)
  by_cases h2:p.kind=2
  ·rw [dZ h2]
   simp [h2];by_cases hn:p.n=0
   ·by_cases hs:p.signs.length<=200
    ·have hs':(p.signs.length:Int)<=200:=by omega
     simp [hn,hs'];refine aa.pure (dz p.signs hl) (by simp) ?_;simp [hs]
    ·have hs':¬ (p.signs.length:Int)<=200:=by omega
     simp [hn,hs',hs]
   ·simp [hn]
  ·simp [h1,h2,h3,ms]
theorem m9 (p:Part) (hl:p.signs.length<=2 ^ 40):az Tryz.prog 111 [.agg p.row] (.one (.c (vb (aH p)) 1)):=by
 refine pci aq Tryz.func111 (λw0 base=>?_);simp [Part.row];intros;by_cases h13:p.kind=1\/p.kind=3
 ·rw [iZ h13]
  rcases h13 with h|h
  ·simp [h]
   refine aa.pure (dh p.n 0 200) (by simp) ?_;by_cases hn:0<=p.n/\p.n<=200
   ·simp [hn]
   ·have e:dc (0<=p.n/\p.n<=200)=false:=by rw [bT];exact hn
    simp [hn]
  ·simp [h]
   refine aa.pure (dh p.n 0 200) (by simp) ?_;by_cases hn:0<=p.n/\p.n<=200
   ·simp [hn]
   ·have e:dc (0<=p.n/\p.n<=200)=false:=by rw [bT];exact hn
    simp [hn]
 ·have h1:¬ p.kind=1:=λh=>h13 (.inl h)
  have h3:¬ p.kind=3:=λh=>h13 (.inr h)
  by_cases h2:p.kind=2
  ·rw [dZ h2]
   simp [h2];by_cases hn:p.n=0
   ·simp [hn]
    refine aa.pure (ep p.signs hl) (by simp) ?_;have e:((p.signs.length:Int)<=200)=(p.signs.length<=200):=by simp;omega
    by_cases hg:a8 p.signs
    ·simp [hg,e]
    ·simp [hg]
   ·simp [hn]
  ·simp [h1,h2,h3,ms]
def bu (o:List Part):Prop:=(∀ p∈o,aH p)/\o.length<=600
theorem es (o:List Part) (hl:nL aL o<=2 ^ 40):az Tryz.prog 82 [.c (.s (o.map Part.row))] (.one (.c (vb (bu o)) 1)):=by
 refine pci aq Tryz.func82 (λw0 base=>?_);have hle:=e6 hl;simp;refine aV.intro eok (λi:Nat=>i<=o.length/\∀ p∈o.take i,aH p) (λi=>⟨18,0,[(7,.v (.int .i64 i)),(6,.v (.int .i64 o.length)),(5,.ro (o.map Part.row)),(0,.ro (o.map Part.row))],[]⟩) (λi=>o.length - i) 0 (by simp) (by simp) (λi hi=>?_);by_cases h:i<o.length
 ·simp [h,Part.row]
  intros;refine aa.pure (nD o[i] (oW hl h)) (by simp [Part.row]) ?_;simp;refine Br.mk (λh1=>?_) (λh1=>?_)
  ·simp
   exact ⟨i+1,⟨by omega,iq h hi.2 (eZ h1)⟩,by omega,aB (by omega)⟩
  ·simp [bT]
   exact λhp=>jS h (gT h1) hp.1
 ·have ha:=jT (by omega) hi.2
  simp [h];refine pJ ?_;unfold bu;exact ⟨λh=>by have:=h.2;omega,λh=>⟨ha,by omega⟩⟩
theorem eq (o:List Part) (hl:nL aL o<=2 ^ 40):az Tryz.prog 75 [.c (.s (o.map Part.row))] (.one (.c (vb (bu o)) 1)):=by
 refine pci aq Tryz.func75 (λw0 base=>?_);have hle:=e6 hl;simp;refine aV.intro eok (λi:Nat=>i<=o.length/\∀ p∈o.take i,aH p) (λi=>⟨18,0,[(7,.v (.int .i64 i)),(6,.v (.int .i64 o.length)),(5,.ro (o.map Part.row)),(0,.ro (o.map Part.row))],[]⟩) (λi=>o.length - i) 0 (by simp) (by simp) (λi hi=>?_);by_cases h:i<o.length
 ·simp [h,Part.row]
  intros;refine aa.pure (m9 o[i] (oW hl h)) (by simp [Part.row]) ?_;simp;refine Br.mk (λh1=>?_) (λh1=>?_)
  ·simp
   exact ⟨i+1,⟨by omega,iq h hi.2 (eZ h1)⟩,by omega,aB (by omega)⟩
  ·simp [bT]
   exact λhp=>jS h (gT h1) hp.1
 ·have ha:=jT (by omega) hi.2
  simp [h];refine pJ ?_;unfold bu;exact ⟨λh=>by have:=h.2;omega,λh=>⟨ha,by omega⟩⟩
def bM (f:Part->Int):List Part->Int
 | []=>0
 |p::o=>f p+bM f o
theorem iU {f:Part->Int}:∀ (a b:List Part),bM f (a++b)=bM f a+bM f b
 | [],b=>by simp [bM]
 |p::a,b=>by simp only [List.cons_append,bM,iU a b];omega
theorem gK {f:Part->Int} {o:List Part} {i:Nat} (h:i<o.length):bM f (o.take (i+1))=bM f (o.take i)+f o[i]:=by
 rw [<- List.take_append_getElem h,iU];simp [bM]
theorem cS {f g:Part->Int}:∀ {o:List Part},(∀ p∈o,f p=g p)->bM f o=bM g o
 | [],_=>rfl
 | p :: o, h => by
   simp only [bM];rw [h p (List.mem_cons_self ..),cS (λq hq=>h q (List.mem_cons_of_mem _ hq))]
theorem dX {f g:Part->Int}:∀ (o:List Part),bM (λp=>f p+g p) o=bM f o+bM g o
 | []=>by simp [bM]
 |p::o=>by simp only [bM,dX o];omega
def fK (p:Part):Int:=if p.kind=1 then p.n else 0
def fP (p:Part):Int:=if p.kind=2 then p.signs.length else 0
def fD (p:Part):Int:=if p.kind=1 then 0 else if p.kind=2 then 0 else p.n
def fg (k:Int) (p:Part):Int:=if p.kind=k then 0 else p.n+p.signs.length
theorem aH.bounds {p:Part} (h:aH p):(p.kind=1\/p.kind=2\/p.kind=3)/\0<=p.n/\p.n<=200/\p.signs.length<=200/\(p.kind=2->p.n=0)/\(p.kind≠2->p.signs=[]):=by
 rcases h with ⟨h1,h2,h3⟩|⟨h1,h2,h3,h4⟩
 ·refine ⟨by omega,by omega,by omega,by simp [h3],by omega,λ_=>h3⟩
 ·refine ⟨by omega,by omega,by omega,h3,λ_=>h2,λh=>absurd h1 h⟩
theorem Bz {p:Part} (h:aH p):fg 2 p=fK p+fD p:=by
 obtain ⟨h1,h2,h3,h4,h5,h6⟩:=h.bounds;unfold fg fK fD;by_cases k2:p.kind=2
 ·simp [k2]
 ·by_cases k1:p.kind=1<;>simp [k1,k2,h6 k2]
theorem By {p:Part} (h:aH p):fg 3 p=fK p+fP p:=by
 obtain ⟨h1,h2,h3,h4,h5,h6⟩:=h.bounds;unfold fg fK fP;rcases h1 with k|k|k
 ·simp [k,h6 (by omega)]
 ·simp [k,h5 k]
 ·simp [k]
theorem cu {f:Part->Int} {B:Int} (hf:∀ p,aH p->0<=f p/\f p<=B):∀ {o:List Part},(∀ p∈o,aH p)->0<=bM f o/\bM f o<=B*o.length
 | [],_=>by simp [bM]
 | p :: o, h => by
   have h1:=hf p (h p (List.mem_cons_self ..));have h2:=cu hf (o:=o) (λq hq=>h q (List.mem_cons_of_mem _ hq));simp only [bM,List.length_cons];rw [show B*((o.length+1:Nat):Int)=B*o.length+B by rw [Int.natCast_add];simp [Int.mul_add]];omega
theorem D5 {p:Part} (h:aH p):0<=fK p/\fK p<=200:=by have:=h.bounds;unfold fK;split<;>omega
theorem D4 {p:Part} (h:aH p):0<=fP p/\fP p<=200:=by have:=h.bounds;unfold fP;split<;>omega
theorem D6 {p:Part} (h:aH p):0<=fD p/\fD p<=200:=by have:=h.bounds;unfold fD;split<;>(try split)<;>omega
theorem Bq {k:Int} {p:Part} (h:aH p):0<=fg k p/\fg k p<=400:=by have:=h.bounds;unfold fg;split<;>omega
theorem jL {o:List Part} (h:∀ p∈o,aH p) (i:Nat):∀ p∈o.take i,aH p:=λp hp=>h p (List.mem_of_mem_take hp)
theorem Ap (p:Part) (hp:aH p):az Tryz.prog 158 [.agg p.row] (.one (.c (vi (p.n+p.signs.length)) 1)):=by
 refine pci aq Tryz.func158 (λw0 base=>?_);have:=hp.bounds;have e:Go.IntKind.i64.wrap (p.n+(p.signs.length:Int))=p.n+p.signs.length:=Go.IntWalk.i64_in _ (by omega);simp [Part.row,e]
open Classical in
noncomputable def sizeOf (o:List Part) (k:Int):Int:=if bu o then bM (fg k) o else 0
theorem hZ (o:List Part) (hl:nL aL o<=2 ^ 40) (k:Int):az Tryz.prog 117 [.c (.s (o.map Part.row)),.c (vi k)] (.one (.c (vi (sizeOf o k)) 1)):=by
 refine pci aq Tryz.func117 (λw0 base=>?_);have hle:=e6 hl;simp;refine aa.pure (es o hl) (by simp) ?_;by_cases ho:bu o
 ·have hr:sizeOf o k=bM (fg k) o:=by unfold sizeOf;rw [if_pos ho]
  simp [ho,hr];refine aV.intro eok (λi:Nat=>i<=o.length) (λi=>⟨27,0,[(13,.v (.int .i64 i)),(12,.v (.int .i64 o.length)),(11,.ro (o.map Part.row)),(5,.v (.int .i64 (bM (fg k) (o.take i)))),(1,.v (.int .i64 k))],[]⟩) (λi=>o.length - i) 0 (by simp) (by simp [bM]) (λi hi=>?_);by_cases h:i<o.length
  ·have hp:=ho.1 _ (List.getElem_mem h)
   have hb:=cu (f:=fg k) (λp h=>Bq h) (jL ho.1 i);have hb2:=hp.bounds;have hlen:=ho.2;have hlt:(o.take i).length<=600:=by simp;omega
   have hs:=gK (f:=fg k) h;obtain ⟨q,hq⟩:∃ q,bM (fg k) (o.take i)=q:=⟨_,rfl⟩;have e:Go.IntKind.i64.wrap ((i:Int)+1)=((i+1:Nat):Int):=aB (by omega);rw [hq] at hs hb;simp [h,Part.row,hq];intros;by_cases hk:o[i].kind=k
   ·simp [hk]
    refine ⟨i+1,by omega,by omega,e,?_⟩;rw [hs];simp [fg,hk]
   ·simp [hk]
    refine aa.pure (Ap o[i] hp) (by simp [Part.row]) ?_;have e2:Go.IntKind.i64.wrap (q+(o[i].n+(o[i].signs.length:Int)))=q+(o[i].n+o[i].signs.length):=Go.IntWalk.i64_in _ (by omega);simp [e2];refine ⟨i+1,by omega,by omega,e,?_⟩;rw [hs];simp [fg,hk]
  ·simp [h]
   rw [List.take_of_length_le (by omega)]
 ·have e:dc (bu o)=false:=by rw [bT];exact ho
  have hr:sizeOf o k=0:=by unfold sizeOf;rw [if_neg ho]
  simp [e,hr]
open Classical in
noncomputable def bk (o:List Part):Int×Int×Int:=if bu o then (bM fK o,bM fP o,bM fD o) else (0,0,0)
theorem pe (o:List Part) (hl:nL aL o<=2 ^ 40):az Tryz.prog 112 [.c (.s (o.map Part.row))] (.tup [.c (vi (bk o).1) 1,.c (vi (bk o).2.1) 1,.c (vi (bk o).2.2) 1]):=by
 refine pci aq Tryz.func112 (λw0 base=>?_);have hle:=e6 hl;simp;refine aa.pure (eq o hl) (by simp) ?_;by_cases ho:bu o
 ·have hr:bk o=(bM fK o,bM fP o,bM fD o):=by unfold bk;rw [if_pos ho]
  simp [ho,hr];refine aV.intro eok (λi:Nat=>i<=o.length) (λi=>⟨42,0,[(15,.v (.int .i64 i)),(14,.v (.int .i64 o.length)),(13,.ro (o.map Part.row)),(5,.v (.int .i64 (bM fK (o.take i)))),(6,.v (.int .i64 (bM fP (o.take i)))),(7,.v (.int .i64 (bM fD (o.take i))))],[]⟩) (λi=>o.length - i) 0 (by simp) (by simp [bM]) (λi hi=>?_);by_cases h:i<o.length
  ·have hp:=ho.1 _ (List.getElem_mem h)
   have hb1:=cu (f:=fK) (λp h=>D5 h) (jL ho.1 i);have hb2:=cu (f:=fP) (λp h=>D4 h) (jL ho.1 i);have hb3:=cu (f:=fD) (λp h=>D6 h) (jL ho.1 i);have hpb:=hp.bounds;have hlen:=ho.2;have hlt:(o.take i).length<=600:=by simp;omega
   have hs1:=gK (f:=fK) h;have hs2:=gK (f:=fP) h;have hs3:=gK (f:=fD) h;obtain ⟨q1,hq1⟩:∃ q,bM fK (o.take i)=q:=⟨_,rfl⟩;obtain ⟨q2,hq2⟩:∃ q,bM fP (o.take i)=q:=⟨_,rfl⟩;obtain ⟨q3,hq3⟩:∃ q,bM fD (o.take i)=q:=⟨_,rfl⟩;have e:Go.IntKind.i64.wrap ((i:Int)+1)=((i+1:Nat):Int):=aB (by omega);rw [hq1] at hs1 hb1;rw [hq2] at hs2 hb2;rw [hq3] at hs3 hb3;simp [h,Part.row,hq1,hq2,hq3];intros;have e1:Go.IntKind.i64.wrap (q1+o[i].n)=q1+o[i].n:=Go.IntWalk.i64_in _ (by omega);have e2:Go.IntKind.i64.wrap (q2+(o[i].signs.length:Int))=q2+o[i].signs.length:=Go.IntWalk.i64_in _ (by omega);have e3:Go.IntKind.i64.wrap (q3+o[i].n)=q3+o[i].n:=Go.IntWalk.i64_in _ (by omega);by_cases k1:o[i].kind=1
   ·simp [k1,e1]
    refine ⟨i+1,by omega,by omega,e,?_,?_,?_⟩
    ·rw [hs1];simp [fK,k1]
    ·rw [hs2];simp [fP,k1]
    ·rw [hs3];simp [fD,k1]
   ·by_cases k2:o[i].kind=2
    ·simp [k2,e2]
     refine ⟨i+1,by omega,by omega,e,?_,?_,?_⟩
     ·rw [hs1];simp [fK,k2]
     ·rw [hs2];simp [fP,k2]
     ·rw [hs3];simp [fD,k2]
    ·simp [k1,k2,e3]
     refine ⟨i+1,by omega,by omega,e,?_,?_,?_⟩
     ·rw [hs1];simp [fK,k1]
     ·rw [hs2];simp [fP,k2]
     ·rw [hs3];simp [fD,k1,k2]
  ·simp [h]
   rw [List.take_of_length_le (by omega)];simp
 ·have e:dc (bu o)=false:=by rw [bT];exact ho
  have hr:bk o=(0,0,0):=by unfold bk;rw [if_neg ho]
  simp [e,hr]
noncomputable def cK (o:List Part):Int:=(bk o).1+(bk o).2.2
noncomputable def iG (o:List Part):Int:=(bk o).1+(bk o).2.1
theorem oP (o:List Part):sizeOf o 2=cK o:=by
 unfold sizeOf cK bk
 split
 ·rename_i h
  show _=bM fK o+bM fD o
  rw [<- dX];exact cS (λp hp=>Bz (h.1 p hp))
 ·rfl
theorem sC (o:List Part):sizeOf o 3=iG o:=by
 unfold sizeOf iG bk
 split
 ·rename_i h
  show _=bM fK o+bM fP o
  rw [<- dX];exact cS (λp hp=>By (h.1 p hp))
 ·rfl
theorem pf (o:List Part):(0<=(bk o).1/\(bk o).1<=120000)/\(0<=(bk o).2.1/\(bk o).2.1<=120000)/\0<=(bk o).2.2/\(bk o).2.2<=120000:=by
 unfold bk
 split
 ·rename_i h
  have h1:=cu (f:=fK) (λp h=>D5 h) h.1;have h2:=cu (f:=fP) (λp h=>D4 h) h.1;have h3:=cu (f:=fD) (λp h=>D6 h) h.1;have h4:=h.2;simp only;omega
 ·simp
theorem nG (o:List Part) (hl:nL aL o<=2 ^ 40):az Tryz.prog 86 [.c (.s (o.map Part.row))] (.one (.c (vi (cK o)) 1)):=by
 refine pci aq Tryz.func86 (λw0 base=>?_);simp;refine aa.pure (hZ o hl 2) (by simp) ?_;simp [oP]
theorem qR (o:List Part) (hl:nL aL o<=2 ^ 40):az Tryz.prog 87 [.c (.s (o.map Part.row))] (.one (.c (vi (iG o)) 1)):=by
 refine pci aq Tryz.func87 (λw0 base=>?_);simp;refine aa.pure (hZ o hl 3) (by simp) ?_;simp [sC]
theorem nc (o:List Part) (hl:nL aL o<=2 ^ 40):az Tryz.prog 77 [.c (.s (o.map Part.row))] (.one (.c (vi (cK o)) 1)):=by
 refine pci aq Tryz.func77 (λw0 base=>?_);simp;refine aa.pure (pe o hl) (by simp) ?_;have:=pf o;have e:Go.IntKind.i64.wrap ((bk o).1+(bk o).2.2)=cK o:=Go.IntWalk.i64_in _ (by omega);simp [e]
theorem qe (o:List Part) (hl:nL aL o<=2 ^ 40):az Tryz.prog 78 [.c (.s (o.map Part.row))] (.one (.c (vi (iG o)) 1)):=by
 refine pci aq Tryz.func78 (λw0 base=>?_);simp;refine aa.pure (pe o hl) (by simp) ?_;have:=pf o;have e:Go.IntKind.i64.wrap ((bk o).1+(bk o).2.1)=iG o:=Go.IntWalk.i64_in _ (by omega);simp [e]
def cr (o:List Part):Prop:=bu o/\cK o<=200/\iG o<=200
theorem fb (o:List Part) (hl:nL aL o<=2 ^ 40):az Tryz.prog 42 [.c (.s (o.map Part.row))] (.one (.c (vb (cr o)) 1)):=by
 refine pci aq Tryz.func42 (λw0 base=>?_);simp;refine aa.pure (es o hl) (by simp) ?_;by_cases h:bu o
 ·simp [h]
  refine aa.pure (nG o hl) (by simp) ?_;by_cases h1:cK o<=200
  ·simp [h1]
   refine aa.pure (qR o hl) (by simp) ?_;simp [cr,h,h1]
  ·simp [h1,cr,h]
 ·simp [h,cr]
theorem eR (o:List Part) (hl:nL aL o<=2 ^ 40):az Tryz.prog 29 [.c (.s (o.map Part.row))] (.one (.c (vb (cr o)) 1)):=by
 refine pci aq Tryz.func29 (λw0 base=>?_);simp;refine aa.pure (eq o hl) (by simp) ?_;by_cases h:bu o
 ·simp [h]
  refine aa.pure (nc o hl) (by simp) ?_;by_cases h1:cK o<=200
  ·simp [h1]
   refine aa.pure (qe o hl) (by simp) ?_;simp [cr,h,h1]
  ·simp [h1,cr,h]
 ·simp [h,cr]
def aG (L:List Part) (P:List Int) (D:Int):List Part:=L++((if P=[] then [] else [⟨2,0,P⟩])++(if 0<D then [⟨3,D,[]⟩] else []))
def bz (L:List Part) (n:Int):List Part:=
 if h:0<L.length then
  if (L[L.length - 1]'(by omega)).kind=1 then L.set (L.length - 1) ⟨1,(L[L.length - 1]'(by omega)).n+n,(L[L.length - 1]'(by omega)).signs⟩ else L++[⟨1,n,[]⟩]
 else [⟨1,n,[]⟩]
def co (s:List Part×List Int×Int) (p:Part):List Part×List Int×Int:=
 if p.kind=2 then (s.1,s.2.1++p.signs,s.2.2)
 else if p.kind=3 then (s.1,s.2.1,s.2.2+p.n)
 else if 0<p.n then (bz (aG s.1 s.2.1 s.2.2) p.n,[],0) else s
def aT (o:List Part):List Part×List Int×Int:=o.foldl co ([],[],0)
def normal (o:List Part):List Part:=aG (aT o).1 (aT o).2.1 (aT o).2.2
theorem cX {o:List Part} {i:Nat} (h:i<o.length):aT (o.take (i+1))=co (aT (o.take i)) o[i]:=by
 unfold aT;rw [<- List.take_append_getElem h,List.foldl_append];rfl
structure NbOk (m:Nat) (s:List Part×List Int×Int):Prop where
 l:s.1.length<=3*m
 p:s.2.1.length<=200*m
 d0:0<=s.2.2
 d:s.2.2<=200*m
 q:∀ q∈s.1,0<=q.n/\q.n<=200*m
theorem eh (L:List Part) (P:List Int) (D:Int):(aG L P D).length<=L.length+2:=by
 unfold aG
 split<;>split<;>simp
theorem iH {L:List Part} {P:List Int} {D B:Int} (h0:0<=D) (hD:D<=B) (hL:∀ q∈L,0<=q.n/\q.n<=B):∀ q∈aG L P D,0<=q.n/\q.n<=B:=by
 intro q hq;unfold aG at hq;simp only [List.mem_append] at hq;rcases hq with hq|hq|hq
 ·exact hL q hq
 ·split at hq
  ·simp at hq
  ·simp at hq;subst hq;simp;omega
 ·split at hq
  ·simp at hq;subst hq;simp;omega
  ·simp at hq
theorem fL {o:List Part} (ho:∀ p∈o,aH p):∀ (i:Nat),i<=o.length->NbOk i (aT (o.take i))
 | 0, _ => by
   simp [aT];exact ⟨by simp,by simp,by simp,by simp,by simp⟩
 | i + 1, hi => by
   have ih:=fL ho i (by omega);have hlt:i<o.length:=by omega
   rw [cX hlt];have hp:=(ho _ (List.getElem_mem hlt)).bounds;generalize aT (o.take i)=s at ih;generalize o[i]=p at hp;obtain ⟨L,P,D⟩:=s;obtain ⟨h1,h2,h3,h4,h5⟩:=ih;simp only at h1 h2 h3 h4 h5;have w:∀ q∈L,0<=q.n/\q.n<=200*((i+1:Nat):Int):=λq hq=>by have:=h5 q hq;omega
   unfold co
   split
   ·exact ⟨by simp;omega,by simp;omega,h3,by simp;omega,w⟩
   ·split
    ·exact ⟨by simp;omega,by simp;omega,by simp;omega,by simp;omega,w⟩
    ·split
     ·have f1:=eh L P D
      have f2:=iH (P:=P) h3 h4 h5;refine ⟨?_,by simp,by simp,by simp;omega,?_⟩
      ·simp only [bz]
       split
       ·split<;>simp<;>omega
       ·simp;omega
      ·simp only [bz]
       intro q hq
       split at hq
       ·split at hq
        ·rcases List.mem_or_eq_of_mem_set hq with hq|rfl
         ·have:=f2 q hq;omega
         ·have:=f2 _ (List.getElem_mem (show (aG L P D).length - 1<(aG L P D).length by omega))
          simp only;omega
        ·rcases List.mem_append.1 hq with hq|hq
         ·have:=f2 q hq;omega
         ·simp at hq;subst hq;simp;omega
       ·simp at hq;subst hq;simp;omega
     ·exact ⟨by simp;omega,by simp;omega,h3,by simp;omega,w⟩
theorem wa {L:List Part} {P:List Int} {D:Int} (hP:¬ P=[]) (hD:0<D):aG L P D=L++[⟨2,0,P⟩]++[⟨3,D,[]⟩]:=by simp [aG,hP,hD]
theorem v8 {L:List Part} {P:List Int} {D:Int} (hP:¬ P=[]) (hD:¬ 0<D):aG L P D=L++[⟨2,0,P⟩]:=by simp [aG,hP,hD]
theorem v7 {L:List Part} {P:List Int} {D:Int} (hP:P=[]) (hD:0<D):aG L P D=L++[⟨3,D,[]⟩]:=by simp [aG,hP,hD]
theorem v6 {L:List Part} {P:List Int} {D:Int} (hP:P=[]) (hD:¬ 0<D):aG L P D=L:=by simp [aG,hP,hD]
theorem fR {w0:World} {bF bG:Nat->Prop} {bl:Bool} {st:ASt} {dst:Option Nat} {K:ASt->Prop} {L:List Part} {P:List Int} {D:Int} {b3 b4 b5:Nat} {Hl Hp:Hd} (hL:L.length<=2 ^ 20) (_hP:P.length<=2 ^ 40)
 (g48:st.h.get 48=.vars b3 28 [.sl 5000 Hl 3 0 L.length]) (g64:st.h.get 64=.vars b4 23 [.sl 5001 Hp 1 0 P.length]) (g80:st.h.get 80=.vars b5 3 [.v (.int .i64 D)])
 (g5000:st.h.get 5000=.rows Hl 3 (L.map Part.row) true) (g5001:st.h.get 5001=.rows Hp 1 (P.map bb) true)
 (hK:∀ Hl' h',AH.get h' 48=.vars b3 28 [.sl 5000 Hl' 3 0 (aG L P D).length] -> AH.get h' 5000=.rows Hl' 3 ((aG L P D).map Part.row) true -> AH.get h' 64=.vars b4 23 [.nil] -> AH.get h' 80=.vars b5 3 [.v (.int .i64 0)] ->
  AH.get h' 128=st.h.get 128->aP ⟨st.n,st.kb,st.t,h'⟩ dst (.tup []) K):aa ⟨Tryz.prog,tt,w0,⟨bF,bG,bl,λ_=>True⟩⟩ 208 [.p 64 b4 0,.p 48 b3 0,.p 80 b5 0] st dst K:=by
 refine inl aq Tryz.func208 20000 (λw1 F=>?_);simp [g64];by_cases hp:P=[]
 ·have hp0:¬ 0<P.length:=by simp [hp]
  simp [hp0,g80];by_cases hd:0<D
  ·simp [hd,g48,g5000,g80,g64]
   intro b;refine ⟨by omega,λH=>hK H _ ?_ ?_ ?_ ?_ ?_⟩<;>simp [v7 hp hd,Part.row]
  ·simp [hd,g80,g64]
   refine hK Hl _ ?_ ?_ ?_ ?_ ?_<;>simp [v6 hp hd,g48,g5000]
 ·have hp0:0<P.length:=List.length_pos_iff.2 hp
  simp [hp0,g80,g48,g5000,g5001,g64];intro b;refine ⟨by omega,λH=>?_⟩;by_cases hd:0<D
  ·simp [hd,g80,g64]
   intro b2;refine ⟨by omega,λH2=>hK H2 _ ?_ ?_ ?_ ?_ ?_⟩<;>simp [wa hp hd,Part.row]
  ·simp [hd,g80,g64]
   refine hK H _ ?_ ?_ ?_ ?_ ?_<;>simp [v8 hp hd,Part.row]
theorem kv {F:List Part} {m:Nat} (h:m<F.length) {g:List CD->List CD} {p:Part} (hg:g F[m].row=p.row):(F.map Part.row).modify m g=(F.set m p).map Part.row:=by
 apply List.ext_getElem?
 intro j;rw [List.getElem?_modify];simp only [List.getElem?_map,List.getElem?_set];by_cases hj:m=j
 ·subst hj
  simp [h,hg]
 ·simp [hj]
theorem vl (o:List Part) (ho:∀ p∈o,aH p) (hl:o.length<=10000):az Tryz.prog 166 [.c (.s (o.map Part.row))] (.one (.c (.s ((normal o).map Part.row)) 3)):=by
 refine pci aq Tryz.func166 (λw0 base=>?_);simp;intro b3 b4 b5
 refine aK eok (λx:Nat×Hd×Hd=>x.1<=o.length) (λx=>⟨73,0,[(13,.v (.int .i64 x.1)),(12,.v (.int .i64 o.length)),(11,.ro (o.map Part.row)),(3,.p 48 b3 0),(4,.p 64 b4 0),(5,.p 80 b5 0),(6,.clo 208 [.p 64 b4 0,.p 48 b3 0,.p 80 b5 0])],
  [(48, .vars b3 28 [.sl 5000 x.2.1 3 0 (aT (o.take x.1)).1.length]), (64, .vars b4 23 [.sl 5001 x.2.2 1 0 (aT (o.take x.1)).2.1.length]), (80, .vars b5 3 [.v (.int .i64 (aT (o.take x.1)).2.2)]),
   (5000,.rows x.2.1 3 ((aT (o.take x.1)).1.map Part.row) true),(5001,.rows x.2.2 1 ((aT (o.take x.1)).2.1.map bb) true)]⟩) (λx=>o.length - x.1) (0,none,none) (by simp) (by simp [aT]) (λx hx=>Ent.refl ?_)
 obtain ⟨i,Hl,Hp⟩:=x;simp only at hx ⊢;have hok:=fL ho i hx;by_cases h:i<o.length
 ·have hs:=cX h
  have hpb:=(ho _ (List.getElem_mem h)).bounds;generalize aT (o.take i)=s at hok hs;obtain ⟨L,P,D⟩:=s;obtain ⟨k1,k2,k3,k4,k5⟩:=hok;simp only at k1 k2 k3 k4 k5;have e:Go.IntKind.i64.wrap ((i:Int)+1)=((i+1:Nat):Int):=aB (by omega);simp [h,Part.row];intro b8;by_cases c2:o[i].kind=2
  ·simp [c2]
   refine ⟨by omega,λH=>?_⟩;refine Ent.refl ⟨i+1,by omega,by omega,Hl,H,?_⟩;rw [hs];simp [co,c2,e]
  ·by_cases c3:o[i].kind=3
   ·have e3:Go.IntKind.i64.wrap (D+o[i].n)=D+o[i].n:=Go.IntWalk.i64_in _ (by omega)
    simp [c3,e3];refine Ent.refl ⟨i+1,by omega,by omega,Hl,Hp,?_⟩;rw [hs];simp [co,c3,e]
   ·by_cases cn:0<o[i].n
    ·simp [c2,c3,cn]
     refine fR (L:=L) (P:=P) (D:=D) (Hl:=Hl) (Hp:=Hp) (by omega) (by omega) (by simp) (by simp) (by simp) (by simp) (by simp) (λHl' h' g48 g5000 g64 g80 g128=>?_);have f1:=eh L P D;have f2:=iH (P:=P) k3 k4 k5;have hstep:co (L,P,D) o[i]=(bz (aG L P D) o[i].n,[],0):=by simp [co,c2,c3,cn]
     rw [hstep] at hs;generalize aG L P D=F at f1 f2 g48 g5000 hs;simp at g128;by_cases hF:0<F.length
     ·obtain ⟨m,hm⟩:∃ m,F.length=m+1:=⟨F.length - 1,by omega⟩
      have hmlt:m<F.length:=by omega
      have em:Go.IntKind.i64.wrap (m:Int)=m:=r2 (by omega)
      have hk:bz F o[i].n=if F[m].kind=1 then F.set m ⟨1,F[m].n+o[i].n,F[m].signs⟩ else F++[⟨1,o[i].n,[]⟩]:=by
       have e0:F.length - 1=m:=by omega
       simp [bz,hF,e0]
      have hq:=f2 _ (List.getElem_mem hmlt);simp [g48,g5000,hm,em,Part.row];by_cases ck:F[m].kind=1
      ·rw [if_pos ck] at hk
       have em2:Go.IntKind.i64.wrap (F[m].n+o[i].n)=F[m].n+o[i].n:=Go.IntWalk.i64_in _ (by omega);have hmm:(m:Int)<m+1:=by omega
       simp [ck,hmm];refine drw eok mix [0,1,2,3,4,5,6,7,8,9,10] [11] (.c 11 11 2045 2 (.l 11 2) .s) ?_;simp [g48,g5000,g128,hm,em,Part.row,ck,em2,hmm];refine Ent.kill 5001 (Ent.refl ⟨i+1,by omega,by omega,Hl',none,?_⟩);rw [hs,hk];have hmod:=kv (F:=F) (m:=m) hmlt (g:=λrow=>cE row 1 [CD.v (Value.int IntKind.i64 (F[m].n+o[i].n))]) (p:=⟨1,F[m].n+o[i].n,F[m].signs⟩) (by simp [Part.row,ck]);simp [e,g48,g64,g80,hm,hmod]
      ·rw [if_neg ck] at hk
       simp [ck,g48,g5000,g128,hm];refine ⟨by omega,λb=>⟨by omega,λH=>?_⟩⟩;refine Ent.kill 5001 (Ent.refl ⟨i+1,by omega,by omega,H,none,?_⟩);rw [hs,hk];simp [e,Part.row,g64,g80,hm]
     ·have hF0:F=[]:=List.eq_nil_of_length_eq_zero (by omega)
      subst hF0;have hk:bz [] o[i].n=[⟨1,o[i].n,[]⟩]:=by simp [bz]
      simp [g48,g5000,g128];intro b H;refine Ent.kill 5001 (Ent.refl ⟨i+1,by omega,by omega,H,none,?_⟩);rw [hs,hk];simp [e,Part.row,g64,g80]
    ·simp [c2,c3,cn]
     refine Ent.refl ⟨i+1,by omega,by omega,Hl,Hp,?_⟩;rw [hs];simp [co,c2,c3,cn,e]
 ·have he:o.take i=o:=List.take_of_length_le (by omega)
  rw [he] at hok ⊢;have hn:normal o=aG (aT o).1 (aT o).2.1 (aT o).2.2:=rfl;rw [hn];generalize aT o=s at hok;obtain ⟨L,P,D⟩:=s;obtain ⟨k1,k2,k3,k4,k5⟩:=hok;simp only at k1 k2 k3 k4 k5;simp [h];refine fR (L:=L) (P:=P) (D:=D) (Hl:=Hl) (Hp:=Hp) (by omega) (by omega) (by simp) (by simp) (by simp) (by simp) (by simp) (λHl' h' g48 g5000 g64 g80 g128=>?_);simp [g48,g5000]
theorem fB {w0:World} {bF bG:Nat->Prop} {bl:Bool} {st:ASt} {dst:Option Nat} {K:ASt->Prop} {L:List Part} {P:List Int} {D:Int} {b:Nat} {Hl Hp:Hd} (hL:L.length<=2 ^ 20) (_hP:P.length<=2 ^ 40)
 (g160:st.h.get 160=.vars b 177 [.sl 5000 Hl 3 0 L.length,.sl 5001 Hp 1 0 P.length,.v (.int .i64 D)])
 (g5000:st.h.get 5000=.rows Hl 3 (L.map Part.row) true) (g5001:st.h.get 5001=.rows Hp 1 (P.map bb) true)
 (hK:∀ Hl' h',AH.get h' 160=.vars b 177 [.sl 5000 Hl' 3 0 (aG L P D).length,.nil,.v (.int .i64 0)] -> AH.get h' 5000=.rows Hl' 3 ((aG L P D).map Part.row) true ->
  AH.get h' 80=st.h.get 80->aP ⟨st.n,st.kb,st.t,h'⟩ dst (.tup []) K):aa ⟨Tryz.prog,tt,w0,⟨bF,bG,bl,λ_=>True⟩⟩ 197 [.p 160 b 0] st dst K:=by
 refine inl aq Tryz.func197 20000 (λw1 F=>?_);simp [g160];by_cases hp:P=[]
 ·have hp0:¬ 0<P.length:=by simp [hp]
  simp [hp0,g160];by_cases hd:0<D
  ·simp [hd]
   refine drw eok mix [0,1,2,3,4,5,6,7,8,9,12,13] [10,11,14] (.c 12 10 4 4091 (.c 12 11 128 3963 (.c 12 14 3961 2 (.l 12 2) .s) .s) .s) ?_;simp [g160,g5000];intro b1;refine ⟨by omega,λH=>hK H _ ?_ ?_ ?_⟩<;>simp [v7 hp hd,Part.row]
  ·simp [hd,g160]
   refine hK Hl _ ?_ ?_ ?_<;>simp [v6 hp hd,g5000]
 ·have hp0:0<P.length:=List.length_pos_iff.2 hp
  simp [hp0];refine drw eok mix [0,1,2,3,4,5,6,7,8,9,12,13] [10,11,14] (.c 12 10 4 4091 (.c 12 11 128 3963 (.c 12 14 3961 2 (.l 12 2) .s) .s) .s) ?_;simp [g160,g5000,g5001];intro b1;refine ⟨by omega,λH=>?_⟩;by_cases hd:0<D
  ·simp [hd]
   refine drw eok mix [0,1,2,3,4,5,6,7,8,9,12,13] [10,11,14] (.c 12 10 4 4091 (.c 12 11 128 3963 (.c 12 14 3961 2 (.l 12 2) .s) .s) .s) ?_;simp;intro b2;refine ⟨by omega,λH2=>hK H2 _ ?_ ?_ ?_⟩<;>simp [wa hp hd,Part.row]
  ·simp [hd]
   refine hK H _ ?_ ?_ ?_<;>simp [v8 hp hd,Part.row]
theorem lJ {w0:World} {bF bG:Nat->Prop} {bl:Bool} {st:ASt} {dst:Option Nat} {K:ASt->Prop} {L:List Part} {P:List Int} {D n:Int} {b:Nat} {Hl Hp:Hd} (hL:L.length<=2 ^ 19) (hP:P.length<=2 ^ 40) (hn0:0<n) (hn:n<=200) (hF:∀ q∈aG L P D,0<=q.n/\q.n<=2 ^ 40)
 (g160:st.h.get 160=.vars b 177 [.sl 5000 Hl 3 0 L.length,.sl 5001 Hp 1 0 P.length,.v (.int .i64 D)])
 (g5000:st.h.get 5000=.rows Hl 3 (L.map Part.row) true) (g5001:st.h.get 5001=.rows Hp 1 (P.map bb) true)
 (hK:∀ Hl' h',AH.get h' 160=.vars b 177 [.sl 5000 Hl' 3 0 (bz (aG L P D) n).length,.nil,.v (.int .i64 0)] -> AH.get h' 5000=.rows Hl' 3 ((bz (aG L P D) n).map Part.row) true ->
  AH.get h' 80=st.h.get 80->aP ⟨st.n,st.kb,st.t,h'⟩ dst (.tup []) K):aa ⟨Tryz.prog,tt,w0,⟨bF,bG,bl,λ_=>True⟩⟩ 152 [.p 160 b 0,.v (.int .i64 n)] st dst K:=by
 refine inl aq Tryz.func152 30000 (λw1 F=>?_);have n0:¬ n=0:=by omega
 simp [n0];refine fB (L:=L) (P:=P) (D:=D) (Hl:=Hl) (Hp:=Hp) (by omega) hP (by simp [g160]) (by simp [g5000]) (by simp [g5001]) (λHl' h' k160 k5000 k80=>?_);have f1:=eh L P D;generalize aG L P D=F at f1 hF k160 k5000 hK;by_cases hF0:0<F.length
 ·obtain ⟨m,hm⟩:∃ m,F.length=m+1:=⟨F.length - 1,by omega⟩
  have hmlt:m<F.length:=by omega
  have hmm:(m:Int)<m+1:=by omega
  have em:Go.IntKind.i64.wrap (m:Int)=m:=r2 (by omega)
  have hk:bz F n=if F[m].kind=1 then F.set m ⟨1,F[m].n+n,F[m].signs⟩ else F++[⟨1,n,[]⟩]:=by
   have e0:F.length - 1=m:=by omega
   simp [bz,hF0,e0]
  have hq:=hF _ (List.getElem_mem hmlt);have em2:Go.IntKind.i64.wrap (F[m].n+n)=F[m].n+n:=Go.IntWalk.i64_in _ (by omega);simp [k160,k5000,hm,em,hmm,Part.row];by_cases ck:F[m].kind=1
  ·rw [if_pos ck] at hk
   simp [ck];refine drw eok mix [0,1,2,3,4,5,6,7,8,9,10,11,12,13,14,15,16,17,18] [19] (.c 19 19 524285 2 (.l 19 2) .s) ?_;simp [k160,k5000,hm,em,hmm,Part.row,ck,em2];have hmod:=kv (F:=F) (m:=m) hmlt (g:=λrow=>cE row 1 [CD.v (Value.int IntKind.i64 (F[m].n+n))]) (p:=⟨1,F[m].n+n,F[m].signs⟩) (by simp [Part.row,ck]);refine hK Hl' _ ?_ ?_ ?_
   ·simp [k160,hk,hm]
   ·simp [hk,hmod]
   ·simp [k80]
  ·rw [if_neg ck] at hk
   simp [ck,k160,k5000,hm];intro b1;refine ⟨by omega,λH=>hK H _ ?_ ?_ ?_⟩<;>simp [hk,hm,Part.row,k80]
 ·have hF1:F=[]:=List.eq_nil_of_length_eq_zero (by omega)
  subst hF1;have hk:bz [] n=[⟨1,n,[]⟩]:=by simp [bz]
  simp [k160,k5000];intro b1 H;refine hK H _ ?_ ?_ ?_<;>simp [hk,Part.row,k80]
open Classical in
noncomputable def bg (o:List Part):List Part:=if cr o then normal o else []
theorem ib (o:List Part) (hl:nL aL o<=2 ^ 40):az Tryz.prog 122 [.c (.s (o.map Part.row))] (.one (.c (.s ((bg o).map Part.row)) 3)):=by
 refine pci aq Tryz.func122 (λw0 base=>?_);simp;refine aa.pure (fb o hl) (by simp) ?_;by_cases h:cr o
 ·have e:bg o=normal o:=by unfold bg;rw [if_pos h]
  simp [h,e];refine aa.pure (vl o h.1.1 (by have:=h.1.2;omega)) (by simp) ?_;simp
 ·have e:bg o=[]:=by unfold bg;rw [if_neg h]
  have e2:dc (cr o)=false:=by rw [bT];exact h
  simp [e,e2]
theorem gO (o:List Part) (hl:nL aL o<=2 ^ 40):az Tryz.prog 113 [.c (.s (o.map Part.row))] (.one (.c (.s ((bg o).map Part.row)) 3)):=by
 refine pci aq Tryz.func113 (λw0 base=>?_);simp;refine aa.pure (eR o hl) (by simp) ?_;by_cases hopk:cr o
 rotate_left
 ·have e:bg o=[]:=by unfold bg;rw [if_neg hopk]
  have e2:dc (cr o)=false:=by rw [bT];exact hopk
  simp [e,e2]
 have e:bg o=normal o:=by unfold bg;rw [if_pos hopk]
 have ho:=hopk.1.1;have hlen:=hopk.1.2;simp [hopk,e];intro b
 refine aK eok (λx:Nat×Hd×Hd=>x.1<=o.length) (λx=>⟨38,0,[(13,.v (.int .i64 x.1)),(12,.v (.int .i64 o.length)),(11,.ro (o.map Part.row)),(3,.p 160 b 0)],
  [(160, .vars b 177 [.sl 5000 x.2.1 3 0 (aT (o.take x.1)).1.length, .sl 5001 x.2.2 1 0 (aT (o.take x.1)).2.1.length, .v (.int .i64 (aT (o.take x.1)).2.2)]),
   (5000,.rows x.2.1 3 ((aT (o.take x.1)).1.map Part.row) true),(5001,.rows x.2.2 1 ((aT (o.take x.1)).2.1.map bb) true)]⟩) (λx=>o.length - x.1) (0,none,none) (by simp) (by simp [aT]) (λx hx=>Ent.refl ?_)
 obtain ⟨i,Hl,Hp⟩:=x;simp only at hx ⊢;have hok:=fL ho i hx;by_cases h:i<o.length
 ·have hs:=cX h
  have hpb:=(ho _ (List.getElem_mem h)).bounds;generalize aT (o.take i)=s at hok hs;obtain ⟨L,P,D⟩:=s;obtain ⟨k1,k2,k3,k4,k5⟩:=hok;simp only at k1 k2 k3 k4 k5;have e:Go.IntKind.i64.wrap ((i:Int)+1)=((i+1:Nat):Int):=aB (by omega);simp [h,Part.row];intro b5;by_cases c1:o[i].kind=1
  ·simp [c1]
   by_cases cn:0<o[i].n
   ·have hstep:co (L,P,D) o[i]=(bz (aG L P D) o[i].n,[],0):=by simp [co,c1,cn]
    rw [hstep] at hs;have f2:=iH (P:=P) k3 k4 k5;refine lJ (L:=L) (P:=P) (D:=D) (Hl:=Hl) (Hp:=Hp) (by omega) (by omega) cn hpb.2.2.1 (λq hq=>by have:=f2 q hq;omega) (by simp) (by simp) (by simp) (λHl' h' k160 k5000 k80=>?_);simp;refine Ent.kill 5001 (Ent.refl ⟨i+1,by omega,by omega,Hl',none,?_⟩);rw [hs];simp [e,k160,k5000]
   ·have cn0:o[i].n=0:=by omega
    refine inl aq Tryz.func152 30000 (λw1 F=>?_);simp [cn0];refine Ent.refl ⟨i+1,by omega,by omega,Hl,Hp,?_⟩;rw [hs];simp [co,c1,cn0,e]
  ·by_cases c2:o[i].kind=2
   ·simp [c2]
    refine inl aq Tryz.func153 30000 (λw1 F=>?_);simp;refine ⟨by omega,λH=>?_⟩;refine Ent.refl ⟨i+1,by omega,by omega,Hl,H,?_⟩;rw [hs];simp [co,c2,e]
   ·have c3:o[i].kind=3:=by omega
    have e3:Go.IntKind.i64.wrap (D+o[i].n)=D+o[i].n:=Go.IntWalk.i64_in _ (by omega);simp [c1,c2];refine inl aq Tryz.func154 30000 (λw1 F=>?_);simp [e3];refine Ent.refl ⟨i+1,by omega,by omega,Hl,Hp,?_⟩;rw [hs];simp [co,c3,e]
 ·have he:o.take i=o:=List.take_of_length_le (by omega)
  rw [he] at hok ⊢;have hn:normal o=aG (aT o).1 (aT o).2.1 (aT o).2.2:=rfl;rw [hn];generalize aT o=s at hok;obtain ⟨L,P,D⟩:=s;obtain ⟨k1,k2,k3,k4,k5⟩:=hok;simp only at k1 k2 k3 k4 k5;simp [h];refine inl aq Tryz.func155 30000 (λw1 F=>?_);simp;refine fB (L:=L) (P:=P) (D:=D) (Hl:=Hl) (Hp:=Hp) (by omega) (by omega) (by simp) (by simp) (by simp) (λHl' h' k160 k5000 k80=>?_);simp [k160,k5000]
theorem mg (a b:List Int) (hl:a.length<=2 ^ 40):az Tryz.prog 116 [.c (.s (a.map bb)),.c (.s (b.map bb))] (.one (.c (vb (a=b)) 1)):=by
 refine pci aq Tryz.func116 (λw0 base=>?_);by_cases h:a.length=b.length
 ·simp [h]
  refine aV.intro eok (λi:Nat=>i<=a.length/\a.take i=b.take i) (λi=>⟨26,0,[(13,.v (.int .i64 i)),(12,.v (.int .i64 b.length)),(1,.ro (b.map bb)),(0,.ro (a.map bb))],[]⟩) (λi=>a.length - i) 0 (by simp) (by simp) (λi hi=>?_);by_cases hlt:i<a.length
  ·have hlt':i<b.length:=by omega
   simp [hlt'];refine aX.quiet eok mix (by kernel_rfl) ?_;simp [hlt,hlt'];refine Br.mk (λh1=>?_) (λh1=>?_)
   ·simp
    exact ⟨i+1,⟨by omega,dR hlt hlt' hi.2 (eZ h1)⟩,by omega,aB (by omega)⟩
   ·simp [bT]
    exact jb hlt hlt' (gT h1)
  ·have hlt':¬ i<b.length:=by omega
   simp [hlt',ex];exact eD (by omega) (by omega) hi.2
 ·have hz:¬ (a.length:Int)=b.length:=by omega
  simp [hz,bT];exact λh2=>absurd (by rw [h2]) h
theorem oC (a b:List Int) (hl:a.length<=2 ^ 40):az Tryz.prog 191 [.c (.s (a.map bb)),.c (.s (b.map bb))] (.one (.c (vb (a=b)) 1)):=by
 refine pci aq Tryz.func191 (λw0 base=>?_);by_cases h:a.length=b.length
 ·simp [h]
  refine aV.intro eok (λi:Nat=>i<=a.length/\a.take i=b.take i) (λi=>⟨26,0,[(13,.v (.int .i64 i)),(12,.v (.int .i64 b.length)),(1,.ro (b.map bb)),(0,.ro (a.map bb))],[]⟩) (λi=>a.length - i) 0 (by simp) (by simp) (λi hi=>?_);by_cases hlt:i<a.length
  ·have hlt':i<b.length:=by omega
   simp [hlt'];refine aX.quiet eok mix (by kernel_rfl) ?_;simp [hlt,hlt'];refine Br.mk (λh1=>?_) (λh1=>?_)
   ·simp
    exact ⟨i+1,⟨by omega,dR hlt hlt' hi.2 (eZ h1)⟩,by omega,aB (by omega)⟩
   ·simp [bT]
    exact jb hlt hlt' (gT h1)
  ·have hlt':¬ i<b.length:=by omega
   simp [hlt',ex];exact eD (by omega) (by omega) hi.2
 ·have hz:¬ (a.length:Int)=b.length:=by omega
  simp [hz,bT];exact λh2=>absurd (by rw [h2]) h
theorem qg (p q:Part) (hl:p.signs.length<=2 ^ 40):az Tryz.prog 157 [.agg p.row,.agg q.row] (.one (.c (vb (p=q)) 1)):=by
 refine pci aq Tryz.func157 (λw0 base=>?_);obtain ⟨k1,n1,s1⟩:=p;obtain ⟨k2,n2,s2⟩:=q;simp [Part.row];intro b1 b2;by_cases h1:k1=k2
 ·by_cases h2:n1=n2
  ·simp [h1,h2]
   refine aa.pure (mg s1 s2 hl) (by simp) ?_;simp
  ·simp [h1,h2]
 ·simp [h1]
theorem pC (a b:List Part) (hl:a.length<=2 ^ 40) (hs:∀ p∈a,p.signs.length<=2 ^ 40):az Tryz.prog 156 [.c (.s (a.map Part.row)),.c (.s (b.map Part.row)),.c (.v (.func (.func 157) #[] #[]))] (.one (.c (vb (a=b)) 1)):=by
 refine pci aq Tryz.func156 (λw0 base=>?_);by_cases h:a.length=b.length
 ·simp [h]
  refine aV.intro eok (λi:Nat=>i<=a.length/\a.take i=b.take i) (λi=>⟨32,0,[(17,.v (.int .i64 i)),(16,.v (.int .i64 b.length)),(15,.ro (a.map Part.row)),(2,.v (.func (.func 157) #[] #[])),(1,.ro (b.map Part.row))],[]⟩) (λi=>a.length - i) 0 (by simp) (by simp) (λi hi=>?_);by_cases hlt:i<a.length
  ·have hlt':i<b.length:=by omega
   simp [hlt,hlt',Part.row];intro b1 b2;refine aa.pure (qg a[i] b[i] (hs _ (List.getElem_mem hlt))) (by simp [Part.row]) ?_;simp;refine Br.mk (λh1=>?_) (λh1=>?_)
   ·simp
    exact ⟨i+1,⟨by omega,dR hlt hlt' hi.2 (eZ h1)⟩,by omega,aB (by omega)⟩
   ·simp [bT]
    exact jb hlt hlt' (gT h1)
  ·have hlt':¬ i<b.length:=by omega
   simp [hlt',ex];exact eD (by omega) (by omega) hi.2
 ·have hz:¬ (a.length:Int)=b.length:=by omega
  simp [hz,bT];exact λh2=>absurd (by rw [h2]) h
theorem va (a b:List Part) (hl:a.length<=2 ^ 40) (hs:∀ p∈a,p.signs.length<=2 ^ 40):az Tryz.prog 115 [.c (.s (a.map Part.row)),.c (.s (b.map Part.row))] (.one (.c (vb (a=b)) 1)):=by
 refine pci aq Tryz.func115 (λw0 base=>?_);simp;refine aa.pure (pC a b hl hs) (by simp) ?_;simp
theorem na (a b:List Part) (hl:a.length<=2 ^ 40) (hs:∀ p∈a,p.signs.length<=2 ^ 40):az Tryz.prog 167 [.c (.s (a.map Part.row)),.c (.s (b.map Part.row))] (.one (.c (vb (a=b)) 1)):=by
 refine pci aq Tryz.func167 (λw0 base=>?_);by_cases h:a.length=b.length
 ·simp [h]
  refine aV.intro eok (λi:Nat=>i<=a.length/\a.take i=b.take i) (λi=>⟨49,0,[(14,.v (.int .i64 i)),(13,.v (.int .i64 b.length)),(12,.ro (a.map Part.row)),(1,.ro (b.map Part.row))],[]⟩) (λi=>a.length - i) 0 (by simp) (by simp) (λi hi=>?_);by_cases hlt:i<a.length
  ·have hlt':i<b.length:=by omega
   simp [hlt,hlt',Part.row];intro b1;refine aX.quiet eok mix (by kernel_rfl) ?_;simp [hlt',Part.row];by_cases h1:a[i].kind=b[i].kind
   ·by_cases h2:a[i].n=b[i].n
    ·simp [h1,h2,hlt',Part.row]
     refine ⟨_,_,oC a[i].signs b[i].signs (hs _ (List.getElem_mem hlt)),by simp,?_⟩;simp;by_cases h3:a[i].signs=b[i].signs
     ·simp [h3]
      have he:a[i]=b[i]:=by
       cases hx:a[i];cases hy:b[i]
       rw [hx,hy] at h1 h2 h3;simp at h1 h2 h3;rw [h1,h2,h3]
      exact ⟨i+1,⟨by omega,dR hlt hlt' hi.2 he⟩,by omega,aB (by omega)⟩
     ·simp [h3,bT]
      exact jb hlt hlt' (λhe=>h3 (by rw [he]))
    ·simp [h1,h2,hlt',Part.row,bT]
     exact jb hlt hlt' (λhe=>h2 (by rw [he]))
   ·simp [h1,bT]
    exact jb hlt hlt' (λhe=>h1 (by rw [he]))
  ·have hlt':¬ i<b.length:=by omega
   simp [hlt',ex];exact eD (by omega) (by omega) hi.2
 ·have hz:¬ (a.length:Int)=b.length:=by omega
  simp [hz,bT];exact λh2=>absurd (by rw [h2]) h
theorem nF (a b:List Part) (h:nL aL a<=2 ^ 40):az Tryz.prog 115 [.c (.s (a.map Part.row)),.c (.s (b.map Part.row))] (.one (.c (vb (a=b)) 1)):=va a b (e6 h) (λ_p hp=>qz h hp)
theorem lI (a b:List Part) (h:nL aL a<=2 ^ 40):az Tryz.prog 167 [.c (.s (a.map Part.row)),.c (.s (b.map Part.row))] (.one (.c (vb (a=b)) 1)):=na a b (e6 h) (λ_p hp=>qz h hp)
theorem cV {α:Type} {f:α->Nat}:∀ (a b:List α),cD f (a++b)=cD f a+cD f b
 | [],b=>by simp [cD]
 |x::a,b=>by simp only [List.cons_append,cD,cV a b];omega
theorem oz {α:Type} {f:α->Nat}:∀ (l:List α) (i:Nat) (h:i<l.length) (x:α),f x=f l[i]->cD f (l.set i x)=cD f l
 |a::l,0,_,x,hx=>by simp at hx;simp [cD,hx]
 | a :: l, i + 1, h, x, hx => by
   simp only [List.set_cons_succ,cD];rw [oz l i (by simpa using h) x (by simpa using hx)]
theorem jc {L:List Part} {P:List Int} {D:Int}:cD aL (aG L P D)=cD aL L+P.length:=by
 unfold aG;rw [cV,cV];by_cases hp:P=[]<;>by_cases hd:0<D<;>simp [hp,hd,cD,aL]
theorem qx {L:List Part} {n:Int}:cD aL (bz L n)=cD aL L:=by
 unfold bz
 split
 ·rename_i h
  split
  ·exact oz L _ (by omega) _ rfl
  ·rw [cV];simp [cD,aL]
 ·rename_i h
  have:L=[]:=List.eq_nil_of_length_eq_zero (by omega);subst this;simp [cD,aL]
theorem mz {o:List Part}:∀ (i:Nat),i<=o.length->cD aL (aT (o.take i)).1+(aT (o.take i)).2.1.length<=cD aL (o.take i)
 |0,_=>by simp [aT,cD]
 | i + 1, hi => by
   have ih:=mz (o:=o) i (by omega);have hlt:i<o.length:=by omega
   rw [cX hlt,<- List.take_append_getElem hlt,cV];generalize aT (o.take i)=s at ih;generalize o[i]=p;obtain ⟨L,P,D⟩:=s;simp only at ih;have hp:cD aL [p]=p.signs.length:=by simp [cD,aL]
   rw [hp];unfold co
   split
   ·simp;omega
   ·split
    ·simp;omega
    ·split
     ·simp only [qx,jc];simp;omega
     ·simp;omega
theorem qu (o:List Part):cD aL (normal o)<=cD aL o:=by
 have h:=mz (o:=o) o.length (by omega);rw [List.take_length] at h;unfold normal;rw [jc];exact h
theorem qv {o:List Part} (ho:∀ p∈o,aH p):(normal o).length<=3*o.length+2:=by
 have h:=(fL ho o.length (by omega)).l;rw [List.take_length] at h;have:=eh (aT o).1 (aT o).2.1 (aT o).2.2;unfold normal;omega
theorem j6 {o:List Part} (ho:∀ p∈o,aH p):cD aL o<=200*o.length:=by
 induction o with
 |nil=>simp [cD]
 | cons p o ih =>
   have h1:=(ho p (List.mem_cons_self ..)).bounds;have h2:=ih (λq hq=>ho q (List.mem_cons_of_mem _ hq));simp only [cD,aL,List.length_cons];omega
theorem oV {o:List Part} (ho:∀ p∈o,aH p):nL aL o<=201*o.length:=by
 have:=j6 ho;unfold nL;omega
theorem sG {o:List Part} (ho:∀ p∈o,aH p):nL aL (normal o)<=203*o.length+2:=by
 have h1:=qu o;have h2:=qv ho;have h3:=j6 ho;unfold nL;omega
theorem vc (o:List Part):nL aL (bg o)<=2 ^ 20:=by
 unfold bg
 split
 ·rename_i h
  have:=sG h.1.1;have:=h.1.2;omega
 ·simp [nL,cD]
def ba (o:List Part):Prop:=cr o/\bg o=o
theorem nf (o:List Part) (hl:nL aL o<=2 ^ 40):az Tryz.prog 123 [.c (.s (o.map Part.row))] (.one (.c (vb (ba o)) 1)):=by
 refine pci aq Tryz.func123 (λw0 base=>?_);simp;refine aa.pure (eR o hl) (by simp) ?_;by_cases h:cr o
 ·simp [h]
  refine aa.pure (gO o hl) (by simp) ?_;simp;intro H;refine aa.pure (lI (bg o) o (Nat.le_trans (vc o) (by decide))) (by simp) ?_;simp [ba,h]
 ·simp [h,ba]
def dV (t:List Int):Prop:=t.length<=200/\a8 t
theorem nz (t:List Int) (hl:t.length<=2 ^ 40):az Tryz.prog 83 [.c (.s (t.map bb))] (.one (.c (vb (dV t)) 1)):=by
 refine pci aq Tryz.func83 (λw0 base=>?_);by_cases h:t.length<=200
 ·have h':(t.length:Int)<=200:=by omega
  simp [h'];refine aa.pure (dz t hl) (by simp) ?_;simp [dV,h]
 ·have h':¬ (t.length:Int)<=200:=by omega
  simp [h',dV,h]
theorem m8 (t:List Int) (hl:t.length<=2 ^ 40):az Tryz.prog 76 [.c (.s (t.map bb))] (.one (.c (vb (dV t)) 1)):=by
 refine pci aq Tryz.func76 (λw0 base=>?_);simp;refine aa.pure (ep t hl) (by simp) ?_;have e:((t.length:Int)<=200)=(t.length<=200):=by simp;omega
 by_cases hg:a8 t
 ·simp [hg,dV,e]
 ·simp [hg,dV]
def psz (p:Part):Nat:=p.n.toNat+p.signs.length
def Dt (p:Part) (n:Nat):Part:=if p.kind=2 then ⟨p.kind,p.n,p.signs.take n⟩ else ⟨p.kind,n,p.signs⟩
def cI (p:Part) (n:Nat):Part:=if p.kind=2 then ⟨p.kind,p.n,p.signs.drop n⟩ else ⟨p.kind,p.n - n,p.signs⟩
theorem eg {p:Part} (h:aH p):(psz p:Int)=p.n+p.signs.length/\psz p<=200:=by
 have hb:=h.bounds;unfold psz;by_cases hk:p.kind=2
 ·have:=hb.2.2.2.2.1 hk
  omega
 ·have:=hb.2.2.2.2.2 hk
  rw [this];simp;omega
@[simp] theorem Cq {p:Part} {n:Nat}:(Dt p n).kind=p.kind:=by unfold Dt;split<;>rfl
@[simp] theorem Ay {p:Part} {n:Nat}:(cI p n).kind=p.kind:=by unfold cI;split<;>rfl
theorem u2 {p:Part} (h:aH p) {n:Nat} (hn:n<=psz p):aH (cI p n):=by
 have hp:=eg h;unfold cI;by_cases hk:p.kind=2
 ·rw [if_pos hk]
  rw [dZ hk] at h;refine .inr ⟨hk,h.1,?_,λm hm=>h.2.2 m (List.mem_of_mem_drop hm)⟩;simp;omega
 ·rw [if_neg hk]
  have hb:=h.bounds;have hk2:p.kind=1\/p.kind=3:=by omega
  have:=hb.2.2.2.2.2 hk;refine .inl ⟨hk2,?_,this⟩;rw [this] at hp;simp at hp;simp only;omega
theorem kl {p:Part} (h:aH p) {n:Nat} (hn:n<=psz p):psz (cI p n)=psz p - n:=by
 have hb:=h.bounds;unfold psz cI at *;by_cases hk:p.kind=2
 ·rw [if_pos hk]
  have:=hb.2.2.2.2.1 hk;simp only [this,List.length_drop] at hn ⊢;omega
 ·rw [if_neg hk]
  have:=hb.2.2.2.2.2 hk;simp only [this,List.length_nil] at hn ⊢;omega
theorem oN {p:Part} {m n:Nat}:cI (cI p m) n=cI p (m+n):=by
 unfold cI;by_cases hk:p.kind=2
 ·simp [hk,List.drop_drop]
 ·simp [hk]
  omega
theorem ql {p:Part}:cI p 0=p:=by unfold cI;split<;>simp
def nxt:List Part->List Part
 | []=>[]
 |p::l=>if psz p=0 then nxt l else p::l
def tsz:List Part->Nat
 | []=>0
 |p::l=>psz p+tsz l
def frs:List Part->Nat
 | []=>0
 |p::l=>(if p.kind=2 then 0 else psz p)+frs l
def tos:List Part->Nat
 | []=>0
 |p::l=>(if p.kind=3 then 0 else psz p)+tos l
theorem nK:∀ {o:List Part},(∀ p∈o,aH p)->(frs o:Int)=bM (fg 2) o
 | [],_=>rfl
 | p :: o, h => by
   have ih:=nK (λq hq=>h q (List.mem_cons_of_mem _ hq));have hp:=eg (h p (List.mem_cons_self ..));simp only [frs,bM,fg]
   split<;>simp<;>omega
theorem m3:∀ {o:List Part},(∀ p∈o,aH p)->(tos o:Int)=bM (fg 3) o
 | [],_=>rfl
 | p :: o, h => by
   have ih:=m3 (λq hq=>h q (List.mem_cons_of_mem _ hq));have hp:=eg (h p (List.mem_cons_self ..));simp only [tos,bM,fg]
   split<;>simp<;>omega
theorem vZ {o:List Part} (h:cr o):(frs o:Int)=cK o:=by
 rw [nK h.1.1,cS (λp hp=>Bz (h.1.1 p hp)),dX];unfold cK bk;rw [if_pos h.1]
theorem zC {o:List Part} (h:cr o):(tos o:Int)=iG o:=by
 rw [m3 h.1.1,cS (λp hp=>By (h.1.1 p hp)),dX];unfold iG bk;rw [if_pos h.1]
theorem tZ:∀ (o:List Part),tsz o<=frs o+tos o
 | []=>by simp [tsz]
 | p :: o => by
   have:=tZ o;simp only [tsz,frs,tos]
   split<;>split<;>omega
def cur (o:List Part) (i d:Nat):List Part:=
 match o.drop i with
 | []=>[]
 |p::l=>cI p d::l
theorem nX {o:List Part} {i d:Nat} (h:o.length<=i):cur o i d=[]:=by unfold cur;rw [List.drop_eq_nil_of_le h]
theorem kX {o:List Part} {i d:Nat} (h:i<o.length):cur o i d=cI o[i] d::o.drop (i+1):=by unfold cur;rw [List.drop_eq_getElem_cons h]
theorem wi {o:List Part} {i:Nat}:cur o i 0=o.drop i:=by
 unfold cur
 cases o.drop i with
 |nil=>rfl
 |cons p l=>simp [ql]
theorem wk {o:List Part} (ho:∀ p∈o,aH p) {i:Nat} (h:i<o.length):nxt (cur o i (psz o[i]))=nxt (cur o (i+1) 0):=by
 rw [kX h,wi];have:=kl (ho _ (List.getElem_mem h)) (Nat.le_refl _);simp [nxt,this]
theorem wj {o:List Part} (ho:∀ p∈o,aH p) {i d:Nat} (h:i<o.length) (hd:d<psz o[i]):nxt (cur o i d)=cur o i d:=by
 rw [kX h];have:=kl (ho _ (List.getElem_mem h)) (Nat.le_of_lt hd);have h2:¬ psz (cI o[i] d)=0:=by omega
 simp [nxt,h2]
theorem wl {o:List Part} {i d n:Nat} (h:i<o.length) {p:Part} {l:List Part} (hc:cur o i d=p::l):cI p n::l=cur o i (d+n):=by
 rw [kX h] at hc ⊢
 cases hc
 rw [oN]
set_option maxHeartbeats 1600000
theorem mG (p:Part) (h:aH p):az Tryz.prog 244 [.agg p.row] (.one (.c (vi (psz p)) 1)):=by
 refine pci aq Tryz.func244 (λw0 base=>?_);have hp:=eg h;have hb:=h.bounds;rw [hp.1];simp [Part.row];by_cases hk:p.kind=2
 ·have:=hb.2.2.2.2.1 hk
  simp [hk,this]
 ·have:=hb.2.2.2.2.2 hk
  simp [hk,this]
structure Cu (a:List Part) (i d:Nat) (X:List Part):Prop where
 ok:∀ p∈a,aH p
 le:i<=a.length
 v:∀ h:i<a.length,d<=psz a[i]
 z:i=a.length->d=0
 c:cur a i d=X
def hdK:List Part->Int
 | []=>0
 |p::_=>p.kind
structure CR (kx ky bx by_:Nat) (h0 h:AH) (a b:List Part) (i d j e:Nat) (X Y:List Part):Prop where
 ne:kx≠ky
 lx:kx<14000 - 16
 ly:ky<14000 - 16
 gx:AH.get h kx=.vars bx 253 [.ro (a.map Part.row),.v (.int .i64 i),.v (.int .i64 d)]
 gy:AH.get h ky=.vars by_ 253 [.ro (b.map Part.row),.v (.int .i64 j),.v (.int .i64 e)]
 o:∀ q,q≠kx->q≠ky->q<14000->AH.get h q=AH.get h0 q
 cx:Cu a i d X
 cy:Cu b j e Y
theorem Cu.bnd {a:List Part} {i d:Nat} {X:List Part} (h:Cu a i d X):d<=200:=by
 by_cases hlt:i<a.length
 ·have:=h.v hlt
  have:=(eg (h.ok _ (List.getElem_mem hlt))).2;omega
 ·have:=h.z (by have:=h.le;omega)
  omega
theorem sX {w0:World} {bF bG:Nat->Prop} {bl:Bool} {st:ASt} {dst:Option Nat} {K:ASt->Prop} {kx b i d:Nat} {a X:List Part} (_hk:kx<14000) (hl:a.length<=2 ^ 20) (cx:Cu a i d X)
 (g:st.h.get kx=.vars b 253 [.ro (a.map Part.row),.v (.int .i64 i),.v (.int .i64 d)])
 (hK:∀ h' i' d',Cu a i' d' (nxt X)->AH.get h' kx=.vars b 253 [.ro (a.map Part.row),.v (.int .i64 i'),.v (.int .i64 d')]->(∀ q,q≠kx->q<20000->AH.get h' q=st.h.get q)->aP ⟨st.n,st.kb,st.t,h'⟩ dst (.v (.int .i64 (hdK (nxt X)))) K) :
 aa ⟨Tryz.prog,tt,w0,⟨bF,bG,bl,λ_=>True⟩⟩ 220 [.p kx b 0] st dst K:=by
 refine inl aq Tryz.func220 20000 (λw1 F=>?_);simp;refine oq eok (λx:Nat×Nat=>Cu a x.1 x.2 (cur a x.1 x.2)/\nxt (cur a x.1 x.2)=nxt X) (λx=>⟨62,20000,[(0,.p kx b 0),(2,.v (.int .i64 0))],(kx,.vars b 253 [.ro (a.map Part.row),.v (.int .i64 x.1),.v (.int .i64 x.2)])::st.h⟩) (λx=>a.length - x.1) (i,d) ⟨⟨cx.ok,cx.le,cx.v,cx.z,rfl⟩,by rw [cx.c]⟩ (by simp [g]) (λx hx=>?_);obtain ⟨i,d⟩:=x;obtain ⟨hc,hn⟩:=hx;have hcl:=hc.le;have hb:=hc.bnd;simp only at hc hn hcl ⊢;simp;by_cases hlt:i<a.length
 ·have hp:=hc.ok _ (List.getElem_mem hlt)
  have hd:=hc.v hlt;have hps:=eg hp;refine aX.quiet eok mix (by kernel_rfl) ?_;simp [hlt];refine ⟨_,_,mG a[i] hp,by simp [Part.row],?_⟩;by_cases he:d=psz a[i]
  ·have e1:Go.IntKind.i64.wrap ((i:Int)+1)=((i+1:Nat):Int):=aB (by omega)
   simp [he,e1];refine ⟨i+1,0,⟨⟨hc.ok,by omega,λ_=>by omega,λ_=>rfl,rfl⟩,?_⟩,by omega,by omega,rfl⟩;rw [<- hn,he,wk hc.ok hlt]
  ·have he2:¬ (d:Int)=psz a[i]:=by omega
   have hne:¬ i=a.length:=by omega
   simp [he2];refine aX.quiet eok mix (by kernel_rfl) ?_;have hne2:¬ (i:Int)=a.length:=by omega
   simp [hne2];refine aX.quiet eok mix (by kernel_rfl) ?_;simp [hlt,Part.row];have hs:=wj hc.ok hlt (show d<psz a[i] by omega);rw [hs] at hn;have hk2:hdK (nxt X)=a[i].kind:=by rw [<- hn,kX hlt];simp [hdK]
   rw [hk2] at hK;refine hK _ i d ⟨hc.ok,hc.le,hc.v,hc.z,hn⟩ (by simp) (λq q1 q2=>by simp [q1])
 ·have hi:i=a.length:=by omega
  have hd:=hc.z hi;refine aX.quiet eok mix (by kernel_rfl) ?_;simp [hlt];refine aX.quiet eok mix (by kernel_rfl) ?_;simp [hi];have hn2:nxt X=[]:=by rw [<- hn,nX (by omega)];rfl
  rw [hn2] at hK;refine hK _ i d ⟨hc.ok,hc.le,hc.v,hc.z,nX (by omega)⟩ (by simp [hi]) (λq q1 q2=>by simp [q1])
theorem Cu.head {a:List Part} {i d:Nat} {p:Part} {l:List Part} (h:Cu a i d (p::l)):∃ hi:i<a.length,p=cI a[i] d/\l=a.drop (i+1)/\psz p=psz a[i] - d/\d<=psz a[i]/\p.kind=a[i].kind/\aH p:=by
 have hi:i<a.length:=by
  have:=h.le;rcases Nat.lt_or_ge i a.length with h1|h1
  ·exact h1
  ·have:=h.c
   rw [nX h1] at this
   cases this
 have hc:=h.c;rw [kX hi] at hc
 cases hc
 have hp:=h.ok _ (List.getElem_mem hi);exact ⟨hi,rfl,rfl,kl hp (h.v hi),h.v hi,by simp,u2 hp (h.v hi)⟩
theorem Cu.add {a:List Part} {i d n:Nat} {p:Part} {l:List Part} (h:Cu a i d (p::l)) (hn:n<=psz p):Cu a i (d+n) (cI p n::l):=by
 obtain ⟨hi,h1,h2,h3,h4,-,-⟩:=h.head;exact ⟨h.ok,h.le,λ_=>by omega,λhe=>by omega,(wl hi h.c).symm⟩
theorem sQ {w0:World} {bF bG:Nat->Prop} {bl:Bool} {st:ASt} {dst:Option Nat} {K:ASt->Prop} {kx b i d:Nat} {a l:List Part} {p:Part} (cx:Cu a i d (p::l))
 (g:st.h.get kx=.vars b 253 [.ro (a.map Part.row),.v (.int .i64 i),.v (.int .i64 d)])
 (hK:aP st dst (.v (.int .i64 (psz p))) K) :
 aa ⟨Tryz.prog,tt,w0,⟨bF,bG,bl,λ_=>True⟩⟩ 221 [.p kx b 0] st dst K:=by
 refine inl aq Tryz.func221 20000 (λw1 F=>?_);obtain ⟨hi,h1,h2,h3,h4,-,-⟩:=cx.head;have hp:=cx.ok _ (List.getElem_mem hi);have hps:=eg hp;simp;refine aX.quiet eok mix (by kernel_rfl) ?_;simp [g,hi];refine ⟨_,_,mG a[i] hp,by simp [Part.row],?_⟩;have e:Go.IntKind.i64.wrap ((psz a[i]:Int) - (d:Int))=(psz p:Int):=by rw [Go.IntWalk.i64_in _ (by omega)];omega
 simp [e];exact hK
theorem nY {w0:World} {bF bG:Nat->Prop} {bl:Bool} {st:ASt} {dst:Option Nat} {K:ASt->Prop} {kx b i d n:Nat} {a l:List Part} {p:Part} (_hk:kx<14000) (cx:Cu a i d (p::l)) (hk2:p.kind=2) (hn:n<=psz p)
 (g:st.h.get kx=.vars b 253 [.ro (a.map Part.row),.v (.int .i64 i),.v (.int .i64 d)])
 (hK:∀ h',Cu a i (d+n) (cI p n::l)->AH.get h' kx=.vars b 253 [.ro (a.map Part.row),.v (.int .i64 i),.v (.int .i64 ((d+n:Nat):Int))]->(∀ q,q≠kx->q<20000->AH.get h' q=st.h.get q)->aP ⟨st.n,st.kb,st.t,h'⟩ dst (.ro ((p.signs.take n).map bb)) K) :
 aa ⟨Tryz.prog,tt,w0,⟨bF,bG,bl,λ_=>True⟩⟩ 222 [.p kx b 0,.v (.int .i64 n)] st dst K:=by
 refine inl aq Tryz.func222 20000 (λw1 F=>?_);obtain ⟨hi,h1,h2,h3,h4,h5,-⟩:=cx.head;have hp:=cx.ok _ (List.getElem_mem hi);have hps:=eg hp;have hkk:a[i].kind=2:=by rw [<- h5];exact hk2
 have hn0:=hp.bounds.2.2.2.2.1 hkk;have hsz:psz a[i]=a[i].signs.length:=by omega
 have hs:p.signs=a[i].signs.drop d:=by rw [h1];simp [cI,hkk]
 have e:Go.IntKind.i64.wrap ((d:Int)+(n:Int))=((d+n:Nat):Int):=by rw [Go.IntWalk.i64_in _ (by omega)];omega
 have hle:d+n<=a[i].signs.length:=by omega
 have hv:cut (a[i].signs.map bb) d n=(p.signs.take n).map bb:=by
  unfold cut
  split
  ·rename_i hh
   rw [hs,hh.1];simp at hh;simp [hh.2]
  ·rw [hs,List.map_take,List.map_drop]
 obtain ⟨m,hm⟩:∃ m,d+n=m:=⟨_,rfl⟩;have e2:m - d=n:=by omega
 have hadd:=cx.add hn;rw [hm] at e hle hK hadd;simp;refine aX.quiet eok mix (by kernel_rfl) ?_;simp [g,hi,Part.row,e,e2,hv];simp only [List.map_take] at hK;refine ⟨hle,by omega,hK _ hadd ?_ (λq q1 q2=>?_)⟩
 ·simp
 ·simp [q1]
section
variable {w0:World} {bF bG:Nat->Prop} {bl:Bool} {st:ASt} {dst:Option Nat} {K:ASt->Prop} {kx ky bx by_ i d j e:Nat} {h0:AH} {a b X Y:List Part}
theorem CR.kind (R:CR kx ky bx by_ h0 st.h a b i d j e X Y) (hl:a.length<=2 ^ 20) (hK:∀ h' i' d',CR kx ky bx by_ h0 h' a b i' d' j e (nxt X) Y->aP ⟨st.n,st.kb,st.t,h'⟩ dst (.v (.int .i64 (hdK (nxt X)))) K) :
 aa ⟨Tryz.prog,tt,w0,⟨bF,bG,bl,λ_=>True⟩⟩ 220 [.p kx bx 0] st dst K:=by
 have:=R.lx;have:=R.ly;refine sX (by omega) hl R.cx R.gx (λh1 i1 d1 c1 g1 o1=>hK h1 i1 d1 ⟨R.ne,R.lx,R.ly,g1,by rw [o1 ky R.ne.symm (by omega)];exact R.gy,λq q1 q2 q3=>by rw [o1 q q1 (by omega)];exact R.o q q1 q2 q3,c1,R.cy⟩)
theorem CR.left {p:Part} {l:List Part} (R:CR kx ky bx by_ h0 st.h a b i d j e (p::l) Y) (hK:aP st dst (.v (.int .i64 (psz p))) K) :
 aa ⟨Tryz.prog,tt,w0,⟨bF,bG,bl,λ_=>True⟩⟩ 221 [.p kx bx 0] st dst K:=sQ R.cx R.gx hK
theorem CR.take {p:Part} {l:List Part} {n:Nat} (R:CR kx ky bx by_ h0 st.h a b i d j e (p::l) Y) (hk2:p.kind=2) (hn:n<=psz p) (hK:∀ h',CR kx ky bx by_ h0 h' a b i (d+n) j e (cI p n::l) Y->aP ⟨st.n,st.kb,st.t,h'⟩ dst (.ro ((p.signs.take n).map bb)) K) :
 aa ⟨Tryz.prog,tt,w0,⟨bF,bG,bl,λ_=>True⟩⟩ 222 [.p kx bx 0,.v (.int .i64 n)] st dst K:=by
 have:=R.lx;have:=R.ly;refine nY (by omega) R.cx hk2 hn R.gx (λh1 c1 g1 o1=>hK h1 ⟨R.ne,R.lx,R.ly,g1,by rw [o1 ky R.ne.symm (by omega)];exact R.gy,λq q1 q2 q3=>by rw [o1 q q1 (by omega)];exact R.o q q1 q2 q3,c1,R.cy⟩)
theorem CR.done {p:Part} {l:List Part} {n:Nat} (R:CR kx ky bx by_ h0 st.h a b i d j e (p::l) Y) (hn:n<=psz p):CR kx ky bx by_ ((kx,.vars bx 253 [.ro (a.map Part.row),.v (.int .i64 i),.v (.int .i64 ((d+n:Nat):Int))])::st.h) ((kx,.vars bx 253 [.ro (a.map Part.row),.v (.int .i64 i),.v (.int .i64 ((d+n:Nat):Int))])::st.h) a b i (d+n) j e (cI p n::l) Y:=
 ⟨R.ne,R.lx,R.ly,by simp,by rw [ax,if_neg R.ne.symm];exact R.gy,λ_ _ _ _=>rfl,R.cx.add hn,R.cy⟩
end
open Go.AM
set_option maxRecDepth 20000
set_option maxHeartbeats 1600000
def Rep.zero:Rep:=⟨0,0,0,[],false,[],[]⟩
theorem f3 {α β:Type} {f:α->β} {l:List α} {i:Nat} (h:i<l.length):List.take i (l.map f)++[f l[i]]=List.take (i+1) (l.map f):=by
 rw [List.take_add_one];simp [h]
def Call.zero:Call:=⟨0,⟨#[]⟩,0,0,0,[],[]⟩
def BF (t:List Int) (s:List Int×Int) (p:Part):List Int×Int:=
 if p.kind=1 then (s.1++(t.drop s.2.toNat).take p.n.toNat,s.2+p.n) else if p.kind=2 then (s.1++p.signs,s.2) else (s.1,s.2+p.n)
def Eb (o:List Part) (t:List Int):List Int×Int:=o.foldl (BF t) ([],0)
def D2 (o:List Part) (t:List Int):Prop:=cr o/\dV t/\cK o=t.length
open Classical in
noncomputable def apply (o:List Part) (t:List Int):List Int×Bool:=if D2 o t then ((Eb o t).1,true) else ([],false)
def df (s:ByteArray):Prop:=(1<=s.size/\s.size<=8)/\∀ (i:Nat) (h:i<s.size),97<=s[i].toNat/\s[i].toNat<=122
end Go.Proofs.YthckkpphnmmfdaaGreatDoor
