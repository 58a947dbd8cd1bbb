import Derived.Test.YtoldjebobgocpaaGreatNA
import Derived.Test.YtoldjebobgocpaaGreatMF
namespace Go.Proofs.YtoldjebobgocpaaGreat
open Go.AM
set_option maxRecDepth 20000
theorem aR (n lo hi:Int):ai Tryz.prog 112 [.c (vi n),.c (vi lo),.c (vi hi)] (.one (.c (vb (lo<=n/\n<=hi)) 1)):=by
 refine pci ae Tryz.func112 (λw0 base=>?_);by_cases h1:lo<=n<;>by_cases h2:n<=hi<;>simp [h1,h2]
theorem ba (n lo hi:Int):ai Tryz.prog 67 [.c (vi n),.c (vi lo),.c (vi hi)] (.one (.c (vb (lo<=n/\n<=hi)) 1)):=by
 refine pci ae Tryz.func67 (λw0 base=>?_);by_cases h1:lo<=n<;>by_cases h2:n<=hi<;>simp [h1,h2]
def gj (n:Int):Prop:=(0<=n/\n<=1114111)/\¬ (55296<=n/\n<=57343)
def ed (l:List Int):Prop:=∀ n∈l,gj n
theorem yf (n:Int):ai Tryz.prog 360 [.c (vi n)] (.one (.c (vb (gj n)) 1)):=by
 refine pci ae Tryz.func360 (λw0 base=>?_);simp;refine aa.pure (aR n 0 1114111) (by simp) ?_;by_cases h:0<=n/\n<=1114111
 ·simp [h]
  refine aa.pure (aR n 55296 57343) (by simp) ?_;by_cases h2:55296<=n/\n<=57343<;>simp [h2,gj,h]
  try (rw [iq];omega)
 ·have e:dc (0<=n/\n<=1114111)=false:=by rw [cj];exact h
  simp [gj,h]
theorem xE (n:Int):ai Tryz.prog 359 [.c (vi n)] (.one (.c (vb (gj n)) 1)):=by
 refine pci ae Tryz.func359 (λw0 base=>?_);simp;refine aa.pure (ba n 0 1114111) (by simp) ?_;by_cases h:0<=n/\n<=1114111
 ·simp [h]
  refine aa.pure (ba n 55296 57343) (by simp) ?_;by_cases h2:55296<=n/\n<=57343<;>simp [h2,gj,h]
  try (rw [iq];omega)
 ·have e:dc (0<=n/\n<=1114111)=false:=by rw [cj];exact h
  simp [gj,h]
theorem iY {α:Type} {P:α->Prop} {l:List α} {i:Nat} (h:i<l.length) (ha:∀ a∈l.take i,P a) (hi:P l[i]):∀ a∈l.take (i+1),P a:=by
 rw [<- List.take_append_getElem h];intro a ha';rcases List.mem_append.1 ha' with h1|h1
 ·exact ha a h1
 ·simp at h1;subst h1;exact hi
theorem kG {α:Type} {P:α->Prop} {l:List α} {i:Nat} (h:l.length<=i) (ha:∀ a∈l.take i,P a):∀ a∈l,P a:=by
 rwa [List.take_of_length_le h] at ha
theorem sV {α:Type} {P:α->Prop} {l:List α} {i:Nat} (h:i<l.length) (hi:¬ P l[i]):¬ ∀ a∈l,P a:=λha=>hi (ha _ (List.getElem_mem h))
theorem oJ (l:List Int) (hl:l.length<=2 ^ 40):ai Tryz.prog 298 [.c (.s (l.map ak))] (.one (.c (vb (ed l)) 1)):=by
 refine pci ae Tryz.func298 (λw0 base=>?_);simp;refine aq.intro eok (λi:Nat=>i<=l.length/\∀ n∈l.take i,gj n) (λi=>⟨15,0,[(7,.v (.int .i64 i)),(6,.v (.int .i64 l.length)),(5,.ro (l.map ak))],[]⟩) (λi=>l.length - i) 0 (by simp) (by simp) (λi hi=>?_);by_cases h:i<l.length
 ·simp [h]
  refine aa.pure (yf l[i]) (by simp) ?_;simp;refine Br.mk (λh1=>?_) (λh1=>?_)
  ·simp
   exact ⟨i+1,⟨by omega,iY h hi.2 (kU h1)⟩,by omega,ah (by omega)⟩
  ·simp [cj]
   exact sV h (oH h1)
 ·simp [h,iq]
  exact kG (by omega) hi.2
theorem oB (l:List Int) (hl:l.length<=2 ^ 40):ai Tryz.prog 295 [.c (.s (l.map ak))] (.one (.c (vb (ed l)) 1)):=by
 refine pci ae Tryz.func295 (λw0 base=>?_);simp;refine aq.intro eok (λi:Nat=>i<=l.length/\∀ n∈l.take i,gj n) (λi=>⟨15,0,[(7,.v (.int .i64 i)),(6,.v (.int .i64 l.length)),(5,.ro (l.map ak))],[]⟩) (λi=>l.length - i) 0 (by simp) (by simp) (λi hi=>?_);by_cases h:i<l.length
 ·simp [h]
  refine aa.pure (xE l[i]) (by simp) ?_;simp;refine Br.mk (λh1=>?_) (λh1=>?_)
  ·simp
   exact ⟨i+1,⟨by omega,iY h hi.2 (kU h1)⟩,by omega,ah (by omega)⟩
  ·simp [cj]
   exact sV h (oH h1)
 ·simp [h,iq]
  exact kG (by omega) hi.2
def ar (p:Part):Prop:=((p.kind=1\/p.kind=3)/\(0<=p.n/\p.n<=200)/\p.signs=[])\/(p.kind=2/\p.n=0/\p.signs.length<=200/\ed p.signs)
theorem rR {p:Part} (h:p.kind=1\/p.kind=3):ar p=((0<=p.n/\p.n<=200)/\p.signs=[]):=by
 have h2:¬ p.kind=2:=by omega
 simp [ar,h,h2]
theorem gC {p:Part} (h:p.kind=2):ar p=(p.n=0/\p.signs.length<=200/\ed p.signs):=by simp [ar,h]
theorem wB {p:Part} (h1:p.kind≠1) (h2:p.kind≠2) (h3:p.kind≠3):¬ ar p:=by simp [ar,h1,h2,h3]
theorem yk (p:Part) (hl:p.signs.length<=2 ^ 40):ai Tryz.prog 297 [.agg p.row] (.one (.c (vb (ar p)) 1)):=by
 refine pci ae Tryz.func297 (λw0 base=>?_);simp [Part.row];intros;by_cases h13:p.kind=1\/p.kind=3
 ·rw [rR h13]
  rcases h13 with h|h
  ·simp [h]
   refine aa.pure (aR p.n 0 200) (by simp) ?_;by_cases hn:0<=p.n/\p.n<=200
   ·simp [hn]
   ·have e:dc (0<=p.n/\p.n<=200)=false:=by rw [cj];exact hn
    simp [hn]
  ·simp [h]
   refine aa.pure (aR p.n 0 200) (by simp) ?_;by_cases hn:0<=p.n/\p.n<=200
   ·simp [hn]
   ·have e:dc (0<=p.n/\p.n<=200)=false:=by rw [cj];exact hn
    simp [hn]
 ·have h1:¬ p.kind=1:=λh=>h13 (.inl h)
  have h3:¬ p.kind=3:=λh=>h13 (.inr h)
  by_cases h2:p.kind=2
  ·rw [gC h2]
   simp [h2];by_cases hn:p.n=0
   ·by_cases hs:p.signs.length<=200
    ·have hs':(p.signs.length:Int)<=200:=by omega
     simp [hn,hs'];refine aa.pure (oJ p.signs hl) (by simp) ?_;simp [hs]
    ·have hs':¬ (p.signs.length:Int)<=200:=by omega
     simp [hn,hs',hs]
   ·simp [hn]
  ·simp [h1,h2,h3,wB]
theorem xG (p:Part) (hl:p.signs.length<=2 ^ 40):ai Tryz.prog 294 [.agg p.row] (.one (.c (vb (ar p)) 1)):=by
 refine pci ae Tryz.func294 (λw0 base=>?_);simp [Part.row];intros;by_cases h13:p.kind=1\/p.kind=3
 ·rw [rR h13]
  rcases h13 with h|h
  ·simp [h]
   refine aa.pure (ba p.n 0 200) (by simp) ?_;by_cases hn:0<=p.n/\p.n<=200
   ·simp [hn]
   ·have e:dc (0<=p.n/\p.n<=200)=false:=by rw [cj];exact hn
    simp [hn]
  ·simp [h]
   refine aa.pure (ba p.n 0 200) (by simp) ?_;by_cases hn:0<=p.n/\p.n<=200
   ·simp [hn]
   ·have e:dc (0<=p.n/\p.n<=200)=false:=by rw [cj];exact hn
    simp [hn]
 ·have h1:¬ p.kind=1:=λh=>h13 (.inl h)
  have h3:¬ p.kind=3:=λh=>h13 (.inr h)
  by_cases h2:p.kind=2
  ·rw [gC h2]
   simp [h2];by_cases hn:p.n=0
   ·simp [hn]
    refine aa.pure (oB p.signs hl) (by simp) ?_;have e:((p.signs.length:Int)<=200)=(p.signs.length<=200):=by simp;omega
    by_cases hg:ed p.signs
    ·simp [hg,e]
    ·simp [hg]
   ·simp [hn]
  ·simp [h1,h2,h3,wB]
def dj (o:List Part):Prop:=(∀ p∈o,ar p)/\o.length<=600
theorem kW (o:List Part) (hl:nL aH o<=2 ^ 40):ai Tryz.prog 213 [.c (.s (o.map Part.row))] (.one (.c (vb (dj o)) 1)):=by
 refine pci ae Tryz.func213 (λw0 base=>?_);have hle:=aB hl;simp;refine aq.intro eok (λi:Nat=>i<=o.length/\∀ p∈o.take i,ar p) (λi=>⟨18,0,[(7,.v (.int .i64 i)),(6,.v (.int .i64 o.length)),(5,.ro (o.map Part.row)),(0,.ro (o.map Part.row))],[]⟩) (λi=>o.length - i) 0 (by simp) (by simp) (λi hi=>?_);by_cases h:i<o.length
 ·simp [h,Part.row]
  intros;refine aa.pure (yk o[i] (dO hl h)) (by simp [Part.row]) ?_;simp;refine Br.mk (λh1=>?_) (λh1=>?_)
  ·simp
   exact ⟨i+1,⟨by omega,iY h hi.2 (kU h1)⟩,by omega,ah (by omega)⟩
  ·simp [cj]
   exact λhp=>sV h (oH h1) hp.1
 ·have ha:=kG (by omega) hi.2
  simp [h];refine uK ?_;unfold dj;exact ⟨λh=>by have:=h.2;omega,λh=>⟨ha,by omega⟩⟩
theorem kP (o:List Part) (hl:nL aH o<=2 ^ 40):ai Tryz.prog 208 [.c (.s (o.map Part.row))] (.one (.c (vb (dj o)) 1)):=by
 refine pci ae Tryz.func208 (λw0 base=>?_);have hle:=aB hl;simp;refine aq.intro eok (λi:Nat=>i<=o.length/\∀ p∈o.take i,ar p) (λi=>⟨18,0,[(7,.v (.int .i64 i)),(6,.v (.int .i64 o.length)),(5,.ro (o.map Part.row)),(0,.ro (o.map Part.row))],[]⟩) (λi=>o.length - i) 0 (by simp) (by simp) (λi hi=>?_);by_cases h:i<o.length
 ·simp [h,Part.row]
  intros;refine aa.pure (xG o[i] (dO hl h)) (by simp [Part.row]) ?_;simp;refine Br.mk (λh1=>?_) (λh1=>?_)
  ·simp
   exact ⟨i+1,⟨by omega,iY h hi.2 (kU h1)⟩,by omega,ah (by omega)⟩
  ·simp [cj]
   exact λhp=>sV h (oH h1) hp.1
 ·have ha:=kG (by omega) hi.2
  simp [h];refine uK ?_;unfold dj;exact ⟨λh=>by have:=h.2;omega,λh=>⟨ha,by omega⟩⟩
def cI (f:Part->Int):List Part->Int
 | []=>0
 |p::o=>f p+cI f o
theorem rL {f:Part->Int}:∀ (a b:List Part),cI f (a++b)=cI f a+cI f b
 | [],b=>by simp [cI]
 |p::a,b=>by simp only [List.cons_append,cI,rL a b];omega
theorem gn {f:Part->Int} {o:List Part} {i:Nat} (h:i<o.length):cI f (o.take (i+1))=cI f (o.take i)+f o[i]:=by
 rw [<- List.take_append_getElem h,rL];simp [cI]
theorem gB {f g:Part->Int}:∀ {o:List Part},(∀ p∈o,f p=g p)->cI f o=cI g o
 | [],_=>rfl
 | p :: o, h => by
   simp only [cI];rw [h p (List.mem_cons_self ..),gB (λq hq=>h q (List.mem_cons_of_mem _ hq))]
theorem jS {f g:Part->Int}:∀ (o:List Part),cI (λp=>f p+g p) o=cI f o+cI g o
 | []=>by simp [cI]
 |p::o=>by simp only [cI,jS o];omega
def fK (p:Part):Int:=if p.kind=1 then p.n else 0
def fP (p:Part):Int:=if p.kind=2 then p.signs.length else 0
def fD (p:Part):Int:=if p.kind=1 then 0 else if p.kind=2 then 0 else p.n
def mh (k:Int) (p:Part):Int:=if p.kind=k then 0 else p.n+p.signs.length
theorem ar.bounds {p:Part} (h:ar p):(p.kind=1\/p.kind=2\/p.kind=3)/\0<=p.n/\p.n<=200/\p.signs.length<=200/\(p.kind=2->p.n=0)/\(p.kind≠2->p.signs=[]):=by
 rcases h with ⟨h1,h2,h3⟩|⟨h1,h2,h3,h4⟩
 ·refine ⟨by omega,by omega,by omega,by simp [h3],by omega,λ_=>h3⟩
 ·refine ⟨by omega,by omega,by omega,h3,λ_=>h2,λh=>absurd h1 h⟩
theorem OS {p:Part} (h:ar p):mh 2 p=fK p+fD p:=by
 obtain ⟨h1,h2,h3,h4,h5,h6⟩:=h.bounds;unfold mh fK fD;by_cases k2:p.kind=2
 ·simp [k2]
 ·by_cases k1:p.kind=1<;>simp [k1,k2,h6 k2]
theorem OR {p:Part} (h:ar p):mh 3 p=fK p+fP p:=by
 obtain ⟨h1,h2,h3,h4,h5,h6⟩:=h.bounds;unfold mh fK fP;rcases h1 with k|k|k
 ·simp [k,h6 (by omega)]
 ·simp [k,h5 k]
 ·simp [k]
theorem ez {f:Part->Int} {B:Int} (hf:∀ p,ar p->0<=f p/\f p<=B):∀ {o:List Part},(∀ p∈o,ar p)->0<=cI f o/\cI f o<=B*o.length
 | [],_=>by simp [cI]
 | p :: o, h => by
   have h1:=hf p (h p (List.mem_cons_self ..));have h2:=ez hf (o:=o) (λq hq=>h q (List.mem_cons_of_mem _ hq));simp only [cI,List.length_cons];rw [show B*((o.length+1:Nat):Int)=B*o.length+B by rw [Int.natCast_add];simp [Int.mul_add]];omega
theorem IS {p:Part} (h:ar p):0<=fK p/\fK p<=200:=by have:=h.bounds;unfold fK;split<;>omega
theorem RP {p:Part} (h:ar p):0<=fP p/\fP p<=200:=by have:=h.bounds;unfold fP;split<;>omega
theorem IV {p:Part} (h:ar p):0<=fD p/\fD p<=200:=by have:=h.bounds;unfold fD;split<;>(try split)<;>omega
theorem OK {k:Int} {p:Part} (h:ar p):0<=mh k p/\mh k p<=400:=by have:=h.bounds;unfold mh;split<;>omega
theorem nG {o:List Part} (h:∀ p∈o,ar p) (i:Nat):∀ p∈o.take i,ar p:=λp hp=>h p (List.mem_of_mem_take hp)
theorem NL (p:Part) (hp:ar p):ai Tryz.prog 328 [.agg p.row] (.one (.c (vi (p.n+p.signs.length)) 1)):=by
 refine pci ae Tryz.func328 (λw0 base=>?_);have:=hp.bounds;have e:Go.IntKind.i64.wrap (p.n+(p.signs.length:Int))=p.n+p.signs.length:=Go.IntWalk.i64_in _ (by omega);simp [Part.row,e]
open Classical in
noncomputable def sizeOf (o:List Part) (k:Int):Int:=if dj o then cI (mh k) o else 0
theorem p7 (o:List Part) (hl:nL aH o<=2 ^ 40) (k:Int):ai Tryz.prog 331 [.c (.s (o.map Part.row)),.c (vi k)] (.one (.c (vi (sizeOf o k)) 1)):=by
 refine pci ae Tryz.func331 (λw0 base=>?_);have hle:=aB hl;simp;refine aa.pure (kW o hl) (by simp) ?_;by_cases ho:dj o
 ·have hr:sizeOf o k=cI (mh k) o:=by unfold sizeOf;rw [if_pos ho]
  simp [ho,hr];refine aq.intro eok (λi:Nat=>i<=o.length) (λi=>⟨27,0,[(13,.v (.int .i64 i)),(12,.v (.int .i64 o.length)),(11,.ro (o.map Part.row)),(5,.v (.int .i64 (cI (mh k) (o.take i)))),(1,.v (.int .i64 k))],[]⟩) (λi=>o.length - i) 0 (by simp) (by simp [cI]) (λi hi=>?_);by_cases h:i<o.length
  ·have hp:=ho.1 _ (List.getElem_mem h)
   have hb:=ez (f:=mh k) (λp h=>OK h) (nG ho.1 i);have hb2:=hp.bounds;have hlen:=ho.2;have hlt:(o.take i).length<=600:=by simp;omega
   have hs:=gn (f:=mh k) h;obtain ⟨q,hq⟩:∃ q,cI (mh k) (o.take i)=q:=⟨_,rfl⟩;have e:Go.IntKind.i64.wrap ((i:Int)+1)=((i+1:Nat):Int):=ah (by omega);rw [hq] at hs hb;simp [h,Part.row,hq];intros;by_cases hk:o[i].kind=k
   ·simp [hk]
    refine ⟨i+1,by omega,by omega,e,?_⟩;rw [hs];simp [mh,hk]
   ·simp [hk]
    refine aa.pure (NL o[i] hp) (by simp [Part.row]) ?_;have e2:Go.IntKind.i64.wrap (q+(o[i].n+(o[i].signs.length:Int)))=q+(o[i].n+o[i].signs.length):=Go.IntWalk.i64_in _ (by omega);simp [e2];refine ⟨i+1,by omega,by omega,e,?_⟩;rw [hs];simp [mh,hk]
  ·simp [h]
   rw [List.take_of_length_le (by omega)]
 ·have e:dc (dj o)=false:=by rw [cj];exact ho
  have hr:sizeOf o k=0:=by unfold sizeOf;rw [if_neg ho]
  simp [e,hr]
open Classical in
noncomputable def cP (o:List Part):Int×Int×Int:=if dj o then (cI fK o,cI fP o,cI fD o) else (0,0,0)
theorem Al (o:List Part) (hl:nL aH o<=2 ^ 40):ai Tryz.prog 325 [.c (.s (o.map Part.row))] (.tup [.c (vi (cP o).1) 1,.c (vi (cP o).2.1) 1,.c (vi (cP o).2.2) 1]):=by
 refine pci ae Tryz.func325 (λw0 base=>?_);have hle:=aB hl;simp;refine aa.pure (kP o hl) (by simp) ?_;by_cases ho:dj o
 ·have hr:cP o=(cI fK o,cI fP o,cI fD o):=by unfold cP;rw [if_pos ho]
  simp [ho,hr];refine aq.intro eok (λi:Nat=>i<=o.length) (λi=>⟨42,0,[(15,.v (.int .i64 i)),(14,.v (.int .i64 o.length)),(13,.ro (o.map Part.row)),(5,.v (.int .i64 (cI fK (o.take i)))),(6,.v (.int .i64 (cI fP (o.take i)))),(7,.v (.int .i64 (cI fD (o.take i))))],[]⟩) (λi=>o.length - i) 0 (by simp) (by simp [cI]) (λi hi=>?_);by_cases h:i<o.length
  ·have hp:=ho.1 _ (List.getElem_mem h)
   have hb1:=ez (f:=fK) (λp h=>IS h) (nG ho.1 i);have hb2:=ez (f:=fP) (λp h=>RP h) (nG ho.1 i);have hb3:=ez (f:=fD) (λp h=>IV h) (nG ho.1 i);have hpb:=hp.bounds;have hlen:=ho.2;have hlt:(o.take i).length<=600:=by simp;omega
   have hs1:=gn (f:=fK) h;have hs2:=gn (f:=fP) h;have hs3:=gn (f:=fD) h;obtain ⟨q1,hq1⟩:∃ q,cI fK (o.take i)=q:=⟨_,rfl⟩;obtain ⟨q2,hq2⟩:∃ q,cI fP (o.take i)=q:=⟨_,rfl⟩;obtain ⟨q3,hq3⟩:∃ q,cI fD (o.take i)=q:=⟨_,rfl⟩;have e:Go.IntKind.i64.wrap ((i:Int)+1)=((i+1:Nat):Int):=ah (by omega);rw [hq1] at hs1 hb1;rw [hq2] at hs2 hb2;rw [hq3] at hs3 hb3;simp [h,Part.row,hq1,hq2,hq3];intros;have e1:Go.IntKind.i64.wrap (q1+o[i].n)=q1+o[i].n:=Go.IntWalk.i64_in _ (by omega);have e2:Go.IntKind.i64.wrap (q2+(o[i].signs.length:Int))=q2+o[i].signs.length:=Go.IntWalk.i64_in _ (by omega);have e3:Go.IntKind.i64.wrap (q3+o[i].n)=q3+o[i].n:=Go.IntWalk.i64_in _ (by omega);by_cases k1:o[i].kind=1
   ·simp [k1,e1]
    refine ⟨i+1,by omega,by omega,e,?_,?_,?_⟩
    ·rw [hs1];simp [fK,k1]
    ·rw [hs2];simp [fP,k1]
    ·rw [hs3];simp [fD,k1]
   ·by_cases k2:o[i].kind=2
    ·simp [k2,e2]
     refine ⟨i+1,by omega,by omega,e,?_,?_,?_⟩
     ·rw [hs1];simp [fK,k2]
     ·rw [hs2];simp [fP,k2]
     ·rw [hs3];simp [fD,k2]
    ·simp [k1,k2,e3]
     refine ⟨i+1,by omega,by omega,e,?_,?_,?_⟩
     ·rw [hs1];simp [fK,k1]
     ·rw [hs2];simp [fP,k2]
     ·rw [hs3];simp [fD,k1,k2]
  ·simp [h]
   rw [List.take_of_length_le (by omega)];simp
 ·have e:dc (dj o)=false:=by rw [cj];exact ho
  have hr:cP o=(0,0,0):=by unfold cP;rw [if_neg ho]
  simp [e,hr]
noncomputable def bH (o:List Part):Int:=(cP o).1+(cP o).2.2
noncomputable def kt (o:List Part):Int:=(cP o).1+(cP o).2.1
theorem zY (o:List Part):sizeOf o 2=bH o:=by
 unfold sizeOf bH cP
 split
 ·rename_i h
  show _=cI fK o+cI fD o
  rw [<- jS];exact gB (λp hp=>OS (h.1 p hp))
 ·rfl
theorem Ex (o:List Part):sizeOf o 3=kt o:=by
 unfold sizeOf kt cP
 split
 ·rename_i h
  show _=cI fK o+cI fP o
  rw [<- jS];exact gB (λp hp=>OR (h.1 p hp))
 ·rfl
theorem Am (o:List Part):(0<=(cP o).1/\(cP o).1<=120000)/\(0<=(cP o).2.1/\(cP o).2.1<=120000)/\0<=(cP o).2.2/\(cP o).2.2<=120000:=by
 unfold cP
 split
 ·rename_i h
  have h1:=ez (f:=fK) (λp h=>IS h) h.1;have h2:=ez (f:=fP) (λp h=>RP h) h.1;have h3:=ez (f:=fD) (λp h=>IV h) h.1;have h4:=h.2;simp only;omega
 ·simp
theorem im (o:List Part) (hl:nL aH o<=2 ^ 40):ai Tryz.prog 253 [.c (.s (o.map Part.row))] (.one (.c (vi (bH o)) 1)):=by
 refine pci ae Tryz.func253 (λw0 base=>?_);simp;refine aa.pure (p7 o hl 2) (by simp) ?_;simp [zY]
theorem Cp (o:List Part) (hl:nL aH o<=2 ^ 40):ai Tryz.prog 245 [.c (.s (o.map Part.row))] (.one (.c (vi (kt o)) 1)):=by
 refine pci ae Tryz.func245 (λw0 base=>?_);simp;refine aa.pure (p7 o hl 3) (by simp) ?_;simp [Ex]
theorem hU (o:List Part) (hl:nL aH o<=2 ^ 40):ai Tryz.prog 387 [.c (.s (o.map Part.row))] (.one (.c (vi (bH o)) 1)):=by
 refine pci ae Tryz.func387 (λw0 base=>?_);simp;refine aa.pure (Al o hl) (by simp) ?_;have:=Am o;have e:Go.IntKind.i64.wrap ((cP o).1+(cP o).2.2)=bH o:=Go.IntWalk.i64_in _ (by omega);simp [e]
theorem Bx (o:List Part) (hl:nL aH o<=2 ^ 40):ai Tryz.prog 240 [.c (.s (o.map Part.row))] (.one (.c (vi (kt o)) 1)):=by
 refine pci ae Tryz.func240 (λw0 base=>?_);simp;refine aa.pure (Al o hl) (by simp) ?_;have:=Am o;have e:Go.IntKind.i64.wrap ((cP o).1+(cP o).2.1)=kt o:=Go.IntWalk.i64_in _ (by omega);simp [e]
def bR (o:List Part):Prop:=dj o/\bH o<=200/\kt o<=200
theorem eE (o:List Part) (hl:nL aH o<=2 ^ 40):ai Tryz.prog 255 [.c (.s (o.map Part.row))] (.one (.c (vb (bR o)) 1)):=by
 refine pci ae Tryz.func255 (λw0 base=>?_);simp;refine aa.pure (kW o hl) (by simp) ?_;by_cases h:dj o
 ·simp [h]
  refine aa.pure (im o hl) (by simp) ?_;by_cases h1:bH o<=200
  ·simp [h1]
   refine aa.pure (Cp o hl) (by simp) ?_;simp [bR,h,h1]
  ·simp [h1,bR,h]
 ·simp [h,bR]
theorem eA (o:List Part) (hl:nL aH o<=2 ^ 40):ai Tryz.prog 382 [.c (.s (o.map Part.row))] (.one (.c (vb (bR o)) 1)):=by
 refine pci ae Tryz.func382 (λw0 base=>?_);simp;refine aa.pure (kP o hl) (by simp) ?_;by_cases h:dj o
 ·simp [h]
  refine aa.pure (hU o hl) (by simp) ?_;by_cases h1:bH o<=200
  ·simp [h1]
   refine aa.pure (Bx o hl) (by simp) ?_;simp [bR,h,h1]
  ·simp [h1,bR,h]
 ·simp [h,bR]
def aM (L:List Part) (P:List Int) (D:Int):List Part:=L++((if P=[] then [] else [⟨2,0,P⟩])++(if 0<D then [⟨3,D,[]⟩] else []))
def bW (L:List Part) (n:Int):List Part:=
 if h:0<L.length then
  if (L[L.length - 1]'(by omega)).kind=1 then L.set (L.length - 1) ⟨1,(L[L.length - 1]'(by omega)).n+n,(L[L.length - 1]'(by omega)).signs⟩ else L++[⟨1,n,[]⟩]
 else [⟨1,n,[]⟩]
def dF (s:List Part×List Int×Int) (p:Part):List Part×List Int×Int:=
 if p.kind=2 then (s.1,s.2.1++p.signs,s.2.2)
 else if p.kind=3 then (s.1,s.2.1,s.2.2+p.n)
 else if 0<p.n then (bW (aM s.1 s.2.1 s.2.2) p.n,[],0) else s
def be (o:List Part):List Part×List Int×Int:=o.foldl dF ([],[],0)
def normal (o:List Part):List Part:=aM (be o).1 (be o).2.1 (be o).2.2
theorem gL {o:List Part} {i:Nat} (h:i<o.length):be (o.take (i+1))=dF (be (o.take i)) o[i]:=by
 unfold be;rw [<- List.take_append_getElem h,List.foldl_append];rfl
structure NbOk (m:Nat) (s:List Part×List Int×Int):Prop where
 l:s.1.length<=3*m
 p:s.2.1.length<=200*m
 d0:0<=s.2.2
 d:s.2.2<=200*m
 q:∀ q∈s.1,0<=q.n/\q.n<=200*m
theorem gN (L:List Part) (P:List Int) (D:Int):(aM L P D).length<=L.length+2:=by
 unfold aM
 split<;>split<;>simp
theorem gM {L:List Part} {P:List Int} {D B:Int} (h0:0<=D) (hD:D<=B) (hL:∀ q∈L,0<=q.n/\q.n<=B):∀ q∈aM L P D,0<=q.n/\q.n<=B:=by
 intro q hq;unfold aM at hq;simp only [List.mem_append] at hq;rcases hq with hq|hq|hq
 ·exact hL q hq
 ·split at hq
  ·simp at hq
  ·simp at hq;subst hq;simp;omega
 ·split at hq
  ·simp at hq;subst hq;simp;omega
  ·simp at hq
theorem lz {o:List Part} (ho:∀ p∈o,ar p):∀ (i:Nat),i<=o.length->NbOk i (be (o.take i))
 | 0, _ => by
   simp [be];exact ⟨by simp,by simp,by simp,by simp,by simp⟩
 | i + 1, hi => by
   have ih:=lz ho i (by omega);have hlt:i<o.length:=by omega
   rw [gL hlt];have hp:=(ho _ (List.getElem_mem hlt)).bounds;generalize be (o.take i)=s at ih;generalize o[i]=p at hp;obtain ⟨L,P,D⟩:=s;obtain ⟨h1,h2,h3,h4,h5⟩:=ih;simp only at h1 h2 h3 h4 h5;have w:∀ q∈L,0<=q.n/\q.n<=200*((i+1:Nat):Int):=λq hq=>by have:=h5 q hq;omega
   unfold dF
   split
   ·exact ⟨by simp;omega,by simp;omega,h3,by simp;omega,w⟩
   ·split
    ·exact ⟨by simp;omega,by simp;omega,by simp;omega,by simp;omega,w⟩
    ·split
     ·have f1:=gN L P D
      have f2:=gM (P:=P) h3 h4 h5;refine ⟨?_,by simp,by simp,by simp;omega,?_⟩
      ·simp only [bW]
       split
       ·split<;>simp<;>omega
       ·simp;omega
      ·simp only [bW]
       intro q hq
       split at hq
       ·split at hq
        ·rcases List.mem_or_eq_of_mem_set hq with hq|rfl
         ·have:=f2 q hq;omega
         ·have:=f2 _ (List.getElem_mem (show (aM L P D).length - 1<(aM L P D).length by omega))
          simp only;omega
        ·rcases List.mem_append.1 hq with hq|hq
         ·have:=f2 q hq;omega
         ·simp at hq;subst hq;simp;omega
       ·simp at hq;subst hq;simp;omega
     ·exact ⟨by simp;omega,by simp;omega,h3,by simp;omega,w⟩
theorem rk {L:List Part} {P:List Int} {D:Int} (hP:¬ P=[]) (hD:0<D):aM L P D=L++[⟨2,0,P⟩]++[⟨3,D,[]⟩]:=by simp [aM,hP,hD]
theorem rj {L:List Part} {P:List Int} {D:Int} (hP:¬ P=[]) (hD:¬ 0<D):aM L P D=L++[⟨2,0,P⟩]:=by simp [aM,hP,hD]
theorem ri {L:List Part} {P:List Int} {D:Int} (hP:P=[]) (hD:0<D):aM L P D=L++[⟨3,D,[]⟩]:=by simp [aM,hP,hD]
theorem rh {L:List Part} {P:List Int} {D:Int} (hP:P=[]) (hD:¬ 0<D):aM L P D=L:=by simp [aM,hP,hD]
theorem m8 {w0:World} {bF bG:Nat->Prop} {bl:Bool} {st:ASt} {dst:Option Nat} {K:ASt->Prop} {L:List Part} {P:List Int} {D:Int} {b3 b4 b5:Nat} {Hl Hp:Hd} (hL:L.length<=2 ^ 20) (_hP:P.length<=2 ^ 40)
 (g48:st.h.get 48=.vars b3 63 [.sl 5000 Hl 3 0 L.length]) (g64:st.h.get 64=.vars b4 26 [.sl 5001 Hp 1 0 P.length]) (g80:st.h.get 80=.vars b5 3 [.v (.int .i64 D)])
 (g5000:st.h.get 5000=.rows Hl 3 (L.map Part.row) true) (g5001:st.h.get 5001=.rows Hp 1 (P.map ak) true)
 (hK:∀ Hl' h',AH.get h' 48=.vars b3 63 [.sl 5000 Hl' 3 0 (aM L P D).length] -> AH.get h' 5000=.rows Hl' 3 ((aM L P D).map Part.row) true -> AH.get h' 64=.vars b4 26 [.nil] -> AH.get h' 80=.vars b5 3 [.v (.int .i64 0)] ->
  AH.get h' 128=st.h.get 128->aW ⟨st.n,st.kb,st.t,h'⟩ dst (.tup []) K):aa ⟨Tryz.prog,tt,w0,⟨bF,bG,bl,λ_=>True⟩⟩ 374 [.p 64 b4 0,.p 48 b3 0,.p 80 b5 0] st dst K:=by
 refine inl ae Tryz.func374 20000 (λw1 F=>?_);simp [g64];by_cases hp:P=[]
 ·have hp0:¬ 0<P.length:=by simp [hp]
  simp [hp0,g80];by_cases hd:0<D
  ·simp [hd,g48,g5000,g80,g64]
   intro b;refine ⟨by omega,λH=>hK H _ ?_ ?_ ?_ ?_ ?_⟩<;>simp [ri hp hd,Part.row]
  ·simp [hd,g80,g64]
   refine hK Hl _ ?_ ?_ ?_ ?_ ?_<;>simp [rh hp hd,g48,g5000]
 ·have hp0:0<P.length:=List.length_pos_iff.2 hp
  simp [hp0,g80,g48,g5000,g5001,g64];intro b;refine ⟨by omega,λH=>?_⟩;by_cases hd:0<D
  ·simp [hd,g80,g64]
   intro b2;refine ⟨by omega,λH2=>hK H2 _ ?_ ?_ ?_ ?_ ?_⟩<;>simp [rk hp hd,Part.row]
  ·simp [hd,g80,g64]
   refine hK H _ ?_ ?_ ?_ ?_ ?_<;>simp [rj hp hd,Part.row]
theorem iG {F:List Part} {m:Nat} (h:m<F.length) {g:List CD->List CD} {p:Part} (hg:g F[m].row=p.row):(F.map Part.row).modify m g=(F.set m p).map Part.row:=by
 apply List.ext_getElem?
 intro j;rw [List.getElem?_modify];simp only [List.getElem?_map,List.getElem?_set];by_cases hj:m=j
 ·subst hj
  simp [h,hg]
 ·simp [hj]
theorem tV (o:List Part) (ho:∀ p∈o,ar p) (hl:o.length<=10000):ai Tryz.prog 330 [.c (.s (o.map Part.row))] (.one (.c (.s ((normal o).map Part.row)) 3)):=by
 refine pci ae Tryz.func330 (λw0 base=>?_);simp;intro b3 b4 b5
 refine ag eok (λx:Nat×Hd×Hd=>x.1<=o.length) (λx=>⟨73,0,[(13,.v (.int .i64 x.1)),(12,.v (.int .i64 o.length)),(11,.ro (o.map Part.row)),(3,.p 48 b3 0),(4,.p 64 b4 0),(5,.p 80 b5 0),(6,.clo 374 [.p 64 b4 0,.p 48 b3 0,.p 80 b5 0])],
  [(48, .vars b3 63 [.sl 5000 x.2.1 3 0 (be (o.take x.1)).1.length]), (64, .vars b4 26 [.sl 5001 x.2.2 1 0 (be (o.take x.1)).2.1.length]), (80, .vars b5 3 [.v (.int .i64 (be (o.take x.1)).2.2)]),
   (5000,.rows x.2.1 3 ((be (o.take x.1)).1.map Part.row) true),(5001,.rows x.2.2 1 ((be (o.take x.1)).2.1.map ak) true)]⟩) (λx=>o.length - x.1) (0,none,none) (by simp) (by simp [be]) (λx hx=>Ent.refl ?_)
 obtain ⟨i,Hl,Hp⟩:=x;simp only at hx ⊢;have hok:=lz ho i hx;by_cases h:i<o.length
 ·have hs:=gL h
  have hpb:=(ho _ (List.getElem_mem h)).bounds;generalize be (o.take i)=s at hok hs;obtain ⟨L,P,D⟩:=s;obtain ⟨k1,k2,k3,k4,k5⟩:=hok;simp only at k1 k2 k3 k4 k5;have e:Go.IntKind.i64.wrap ((i:Int)+1)=((i+1:Nat):Int):=ah (by omega);simp [h,Part.row];intro b8;by_cases c2:o[i].kind=2
  ·simp [c2]
   refine ⟨by omega,λH=>?_⟩;refine Ent.refl ⟨i+1,by omega,by omega,Hl,H,?_⟩;rw [hs];simp [dF,c2,e]
  ·by_cases c3:o[i].kind=3
   ·have e3:Go.IntKind.i64.wrap (D+o[i].n)=D+o[i].n:=Go.IntWalk.i64_in _ (by omega)
    simp [c3,e3];refine Ent.refl ⟨i+1,by omega,by omega,Hl,Hp,?_⟩;rw [hs];simp [dF,c3,e]
   ·by_cases cn:0<o[i].n
    ·simp [c2,c3,cn]
     refine m8 (L:=L) (P:=P) (D:=D) (Hl:=Hl) (Hp:=Hp) (by omega) (by omega) (by simp) (by simp) (by simp) (by simp) (by simp) (λHl' h' g48 g5000 g64 g80 g128=>?_);have f1:=gN L P D;have f2:=gM (P:=P) k3 k4 k5;have hstep:dF (L,P,D) o[i]=(bW (aM L P D) o[i].n,[],0):=by simp [dF,c2,c3,cn]
     rw [hstep] at hs;generalize aM L P D=F at f1 f2 g48 g5000 hs;simp at g128;by_cases hF:0<F.length
     ·obtain ⟨m,hm⟩:∃ m,F.length=m+1:=⟨F.length - 1,by omega⟩
      have hmlt:m<F.length:=by omega
      have em:Go.IntKind.i64.wrap (m:Int)=m:=eJ (by omega)
      have hk:bW F o[i].n=if F[m].kind=1 then F.set m ⟨1,F[m].n+o[i].n,F[m].signs⟩ else F++[⟨1,o[i].n,[]⟩]:=by
       have e0:F.length - 1=m:=by omega
       simp [bW,hF,e0]
      have hq:=f2 _ (List.getElem_mem hmlt);simp [g48,g5000,hm,em,Part.row];by_cases ck:F[m].kind=1
      ·rw [if_pos ck] at hk
       have em2:Go.IntKind.i64.wrap (F[m].n+o[i].n)=F[m].n+o[i].n:=Go.IntWalk.i64_in _ (by omega);have hmm:(m:Int)<m+1:=by omega
       simp [ck,hmm];refine drw eok mix [0,1,2,3,4,5,6,7,8,9,10] [11] (.c 11 11 2045 2 (.l 11 2) .s) ?_;simp [g48,g5000,g128,hm,em,Part.row,ck,em2,hmm];refine Ent.kill 5001 (Ent.refl ⟨i+1,by omega,by omega,Hl',none,?_⟩);rw [hs,hk];have hmod:=iG (F:=F) (m:=m) hmlt (g:=λrow=>eR row 1 [CD.v (Value.int IntKind.i64 (F[m].n+o[i].n))]) (p:=⟨1,F[m].n+o[i].n,F[m].signs⟩) (by simp [Part.row,ck]);simp [e,g48,g64,g80,hm,hmod]
      ·rw [if_neg ck] at hk
       simp [ck,g48,g5000,g128,hm];refine ⟨by omega,λb=>⟨by omega,λH=>?_⟩⟩;refine Ent.kill 5001 (Ent.refl ⟨i+1,by omega,by omega,H,none,?_⟩);rw [hs,hk];simp [e,Part.row,g64,g80,hm]
     ·have hF0:F=[]:=List.eq_nil_of_length_eq_zero (by omega)
      subst hF0;have hk:bW [] o[i].n=[⟨1,o[i].n,[]⟩]:=by simp [bW]
      simp [g48,g5000,g128];intro b H;refine Ent.kill 5001 (Ent.refl ⟨i+1,by omega,by omega,H,none,?_⟩);rw [hs,hk];simp [e,Part.row,g64,g80]
    ·simp [c2,c3,cn]
     refine Ent.refl ⟨i+1,by omega,by omega,Hl,Hp,?_⟩;rw [hs];simp [dF,c2,c3,cn,e]
 ·have he:o.take i=o:=List.take_of_length_le (by omega)
  rw [he] at hok ⊢;have hn:normal o=aM (be o).1 (be o).2.1 (be o).2.2:=rfl;rw [hn];generalize be o=s at hok;obtain ⟨L,P,D⟩:=s;obtain ⟨k1,k2,k3,k4,k5⟩:=hok;simp only at k1 k2 k3 k4 k5;simp [h];refine m8 (L:=L) (P:=P) (D:=D) (Hl:=Hl) (Hp:=Hp) (by omega) (by omega) (by simp) (by simp) (by simp) (by simp) (by simp) (λHl' h' g48 g5000 g64 g80 g128=>?_);simp [g48,g5000]
theorem mN {w0:World} {bF bG:Nat->Prop} {bl:Bool} {st:ASt} {dst:Option Nat} {K:ASt->Prop} {L:List Part} {P:List Int} {D:Int} {b:Nat} {Hl Hp:Hd} (hL:L.length<=2 ^ 20) (_hP:P.length<=2 ^ 40)
 (g160:st.h.get 160=.vars b 363 [.sl 5000 Hl 3 0 L.length,.sl 5001 Hp 1 0 P.length,.v (.int .i64 D)])
 (g5000:st.h.get 5000=.rows Hl 3 (L.map Part.row) true) (g5001:st.h.get 5001=.rows Hp 1 (P.map ak) true)
 (hK:∀ Hl' h',AH.get h' 160=.vars b 363 [.sl 5000 Hl' 3 0 (aM L P D).length,.nil,.v (.int .i64 0)] -> AH.get h' 5000=.rows Hl' 3 ((aM L P D).map Part.row) true ->
  AH.get h' 80=st.h.get 80->aW ⟨st.n,st.kb,st.t,h'⟩ dst (.tup []) K):aa ⟨Tryz.prog,tt,w0,⟨bF,bG,bl,λ_=>True⟩⟩ 408 [.p 160 b 0] st dst K:=by
 refine inl ae Tryz.func408 20000 (λw1 F=>?_);simp [g160];by_cases hp:P=[]
 ·have hp0:¬ 0<P.length:=by simp [hp]
  simp [hp0,g160];by_cases hd:0<D
  ·simp [hd]
   refine drw eok mix [0,1,2,3,4,5,6,7,8,9,12,13] [10,11,14] (.c 12 10 4 4091 (.c 12 11 128 3963 (.c 12 14 3961 2 (.l 12 2) .s) .s) .s) ?_;simp [g160,g5000];intro b1;refine ⟨by omega,λH=>hK H _ ?_ ?_ ?_⟩<;>simp [ri hp hd,Part.row]
  ·simp [hd,g160]
   refine hK Hl _ ?_ ?_ ?_<;>simp [rh hp hd,g5000]
 ·have hp0:0<P.length:=List.length_pos_iff.2 hp
  simp [hp0];refine drw eok mix [0,1,2,3,4,5,6,7,8,9,12,13] [10,11,14] (.c 12 10 4 4091 (.c 12 11 128 3963 (.c 12 14 3961 2 (.l 12 2) .s) .s) .s) ?_;simp [g160,g5000,g5001];intro b1;refine ⟨by omega,λH=>?_⟩;by_cases hd:0<D
  ·simp [hd]
   refine drw eok mix [0,1,2,3,4,5,6,7,8,9,12,13] [10,11,14] (.c 12 10 4 4091 (.c 12 11 128 3963 (.c 12 14 3961 2 (.l 12 2) .s) .s) .s) ?_;simp;intro b2;refine ⟨by omega,λH2=>hK H2 _ ?_ ?_ ?_⟩<;>simp [rk hp hd,Part.row]
  ·simp [hd]
   refine hK H _ ?_ ?_ ?_<;>simp [rj hp hd,Part.row]
theorem vv {w0:World} {bF bG:Nat->Prop} {bl:Bool} {st:ASt} {dst:Option Nat} {K:ASt->Prop} {L:List Part} {P:List Int} {D n:Int} {b:Nat} {Hl Hp:Hd} (hL:L.length<=2 ^ 19) (hP:P.length<=2 ^ 40) (hn0:0<n) (hn:n<=200) (hF:∀ q∈aM L P D,0<=q.n/\q.n<=2 ^ 40)
 (g160:st.h.get 160=.vars b 363 [.sl 5000 Hl 3 0 L.length,.sl 5001 Hp 1 0 P.length,.v (.int .i64 D)])
 (g5000:st.h.get 5000=.rows Hl 3 (L.map Part.row) true) (g5001:st.h.get 5001=.rows Hp 1 (P.map ak) true)
 (hK:∀ Hl' h',AH.get h' 160=.vars b 363 [.sl 5000 Hl' 3 0 (bW (aM L P D) n).length,.nil,.v (.int .i64 0)] -> AH.get h' 5000=.rows Hl' 3 ((bW (aM L P D) n).map Part.row) true ->
  AH.get h' 80=st.h.get 80->aW ⟨st.n,st.kb,st.t,h'⟩ dst (.tup []) K):aa ⟨Tryz.prog,tt,w0,⟨bF,bG,bl,λ_=>True⟩⟩ 397 [.p 160 b 0,.v (.int .i64 n)] st dst K:=by
 refine inl ae Tryz.func397 30000 (λw1 F=>?_);have n0:¬ n=0:=by omega
 simp [n0];refine mN (L:=L) (P:=P) (D:=D) (Hl:=Hl) (Hp:=Hp) (by omega) hP (by simp [g160]) (by simp [g5000]) (by simp [g5001]) (λHl' h' k160 k5000 k80=>?_);have f1:=gN L P D;generalize aM L P D=F at f1 hF k160 k5000 hK;by_cases hF0:0<F.length
 ·obtain ⟨m,hm⟩:∃ m,F.length=m+1:=⟨F.length - 1,by omega⟩
  have hmlt:m<F.length:=by omega
  have hmm:(m:Int)<m+1:=by omega
  have em:Go.IntKind.i64.wrap (m:Int)=m:=eJ (by omega)
  have hk:bW F n=if F[m].kind=1 then F.set m ⟨1,F[m].n+n,F[m].signs⟩ else F++[⟨1,n,[]⟩]:=by
   have e0:F.length - 1=m:=by omega
   simp [bW,hF0,e0]
  have hq:=hF _ (List.getElem_mem hmlt);have em2:Go.IntKind.i64.wrap (F[m].n+n)=F[m].n+n:=Go.IntWalk.i64_in _ (by omega);simp [k160,k5000,hm,em,hmm,Part.row];by_cases ck:F[m].kind=1
  ·rw [if_pos ck] at hk
   simp [ck];refine drw eok mix [0,1,2,3,4,5,6,7,8,9,10,11,12,13,14,15,16,17,18] [19] (.c 19 19 524285 2 (.l 19 2) .s) ?_;simp [k160,k5000,hm,em,hmm,Part.row,ck,em2];have hmod:=iG (F:=F) (m:=m) hmlt (g:=λrow=>eR row 1 [CD.v (Value.int IntKind.i64 (F[m].n+n))]) (p:=⟨1,F[m].n+n,F[m].signs⟩) (by simp [Part.row,ck]);refine hK Hl' _ ?_ ?_ ?_
   ·simp [k160,hk,hm]
   ·simp [hk,hmod]
   ·simp [k80]
  ·rw [if_neg ck] at hk
   simp [ck,k160,k5000,hm];intro b1;refine ⟨by omega,λH=>hK H _ ?_ ?_ ?_⟩<;>simp [hk,hm,Part.row,k80]
 ·have hF1:F=[]:=List.eq_nil_of_length_eq_zero (by omega)
  subst hF1;have hk:bW [] n=[⟨1,n,[]⟩]:=by simp [bW]
  simp [k160,k5000];intro b1 H;refine hK H _ ?_ ?_ ?_<;>simp [hk,Part.row,k80]
open Classical in
noncomputable def ca (o:List Part):List Part:=if bR o then normal o else []
theorem p8 (o:List Part) (hl:nL aH o<=2 ^ 40):ai Tryz.prog 336 [.c (.s (o.map Part.row))] (.one (.c (.s ((ca o).map Part.row)) 3)):=by
 refine pci ae Tryz.func336 (λw0 base=>?_);simp;refine aa.pure (eE o hl) (by simp) ?_;by_cases h:bR o
 ·have e:ca o=normal o:=by unfold ca;rw [if_pos h]
  simp [h,e];refine aa.pure (tV o h.1.1 (by have:=h.1.2;omega)) (by simp) ?_;simp
 ·have e:ca o=[]:=by unfold ca;rw [if_neg h]
  have e2:dc (bR o)=false:=by rw [cj];exact h
  simp [e,e2]
theorem pI (o:List Part) (hl:nL aH o<=2 ^ 40):ai Tryz.prog 388 [.c (.s (o.map Part.row))] (.one (.c (.s ((ca o).map Part.row)) 3)):=by
 refine pci ae Tryz.func388 (λw0 base=>?_);simp;refine aa.pure (eA o hl) (by simp) ?_;by_cases hopk:bR o
 rotate_left
 ·have e:ca o=[]:=by unfold ca;rw [if_neg hopk]
  have e2:dc (bR o)=false:=by rw [cj];exact hopk
  simp [e,e2]
 have e:ca o=normal o:=by unfold ca;rw [if_pos hopk]
 have ho:=hopk.1.1;have hlen:=hopk.1.2;simp [hopk,e];intro b
 refine ag eok (λx:Nat×Hd×Hd=>x.1<=o.length) (λx=>⟨38,0,[(13,.v (.int .i64 x.1)),(12,.v (.int .i64 o.length)),(11,.ro (o.map Part.row)),(3,.p 160 b 0)],
  [(160, .vars b 363 [.sl 5000 x.2.1 3 0 (be (o.take x.1)).1.length, .sl 5001 x.2.2 1 0 (be (o.take x.1)).2.1.length, .v (.int .i64 (be (o.take x.1)).2.2)]),
   (5000,.rows x.2.1 3 ((be (o.take x.1)).1.map Part.row) true),(5001,.rows x.2.2 1 ((be (o.take x.1)).2.1.map ak) true)]⟩) (λx=>o.length - x.1) (0,none,none) (by simp) (by simp [be]) (λx hx=>Ent.refl ?_)
 obtain ⟨i,Hl,Hp⟩:=x;simp only at hx ⊢;have hok:=lz ho i hx;by_cases h:i<o.length
 ·have hs:=gL h
  have hpb:=(ho _ (List.getElem_mem h)).bounds;generalize be (o.take i)=s at hok hs;obtain ⟨L,P,D⟩:=s;obtain ⟨k1,k2,k3,k4,k5⟩:=hok;simp only at k1 k2 k3 k4 k5;have e:Go.IntKind.i64.wrap ((i:Int)+1)=((i+1:Nat):Int):=ah (by omega);simp [h,Part.row];intro b5;by_cases c1:o[i].kind=1
  ·simp [c1]
   by_cases cn:0<o[i].n
   ·have hstep:dF (L,P,D) o[i]=(bW (aM L P D) o[i].n,[],0):=by simp [dF,c1,cn]
    rw [hstep] at hs;have f2:=gM (P:=P) k3 k4 k5;refine vv (L:=L) (P:=P) (D:=D) (Hl:=Hl) (Hp:=Hp) (by omega) (by omega) cn hpb.2.2.1 (λq hq=>by have:=f2 q hq;omega) (by simp) (by simp) (by simp) (λHl' h' k160 k5000 k80=>?_);simp;refine Ent.kill 5001 (Ent.refl ⟨i+1,by omega,by omega,Hl',none,?_⟩);rw [hs];simp [e,k160,k5000]
   ·have cn0:o[i].n=0:=by omega
    refine inl ae Tryz.func397 30000 (λw1 F=>?_);simp [cn0];refine Ent.refl ⟨i+1,by omega,by omega,Hl,Hp,?_⟩;rw [hs];simp [dF,c1,cn0,e]
  ·by_cases c2:o[i].kind=2
   ·simp [c2]
    refine inl ae Tryz.func394 30000 (λw1 F=>?_);simp;refine ⟨by omega,λH=>?_⟩;refine Ent.refl ⟨i+1,by omega,by omega,Hl,H,?_⟩;rw [hs];simp [dF,c2,e]
   ·have c3:o[i].kind=3:=by omega
    have e3:Go.IntKind.i64.wrap (D+o[i].n)=D+o[i].n:=Go.IntWalk.i64_in _ (by omega);simp [c1,c2];refine inl ae Tryz.func393 30000 (λw1 F=>?_);simp [e3];refine Ent.refl ⟨i+1,by omega,by omega,Hl,Hp,?_⟩;rw [hs];simp [dF,c3,e]
 ·have he:o.take i=o:=List.take_of_length_le (by omega)
  rw [he] at hok ⊢;have hn:normal o=aM (be o).1 (be o).2.1 (be o).2.2:=rfl;rw [hn];generalize be o=s at hok;obtain ⟨L,P,D⟩:=s;obtain ⟨k1,k2,k3,k4,k5⟩:=hok;simp only at k1 k2 k3 k4 k5;simp [h];refine inl ae Tryz.func398 30000 (λw1 F=>?_);simp;refine mN (L:=L) (P:=P) (D:=D) (Hl:=Hl) (Hp:=Hp) (by omega) (by omega) (by simp) (by simp) (by simp) (λHl' h' k160 k5000 k80=>?_);simp [k160,k5000]
theorem lu (a b:List Int) (hl:a.length<=2 ^ 40):ai Tryz.prog 117 [.c (.s (a.map ak)),.c (.s (b.map ak))] (.one (.c (vb (a=b)) 1)):=by
 refine pci ae Tryz.func117 (λw0 base=>?_);by_cases h:a.length=b.length
 ·simp [h]
  refine aq.intro eok (λi:Nat=>i<=a.length/\a.take i=b.take i) (λi=>⟨26,0,[(13,.v (.int .i64 i)),(12,.v (.int .i64 b.length)),(1,.ro (b.map ak)),(0,.ro (a.map ak))],[]⟩) (λi=>a.length - i) 0 (by simp) (by simp) (λi hi=>?_);by_cases hlt:i<a.length
  ·have hlt':i<b.length:=by omega
   simp [hlt'];refine am.quiet eok mix (by kernel_rfl) ?_;simp [hlt,hlt'];refine Br.mk (λh1=>?_) (λh1=>?_)
   ·simp
    exact ⟨i+1,⟨by omega,fV hlt hlt' hi.2 (kU h1)⟩,by omega,ah (by omega)⟩
   ·simp [cj]
    exact mX hlt hlt' (oH h1)
  ·have hlt':¬ i<b.length:=by omega
   simp [hlt',iq];exact gZ (by omega) (by omega) hi.2
 ·have hz:¬ (a.length:Int)=b.length:=by omega
  simp [hz,cj];exact λh2=>absurd (by rw [h2]) h
theorem rN (a b:List Int) (hl:a.length<=2 ^ 40):ai Tryz.prog 194 [.c (.s (a.map ak)),.c (.s (b.map ak))] (.one (.c (vb (a=b)) 1)):=by
 refine pci ae Tryz.func194 (λw0 base=>?_);by_cases h:a.length=b.length
 ·simp [h]
  refine aq.intro eok (λi:Nat=>i<=a.length/\a.take i=b.take i) (λi=>⟨26,0,[(13,.v (.int .i64 i)),(12,.v (.int .i64 b.length)),(1,.ro (b.map ak)),(0,.ro (a.map ak))],[]⟩) (λi=>a.length - i) 0 (by simp) (by simp) (λi hi=>?_);by_cases hlt:i<a.length
  ·have hlt':i<b.length:=by omega
   simp [hlt'];refine am.quiet eok mix (by kernel_rfl) ?_;simp [hlt,hlt'];refine Br.mk (λh1=>?_) (λh1=>?_)
   ·simp
    exact ⟨i+1,⟨by omega,fV hlt hlt' hi.2 (kU h1)⟩,by omega,ah (by omega)⟩
   ·simp [cj]
    exact mX hlt hlt' (oH h1)
  ·have hlt':¬ i<b.length:=by omega
   simp [hlt',iq];exact gZ (by omega) (by omega) hi.2
 ·have hz:¬ (a.length:Int)=b.length:=by omega
  simp [hz,cj];exact λh2=>absurd (by rw [h2]) h
theorem BC (p q:Part) (hl:p.signs.length<=2 ^ 40):ai Tryz.prog 307 [.agg p.row,.agg q.row] (.one (.c (vb (p=q)) 1)):=by
 refine pci ae Tryz.func307 (λw0 base=>?_);obtain ⟨k1,n1,s1⟩:=p;obtain ⟨k2,n2,s2⟩:=q;simp [Part.row];intro b1 b2;by_cases h1:k1=k2
 ·by_cases h2:n1=n2
  ·simp [h1,h2]
   refine aa.pure (lu s1 s2 hl) (by simp) ?_;simp
  ·simp [h1,h2]
 ·simp [h1]
theorem AW (a b:List Part) (hl:a.length<=2 ^ 40) (hs:∀ p∈a,p.signs.length<=2 ^ 40):ai Tryz.prog 306 [.c (.s (a.map Part.row)),.c (.s (b.map Part.row)),.c (.v (.func (.func 307) #[] #[]))] (.one (.c (vb (a=b)) 1)):=by
 refine pci ae Tryz.func306 (λw0 base=>?_);by_cases h:a.length=b.length
 ·simp [h]
  refine aq.intro eok (λi:Nat=>i<=a.length/\a.take i=b.take i) (λi=>⟨32,0,[(17,.v (.int .i64 i)),(16,.v (.int .i64 b.length)),(15,.ro (a.map Part.row)),(2,.v (.func (.func 307) #[] #[])),(1,.ro (b.map Part.row))],[]⟩) (λi=>a.length - i) 0 (by simp) (by simp) (λi hi=>?_);by_cases hlt:i<a.length
  ·have hlt':i<b.length:=by omega
   simp [hlt,hlt',Part.row];intro b1 b2;refine aa.pure (BC a[i] b[i] (hs _ (List.getElem_mem hlt))) (by simp [Part.row]) ?_;simp;refine Br.mk (λh1=>?_) (λh1=>?_)
   ·simp
    exact ⟨i+1,⟨by omega,fV hlt hlt' hi.2 (kU h1)⟩,by omega,ah (by omega)⟩
   ·simp [cj]
    exact mX hlt hlt' (oH h1)
  ·have hlt':¬ i<b.length:=by omega
   simp [hlt',iq];exact gZ (by omega) (by omega) hi.2
 ·have hz:¬ (a.length:Int)=b.length:=by omega
  simp [hz,cj];exact λh2=>absurd (by rw [h2]) h
theorem HQ (a b:List Part) (hl:a.length<=2 ^ 40) (hs:∀ p∈a,p.signs.length<=2 ^ 40):ai Tryz.prog 225 [.c (.s (a.map Part.row)),.c (.s (b.map Part.row))] (.one (.c (vb (a=b)) 1)):=by
 refine pci ae Tryz.func225 (λw0 base=>?_);simp;refine aa.pure (AW a b hl hs) (by simp) ?_;simp
theorem xH (a b:List Part) (hl:a.length<=2 ^ 40) (hs:∀ p∈a,p.signs.length<=2 ^ 40):ai Tryz.prog 285 [.c (.s (a.map Part.row)),.c (.s (b.map Part.row))] (.one (.c (vb (a=b)) 1)):=by
 refine pci ae Tryz.func285 (λw0 base=>?_);by_cases h:a.length=b.length
 ·simp [h]
  refine aq.intro eok (λi:Nat=>i<=a.length/\a.take i=b.take i) (λi=>⟨49,0,[(14,.v (.int .i64 i)),(13,.v (.int .i64 b.length)),(12,.ro (a.map Part.row)),(1,.ro (b.map Part.row))],[]⟩) (λi=>a.length - i) 0 (by simp) (by simp) (λi hi=>?_);by_cases hlt:i<a.length
  ·have hlt':i<b.length:=by omega
   simp [hlt,hlt',Part.row];intro b1;refine am.quiet eok mix (by kernel_rfl) ?_;simp [hlt',Part.row];by_cases h1:a[i].kind=b[i].kind
   ·by_cases h2:a[i].n=b[i].n
    ·simp [h1,h2,hlt',Part.row]
     refine ⟨_,_,rN a[i].signs b[i].signs (hs _ (List.getElem_mem hlt)),by simp,?_⟩;simp;by_cases h3:a[i].signs=b[i].signs
     ·simp [h3]
      have he:a[i]=b[i]:=by
       cases hx:a[i];cases hy:b[i]
       rw [hx,hy] at h1 h2 h3;simp at h1 h2 h3;rw [h1,h2,h3]
      exact ⟨i+1,⟨by omega,fV hlt hlt' hi.2 he⟩,by omega,ah (by omega)⟩
     ·simp [h3,cj]
      exact mX hlt hlt' (λhe=>h3 (by rw [he]))
    ·simp [h1,h2,hlt',Part.row,cj]
     exact mX hlt hlt' (λhe=>h2 (by rw [he]))
   ·simp [h1,cj]
    exact mX hlt hlt' (λhe=>h1 (by rw [he]))
  ·have hlt':¬ i<b.length:=by omega
   simp [hlt',iq];exact gZ (by omega) (by omega) hi.2
 ·have hz:¬ (a.length:Int)=b.length:=by omega
  simp [hz,cj];exact λh2=>absurd (by rw [h2]) h
theorem l9 (a b:List Part) (h:nL aH a<=2 ^ 40):ai Tryz.prog 225 [.c (.s (a.map Part.row)),.c (.s (b.map Part.row))] (.one (.c (vb (a=b)) 1)):=HQ a b (aB h) (λ_p hp=>cU h hp)
theorem oE (a b:List Part) (h:nL aH a<=2 ^ 40):ai Tryz.prog 285 [.c (.s (a.map Part.row)),.c (.s (b.map Part.row))] (.one (.c (vb (a=b)) 1)):=xH a b (aB h) (λ_p hp=>cU h hp)
theorem gJ {α:Type} {f:α->Nat}:∀ (a b:List α),bV f (a++b)=bV f a+bV f b
 | [],b=>by simp [bV]
 |x::a,b=>by simp only [List.cons_append,bV,gJ a b];omega
theorem zp {α:Type} {f:α->Nat}:∀ (l:List α) (i:Nat) (h:i<l.length) (x:α),f x=f l[i]->bV f (l.set i x)=bV f l
 |a::l,0,_,x,hx=>by simp at hx;simp [bV,hx]
 | a :: l, i + 1, h, x, hx => by
   simp only [List.set_cons_succ,bV];rw [zp l i (by simpa using h) x (by simpa using hx)]
theorem rT {L:List Part} {P:List Int} {D:Int}:bV aH (aM L P D)=bV aH L+P.length:=by
 unfold aM;rw [gJ,gJ];by_cases hp:P=[]<;>by_cases hd:0<D<;>simp [hp,hd,bV,aH]
theorem BX {L:List Part} {n:Int}:bV aH (bW L n)=bV aH L:=by
 unfold bW
 split
 ·rename_i h
  split
  ·exact zp L _ (by omega) _ rfl
  ·rw [gJ];simp [bV,aH]
 ·rename_i h
  have:L=[]:=List.eq_nil_of_length_eq_zero (by omega);subst this;simp [bV,aH]
theorem wG {o:List Part}:∀ (i:Nat),i<=o.length->bV aH (be (o.take i)).1+(be (o.take i)).2.1.length<=bV aH (o.take i)
 |0,_=>by simp [be,bV]
 | i + 1, hi => by
   have ih:=wG (o:=o) i (by omega);have hlt:i<o.length:=by omega
   rw [gL hlt,<- List.take_append_getElem hlt,gJ];generalize be (o.take i)=s at ih;generalize o[i]=p;obtain ⟨L,P,D⟩:=s;simp only at ih;have hp:bV aH [p]=p.signs.length:=by simp [bV,aH]
   rw [hp];unfold dF
   split
   ·simp;omega
   ·split
    ·simp;omega
    ·split
     ·simp only [BX,rT];simp;omega
     ·simp;omega
theorem BU (o:List Part):bV aH (normal o)<=bV aH o:=by
 have h:=wG (o:=o) o.length (by omega);rw [List.take_length] at h;unfold normal;rw [rT];exact h
theorem BV {o:List Part} (ho:∀ p∈o,ar p):(normal o).length<=3*o.length+2:=by
 have h:=(lz ho o.length (by omega)).l;rw [List.take_length] at h;have:=gN (be o).1 (be o).2.1 (be o).2.2;unfold normal;omega
theorem tj {o:List Part} (ho:∀ p∈o,ar p):bV aH o<=200*o.length:=by
 induction o with
 |nil=>simp [bV]
 | cons p o ih =>
   have h1:=(ho p (List.mem_cons_self ..)).bounds;have h2:=ih (λq hq=>ho q (List.mem_cons_of_mem _ hq));simp only [bV,aH,List.length_cons];omega
theorem Ac {o:List Part} (ho:∀ p∈o,ar p):nL aH o<=201*o.length:=by
 have:=tj ho;unfold nL;omega
theorem lA {o:List Part} (ho:∀ p∈o,ar p):nL aH (normal o)<=203*o.length+2:=by
 have h1:=BU o;have h2:=BV ho;have h3:=tj ho;unfold nL;omega
theorem pR (o:List Part):nL aH (ca o)<=2 ^ 20:=by
 unfold ca
 split
 ·rename_i h
  have:=lA h.1.1;have:=h.1.2;omega
 ·simp [nL,bV]
def gD (o:List Part):Prop:=bR o/\ca o=o
theorem ym (o:List Part) (hl:nL aH o<=2 ^ 40):ai Tryz.prog 252 [.c (.s (o.map Part.row))] (.one (.c (vb (gD o)) 1)):=by
 refine pci ae Tryz.func252 (λw0 base=>?_);simp;refine aa.pure (eE o hl) (by simp) ?_;by_cases h:bR o
 ·simp [h]
  refine aa.pure (p8 o hl) (by simp) ?_;simp;intro H;refine aa.pure (l9 o (ca o) hl) (by simp) ?_;simp [gD,h];exact uK ⟨λh=>h.symm,λh=>h.symm⟩
 ·simp [h,gD]
theorem xJ (o:List Part) (hl:nL aH o<=2 ^ 40):ai Tryz.prog 353 [.c (.s (o.map Part.row))] (.one (.c (vb (gD o)) 1)):=by
 refine pci ae Tryz.func353 (λw0 base=>?_);simp;refine aa.pure (eA o hl) (by simp) ?_;by_cases h:bR o
 ·simp [h]
  refine aa.pure (pI o hl) (by simp) ?_;simp;intro H;refine aa.pure (oE (ca o) o (Nat.le_trans (pR o) (by decide))) (by simp) ?_;simp [gD,h]
 ·simp [h,gD]
def cO (t:List Int):Prop:=t.length<=200/\ed t
theorem il (t:List Int) (hl:t.length<=2 ^ 40):ai Tryz.prog 214 [.c (.s (t.map ak))] (.one (.c (vb (cO t)) 1)):=by
 refine pci ae Tryz.func214 (λw0 base=>?_);by_cases h:t.length<=200
 ·have h':(t.length:Int)<=200:=by omega
  simp [h'];refine aa.pure (oJ t hl) (by simp) ?_;simp [cO,h]
 ·have h':¬ (t.length:Int)<=200:=by omega
  simp [h',cO,h]
theorem jz (t:List Int) (hl:t.length<=2 ^ 40):ai Tryz.prog 209 [.c (.s (t.map ak))] (.one (.c (vb (cO t)) 1)):=by
 refine pci ae Tryz.func209 (λw0 base=>?_);simp;refine aa.pure (oB t hl) (by simp) ?_;have e:((t.length:Int)<=200)=(t.length<=200):=by simp;omega
 by_cases hg:ed t
 ·simp [hg,cO,e]
 ·simp [hg,cO]
def psz (p:Part):Nat:=p.n.toNat+p.signs.length
def fd (p:Part) (n:Nat):Part:=if p.kind=2 then ⟨p.kind,p.n,p.signs.take n⟩ else ⟨p.kind,n,p.signs⟩
def bn (p:Part) (n:Nat):Part:=if p.kind=2 then ⟨p.kind,p.n,p.signs.drop n⟩ else ⟨p.kind,p.n - n,p.signs⟩
theorem fw {p:Part} (h:ar p):(psz p:Int)=p.n+p.signs.length/\psz p<=200:=by
 have hb:=h.bounds;unfold psz;by_cases hk:p.kind=2
 ·have:=hb.2.2.2.2.1 hk
  omega
 ·have:=hb.2.2.2.2.2 hk
  rw [this];simp;omega
@[simp] theorem PQ {p:Part} {n:Nat}:(fd p n).kind=p.kind:=by unfold fd;split<;>rfl
@[simp] theorem NV {p:Part} {n:Nat}:(bn p n).kind=p.kind:=by unfold bn;split<;>rfl
theorem nO {p:Part} (h:ar p) {n:Nat} (hn:n<=psz p):ar (fd p n):=by
 have hp:=fw h;unfold fd;by_cases hk:p.kind=2
 ·rw [if_pos hk]
  rw [gC hk] at h;refine .inr ⟨hk,h.1,?_,λm hm=>h.2.2 m (List.mem_of_mem_take hm)⟩;simp;omega
 ·rw [if_neg hk]
  have hb:=h.bounds;have hk2:p.kind=1\/p.kind=3:=by omega
  have:=hb.2.2.2.2.2 hk;refine .inl ⟨hk2,?_,this⟩;simp only;omega
theorem zQ {p:Part} (h:ar p) {n:Nat} (hn:n<=psz p):ar (bn p n):=by
 have hp:=fw h;unfold bn;by_cases hk:p.kind=2
 ·rw [if_pos hk]
  rw [gC hk] at h;refine .inr ⟨hk,h.1,?_,λm hm=>h.2.2 m (List.mem_of_mem_drop hm)⟩;simp;omega
 ·rw [if_neg hk]
  have hb:=h.bounds;have hk2:p.kind=1\/p.kind=3:=by omega
  have:=hb.2.2.2.2.2 hk;refine .inl ⟨hk2,?_,this⟩;rw [this] at hp;simp at hp;simp only;omega
theorem jb {p:Part} (h:ar p) {n:Nat} (hn:n<=psz p):psz (bn p n)=psz p - n:=by
 have hb:=h.bounds;unfold psz bn at *;by_cases hk:p.kind=2
 ·rw [if_pos hk]
  have:=hb.2.2.2.2.1 hk;simp only [this,List.length_drop] at hn ⊢;omega
 ·rw [if_neg hk]
  have:=hb.2.2.2.2.2 hk;simp only [this,List.length_nil] at hn ⊢;omega
theorem dS {p:Part} (h:ar p):fd p (psz p)=p:=by
 have hb:=h.bounds;unfold psz fd;by_cases hk:p.kind=2
 ·rw [if_pos hk]
  have:=hb.2.2.2.2.1 hk;rw [List.take_of_length_le (by omega)]
 ·rw [if_neg hk]
  have:=hb.2.2.2.2.2 hk;obtain ⟨k,n,s⟩:=p;simp only at this hb;subst this;simp;omega
theorem zP {p:Part} {m n:Nat}:bn (bn p m) n=bn p (m+n):=by
 unfold bn;by_cases hk:p.kind=2
 ·simp [hk,List.drop_drop]
 ·simp [hk]
  omega
theorem BJ {p:Part}:bn p 0=p:=by unfold bn;split<;>simp
def nxt:List Part->List Part
 | []=>[]
 |p::l=>if psz p=0 then nxt l else p::l
def tsz:List Part->Nat
 | []=>0
 |p::l=>psz p+tsz l
def frs:List Part->Nat
 | []=>0
 |p::l=>(if p.kind=2 then 0 else psz p)+frs l
def tos:List Part->Nat
 | []=>0
 |p::l=>(if p.kind=3 then 0 else psz p)+tos l
theorem xT:∀ l:List Part,tsz (nxt l)=tsz l
 | []=>rfl
 | p :: l => by
   unfold nxt
   split
   ·rename_i h;rw [xT l];simp [tsz,h]
   ·rfl
theorem jJ:∀ l:List Part,frs (nxt l)=frs l
 | []=>rfl
 | p :: l => by
   unfold nxt
   split
   ·rename_i h;rw [jJ l];simp [frs,h]
   ·rfl
theorem eh:∀ {l:List Part} {p:Part} {l':List Part},nxt l=p::l'->0<psz p
 | [],p,l',h=>by simp [nxt] at h
 | q :: l, p, l', h => by
   unfold nxt at h
   split at h
   ·exact eh h
   ·simp at h;rw [<- h.1];omega
theorem el:∀ l:List Part,nxt (nxt l)=nxt l
 | []=>rfl
 | p :: l => by
   by_cases h:psz p=0
   ·simp only [nxt,h,if_true];exact el l
   ·simp only [nxt,h,if_false]
theorem pb:∀ l:List Part,∃ k,k<=l.length/\nxt l=l.drop k/\∀ i,(h:i<l.length)->i<k->psz l[i]=0
 | []=>⟨0,by simp,rfl,λi h=>by simp at h⟩
 | p :: l => by
   by_cases h:psz p=0
   ·obtain ⟨k,h1,h2,h3⟩:=pb l
    refine ⟨k+1,by simp;omega,by simp [nxt,h,h2],λi hi hk=>?_⟩
    cases i with
    |zero=>simpa using h
    |succ i=>simpa using h3 i (by simpa using hi) (by omega)
   ·exact ⟨0,by simp,by simp [nxt,h],λi _ hk=>by omega⟩
theorem kC {l:List Part} {p:Part} (h:p∈nxt l):p∈l:=by
 obtain ⟨k,_,h2,_⟩:=pb l;rw [h2] at h;exact List.mem_of_mem_drop h
theorem Dz (l:List Part):(nxt l).length<=l.length:=by
 obtain ⟨k,_,h2,_⟩:=pb l;rw [h2];simp
theorem lB {l l':List Part} {p:Part} {n:Nat} (hl:∀ q∈l,ar q) (he:nxt l=p::l') (hn:n<=psz p):∀ q∈bn p n::l',ar q:=by
 intro q hq;rcases List.mem_cons.1 hq with rfl|hq
 ·exact zQ (hl p (kC (he ▸ List.mem_cons_self ..))) hn
 ·exact hl q (kC (he ▸ List.mem_cons_of_mem _ hq))
theorem gv {l l':List Part} {p:Part} (hl:∀ q∈l,ar q) (he:nxt l=p::l'):ar p/\∀ q∈p::l',ar q:=
 ⟨hl p (kC (he ▸ List.mem_cons_self ..)),λq hq=>hl q (kC (he ▸ hq))⟩
abbrev XR:=(List Part×List Part)×List Part×List Part
def dr (x y:List Part):Option XR:=
 match nxt x with
 | p :: x' => if p.kind = 2 then some (([fd p (psz p)], [⟨1, p.signs.length, []⟩]), bn p (psz p) :: x', y) else match nxt y with
   | q :: y' => if q.kind = 2 then some (([⟨1, q.signs.length, []⟩], [fd q (psz q)]), p :: x', bn q (psz q) :: y') else
       some ((if q.kind=1 then [fd p (min (psz p) (psz q))] else [],if p.kind=1 then [fd q (min (psz p) (psz q))] else []),bn p (min (psz p) (psz q))::x',bn q (min (psz p) (psz q))::y')
   | []=>none
 | [] => match nxt y with
   |q::y'=>if q.kind=2 then some (([⟨1,q.signs.length,[]⟩],[fd q (psz q)]),[],bn q (psz q)::y') else none
   | []=>none
structure TInv (x y:List Part):Prop where
 px:∀ p∈x,ar p
 py:∀ p∈y,ar p
 b:frs x=frs y
structure TNext (x y:List Part) (r:XR):Prop where
 inv:TInv r.2.1 r.2.2
 dec:tsz r.2.1+tsz r.2.2<tsz x+tsz y
 okx:∀ p∈r.1.1,ar p
 oky:∀ p∈r.1.2,ar p
 lenx:r.1.1.length<=1
 leny:r.1.2.length<=1
theorem Cf {p:Part} (h:ar p):ar ⟨1,p.signs.length,[]⟩:=by
 have:=h.bounds;exact .inl ⟨.inl rfl,by simp only;omega,rfl⟩
theorem dE {x y:List Part} (hi:TInv x y) {r:XR} (h:dr x y=some r):TNext x y r:=by
 have hx:=xT x;have hy:=xT y;have hxt:=jJ x;have hyf:=jJ y;have hb:=hi.b;unfold dr at h
 cases ex:nxt x with
 | nil =>
   rw [ex] at h hx hxt
   cases ey:nxt y with
   |nil=>simp [ey] at h
   | cons q y' =>
     rw [ey] at hy hyf;have hq:=gv hi.py ey;have hp:=eh ey;simp only [ey] at h
     split at h
     ·rename_i k
      cases h
      have hs:=jb hq.1 (Nat.le_refl _);refine ⟨⟨by simp,lB hi.py ey (Nat.le_refl _),?_⟩,?_,?_,?_,by simp,by simp⟩
      ·simp [frs,k] at hxt hyf ⊢;omega
      ·simp [tsz] at hx hy ⊢;omega
      ·intro p hp;simp at hp;subst hp;exact Cf hq.1
      ·intro p hp;simp at hp;subst hp;exact nO hq.1 (Nat.le_refl _)
     ·cases h
 | cons p x' =>
   rw [ex] at h hx hxt;have hp:=gv hi.px ex;have hpp:=eh ex;simp only at h
   split at h
   ·rename_i k
    cases h
    have hs:=jb hp.1 (Nat.le_refl _);refine ⟨⟨lB hi.px ex (Nat.le_refl _),hi.py,?_⟩,?_,?_,?_,by simp,by simp⟩
    ·simp [frs,k] at hxt ⊢;omega
    ·simp [tsz] at hx ⊢;omega
    ·intro q hq;simp at hq;subst hq;exact nO hp.1 (Nat.le_refl _)
    ·intro q hq;simp at hq;subst hq;exact Cf hp.1
   ·rename_i k3
    cases ey:nxt y with
    |nil=>simp [ey] at h
    | cons q y' =>
      rw [ey] at hy hyf;have hq:=gv hi.py ey;have hqp:=eh ey;simp only [ey] at h
      split at h
      ·rename_i k
       cases h
       have hs:=jb hq.1 (Nat.le_refl _);refine ⟨⟨hp.2,lB hi.py ey (Nat.le_refl _),?_⟩,?_,?_,?_,by simp,by simp⟩
       ·simp [frs,k,k3] at hxt hyf ⊢;omega
       ·simp [tsz] at hx hy ⊢;omega
       ·intro p hp;simp at hp;subst hp;exact Cf hq.1
       ·intro p hp;simp at hp;subst hp;exact nO hq.1 (Nat.le_refl _)
      ·rename_i k2
       cases h
       have hn1:min (psz p) (psz q)<=psz p:=by omega
       have hn2:min (psz p) (psz q)<=psz q:=by omega
       have hs1:=jb hp.1 hn1;have hs2:=jb hq.1 hn2;refine ⟨⟨lB hi.px ex hn1,lB hi.py ey hn2,?_⟩,?_,?_,?_,?_,?_⟩
       ·simp [frs,k2,k3] at hxt hyf ⊢;omega
       ·simp [tsz] at hx hy ⊢;omega
       ·intro r hr
        simp only at hr
        split at hr
        ·simp at hr;subst hr;exact nO hp.1 hn1
        ·simp at hr
       ·intro r hr
        simp only at hr
        split at hr
        ·simp at hr;subst hr;exact nO hq.1 hn2
        ·simp at hr
       ·simp only;split<;>simp
       ·simp only;split<;>simp
noncomputable def xfK:Nat->List Part->List Part->List Part×List Part
 |0,_,_=>([],[])
 | k + 1, x, y => match dr x y with
   |none=>([],[])
   |some r=>(r.1.1++(xfK k r.2.1 r.2.2).1,r.1.2++(xfK k r.2.1 r.2.2).2)
noncomputable def xf (x y:List Part):List Part×List Part:=xfK (tsz x+tsz y) x y
theorem F6:∀ (k m:Nat) {x y:List Part},TInv x y->tsz x+tsz y<=k->tsz x+tsz y<=m->xfK k x y=xfK m x y
 |0,0,_,_,_,_,_=>rfl
 | k + 1, 0, x, y, hi, h, h2 => by
   rw [xfK,xfK]
   cases hs:dr x y with
   |none=>rfl
   |some r=>have:=(dE hi hs).dec;omega
 | 0, m + 1, x, y, hi, h, h2 => by
   rw [xfK,xfK]
   cases hs:dr x y with
   |none=>rfl
   |some r=>have:=(dE hi hs).dec;omega
 | k + 1, m + 1, x, y, hi, h, h2 => by
   rw [xfK,xfK]
   cases hs:dr x y with
   |none=>rfl
   | some r =>
     have hn:=dE hi hs;have:=hn.dec;simp only;rw [F6 k m hn.inv (by omega) (by omega)]
theorem Dc {x y:List Part} (h:dr x y=none):xf x y=([],[]):=by
 unfold xf
 cases tsz x+tsz y with
 |zero=>rfl
 |succ k=>rw [xfK,h]
theorem JE {x y:List Part} (hi:TInv x y) {r:XR} (h:dr x y=some r):xf x y=(r.1.1++(xf r.2.1 r.2.2).1,r.1.2++(xf r.2.1 r.2.2).2):=by
 have hn:=dE hi h;have hd:=hn.dec;unfold xf;obtain ⟨k,hk⟩:∃ k,tsz x+tsz y=k+1:=⟨tsz x+tsz y - 1,by omega⟩;rw [hk,xfK,h];simp only;rw [F6 k (tsz r.2.1+tsz r.2.2) hn.inv (by omega) (by omega)]
theorem yt:∀ {o:List Part},(∀ p∈o,ar p)->(frs o:Int)=cI (mh 2) o
 | [],_=>rfl
 | p :: o, h => by
   have ih:=yt (λq hq=>h q (List.mem_cons_of_mem _ hq));have hp:=fw (h p (List.mem_cons_self ..));simp only [frs,cI,mh]
   split<;>simp<;>omega
theorem xA:∀ {o:List Part},(∀ p∈o,ar p)->(tos o:Int)=cI (mh 3) o
 | [],_=>rfl
 | p :: o, h => by
   have ih:=xA (λq hq=>h q (List.mem_cons_of_mem _ hq));have hp:=fw (h p (List.mem_cons_self ..));simp only [tos,cI,mh]
   split<;>simp<;>omega
theorem lE {o:List Part} (h:bR o):(frs o:Int)=bH o:=by
 rw [yt h.1.1,gB (λp hp=>OS (h.1.1 p hp)),jS];unfold bH cP;rw [if_pos h.1]
theorem qP {o:List Part} (h:bR o):(tos o:Int)=kt o:=by
 rw [xA h.1.1,gB (λp hp=>OR (h.1.1 p hp)),jS];unfold kt cP;rw [if_pos h.1]
theorem Bo:∀ (o:List Part),tsz o<=frs o+tos o
 | []=>by simp [tsz]
 | p :: o => by
   have:=Bo o;simp only [tsz,frs,tos]
   split<;>split<;>omega
theorem xz {o:List Part} (h:bR o):tsz o<=400:=by
 have h1:=Bo o;have h2:=lE h;have h3:=qP h;have:=h.2;omega
theorem sM {a b:List Part} (ha:bR a) (hb:bR b) (h:bH a=bH b):TInv a b:=by
 have h2:=lE hb;have h3:=lE ha;exact ⟨ha.1.1,hb.1.1,by omega⟩
open Classical in
noncomputable def aE (a b:List Part):List Part×List Part×Bool:=
 if bR a/\bR b/\bH a=bH b then (if bR (normal (xf a b).1)/\bR (normal (xf a b).2) then (normal (xf a b).1,normal (xf a b).2,true) else ([],[],false)) else ([],[],false)
def cur (o:List Part) (i d:Nat):List Part:=
 match o.drop i with
 | []=>[]
 |p::l=>bn p d::l
theorem yN {o:List Part} {i d:Nat} (h:o.length<=i):cur o i d=[]:=by unfold cur;rw [List.drop_eq_nil_of_le h]
theorem uM {o:List Part} {i d:Nat} (h:i<o.length):cur o i d=bn o[i] d::o.drop (i+1):=by unfold cur;rw [List.drop_eq_getElem_cons h]
theorem AY {o:List Part} {i:Nat}:cur o i 0=o.drop i:=by
 unfold cur
 cases o.drop i with
 |nil=>rfl
 |cons p l=>simp [BJ]
theorem I3 {o:List Part} (ho:∀ p∈o,ar p) {i:Nat} (h:i<o.length):nxt (cur o i (psz o[i]))=nxt (cur o (i+1) 0):=by
 rw [uM h,AY];have:=jb (ho _ (List.getElem_mem h)) (Nat.le_refl _);simp [nxt,this]
theorem I2 {o:List Part} (ho:∀ p∈o,ar p) {i d:Nat} (h:i<o.length) (hd:d<psz o[i]):nxt (cur o i d)=cur o i d:=by
 rw [uM h];have:=jb (ho _ (List.getElem_mem h)) (Nat.le_of_lt hd);have h2:¬ psz (bn o[i] d)=0:=by omega
 simp [nxt,h2]
theorem I4 {o:List Part} {i d n:Nat} (h:i<o.length) {p:Part} {l:List Part} (hc:cur o i d=p::l):bn p n::l=cur o i (d+n):=by
 rw [uM h] at hc ⊢
 cases hc
 rw [zP]
theorem cK {k j:Nat} {o:AObj} {h:AH} (hne:j≠k):AH.get ((k,o)::h) j=AH.get h j:=if_neg hne
theorem l8 (p:Part) (h:ar p):ai Tryz.prog 328 [.agg p.row] (.one (.c (vi (psz p)) 1)):=by
 refine pci ae Tryz.func328 (λw0 base=>?_);have hp:=fw h;have e:Go.IntKind.i64.wrap (p.n+(p.signs.length:Int))=p.n+p.signs.length:=Go.IntWalk.i64_in _ (by omega);rw [hp.1];simp [Part.row,e]
def hdV:List Part->AV
 | []=>.agg [.v (.int .i64 0),.v (.int .i64 0),.nil]
 |p::_=>.agg [.v (.int .i64 p.kind),.v (.int .i64 p.n),.ro (p.signs.map ak)]
theorem EA {w0:World} {bF bG:Nat->Prop} {bl:Bool} {st:ASt} {dst:Option Nat} {K:ASt->Prop} {kx b kb:Nat} {l:List Part} (hk:kx+16<kb) (hs:∀ p∈l,ar p)
 (g:st.h.get kx=.vars b 324 [.ro (l.map Part.row)])
 (hK:∀ h',AH.get h' kx=.vars b 324 [.ro ((nxt l).map Part.row)]->(∀ q,q≠kx->q<kb->AH.get h' q=st.h.get q)->aW ⟨st.n,st.kb,st.t,h'⟩ dst (hdV (nxt l)) K) :
 aa ⟨Tryz.prog,tt,w0,⟨bF,bG,bl,λ_=>True⟩⟩ 326 [.p kx b 0] st dst K:=by
 refine inl ae Tryz.func326 kb (λw1 F=>?_);simp;intro b2;have hkk:¬ kx=kb+32:=by omega
 have hkk2:¬ kb+32=kx:=by omega
 refine qK eok (λm:List Part=>nxt m=nxt l/\∀ p∈m,p∈l) (λm=>⟨40,kb,[(0,.p kx b 0),(2,.p (kb+32) b2 0)],(kx,.vars b 324 [.ro (m.map Part.row)])::(kb+32,.vars b2 291 [.v (.int .i64 0),.v (.int .i64 0),.nil])::st.h⟩) (λm=>m.length) l ⟨rfl,λ_ h=>h⟩ (by simp [hkk,g]) (λm hm=>?_)
 ·cases m with
  | nil =>
    have hn:nxt l=[]:=by rw [<- hm.1];rfl
    rw [hn] at hK;simp [hkk2];refine hK _ (by simp [hkk]) (λq q1 q2=>?_)
    repeat (first|exact rfl|refine (cK (by omega)).trans ?_)
  | cons p m =>
    have hp:=hs p (hm.2 p (List.mem_cons_self ..));simp [Part.row];refine aa.pure (l8 p hp) (by simp [Part.row]) ?_;by_cases hz:psz p=0
    ·simp [hz,hkk,hkk2]
     refine ⟨m,⟨by rw [<- hm.1];simp [nxt,hz],λq hq=>hm.2 q (List.mem_cons_of_mem _ hq)⟩,by omega,?_⟩;simp [cut];exact List.take_of_length_le (by simp)
    ·have hn:nxt l=p::m:=by rw [<- hm.1];simp [nxt,hz]
     rw [hn] at hK;have hm0:¬ (m.length:Int)+1=0:=by omega
     simp [hz,hkk2,hm0];refine hK _ ?_ (λq q1 q2=>?_)
     ·simp [hkk,Part.row]
     repeat (first|exact rfl|refine (cK (by omega)).trans ?_)
end Go.Proofs.YtoldjebobgocpaaGreat
