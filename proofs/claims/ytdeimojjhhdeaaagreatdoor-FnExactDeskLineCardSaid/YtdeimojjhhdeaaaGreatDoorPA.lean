import Derived.Test.YtdeimojjhhdeaaaGreatDoorNA
import Derived.Test.YtdeimojjhhdeaaaGreatDoorMF
namespace Go.Proofs.YtdeimojjhhdeaaaGreatDoor
open Go.AM
set_option maxRecDepth 20000
theorem bW(n lo hi:Int):ar Tryz.prog 122 [.c (vi n),.c (vi lo),.c (vi hi)] (.one (.c (vb (lo<=n/\n<=hi)) 1)):=by
 refine pci aq Tryz.func122 (λw0 base=>?_);by_cases h1:lo<=n<;>by_cases h2:n<=hi<;>simp[h1,h2]
theorem dH(n lo hi:Int):ar Tryz.prog 77 [.c (vi n),.c (vi lo),.c (vi hi)] (.one (.c (vb (lo<=n/\n<=hi)) 1)):=by
 refine pci aq Tryz.func77 (λw0 base=>?_);by_cases h1:lo<=n<;>by_cases h2:n<=hi<;>simp[h1,h2]
def mX(n:Int):Prop:=(0<=n/\n<=1114111)/\¬(55296<=n/\n<=57343)
def dK(l:List Int):Prop:=∀n∈l,mX n
theorem La(n:Int):ar Tryz.prog 250 [.c (vi n)] (.one (.c (vb (mX n)) 1)):=by
 refine pci aq Tryz.func250 (λw0 base=>?_);simp;refine ae.pure (bW n 0 1114111) ab ?_;by_cases h:0<=n/\n<=1114111
 ·simp[h]
  refine ae.pure (bW n 55296 57343) ab ?_;exact RM
 ·exact RJ
theorem zl(n:Int):ar Tryz.prog 173 [.c (vi n)] (.one (.c (vb (mX n)) 1)):=by
 refine pci aq Tryz.func173 (λw0 base=>?_);simp;refine ae.pure (dH n 0 1114111) ab ?_;by_cases h:0<=n/\n<=1114111
 ·simp[h]
  refine ae.pure (dH n 55296 57343) ab ?_;exact RM
 ·exact RJ
theorem Ef{α:Type}{P:α->Prop}{l:List α}{i:Nat}(h:i<l.length)(ha:∀a∈l.take i,P a)(hi:P l[i]):∀a∈l.take (i+1),P a:=by
 rw[<-bY h];intro a ha';rcases aO.1 ha' with h1|h1
 ·exact ha a h1
 ·simp at h1;subst h1;exact hi
theorem uc{α:Type}{P:α->Prop}{l:List α}{i:Nat}(h:l.length<=i)(ha:∀a∈l.take i,P a):∀a∈l,P a:=by
 rwa[aD h]at ha
theorem Wc{α:Type}{P:α->Prop}{l:List α}{i:Nat}(h:i<l.length)(hi:¬P l[i]):¬∀a∈l,P a:=λha=>hi (ha _ (ao h))
theorem kB(l:List Int)(hl:l.length<=2^40):ar Tryz.prog 139 [.c (.s (l.map aN))] (.one (.c (vb (dK l)) 1)):=by
 refine pci aq Tryz.func139 (λw0 base=>?_);simp;refine aU.intro eok (λi:Nat=>i<=l.length/\∀n∈l.take i,mX n) (λi=>⟨15,0,[(7,.v (.int .i64 i)),(6,.v (.int .i64 l.length)),(5,.ro (l.map aN))],[]⟩) (λi=>l.length-i) 0 ab ab (λi hi=>?_);by_cases h:i<l.length
 ·simp[h]
  refine ae.pure (La l[i]) ab ?_;exact QJ
 ·simp[h,rK]
  exact uc aa hi.2
theorem lW(l:List Int)(hl:l.length<=2^40):ar Tryz.prog 187 [.c (.s (l.map aN))] (.one (.c (vb (dK l)) 1)):=by
 refine pci aq Tryz.func187 (λw0 base=>?_);simp;refine aU.intro eok (λi:Nat=>i<=l.length/\∀n∈l.take i,mX n) (λi=>⟨15,0,[(7,.v (.int .i64 i)),(6,.v (.int .i64 l.length)),(5,.ro (l.map aN))],[]⟩) (λi=>l.length-i) 0 ab ab (λi hi=>?_);by_cases h:i<l.length
 ·simp[h]
  refine ae.pure (zl l[i]) ab ?_;exact QJ
 ·simp[h,rK]
  exact uc aa hi.2
def aY(p:Part):Prop:=((p.kind=1\/p.kind=3)/\(0<=p.n/\p.n<=200)/\p.signs=[])\/(p.kind=2/\p.n=0/\p.signs.length<=200/\dK p.signs)
theorem BZ{p:Part}(h:p.kind=1\/p.kind=3):aY p=((0<=p.n/\p.n<=200)/\p.signs=[]):=by
 have h2:¬p.kind=2:=aa;simp[aY,h,h2]
theorem mj{p:Part}(h:p.kind=2):aY p=(p.n=0/\p.signs.length<=200/\dK p.signs):=by simp[aY,h]
theorem IH{p:Part}(h1:p.kind≠1)(h2:p.kind≠2)(h3:p.kind≠3):¬aY p:=by simp[aY,h1,h2,h3]
theorem Lf(p:Part)(hl:p.signs.length<=2^40):ar Tryz.prog 310 [.agg p.row] (.one (.c (vb (aY p)) 1)):=by
 refine pci aq Tryz.func310 (λw0 base=>?_);simp[Part.row];intros;by_cases h13:p.kind=1\/p.kind=3
 ·rw[BZ h13]
  rcases h13 with h|h
  ·simp[h]
   refine ae.pure (bW p.n 0 200) ab ?_;exact DZ
  ·simp[h]
   refine ae.pure (bW p.n 0 200) ab ?_;exact DZ
 ·have h1:¬p.kind=1:=λh=>h13 (.inl h)
  have h3:¬p.kind=3:=λh=>h13 (.inr h)
  by_cases h2:p.kind=2
  ·rw[mj h2]
   simp[h2];by_cases hn:p.n=0
   ·by_cases hs:p.signs.length<=200
    ·have hs':(p.signs.length:Int)<=200:=by omega
     simp[hn,hs'];refine ae.pure (kB p.signs hl) ab ?_;simp[hs]
    ·have hs':¬(p.signs.length:Int)<=200:=by omega
     simp[hn,hs',hs]
   ·simp[hn]
  ·simp[h1,h2,h3,IH]
theorem KC(p:Part)(hl:p.signs.length<=2^40):ar Tryz.prog 279 [.agg p.row] (.one (.c (vb (aY p)) 1)):=by
 refine pci aq Tryz.func279 (λw0 base=>?_);simp[Part.row];intros;by_cases h13:p.kind=1\/p.kind=3
 ·rw[BZ h13]
  rcases h13 with h|h
  ·simp[h]
   refine ae.pure (dH p.n 0 200) ab ?_;exact DZ
  ·simp[h]
   refine ae.pure (dH p.n 0 200) ab ?_;exact DZ
 ·have h1:¬p.kind=1:=λh=>h13 (.inl h)
  have h3:¬p.kind=3:=λh=>h13 (.inr h)
  by_cases h2:p.kind=2
  ·rw[mj h2]
   simp[h2];by_cases hn:p.n=0
   ·simp[hn]
    refine ae.pure (lW p.signs hl) ab ?_;have e:((p.signs.length:Int)<=200)=(p.signs.length<=200):=aI;by_cases hg:dK p.signs
    ·simp[hg,e]
    ·simp[hg]
   ·simp[hn]
  ·simp[h1,h2,h3,IH]
def fL(o:List Part):Prop:=(∀p∈o,aY p)/\o.length<=600
theorem rz(o:List Part)(hl:nL aM o<=2^40):ar Tryz.prog 221 [.c (.s (o.map Part.row))] (.one (.c (vb (fL o)) 1)):=by
 refine pci aq Tryz.func221 (λw0 base=>?_);have hle:=bB hl;simp;refine aU.intro eok (λi:Nat=>i<=o.length/\∀p∈o.take i,aY p) (λi=>⟨18,0,[(7,.v (.int .i64 i)),(6,.v (.int .i64 o.length)),(5,.ro (o.map Part.row)),(0,.ro (o.map Part.row))],[]⟩) (λi=>o.length-i) 0 ab ab (λi hi=>?_);by_cases h:i<o.length
 ·simp[h,Part.row]
  intros;refine ae.pure (Lf o[i] (eA hl h)) iP ?_;exact QM
 ·exact TD
theorem ru(o:List Part)(hl:nL aM o<=2^40):ar Tryz.prog 177 [.c (.s (o.map Part.row))] (.one (.c (vb (fL o)) 1)):=by
 refine pci aq Tryz.func177 (λw0 base=>?_);have hle:=bB hl;simp;refine aU.intro eok (λi:Nat=>i<=o.length/\∀p∈o.take i,aY p) (λi=>⟨18,0,[(7,.v (.int .i64 i)),(6,.v (.int .i64 o.length)),(5,.ro (o.map Part.row)),(0,.ro (o.map Part.row))],[]⟩) (λi=>o.length-i) 0 ab ab (λi hi=>?_);by_cases h:i<o.length
 ·simp[h,Part.row]
  intros;refine ae.pure (KC o[i] (eA hl h)) iP ?_;exact QM
 ·exact TD
def dF(f:Part->Int):List Part->Int
 | []=>0
 |p::o=>f p+dF f o
theorem gI{f:Part->Int}:∀(a b:List Part),dF f (a++b)=dF f a+dF f b
 | [],b=>og
 |p::a,b=>by simp only[dE,dF,gI a b];omega
theorem gg{f:Part->Int}{o:List Part}{i:Nat}(h:i<o.length):dF f (o.take (i+1))=dF f (o.take i)+f o[i]:=by
 rw[<-bY h,gI];simp[dF]
theorem jT{f g:Part->Int}:∀{o:List Part},(∀p∈o,f p=g p)->dF f o=dF g o
 | [],_=>rfl
 | p :: o, h => by
   simp only[dF];rw[h p (aP ..),jT (λq hq=>h q (aG _ hq))]
theorem p4{f g:Part->Int}:∀(o:List Part),dF (λp=>f p+g p) o=dF f o+dF g o
 | []=>og
 |p::o=>by simp only[dF,p4 o];omega
def fK(p:Part):Int:=if p.kind=1 then p.n else 0
def fP(p:Part):Int:=if p.kind=2 then p.signs.length else 0
def fD(p:Part):Int:=if p.kind=1 then 0 else if p.kind=2 then 0 else p.n
def tX(k:Int)(p:Part):Int:=if p.kind=k then 0 else p.n+p.signs.length
def fOf(k:Int)(p:Part):Int:=if p.kind=k then p.n+p.signs.length else 0
theorem aY.bounds{p:Part}(h:aY p):(p.kind=1\/p.kind=2\/p.kind=3)/\0<=p.n/\p.n<=200/\p.signs.length<=200/\(p.kind=2->p.n=0)/\(p.kind≠2->p.signs=[]):=by
 rcases h with⟨h1,h2,h3⟩|⟨h1,h2,h3,h4⟩
 ·refine⟨aa,aa,aa,by simp[h3],aa,λ_=>h3⟩
 ·refine⟨aa,aa,aa,h3,λ_=>h2,λh=>absurd h1 h⟩
theorem ahK{p:Part}(h:aY p):tX 2 p=fK p+fD p:=by
 obtain⟨h1,h2,h3,h4,h5,h6⟩:=h.bounds;unfold tX fK fD;by_cases k2:p.kind=2
 ·simp[k2]
 ·by_cases k1:p.kind=1<;>simp[k1,k2,h6 k2]
theorem ahJ{p:Part}(h:aY p):tX 3 p=fK p+fP p:=by
 obtain⟨h1,h2,h3,h4,h5,h6⟩:=h.bounds;unfold tX fK fP;rcases h1 with k|k|k
 ·simp[k,h6 aa]
 ·simp[k,h5 k]
 ·simp[k]
theorem of2{p:Part}(h:aY p):fOf 2 p=fP p:=by
 obtain⟨h1,h2,h3,h4,h5,h6⟩:=h.bounds;unfold fOf fP;by_cases k:p.kind=2
 ·simp[k,h5 k]
 ·simp[k]
theorem of3{p:Part}(h:aY p):fOf 3 p=fD p:=by
 obtain⟨h1,h2,h3,h4,h5,h6⟩:=h.bounds;unfold fOf fD;rcases h1 with k|k|k
 ·simp[k]
 ·simp[k]
 ·simp[k,h6 aa]
theorem gn{f:Part->Int}{B:Int}(hf:∀p,aY p->0<=f p/\f p<=B):∀{o:List Part},(∀p∈o,aY p)->0<=dF f o/\dF f o<=B*o.length
 | [],_=>og
 | p :: o, h => by
   have h1:=hf p (h p (aP ..));have h2:=gn hf (o:=o) (λq hq=>h q (aG _ hq));simp only[dF,bH];rw[show B*((o.length+1:Nat):Int)=B*o.length+B by rw[Int.natCast_add];simp[Int.mul_add]];omega
theorem PL{p:Part}(h:aY p):0<=fK p/\fK p<=200:=by have:=h.bounds;unfold fK;split<;>omega
theorem akv{p:Part}(h:aY p):0<=fP p/\fP p<=200:=by have:=h.bounds;unfold fP;split<;>omega
theorem PP{p:Part}(h:aY p):0<=fD p/\fD p<=200:=by have:=h.bounds;unfold fD;split<;>(try split)<;>omega
theorem ahB{k:Int}{p:Part}(h:aY p):0<=tX k p/\tX k p<=400:=by have:=h.bounds;unfold tX;split<;>omega
theorem akw{k:Int}{p:Part}(h:aY p):0<=fOf k p/\fOf k p<=400:=by have:=h.bounds;unfold fOf;split<;>omega
theorem pA{o:List Part}(h:∀p∈o,aY p)(i:Nat):∀p∈o.take i,aY p:=λp hp=>h p (bN hp)
theorem ZX(p:Part)(hp:aY p):ar Tryz.prog 323 [.agg p.row] (.one (.c (vi (p.n+p.signs.length)) 1)):=by
 refine pci aq Tryz.func323 (λw0 base=>?_);have:=hp.bounds;have e:Go.IntKind.i64.wrap (p.n+(p.signs.length:Int))=p.n+p.signs.length:=ah _ aa;simp[Part.row,e]
open Classical in
noncomputable def sizeOf(o:List Part)(k:Int):Int:=if fL o then dF (tX k) o else 0
theorem zS(o:List Part)(hl:nL aM o<=2^40)(k:Int):ar Tryz.prog 328 [.c (.s (o.map Part.row)),.c (vi k)] (.one (.c (vi (sizeOf o k)) 1)):=by
 refine pci aq Tryz.func328 (λw0 base=>?_);have hle:=bB hl;simp;refine ae.pure (rz o hl) ab ?_;by_cases ho:fL o
 ·have hr:sizeOf o k=dF (tX k) o:=by unfold sizeOf;rw[al ho]
  simp[ho,hr];refine aU.intro eok (λi:Nat=>i<=o.length) (λi=>⟨27,0,[(13,.v (.int .i64 i)),(12,.v (.int .i64 o.length)),(11,.ro (o.map Part.row)),(5,.v (.int .i64 (dF (tX k) (o.take i)))),(1,.v (.int .i64 k))],[]⟩) (λi=>o.length-i) 0 ab og (λi hi=>?_);by_cases h:i<o.length
  ·have hp:=ho.1 _ (ao h)
   have hb:=gn (f:=tX k) (λp h=>ahB h) (pA ho.1 i);have hb2:=hp.bounds;have hlen:=ho.2;have hlt:(o.take i).length<=600:=aI;have hs:=gg (f:=tX k) h;obtain⟨q,hq⟩:∃q,dF (tX k) (o.take i)=q:=⟨_,rfl⟩;have e:Go.IntKind.i64.wrap ((i:Int)+1)=((i+1:Nat):Int):=aZ aa;rw[hq]at hs hb;simp[h,Part.row,hq];intros;by_cases hk:o[i].kind=k
   ·simp[hk]
    refine⟨i+1,aa,aa,e,?_⟩;rw[hs];simp[tX,hk]
   ·simp[hk]
    refine ae.pure (ZX o[i] hp) iP ?_;have e2:Go.IntKind.i64.wrap (q+(o[i].n+(o[i].signs.length:Int)))=q+(o[i].n+o[i].signs.length):=ah _ aa;simp[e2];refine⟨i+1,aa,aa,e,?_⟩;rw[hs];simp[tX,hk]
  ·simp[h]
   rw[aD aa]
 ·have e:dc (fL o)=false:=by rw[eK];exact ho
  have hr:sizeOf o k=0:=by unfold sizeOf;rw[ak ho]
  simp[e,hr]
open Classical in
noncomputable def ec(o:List Part):Int×Int×Int:=if fL o then(dF fK o,dF fP o,dF fD o)else(0,0,0)
theorem zR(o:List Part)(hl:nL aM o<=2^40):ar Tryz.prog 292 [.c (.s (o.map Part.row))] (.tup [.c (vi (ec o).1) 1,.c (vi (ec o).2.1) 1,.c (vi (ec o).2.2) 1]):=by
 refine pci aq Tryz.func292 (λw0 base=>?_);have hle:=bB hl;simp;refine ae.pure (ru o hl) ab ?_;by_cases ho:fL o
 ·have hr:ec o=(dF fK o,dF fP o,dF fD o):=by unfold ec;rw[al ho]
  simp[ho,hr];refine aU.intro eok (λi:Nat=>i<=o.length) (λi=>⟨42,0,[(15,.v (.int .i64 i)),(14,.v (.int .i64 o.length)),(13,.ro (o.map Part.row)),(5,.v (.int .i64 (dF fK (o.take i)))),(6,.v (.int .i64 (dF fP (o.take i)))),(7,.v (.int .i64 (dF fD (o.take i))))],[]⟩) (λi=>o.length-i) 0 ab og (λi hi=>?_);by_cases h:i<o.length
  ·have hp:=ho.1 _ (ao h)
   have hb1:=gn (f:=fK) (λp h=>PL h) (pA ho.1 i);have hb2:=gn (f:=fP) (λp h=>akv h) (pA ho.1 i);have hb3:=gn (f:=fD) (λp h=>PP h) (pA ho.1 i);have hpb:=hp.bounds;have hlen:=ho.2;have hlt:(o.take i).length<=600:=aI;have hs1:=gg (f:=fK) h;have hs2:=gg (f:=fP) h;have hs3:=gg (f:=fD) h;obtain⟨q1,hq1⟩:∃q,dF fK (o.take i)=q:=⟨_,rfl⟩;obtain⟨q2,hq2⟩:∃q,dF fP (o.take i)=q:=⟨_,rfl⟩;obtain⟨q3,hq3⟩:∃q,dF fD (o.take i)=q:=⟨_,rfl⟩;have e:Go.IntKind.i64.wrap ((i:Int)+1)=((i+1:Nat):Int):=aZ aa;rw[hq1]at hs1 hb1;rw[hq2]at hs2 hb2;rw[hq3]at hs3 hb3;simp[h,Part.row,hq1,hq2,hq3];intros;have e1:Go.IntKind.i64.wrap (q1+o[i].n)=q1+o[i].n:=ah _ aa
   have e2:Go.IntKind.i64.wrap (q2+(o[i].signs.length:Int))=q2+o[i].signs.length:=ah _ aa;have e3:Go.IntKind.i64.wrap (q3+o[i].n)=q3+o[i].n:=ah _ aa;by_cases k1:o[i].kind=1
   ·simp[k1,e1]
    refine⟨i+1,aa,aa,e,?_,?_,?_⟩
    ·rw[hs1];simp[fK,k1]
    ·rw[hs2];simp[fP,k1]
    ·rw[hs3];simp[fD,k1]
   ·by_cases k2:o[i].kind=2
    ·simp[k2,e2]
     refine⟨i+1,aa,aa,e,?_,?_,?_⟩
     ·rw[hs1];simp[fK,k2]
     ·rw[hs2];simp[fP,k2]
     ·rw[hs3];simp[fD,k2]
    ·simp[k1,k2,e3]
     refine⟨i+1,aa,aa,e,?_,?_,?_⟩
     ·rw[hs1];simp[fK,k1]
     ·rw[hs2];simp[fP,k2]
     ·rw[hs3];simp[fD,k1,k2]
  ·simp[h]
   rw[aD aa];simp
 ·have e:dc (fL o)=false:=by rw[eK];exact ho
  have hr:ec o=(0,0,0):=by unfold ec;rw[ak ho]
  simp[e,hr]
noncomputable def bS(o:List Part):Int:=(ec o).1+(ec o).2.2
noncomputable def jt(o:List Part):Int:=(ec o).1+(ec o).2.1
theorem MW(o:List Part):sizeOf o 2=bS o:=by
 unfold sizeOf bS ec
 split
 ·rename_i h
  show _=dF fK o+dF fD o
  rw[<-p4];exact jT (λp hp=>ahK (h.1 p hp))
 ·rfl
theorem WX(o:List Part):sizeOf o 3=jt o:=by
 unfold sizeOf jt ec
 split
 ·rename_i h
  show _=dF fK o+dF fP o
  rw[<-p4];exact jT (λp hp=>ahJ (h.1 p hp))
 ·rfl
theorem Nh(o:List Part):(0<=(ec o).1/\(ec o).1<=120000)/\(0<=(ec o).2.1/\(ec o).2.1<=120000)/\0<=(ec o).2.2/\(ec o).2.2<=120000:=by
 unfold ec
 split
 ·rename_i h
  have h1:=gn (f:=fK) (λp h=>PL h) h.1;have h2:=gn (f:=fP) (λp h=>akv h) h.1;have h3:=gn (f:=fD) (λp h=>PP h) h.1;have h4:=h.2;exact gT
 ·simp
theorem iA(o:List Part)(hl:nL aM o<=2^40):ar Tryz.prog 253 [.c (.s (o.map Part.row))] (.one (.c (vi (bS o)) 1)):=by
 refine pci aq Tryz.func253 (λw0 base=>?_);simp;refine ae.pure (zS o hl 2) ab ?_;simp[MW]
theorem tJ(o:List Part)(hl:nL aM o<=2^40):ar Tryz.prog 239 [.c (.s (o.map Part.row))] (.one (.c (vi (jt o)) 1)):=by
 refine pci aq Tryz.func239 (λw0 base=>?_);simp;refine ae.pure (zS o hl 3) ab ?_;simp[WX]
theorem gB(o:List Part)(hl:nL aM o<=2^40):ar Tryz.prog 278 [.c (.s (o.map Part.row))] (.one (.c (vi (bS o)) 1)):=by
 refine pci aq Tryz.func278 (λw0 base=>?_);simp;refine ae.pure (zR o hl) ab ?_;have:=Nh o;have e:Go.IntKind.i64.wrap ((ec o).1+(ec o).2.2)=bS o:=ah _ aa;simp[e]
theorem s7(o:List Part)(hl:nL aM o<=2^40):ar Tryz.prog 193 [.c (.s (o.map Part.row))] (.one (.c (vi (jt o)) 1)):=by
 refine pci aq Tryz.func193 (λw0 base=>?_);simp;refine ae.pure (zR o hl) ab ?_;have:=Nh o;have e:Go.IntKind.i64.wrap ((ec o).1+(ec o).2.1)=jt o:=ah _ aa;simp[e]
def cz(o:List Part):Prop:=fL o/\bS o<=200/\jt o<=200
theorem ep(o:List Part)(hl:nL aM o<=2^40):ar Tryz.prog 219 [.c (.s (o.map Part.row))] (.one (.c (vb (cz o)) 1)):=by
 refine pci aq Tryz.func219 (λw0 base=>?_);simp;refine ae.pure (rz o hl) ab ?_;by_cases h:fL o
 ·simp[h]
  refine ae.pure (iA o hl) ab ?_;by_cases h1:bS o<=200
  ·simp[h1]
   refine ae.pure (tJ o hl) ab ?_;simp[cz,h,h1]
  ·simp[h1,cz,h]
 ·simp[h,cz]
theorem eo(o:List Part)(hl:nL aM o<=2^40):ar Tryz.prog 174 [.c (.s (o.map Part.row))] (.one (.c (vb (cz o)) 1)):=by
 refine pci aq Tryz.func174 (λw0 base=>?_);simp;refine ae.pure (ru o hl) ab ?_;by_cases h:fL o
 ·simp[h]
  refine ae.pure (gB o hl) ab ?_;by_cases h1:bS o<=200
  ·simp[h1]
   refine ae.pure (s7 o hl) ab ?_;simp[cz,h,h1]
  ·simp[h1,cz,h]
 ·simp[h,cz]
def bq(L:List Part)(P:List Int)(D:Int):List Part:=L++((if P=[]then []else [⟨2,0,P⟩])++(if 0<D then [⟨3,D,[]⟩]else []))
def dX(L:List Part)(n:Int):List Part:=
 if h:0<L.length then
  if(L[L.length-1]' aa).kind=1 then L.set (L.length-1) ⟨1,(L[L.length-1]' aa).n+n,(L[L.length-1]' aa).signs⟩else L++[⟨1,n,[]⟩]
 else [⟨1,n,[]⟩]
def fb(s:List Part×List Int×Int)(p:Part):List Part×List Int×Int:=
 if p.kind=2 then(s.1,s.2.1++p.signs,s.2.2)
 else if p.kind=3 then(s.1,s.2.1,s.2.2+p.n)
 else if 0<p.n then(dX (bq s.1 s.2.1 s.2.2) p.n,[],0)else s
def bT(o:List Part):List Part×List Int×Int:=o.foldl fb ([],[],0)
def normal(o:List Part):List Part:=bq (bT o).1 (bT o).2.1 (bT o).2.2
theorem mC{o:List Part}{i:Nat}(h:i<o.length):bT (o.take (i+1))=fb (bT (o.take i)) o[i]:=by
 unfold bT;exact wA
structure NbOk(m:Nat)(s:List Part×List Int×Int):Prop where
 l:s.1.length<=3*m
 p:s.2.1.length<=200*m
 d0:0<=s.2.2
 d:s.2.2<=200*m
 q:∀q∈s.1,0<=q.n/\q.n<=200*m
theorem jN(L:List Part)(P:List Int)(D:Int):(bq L P D).length<=L.length+2:=by
 unfold bq
 split<;>split<;>simp
theorem ku{L:List Part}{P:List Int}{D B:Int}(h0:0<=D)(hD:D<=B)(hL:∀q∈L,0<=q.n/\q.n<=B):∀q∈bq L P D,0<=q.n/\q.n<=B:=by
 intro q hq;unfold bq at hq;simp only[aO]at hq;rcases hq with hq|hq|hq
 ·exact hL q hq
 ·split at hq
  ·simp at hq
  ·exact DC
 ·split at hq
  ·exact DC
  ·simp at hq
theorem qa{o:List Part}(ho:∀p∈o,aY p):∀(i:Nat),i<=o.length->NbOk i (bT (o.take i))
 | 0, _ => by
   simp[bT];exact⟨ab,ab,ab,ab,ab⟩
 | i + 1, hi => by
   have ih:=qa ho i aa;have hlt:i<o.length:=aa;rw[mC hlt];have hp:=(ho _ (ao hlt)).bounds;generalize bT (o.take i)=s at ih;generalize o[i]=p at hp;obtain⟨L,P,D⟩:=s;obtain⟨h1,h2,h3,h4,h5⟩:=ih;simp only at h1 h2 h3 h4 h5;have w:∀q∈L,0<=q.n/\q.n<=200*((i+1:Nat):Int):=λq hq=>by have:=h5 q hq;omega
   unfold fb
   split
   ·exact⟨aI,aI,h3,aI,w⟩
   ·split
    ·exact⟨aI,aI,aI,aI,w⟩
    ·split
     ·have f1:=jN L P D
      have f2:=ku (P:=P) h3 h4 h5;refine⟨?_,ab,ab,aI,?_⟩
      ·simp only[dX]
       split
       ·split<;>simp<;>omega
       ·simp;omega
      ·simp only[dX]
       intro q hq
       split at hq
       ·split at hq
        ·rcases yb hq with hq|rfl
         ·have:=f2 q hq;omega
         ·have:=f2 _ (ao (show(bq L P D).length-1<(bq L P D).length from aa))
          exact gT
        ·rcases aO.1 hq with hq|hq
         ·have:=f2 q hq;omega
         ·exact DC
       ·exact DC
     ·exact⟨aI,aI,h3,aI,w⟩
theorem rF{L:List Part}{P:List Int}{D:Int}(hP:¬P=[])(hD:0<D):bq L P D=L++[⟨2,0,P⟩]++[⟨3,D,[]⟩]:=Dr
theorem rE{L:List Part}{P:List Int}{D:Int}(hP:¬P=[])(hD:¬0<D):bq L P D=L++[⟨2,0,P⟩]:=Dr
theorem rD{L:List Part}{P:List Int}{D:Int}(hP:P=[])(hD:0<D):bq L P D=L++[⟨3,D,[]⟩]:=Dr
theorem rC{L:List Part}{P:List Int}{D:Int}(hP:P=[])(hD:¬0<D):bq L P D=L:=Dr
theorem vA{w0:World}{bF bG:Nat->Prop}{bl:Bool}{st:ASt}{dst:Option Nat}{K:ASt->Prop}{L:List Part}{P:List Int}{D:Int}{b3 b4 b5:Nat}{Hl Hp:Hd}(hL:L.length<=2^20)(_hP:P.length<=2^40)
 (g48:st.h.get 48=.vars b3 60 [.sl 5000 Hl 3 0 L.length]) (g64:st.h.get 64=.vars b4 26 [.sl 5001 Hp 1 0 P.length]) (g80:st.h.get 80=.vars b5 3 [.v (.int .i64 D)])
 (g5000:st.h.get 5000=.rows Hl 3 (L.map Part.row) true) (g5001:st.h.get 5001=.rows Hp 1 (P.map aN) true)
 (hK:∀Hl' h',AH.get h' 48=.vars b3 60 [.sl 5000 Hl' 3 0 (bq L P D).length]->AH.get h' 5000=.rows Hl' 3 ((bq L P D).map Part.row) true->AH.get h' 64=.vars b4 26 [.nil]->AH.get h' 80=.vars b5 3 [.v (.int .i64 0)] ->
  AH.get h' 128=st.h.get 128->cG ⟨st.n,st.kb,st.t,h'⟩ dst (.tup []) K):ae ⟨Tryz.prog,tt,w0,⟨bF,bG,bl,λ_=>True⟩⟩ 360 [.p 64 b4 0,.p 48 b3 0,.p 80 b5 0] st dst K:=by
 refine inl aq Tryz.func360 20000 (λw1 F=>?_);simp[g64];by_cases hp:P=[]
 ·have hp0:¬0<P.length:=by simp[hp]
  simp[hp0,g80];by_cases hd:0<D
  ·simp[hd,g48,g5000,g80,g64]
   intro b;refine⟨aa,λH=>hK H _ ?_ ?_ ?_ ?_ ?_⟩<;>simp[rD hp hd,Part.row]
  ·simp[hd,g80,g64]
   refine hK Hl _ ?_ ?_ ?_ ?_ ?_<;>simp[rC hp hd,g48,g5000]
 ·have hp0:0<P.length:=bJ.2 hp
  simp[hp0,g80,g48,g5000,g5001,g64];intro b;refine⟨aa,λH=>?_⟩;by_cases hd:0<D
  ·simp[hd,g80,g64]
   intro b2;refine⟨aa,λH2=>hK H2 _ ?_ ?_ ?_ ?_ ?_⟩<;>simp[rF hp hd,Part.row]
  ·simp[hd,g80,g64]
   refine hK H _ ?_ ?_ ?_ ?_ ?_<;>simp[rE hp hd,Part.row]
theorem nP{F:List Part}{m:Nat}(h:m<F.length){g:List CD->List CD}{p:Part}(hg:g F[m].row=p.row):(F.map Part.row).modify m g=(F.set m p).map Part.row:=by
 apply qy
 intro j;rw[iT];simp only[bP,iX];by_cases hj:m=j
 ·subst hj
  simp[h,hg]
 ·simp[hj]
theorem zH(o:List Part)(ho:∀p∈o,aY p)(hl:o.length<=10000):ar Tryz.prog 325 [.c (.s (o.map Part.row))] (.one (.c (.s ((normal o).map Part.row)) 3)):=by
 refine pci aq Tryz.func325 (λw0 base=>?_);simp;intro b3 b4 b5
 refine aE eok (λx:Nat×Hd×Hd=>x.1<=o.length) (λx=>⟨73,0,[(13,.v (.int .i64 x.1)),(12,.v (.int .i64 o.length)),(11,.ro (o.map Part.row)),(3,.p 48 b3 0),(4,.p 64 b4 0),(5,.p 80 b5 0),(6,.clo 360 [.p 64 b4 0,.p 48 b3 0,.p 80 b5 0])],
  [(48, .vars b3 60 [.sl 5000 x.2.1 3 0 (bT (o.take x.1)).1.length]),(64, .vars b4 26 [.sl 5001 x.2.2 1 0 (bT (o.take x.1)).2.1.length]),(80, .vars b5 3 [.v (.int .i64 (bT (o.take x.1)).2.2)]),
   (5000,.rows x.2.1 3 ((bT (o.take x.1)).1.map Part.row) true),(5001,.rows x.2.2 1 ((bT (o.take x.1)).2.1.map aN) true)]⟩) (λx=>o.length-x.1) (0,none,none) ab (by simp[bT]) (λx hx=>Ent.refl ?_)
 obtain⟨i,Hl,Hp⟩:=x;simp only at hx⊢;have hok:=qa ho i hx;by_cases h:i<o.length
 ·have hs:=mC h
  have hpb:=(ho _ (ao h)).bounds;generalize bT (o.take i)=s at hok hs;obtain⟨L,P,D⟩:=s;obtain⟨k1,k2,k3,k4,k5⟩:=hok;simp only at k1 k2 k3 k4 k5;have e:Go.IntKind.i64.wrap ((i:Int)+1)=((i+1:Nat):Int):=aZ aa;simp[h,Part.row];intro b8;by_cases c2:o[i].kind=2
  ·simp[c2]
   exact SX
  ·by_cases c3:o[i].kind=3
   ·have e3:Go.IntKind.i64.wrap (D+o[i].n)=D+o[i].n:=ah _ aa
    simp[c3,e3];exact Ry
   ·by_cases cn:0<o[i].n
    ·simp[c2,c3,cn]
     refine vA (L:=L) (P:=P) (D:=D) (Hl:=Hl) (Hp:=Hp) aa aa ab ab ab ab ab (λHl' h' g48 g5000 g64 g80 g128=>?_);have f1:=jN L P D;have f2:=ku (P:=P) k3 k4 k5;have hstep:fb (L,P,D) o[i]=(dX (bq L P D) o[i].n,[],0):=by simp[fb,c2,c3,cn]
     rw[hstep]at hs;generalize bq L P D=F at f1 f2 g48 g5000 hs;simp at g128;by_cases hF:0<F.length
     ·obtain⟨m,hm⟩:∃m,F.length=m+1:=⟨F.length-1,aa⟩
      have hmlt:m<F.length:=aa;have em:Go.IntKind.i64.wrap (m:Int)=m:=gb aa
      have hk:dX F o[i].n=if F[m].kind=1 then F.set m ⟨1,F[m].n+o[i].n,F[m].signs⟩else F++[⟨1,o[i].n,[]⟩]:=by
       have e0:F.length-1=m:=aa;simp[dX,hF,e0]
      have hq:=f2 _ (ao hmlt);simp[g48,g5000,hm,em,Part.row];by_cases ck:F[m].kind=1
      ·rw[al ck]at hk
       have em2:Go.IntKind.i64.wrap (F[m].n+o[i].n)=F[m].n+o[i].n:=ah _ aa;have hmm:(m:Int)<m+1:=aa;simp[ck,hmm];refine drw eok mix [0,1,2,3,4,5,6,7,8,9,10] [11] (.c 11 11 2045 2 (.l 11 2) .s) ?_;simp[g48,g5000,g128,hm,em,Part.row,ck,em2,hmm];refine Ent.kill 5001 (Ent.refl ⟨i+1,aa,aa,Hl',none,?_⟩);rw[hs,hk];have hmod:=nP (F:=F) (m:=m) hmlt (g:=λrow=>jX row 1 [CD.v (Value.int IntKind.i64 (F[m].n+o[i].n))]) (p:=⟨1,F[m].n+o[i].n,F[m].signs⟩) wq;simp[e,g48,g64,g80,hm,hmod]
      ·rw[ak ck]at hk
       simp[ck,g48,g5000,g128,hm];refine⟨aa,λb=>⟨aa,λH=>?_⟩⟩;refine Ent.kill 5001 (Ent.refl ⟨i+1,aa,aa,H,none,?_⟩);rw[hs,hk];simp[e,Part.row,g64,g80,hm]
     ·have hF0:F=[]:=aF aa
      subst hF0;have hk:dX [] o[i].n=[⟨1,o[i].n,[]⟩]:=wo;simp[g48,g5000,g128];intro b H;refine Ent.kill 5001 (Ent.refl ⟨i+1,aa,aa,H,none,?_⟩);rw[hs,hk];simp[e,Part.row,g64,g80]
    ·simp[c2,c3,cn]
     refine Ent.refl ⟨i+1,aa,aa,Hl,Hp,?_⟩;rw[hs];simp[fb,c2,c3,cn,e]
 ·have he:o.take i=o:=aD aa
  rw[he]at hok⊢;have hn:normal o=bq (bT o).1 (bT o).2.1 (bT o).2.2:=rfl;rw[hn];generalize bT o=s at hok;obtain⟨L,P,D⟩:=s;obtain⟨k1,k2,k3,k4,k5⟩:=hok;simp only at k1 k2 k3 k4 k5;simp[h];refine vA (L:=L) (P:=P) (D:=D) (Hl:=Hl) (Hp:=Hp) aa aa ab ab ab ab ab (λHl' h' g48 g5000 g64 g80 g128=>?_);simp[g48,g5000]
theorem uV{w0:World}{bF bG:Nat->Prop}{bl:Bool}{st:ASt}{dst:Option Nat}{K:ASt->Prop}{L:List Part}{P:List Int}{D:Int}{b:Nat}{Hl Hp:Hd}(hL:L.length<=2^20)(_hP:P.length<=2^40)
 (g160:st.h.get 160=.vars b 268 [.sl 5000 Hl 3 0 L.length,.sl 5001 Hp 1 0 P.length,.v (.int .i64 D)])
 (g5000:st.h.get 5000=.rows Hl 3 (L.map Part.row) true) (g5001:st.h.get 5001=.rows Hp 1 (P.map aN) true)
 (hK:∀Hl' h',AH.get h' 160=.vars b 268 [.sl 5000 Hl' 3 0 (bq L P D).length,.nil,.v (.int .i64 0)]->AH.get h' 5000=.rows Hl' 3 ((bq L P D).map Part.row) true ->
  AH.get h' 80=st.h.get 80->cG ⟨st.n,st.kb,st.t,h'⟩ dst (.tup []) K):ae ⟨Tryz.prog,tt,w0,⟨bF,bG,bl,λ_=>True⟩⟩ 346 [.p 160 b 0] st dst K:=by
 refine inl aq Tryz.func346 20000 (λw1 F=>?_);simp[g160];by_cases hp:P=[]
 ·have hp0:¬0<P.length:=by simp[hp]
  simp[hp0,g160];by_cases hd:0<D
  ·simp[hd]
   refine drw eok mix [0,1,2,3,4,5,6,7,8,9,12,13] [10,11,14] (.c 12 10 4 4091 (.c 12 11 128 3963 (.c 12 14 3961 2 (.l 12 2) .s) .s) .s) ?_;simp[g160,g5000];intro b1;refine⟨aa,λH=>hK H _ ?_ ?_ ?_⟩<;>simp[rD hp hd,Part.row]
  ·simp[hd,g160]
   refine hK Hl _ ?_ ?_ ?_<;>simp[rC hp hd,g5000]
 ·have hp0:0<P.length:=bJ.2 hp
  simp[hp0];refine drw eok mix [0,1,2,3,4,5,6,7,8,9,12,13] [10,11,14] (.c 12 10 4 4091 (.c 12 11 128 3963 (.c 12 14 3961 2 (.l 12 2) .s) .s) .s) ?_;simp[g160,g5000,g5001];intro b1;refine⟨aa,λH=>?_⟩;by_cases hd:0<D
  ·simp[hd]
   refine drw eok mix [0,1,2,3,4,5,6,7,8,9,12,13] [10,11,14] (.c 12 10 4 4091 (.c 12 11 128 3963 (.c 12 14 3961 2 (.l 12 2) .s) .s) .s) ?_;simp;intro b2;refine⟨aa,λH2=>hK H2 _ ?_ ?_ ?_⟩<;>simp[rF hp hd,Part.row]
  ·simp[hd]
   refine hK H _ ?_ ?_ ?_<;>simp[rE hp hd,Part.row]
theorem He{w0:World}{bF bG:Nat->Prop}{bl:Bool}{st:ASt}{dst:Option Nat}{K:ASt->Prop}{L:List Part}{P:List Int}{D n:Int}{b:Nat}{Hl Hp:Hd}(hL:L.length<=2^19)(hP:P.length<=2^40)(hn0:0<n)(hn:n<=200)(hF:∀q∈bq L P D,0<=q.n/\q.n<=2^40)
 (g160:st.h.get 160=.vars b 268 [.sl 5000 Hl 3 0 L.length,.sl 5001 Hp 1 0 P.length,.v (.int .i64 D)])
 (g5000:st.h.get 5000=.rows Hl 3 (L.map Part.row) true) (g5001:st.h.get 5001=.rows Hp 1 (P.map aN) true)
 (hK:∀Hl' h',AH.get h' 160=.vars b 268 [.sl 5000 Hl' 3 0 (dX (bq L P D) n).length,.nil,.v (.int .i64 0)]->AH.get h' 5000=.rows Hl' 3 ((dX (bq L P D) n).map Part.row) true ->
  AH.get h' 80=st.h.get 80->cG ⟨st.n,st.kb,st.t,h'⟩ dst (.tup []) K):ae ⟨Tryz.prog,tt,w0,⟨bF,bG,bl,λ_=>True⟩⟩ 288 [.p 160 b 0,.v (.int .i64 n)] st dst K:=by
 refine inl aq Tryz.func288 30000 (λw1 F=>?_);have n0:¬n=0:=aa;simp[n0];refine uV (L:=L) (P:=P) (D:=D) (Hl:=Hl) (Hp:=Hp) aa hP (by simp[g160]) (by simp[g5000]) (by simp[g5001]) (λHl' h' k160 k5000 k80=>?_);have f1:=jN L P D;generalize bq L P D=F at f1 hF k160 k5000 hK;by_cases hF0:0<F.length
 ·obtain⟨m,hm⟩:∃m,F.length=m+1:=⟨F.length-1,aa⟩
  have hmlt:m<F.length:=aa;have hmm:(m:Int)<m+1:=aa;have em:Go.IntKind.i64.wrap (m:Int)=m:=gb aa
  have hk:dX F n=if F[m].kind=1 then F.set m ⟨1,F[m].n+n,F[m].signs⟩else F++[⟨1,n,[]⟩]:=by
   exact zd
  have hq:=hF _ (ao hmlt);have em2:Go.IntKind.i64.wrap (F[m].n+n)=F[m].n+n:=ah _ aa;simp[k160,k5000,hm,em,hmm,Part.row];by_cases ck:F[m].kind=1
  ·rw[al ck]at hk
   simp[ck];refine drw eok mix [0,1,2,3,4,5,6,7,8,9,10,11,12,13,14,15,16,17,18] [19] (.c 19 19 524285 2 (.l 19 2) .s) ?_;simp[k160,k5000,hm,em,hmm,Part.row,ck,em2];have hmod:=nP (F:=F) (m:=m) hmlt (g:=λrow=>jX row 1 [CD.v (Value.int IntKind.i64 (F[m].n+n))]) (p:=⟨1,F[m].n+n,F[m].signs⟩) wq;refine hK Hl' _ ?_ ?_ ?_
   ·simp[k160,hk,hm]
   ·simp[hk,hmod]
   ·simp[k80]
  ·rw[ak ck]at hk
   simp[ck,k160,k5000,hm];intro b1;refine⟨aa,λH=>hK H _ ?_ ?_ ?_⟩<;>simp[hk,hm,Part.row,k80]
 ·have hF1:F=[]:=aF aa
  subst hF1;have hk:dX [] n=[⟨1,n,[]⟩]:=wo;simp[k160,k5000];intro b1 H;refine hK H _ ?_ ?_ ?_<;>simp[hk,Part.row,k80]
open Classical in
noncomputable def cN(o:List Part):List Part:=if cz o then normal o else []
theorem lG(o:List Part)(hl:nL aM o<=2^40):ar Tryz.prog 308 [.c (.s (o.map Part.row))] (.one (.c (.s ((cN o).map Part.row)) 3)):=by
 refine pci aq Tryz.func308 (λw0 base=>?_);simp;refine ae.pure (ep o hl) ab ?_;by_cases h:cz o
 ·have e:cN o=normal o:=by unfold cN;rw[al h]
  simp[h,e];refine ae.pure (zH o h.1.1 (by have:=h.1.2;omega)) ab ?_;simp
 ·have e:cN o=[]:=by unfold cN;rw[ak h]
  have e2:dc (cz o)=false:=Dq;simp[e,e2]
theorem pC(o:List Part)(hl:nL aM o<=2^40):ar Tryz.prog 299 [.c (.s (o.map Part.row))] (.one (.c (.s ((cN o).map Part.row)) 3)):=by
 refine pci aq Tryz.func299 (λw0 base=>?_);simp;refine ae.pure (eo o hl) ab ?_;by_cases hopk:cz o
 rotate_left
 ·have e:cN o=[]:=by unfold cN;rw[ak hopk]
  have e2:dc (cz o)=false:=by rw[eK];exact hopk
  simp[e,e2]
 have e:cN o=normal o:=by unfold cN;rw[al hopk]
 have ho:=hopk.1.1;have hlen:=hopk.1.2;simp[hopk,e];intro b
 refine aE eok (λx:Nat×Hd×Hd=>x.1<=o.length) (λx=>⟨38,0,[(13,.v (.int .i64 x.1)),(12,.v (.int .i64 o.length)),(11,.ro (o.map Part.row)),(3,.p 160 b 0)],
  [(160, .vars b 268 [.sl 5000 x.2.1 3 0 (bT (o.take x.1)).1.length, .sl 5001 x.2.2 1 0 (bT (o.take x.1)).2.1.length, .v (.int .i64 (bT (o.take x.1)).2.2)]),
   (5000,.rows x.2.1 3 ((bT (o.take x.1)).1.map Part.row) true),(5001,.rows x.2.2 1 ((bT (o.take x.1)).2.1.map aN) true)]⟩) (λx=>o.length-x.1) (0,none,none) ab (by simp[bT]) (λx hx=>Ent.refl ?_)
 obtain⟨i,Hl,Hp⟩:=x;simp only at hx⊢;have hok:=qa ho i hx;by_cases h:i<o.length
 ·have hs:=mC h
  have hpb:=(ho _ (ao h)).bounds;generalize bT (o.take i)=s at hok hs;obtain⟨L,P,D⟩:=s;obtain⟨k1,k2,k3,k4,k5⟩:=hok;simp only at k1 k2 k3 k4 k5;have e:Go.IntKind.i64.wrap ((i:Int)+1)=((i+1:Nat):Int):=aZ aa;simp[h,Part.row];intro b5;by_cases c1:o[i].kind=1
  ·simp[c1]
   by_cases cn:0<o[i].n
   ·have hstep:fb (L,P,D) o[i]=(dX (bq L P D) o[i].n,[],0):=by simp[fb,c1,cn]
    rw[hstep]at hs;have f2:=ku (P:=P) k3 k4 k5;refine He (L:=L) (P:=P) (D:=D) (Hl:=Hl) (Hp:=Hp) aa aa cn hpb.2.2.1 (λq hq=>Dp) ab ab ab (λHl' h' k160 k5000 k80=>?_);simp;refine Ent.kill 5001 (Ent.refl ⟨i+1,aa,aa,Hl',none,?_⟩);rw[hs];simp[e,k160,k5000]
   ·have cn0:o[i].n=0:=by omega
    refine inl aq Tryz.func288 30000 (λw1 F=>?_);simp[cn0];refine Ent.refl ⟨i+1,aa,aa,Hl,Hp,?_⟩;rw[hs];simp[fb,c1,cn0,e]
  ·by_cases c2:o[i].kind=2
   ·simp[c2]
    refine inl aq Tryz.func285 30000 (λw1 F=>?_);simp;exact SX
   ·have c3:o[i].kind=3:=by omega
    have e3:Go.IntKind.i64.wrap (D+o[i].n)=D+o[i].n:=ah _ aa;simp[c1,c2];refine inl aq Tryz.func284 30000 (λw1 F=>?_);simp[e3];exact Ry
 ·have he:o.take i=o:=aD aa
  rw[he]at hok⊢;have hn:normal o=bq (bT o).1 (bT o).2.1 (bT o).2.2:=rfl;rw[hn];generalize bT o=s at hok;obtain⟨L,P,D⟩:=s;obtain⟨k1,k2,k3,k4,k5⟩:=hok;simp only at k1 k2 k3 k4 k5;simp[h];refine inl aq Tryz.func289 30000 (λw1 F=>?_);simp;refine uV (L:=L) (P:=P) (D:=D) (Hl:=Hl) (Hp:=Hp) aa aa ab ab ab (λHl' h' k160 k5000 k80=>?_);simp[k160,k5000]
theorem wJ(a b:List Int)(hl:a.length<=2^40):ar Tryz.prog 215 [.c (.s (a.map aN)),.c (.s (b.map aN))] (.one (.c (vb (a=b)) 1)):=by
 refine pci aq Tryz.func215 (λw0 base=>?_);exact Q1
theorem uX(a b:List Int)(hl:a.length<=2^40):ar Tryz.prog 170 [.c (.s (a.map aN)),.c (.s (b.map aN))] (.one (.c (vb (a=b)) 1)):=by
 refine pci aq Tryz.func170 (λw0 base=>?_);exact Q1
theorem OI(p q:Part)(hl:p.signs.length<=2^40):ar Tryz.prog 354 [.agg p.row,.agg q.row] (.one (.c (vb (p=q)) 1)):=by
 refine pci aq Tryz.func354 (λw0 base=>?_);obtain⟨k1,n1,s1⟩:=p;obtain⟨k2,n2,s2⟩:=q;simp[Part.row];intro b1 b2;by_cases h1:k1=k2
 ·by_cases h2:n1=n2
  ·simp[h1,h2]
   refine ae.pure (wJ s1 s2 hl) ab ?_;simp
  ·simp[h1,h2]
 ·simp[h1]
theorem NQ(a b:List Part)(hl:a.length<=2^40)(hs:∀p∈a,p.signs.length<=2^40):ar Tryz.prog 353 [.c (.s (a.map Part.row)),.c (.s (b.map Part.row)),.c (.v (.func (.func 354) #[] #[]))] (.one (.c (vb (a=b)) 1)):=by
 refine pci aq Tryz.func353 (λw0 base=>?_);by_cases h:a.length=b.length
 ·simp[h]
  refine aU.intro eok (λi:Nat=>i<=a.length/\a.take i=b.take i) (λi=>⟨32,0,[(17,.v (.int .i64 i)),(16,.v (.int .i64 b.length)),(15,.ro (a.map Part.row)),(2,.v (.func (.func 354) #[] #[])),(1,.ro (b.map Part.row))],[]⟩) (λi=>a.length-i) 0 ab ab (λi hi=>?_);by_cases hlt:i<a.length
  ·have hlt':i<b.length:=by omega
   simp[hlt,hlt',Part.row];intro b1 b2;refine ae.pure (OI a[i] b[i] (hs _ (ao hlt))) iP ?_;simp;exact qV
  ·have hlt':¬i<b.length:=by omega
   simp[hlt',rK];exact DX
 ·exact om
theorem aap(a b:List Part)(hl:a.length<=2^40)(hs:∀p∈a,p.signs.length<=2^40):ar Tryz.prog 311 [.c (.s (a.map Part.row)),.c (.s (b.map Part.row))] (.one (.c (vb (a=b)) 1)):=by
 refine pci aq Tryz.func311 (λw0 base=>?_);simp;refine ae.pure (NQ a b hl hs) ab ?_;simp
theorem KD(a b:List Part)(hl:a.length<=2^40)(hs:∀p∈a,p.signs.length<=2^40):ar Tryz.prog 343 [.c (.s (a.map Part.row)),.c (.s (b.map Part.row))] (.one (.c (vb (a=b)) 1)):=by
 refine pci aq Tryz.func343 (λw0 base=>?_);by_cases h:a.length=b.length
 ·simp[h]
  refine aU.intro eok (λi:Nat=>i<=a.length/\a.take i=b.take i) (λi=>⟨49,0,[(14,.v (.int .i64 i)),(13,.v (.int .i64 b.length)),(12,.ro (a.map Part.row)),(1,.ro (b.map Part.row))],[]⟩) (λi=>a.length-i) 0 ab ab (λi hi=>?_);by_cases hlt:i<a.length
  ·have hlt':i<b.length:=by omega
   simp[hlt,hlt',Part.row];intro b1;refine cg.quiet eok mix ai ?_;simp[hlt',Part.row];by_cases h1:a[i].kind=b[i].kind
   ·by_cases h2:a[i].n=b[i].n
    ·simp[h1,h2,hlt',Part.row]
     refine⟨_,_,uX a[i].signs b[i].signs (hs _ (ao hlt)),ab,?_⟩;simp;by_cases h3:a[i].signs=b[i].signs
     ·simp[h3]
      have he:a[i]=b[i]:=by
       cases hx:a[i];cases hy:b[i]
       rw[hx,hy]at h1 h2 h3;simp at h1 h2 h3;rw[h1,h2,h3]
      exact⟨i+1,⟨aa,AO hlt hlt' hi.2 he⟩,aa,aZ aa⟩
     ·simp[h3,eK]
      exact M0 hlt hlt' (λhe=>h3 (by rw[he]))
    ·simp[h1,h2,hlt',Part.row,eK]
     exact M0 hlt hlt' (λhe=>h2 (by rw[he]))
   ·simp[h1,eK]
    exact M0 hlt hlt' (λhe=>h1 (by rw[he]))
  ·have hlt':¬i<b.length:=by omega
   simp[hlt',rK];exact DX
 ·exact om
theorem tK(a b:List Part)(h:nL aM a<=2^40):ar Tryz.prog 311 [.c (.s (a.map Part.row)),.c (.s (b.map Part.row))] (.one (.c (vb (a=b)) 1)):=aap a b (bB h) (λ_p hp=>hQ h hp)
theorem xD(a b:List Part)(h:nL aM a<=2^40):ar Tryz.prog 343 [.c (.s (a.map Part.row)),.c (.s (b.map Part.row))] (.one (.c (vb (a=b)) 1)):=KD a b (bB h) (λ_p hp=>hQ h hp)
theorem kP{α:Type}{f:α->Nat}:∀(a b:List α),dW f (a++b)=dW f a+dW f b
 | [],b=>by simp[dW]
 |x::a,b=>by simp only[dE,dW,kP a b];omega
theorem Mx{α:Type}{f:α->Nat}:∀(l:List α) (i:Nat) (h:i<l.length) (x:α),f x=f l[i]->dW f (l.set i x)=dW f l
 |a::l,0,_,x,hx=>by simp at hx;simp[dW,hx]
 | a :: l, i + 1, h, x, hx => by
   simp only[Mg,dW];rw[Mx l i l8 x qP]
theorem B4{L:List Part}{P:List Int}{D:Int}:dW aM (bq L P D)=dW aM L+P.length:=by
 unfold bq;rw[kP,kP];by_cases hp:P=[]<;>by_cases hd:0<D<;>simp[hp,hd,dW,aM]
theorem O9{L:List Part}{n:Int}:dW aM (dX L n)=dW aM L:=by
 unfold dX
 split
 ·rename_i h
  split
  ·exact Mx L _ aa _ rfl
  ·rw[kP];simp[dW,aM]
 ·rename_i h
  have:L=[]:=aF aa;subst this;simp[dW,aM]
theorem IM{o:List Part}:∀(i:Nat),i<=o.length->dW aM (bT (o.take i)).1+(bT (o.take i)).2.1.length<=dW aM (o.take i)
 |0,_=>by simp[bT,dW]
 | i + 1, hi => by
   have ih:=IM (o:=o) i aa;have hlt:i<o.length:=aa;rw[mC hlt,<-bY hlt,kP];generalize bT (o.take i)=s at ih;generalize o[i]=p;obtain⟨L,P,D⟩:=s;simp only at ih;have hp:dW aM [p]=p.signs.length:=by simp[dW,aM]
   rw[hp];unfold fb
   split
   ·simp;omega
   ·split
    ·simp;omega
    ·split
     ·simp only[O9,B4];simp;omega
     ·simp;omega
theorem O6(o:List Part):dW aM (normal o)<=dW aM o:=by
 have h:=IM (o:=o) o.length aa;rw[dn]at h;unfold normal;rw[B4];exact h
theorem O7{o:List Part}(ho:∀p∈o,aY p):(normal o).length<=3*o.length+2:=by
 have h:=(qa ho o.length aa).l;rw[dn]at h;have:=jN (bT o).1 (bT o).2.1 (bT o).2.2;unfold normal;omega
theorem EF{o:List Part}(ho:∀p∈o,aY p):dW aM o<=200*o.length:=by
 induction o with
 |nil=>simp[dW]
 | cons p o ih =>
   have h1:=(ho p (aP ..)).bounds;have h2:=ih (λq hq=>ho q (aG _ hq));simp only[dW,aM,bH];omega
theorem nd{o:List Part}(ho:∀p∈o,aY p):nL aM o<=201*o.length:=by
 have:=EF ho;unfold nL;omega
theorem nO{o:List Part}(ho:∀p∈o,aY p):nL aM (normal o)<=203*o.length+2:=by
 have h1:=O6 o;have h2:=O7 ho;have h3:=EF ho;unfold nL;omega
theorem zF(o:List Part):nL aM (cN o)<=2^20:=by
 unfold cN
 split
 ·rename_i h
  have:=nO h.1.1;have:=h.1.2;omega
 ·exact gA
def cr(o:List Part):Prop:=cz o/\cN o=o
theorem tM(o:List Part)(hl:nL aM o<=2^40):ar Tryz.prog 252 [.c (.s (o.map Part.row))] (.one (.c (vb (cr o)) 1)):=by
 refine pci aq Tryz.func252 (λw0 base=>?_);simp;refine ae.pure (ep o hl) ab ?_;by_cases h:cz o
 ·simp[h]
  refine ae.pure (lG o hl) ab ?_;simp;intro H;refine ae.pure (tK o (cN o) hl) ab ?_;simp[cr,h];exact sA ⟨λh=>h.symm,λh=>h.symm⟩
 ·simp[h,cr]
theorem pD(o:List Part)(hl:nL aM o<=2^40):ar Tryz.prog 277 [.c (.s (o.map Part.row))] (.one (.c (vb (cr o)) 1)):=by
 refine pci aq Tryz.func277 (λw0 base=>?_);simp;refine ae.pure (eo o hl) ab ?_;by_cases h:cz o
 ·simp[h]
  refine ae.pure (pC o hl) ab ?_;simp;intro H;refine ae.pure (xD (cN o) o (cT (zF o) ag)) ab ?_;simp[cr,h]
 ·simp[h,cr]
open Classical in
noncomputable def Fg(o:List Part):Int:=if cz o then dF fP o else 0
open Classical in
noncomputable def Al(o:List Part):Int:=if cz o then dF fD o else 0
open Classical in
noncomputable def jV(o:List Part)(k:Int):Int:=if cz o then dF (fOf k) o else 0
theorem WK(o:List Part):jV o 2=Fg o:=by
 unfold jV Fg
 split
 ·rename_i h;exact jT (λp hp=>of2 (h.1.1 p hp))
 ·rfl
theorem PR(o:List Part):jV o 3=Al o:=by
 unfold jV Al
 split
 ·rename_i h;exact jT (λp hp=>of3 (h.1.1 p hp))
 ·rfl
theorem sf(o:List Part)(hl:nL aM o<=2^40)(k:Int):ar Tryz.prog 361 [.c (.s (o.map Part.row)),.c (vi k)] (.one (.c (vi (jV o k)) 1)):=by
 refine pci aq Tryz.func361 (λw0 base=>?_);have hle:=bB hl;simp;refine ae.pure (ep o hl) ab ?_;by_cases hok:cz o
 ·have ho:=hok.1
  have hr:jV o k=dF (fOf k) o:=by unfold jV;rw[al hok]
  simp[hok,hr];refine aU.intro eok (λi:Nat=>i<=o.length) (λi=>⟨27,0,[(13,.v (.int .i64 i)),(12,.v (.int .i64 o.length)),(11,.ro (o.map Part.row)),(5,.v (.int .i64 (dF (fOf k) (o.take i)))),(1,.v (.int .i64 k))],[]⟩) (λi=>o.length-i) 0 ab og (λi hi=>?_);by_cases h:i<o.length
  ·have hp:=ho.1 _ (ao h)
   have hb:=gn (f:=fOf k) (λp h=>akw h) (pA ho.1 i);have hb2:=hp.bounds;have hlen:=ho.2;have hlt:(o.take i).length<=600:=aI;have hs:=gg (f:=fOf k) h;obtain⟨q,hq⟩:∃q,dF (fOf k) (o.take i)=q:=⟨_,rfl⟩;have e:Go.IntKind.i64.wrap ((i:Int)+1)=((i+1:Nat):Int):=aZ aa;rw[hq]at hs hb;simp[h,Part.row,hq];intros;by_cases hk:o[i].kind=k
   ·simp[hk]
    refine ae.pure (ZX o[i] hp) (by simp[Part.row,hk]) ?_;have e2:Go.IntKind.i64.wrap (q+(o[i].n+(o[i].signs.length:Int)))=q+(o[i].n+o[i].signs.length):=ah _ aa;simp[e2];refine⟨i+1,aa,aa,e,?_⟩;rw[hs];simp[fOf,hk]
   ·simp[hk]
    refine⟨i+1,aa,aa,e,?_⟩;rw[hs];simp[fOf,hk]
  ·simp[h]
   rw[aD aa]
 ·have e:dc (cz o)=false:=by rw[eK];exact hok
  have hr:jV o k=0:=by unfold jV;rw[ak hok]
  simp[e,hr]
theorem Pw(o:List Part)(hl:nL aM o<=2^40):ar Tryz.prog 326 [.c (.s (o.map Part.row))] (.one (.c (vi (Fg o)) 1)):=by
 refine pci aq Tryz.func326 (λw0 base=>?_);simp;refine ae.pure (sf o hl 2) ab ?_;simp[WK]
theorem Np(o:List Part)(hl:nL aM o<=2^40):ar Tryz.prog 327 [.c (.s (o.map Part.row))] (.one (.c (vi (Al o)) 1)):=by
 refine pci aq Tryz.func327 (λw0 base=>?_);simp;refine ae.pure (sf o hl 3) ab ?_;simp[PR]
theorem OE(o:List Part)(hl:nL aM o<=2^40):ar Tryz.prog 290 [.c (.s (o.map Part.row))] (.one (.c (vi (Fg o)) 1)):=by
 refine pci aq Tryz.func290 (λw0 base=>?_);simp;refine ae.pure (eo o hl) ab ?_;by_cases h:cz o
 ·simp[h]
  refine ae.pure (zR o hl) ab ?_;simp[Fg,h,ec,h.1]
 ·have e:dc (cz o)=false:=by rw[eK];exact h
  simp[Fg,h]
theorem MB(o:List Part)(hl:nL aM o<=2^40):ar Tryz.prog 291 [.c (.s (o.map Part.row))] (.one (.c (vi (Al o)) 1)):=by
 refine pci aq Tryz.func291 (λw0 base=>?_);simp;refine ae.pure (eo o hl) ab ?_;by_cases h:cz o
 ·simp[h]
  refine ae.pure (zR o hl) ab ?_;simp[Al,h,ec,h.1]
 ·have e:dc (cz o)=false:=by rw[eK];exact h
  simp[Al,h]
def qe(o:List Part):Prop:=cz o/\Fg o=0/\Al o=0
theorem yA(o:List Part)(hl:nL aM o<=2^40):ar Tryz.prog 237 [.c (.s (o.map Part.row))] (.one (.c (vb (qe o)) 1)):=by
 refine pci aq Tryz.func237 (λw0 base=>?_);simp;refine ae.pure (ep o hl) ab ?_;by_cases h:cz o
 ·simp[h]
  refine ae.pure (Pw o hl) ab ?_;by_cases h1:Fg o=0
  ·simp[h1]
   refine ae.pure (Np o hl) ab ?_;simp[qe,h,h1]
  ·simp[h1,qe]
 ·simp[h,qe]
theorem ym(o:List Part)(hl:nL aM o<=2^40):ar Tryz.prog 190 [.c (.s (o.map Part.row))] (.one (.c (vb (qe o)) 1)):=by
 refine pci aq Tryz.func190 (λw0 base=>?_);simp;refine ae.pure (eo o hl) ab ?_;by_cases h:cz o
 ·simp[h]
  refine ae.pure (OE o hl) ab ?_;by_cases h1:Fg o=0
  ·simp[h1]
   refine ae.pure (MB o hl) ab ?_;simp[qe,h,h1]
  ·simp[h1,qe]
 ·simp[h,qe]
def el(t:List Int):Prop:=t.length<=200/\dK t
theorem lF(t:List Int)(hl:t.length<=2^40):ar Tryz.prog 222 [.c (.s (t.map aN))] (.one (.c (vb (el t)) 1)):=by
 refine pci aq Tryz.func222 (λw0 base=>?_);by_cases h:t.length<=200
 ·have h':(t.length:Int)<=200:=by omega
  simp[h'];refine ae.pure (kB t hl) ab ?_;simp[el,h]
 ·have h':¬(t.length:Int)<=200:=by omega
  simp[h',el,h]
theorem lA(t:List Int)(hl:t.length<=2^40):ar Tryz.prog 178 [.c (.s (t.map aN))] (.one (.c (vb (el t)) 1)):=by
 refine pci aq Tryz.func178 (λw0 base=>?_);simp;refine ae.pure (lW t hl) ab ?_;have e:((t.length:Int)<=200)=(t.length<=200):=aI;by_cases hg:dK t
 ·simp[hg,el,e]
 ·simp[hg,el]
open Classical in
noncomputable def dC(n:Int):List Part:=if 1<=n/\n<=200 then [⟨1,n,[]⟩]else []
theorem l7(n:Int):ar Tryz.prog 238 [.c (vi n)] (.one (.c (.s ((dC n).map Part.row)) 3)):=by
 refine pci aq Tryz.func238 (λw0 base=>?_);simp;refine ae.pure (bW n 1 200) ab ?_;exact Uk
theorem lX(n:Int):ar Tryz.prog 192 [.c (vi n)] (.one (.c (.s ((dC n).map Part.row)) 3)):=by
 refine pci aq Tryz.func192 (λw0 base=>?_);simp;refine ae.pure (dH n 1 200) ab ?_;exact Uk
def psz(p:Part):Nat:=p.n.toNat+p.signs.length
def fJ(p:Part)(n:Nat):Part:=if p.kind=2 then⟨p.kind,p.n,p.signs.take n⟩else⟨p.kind,n,p.signs⟩
def bX(p:Part)(n:Nat):Part:=if p.kind=2 then⟨p.kind,p.n,p.signs.drop n⟩else⟨p.kind,p.n-n,p.signs⟩
theorem jD{p:Part}(h:aY p):(psz p:Int)=p.n+p.signs.length/\psz p<=200:=by
 have hb:=h.bounds;unfold psz;by_cases hk:p.kind=2
 ·have:=hb.2.2.2.2.1 hk
  omega
 ·have:=hb.2.2.2.2.2 hk
  rw[this];simp;omega
@[simp] theorem aiF {p:Part} {n:Nat}:(fJ p n).kind=p.kind:=by unfold fJ;split<;>rfl
@[simp] theorem agO {p:Part} {n:Nat}:(bX p n).kind=p.kind:=by unfold bX;split<;>rfl
theorem q9{p:Part}(h:aY p){n:Nat}(hn:n<=psz p):aY (fJ p n):=by
 have hp:=jD h;unfold fJ;by_cases hk:p.kind=2
 ·rw[al hk]
  rw[mj hk]at h;refine .inr ⟨hk,h.1,?_,λm hm=>h.2.2 m (bN hm)⟩;simp;omega
 ·rw[ak hk]
  have hb:=h.bounds;have hk2:p.kind=1\/p.kind=3:=aa;have:=hb.2.2.2.2.2 hk;refine .inl ⟨hk2,?_,this⟩;exact gT
theorem MU{p:Part}(h:aY p){n:Nat}(hn:n<=psz p):aY (bX p n):=by
 have hp:=jD h;unfold bX;by_cases hk:p.kind=2
 ·rw[al hk]
  rw[mj hk]at h;refine .inr ⟨hk,h.1,?_,λm hm=>h.2.2 m (bD hm)⟩;simp;omega
 ·rw[ak hk]
  have hb:=h.bounds;have hk2:p.kind=1\/p.kind=3:=aa;have:=hb.2.2.2.2.2 hk;refine .inl ⟨hk2,?_,this⟩;rw[this]at hp;simp at hp;exact gT
theorem jG{p:Part}(h:aY p){n:Nat}(hn:n<=psz p):psz (bX p n)=psz p-n:=by
 have hb:=h.bounds;unfold psz bX at *;by_cases hk:p.kind=2
 ·rw[al hk]
  have:=hb.2.2.2.2.1 hk;simp only[this,gl]at hn⊢;omega
 ·rw[ak hk]
  have:=hb.2.2.2.2.2 hk;simp only[this,jd]at hn⊢;omega
theorem fi{p:Part}(h:aY p):fJ p (psz p)=p:=by
 have hb:=h.bounds;unfold psz fJ;by_cases hk:p.kind=2
 ·rw[al hk]
  have:=hb.2.2.2.2.1 hk;rw[aD aa]
 ·rw[ak hk]
  have:=hb.2.2.2.2.2 hk;obtain⟨k,n,s⟩:=p;simp only at this hb;subst this;simp;omega
theorem MT{p:Part}{m n:Nat}:bX (bX p m) n=bX p (m+n):=by
 unfold bX;by_cases hk:p.kind=2
 ·simp[hk,List.drop_drop]
 ·simp[hk]
  omega
theorem OR{p:Part}:bX p 0=p:=by unfold bX;split<;>simp
def nxt:List Part->List Part
 | []=>[]
 |p::l=>if psz p=0 then nxt l else p::l
def tsz:List Part->Nat
 | []=>0
 |p::l=>psz p+tsz l
def frs:List Part->Nat
 | []=>0
 |p::l=>(if p.kind=2 then 0 else psz p)+frs l
def tos:List Part->Nat
 | []=>0
 |p::l=>(if p.kind=3 then 0 else psz p)+tos l
theorem zG:∀l:List Part,tsz (nxt l)=tsz l
 | []=>rfl
 | p :: l => by
   unfold nxt
   split
   ·rename_i h;rw[zG l];simp[tsz,h]
   ·rfl
theorem mc:∀l:List Part,frs (nxt l)=frs l
 | []=>rfl
 | p :: l => by
   unfold nxt
   split
   ·rename_i h;rw[mc l];simp[frs,h]
   ·rfl
theorem D8:∀l:List Part,tos (nxt l)=tos l
 | []=>rfl
 | p :: l => by
   unfold nxt
   split
   ·rename_i h;rw[D8 l];simp[tos,h]
   ·rfl
theorem ga:∀{l:List Part}{p:Part}{l':List Part},nxt l=p::l'->0<psz p
 | [],p,l',h=>by simp[nxt]at h
 | q :: l, p, l', h => by
   unfold nxt at h
   split at h
   ·exact ga h
   ·simp at h;rw[<-h.1];omega
theorem ee:∀l:List Part,nxt (nxt l)=nxt l
 | []=>rfl
 | p :: l => by
   by_cases h:psz p=0
   ·simp only[nxt,h,dA];exact ee l
   ·simp only[nxt,h,dy]
theorem yt:∀l:List Part,∃k,k<=l.length/\nxt l=l.drop k/\∀i,(h:i<l.length)->i<k->psz l[i]=0
 | []=>⟨0,ab,rfl,λi h=>iy⟩
 | p :: l => by
   by_cases h:psz p=0
   ·obtain⟨k,h1,h2,h3⟩:=yt l
    refine⟨k+1,aI,by simp[nxt,h,h2],λi hi hk=>?_⟩
    cases i with
    |zero=>simpa using h
    |succ i=>simpa using h3 i eT aa
   ·exact⟨0,ab,by simp[nxt,h],λi _ hk=>aa⟩
theorem mb{l:List Part}{p:Part}(h:p∈nxt l):p∈l:=by
 obtain⟨k,_,h2,_⟩:=yt l;rw[h2]at h;exact bD h
theorem D9(l:List Part):(nxt l).length<=l.length:=by
 obtain⟨k,_,h2,_⟩:=yt l;rw[h2];simp
def jQ(x y:List Part):Option (List Part×List Part×List Part):=
 match nxt x with
 | p :: x' => if p.kind = 3 then some ([fJ p (psz p)], bX p (psz p) :: x', y) else match nxt y with
   | q :: y' => if q.kind = 2 then some ([fJ q (psz q)], p :: x', bX q (psz q) :: y') else
       some (if q.kind=1 then [fJ p (min (psz p) (psz q))]else if p.kind=1 then [fJ q (min (psz p) (psz q))]else [],bX p (min (psz p) (psz q))::x',bX q (min (psz p) (psz q))::y')
   | []=>none
 | [] => match nxt y with
   |q::y'=>if q.kind=2 then some ([fJ q (psz q)],[],bX q (psz q)::y')else none
   | []=>none
structure CInv(x y:List Part):Prop where
 px:∀p∈x,aY p
 py:∀p∈y,aY p
 b:tos x=frs y
theorem kA{l l':List Part}{p:Part}{n:Nat}(hl:∀q∈l,aY q)(he:nxt l=p::l')(hn:n<=psz p):∀q∈bX p n::l',aY q:=by
 intro q hq;rcases aR.1 hq with rfl|hq
 ·exact MU (hl p (mb (he ▸ aP ..))) hn
 ·exact hl q (mb (he ▸ aG _ hq))
theorem gC{l l':List Part}{p:Part}(hl:∀q∈l,aY q)(he:nxt l=p::l'):aY p/\∀q∈p::l',aY q:=
 ⟨hl p (mb (he ▸ aP ..)),λq hq=>hl q (mb (he ▸ hq))⟩
structure CNext(x y:List Part)(r:List Part×List Part×List Part):Prop where
 inv:CInv r.2.1 r.2.2
 dec:tsz r.2.1+tsz r.2.2<tsz x+tsz y
 ok:∀p∈r.1,aY p
 len:r.1.length<=1
theorem k9{x y:List Part}(hi:CInv x y){r:List Part×List Part×List Part}(h:jQ x y=some r):CNext x y r:=by
 have hx:=zG x;have hy:=zG y;have hxt:=D8 x;have hyf:=mc y;have hb:=hi.b;unfold jQ at h
 cases ex:nxt x with
 | nil =>
   rw[ex]at h hx hxt
   cases ey:nxt y with
   |nil=>simp[ey]at h
   | cons q y' =>
     rw[ey]at hy hyf;have hq:=gC hi.py ey;have hp:=ga ey;simp only[ey]at h
     split at h
     ·rename_i k
      cases h
      have hs:=jG hq.1 (aC _);refine⟨⟨ab,kA hi.py ey (aC _),?_⟩,?_,?_,ab⟩
      ·simp[tos,frs,k]at hxt hyf⊢;omega
      ·exact wy
      ·exact DO
     ·cases h
 | cons p x' =>
   rw[ex]at h hx hxt;have hp:=gC hi.px ex;have hpp:=ga ex;simp only at h
   split at h
   ·rename_i k
    cases h
    have hs:=jG hp.1 (aC _);refine⟨⟨kA hi.px ex (aC _),hi.py,?_⟩,?_,?_,ab⟩
    ·simp[tos,k]at hxt⊢;omega
    ·simp[tsz]at hx⊢;omega
    ·intro q hq;simp at hq;subst hq;exact q9 hp.1 (aC _)
   ·rename_i k3
    cases ey:nxt y with
    |nil=>simp[ey]at h
    | cons q y' =>
      rw[ey]at hy hyf;have hq:=gC hi.py ey;have hqp:=ga ey;simp only[ey]at h
      split at h
      ·rename_i k
       cases h
       have hs:=jG hq.1 (aC _);refine⟨⟨hp.2,kA hi.py ey (aC _),?_⟩,?_,?_,ab⟩
       ·simp[tos,frs,k,k3]at hxt hyf⊢;omega
       ·exact wy
       ·exact DO
      ·rename_i k2
       cases h
       have hn1:min (psz p) (psz q)<=psz p:=aa;have hn2:min (psz p) (psz q)<=psz q:=aa;have hs1:=jG hp.1 hn1;have hs2:=jG hq.1 hn2;refine⟨⟨kA hi.px ex hn1,kA hi.py ey hn2,?_⟩,?_,?_,?_⟩
       ·simp[tos,frs,k2,k3]at hxt hyf⊢;omega
       ·exact wy
       ·intro r hr
        simp only at hr
        split at hr
        ·simp at hr;subst hr;exact q9 hp.1 hn1
        ·split at hr
         ·simp at hr;subst hr;exact q9 hq.1 hn2
         ·simp at hr
       ·simp only;split<;>(try split)<;>simp
noncomputable def HV:Nat->List Part->List Part->List Part
 |0,_,_=>[]
 | k + 1, x, y => match jQ x y with
   |none=>[]
   |some r=>r.1++HV k r.2.1 r.2.2
noncomputable def cmp(x y:List Part):List Part:=HV (tsz x+tsz y) x y
theorem VV:∀(k m:Nat) {x y:List Part},CInv x y->tsz x+tsz y<=k->tsz x+tsz y<=m->HV k x y=HV m x y
 |0,0,_,_,_,_,_=>rfl
 | k + 1, 0, x, y, hi, h, h2 => by
   exact St
 | 0, m + 1, x, y, hi, h, h2 => by
   exact St
 | k + 1, m + 1, x, y, hi, h, h2 => by
   rw[HV,HV]
   cases hs:jQ x y with
   |none=>rfl
   | some r =>
     have hn:=k9 hi hs;have:=hn.dec;simp only;rw[VV k m hn.inv aa aa]
theorem NV{x y:List Part}(h:jQ x y=none):cmp x y=[]:=by
 unfold cmp
 cases tsz x+tsz y with
 |zero=>rfl
 |succ k=>rw[HV,h]
theorem vU{x y:List Part}(hi:CInv x y){r:List Part×List Part×List Part}(h:jQ x y=some r):cmp x y=r.1++cmp r.2.1 r.2.2:=by
 have hn:=k9 hi h;have hd:=hn.dec;unfold cmp;obtain⟨k,hk⟩:∃k,tsz x+tsz y=k+1:=⟨tsz x+tsz y-1,aa⟩;rw[hk,HV,h];simp only;rw[VV k (tsz r.2.1+tsz r.2.2) hn.inv aa aa]
abbrev XR:=(List Part×List Part)×List Part×List Part
def ij(x y:List Part):Option XR:=
 match nxt x with
 | p :: x' => if p.kind = 2 then some (([fJ p (psz p)], [⟨1, p.signs.length, []⟩]), bX p (psz p) :: x', y) else match nxt y with
   | q :: y' => if q.kind = 2 then some (([⟨1, q.signs.length, []⟩], [fJ q (psz q)]), p :: x', bX q (psz q) :: y') else
       some ((if q.kind=1 then [fJ p (min (psz p) (psz q))]else [],if p.kind=1 then [fJ q (min (psz p) (psz q))]else []),bX p (min (psz p) (psz q))::x',bX q (min (psz p) (psz q))::y')
   | []=>none
 | [] => match nxt y with
   |q::y'=>if q.kind=2 then some (([⟨1,q.signs.length,[]⟩],[fJ q (psz q)]),[],bX q (psz q)::y')else none
   | []=>none
structure TInv(x y:List Part):Prop where
 px:∀p∈x,aY p
 py:∀p∈y,aY p
 b:frs x=frs y
structure TNext(x y:List Part)(r:XR):Prop where
 inv:TInv r.2.1 r.2.2
 dec:tsz r.2.1+tsz r.2.2<tsz x+tsz y
 okx:∀p∈r.1.1,aY p
 oky:∀p∈r.1.2,aY p
 lenx:r.1.1.length<=1
 leny:r.1.2.length<=1
theorem Pm{p:Part}(h:aY p):aY ⟨1,p.signs.length,[]⟩:=by
 have:=h.bounds;exact .inl ⟨.inl rfl,kG,rfl⟩
theorem jq{x y:List Part}(hi:TInv x y){r:XR}(h:ij x y=some r):TNext x y r:=by
 have hx:=zG x;have hy:=zG y;have hxt:=mc x;have hyf:=mc y;have hb:=hi.b;unfold ij at h
 cases ex:nxt x with
 | nil =>
   rw[ex]at h hx hxt
   cases ey:nxt y with
   |nil=>simp[ey]at h
   | cons q y' =>
     rw[ey]at hy hyf;have hq:=gC hi.py ey;have hp:=ga ey;simp only[ey]at h
     split at h
     ·rename_i k
      cases h
      have hs:=jG hq.1 (aC _);refine⟨⟨ab,kA hi.py ey (aC _),?_⟩,?_,?_,?_,ab,ab⟩
      ·simp[frs,k]at hxt hyf⊢;omega
      ·exact wy
      ·intro p hp;simp at hp;subst hp;exact Pm hq.1
      ·exact DO
     ·cases h
 | cons p x' =>
   rw[ex]at h hx hxt;have hp:=gC hi.px ex;have hpp:=ga ex;simp only at h
   split at h
   ·rename_i k
    cases h
    have hs:=jG hp.1 (aC _);refine⟨⟨kA hi.px ex (aC _),hi.py,?_⟩,?_,?_,?_,ab,ab⟩
    ·simp[frs,k]at hxt⊢;omega
    ·simp[tsz]at hx⊢;omega
    ·intro q hq;simp at hq;subst hq;exact q9 hp.1 (aC _)
    ·intro q hq;simp at hq;subst hq;exact Pm hp.1
   ·rename_i k3
    cases ey:nxt y with
    |nil=>simp[ey]at h
    | cons q y' =>
      rw[ey]at hy hyf;have hq:=gC hi.py ey;have hqp:=ga ey;simp only[ey]at h
      split at h
      ·rename_i k
       cases h
       have hs:=jG hq.1 (aC _);refine⟨⟨hp.2,kA hi.py ey (aC _),?_⟩,?_,?_,?_,ab,ab⟩
       ·simp[frs,k,k3]at hxt hyf⊢;omega
       ·exact wy
       ·intro p hp;simp at hp;subst hp;exact Pm hq.1
       ·exact DO
      ·rename_i k2
       cases h
       have hn1:min (psz p) (psz q)<=psz p:=aa;have hn2:min (psz p) (psz q)<=psz q:=aa;have hs1:=jG hp.1 hn1;have hs2:=jG hq.1 hn2;refine⟨⟨kA hi.px ex hn1,kA hi.py ey hn2,?_⟩,?_,?_,?_,?_,?_⟩
       ·simp[frs,k2,k3]at hxt hyf⊢;omega
       ·exact wy
       ·intro r hr
        simp only at hr
        split at hr
        ·simp at hr;subst hr;exact q9 hp.1 hn1
        ·simp at hr
       ·intro r hr
        simp only at hr
        split at hr
        ·simp at hr;subst hr;exact q9 hq.1 hn2
        ·simp at hr
       ·simp only;split<;>simp
       ·simp only;split<;>simp
noncomputable def xfK:Nat->List Part->List Part->List Part×List Part
 |0,_,_=>([],[])
 | k + 1, x, y => match ij x y with
   |none=>([],[])
   |some r=>(r.1.1++(xfK k r.2.1 r.2.2).1,r.1.2++(xfK k r.2.1 r.2.2).2)
noncomputable def xf(x y:List Part):List Part×List Part:=xfK (tsz x+tsz y) x y
theorem YK:∀(k m:Nat) {x y:List Part},TInv x y->tsz x+tsz y<=k->tsz x+tsz y<=m->xfK k x y=xfK m x y
 |0,0,_,_,_,_,_=>rfl
 | k + 1, 0, x, y, hi, h, h2 => by
   rw[xfK,xfK];exact Kb
 | 0, m + 1, x, y, hi, h, h2 => by
   rw[xfK,xfK];exact Kb
 | k + 1, m + 1, x, y, hi, h, h2 => by
   rw[xfK,xfK]
   cases hs:ij x y with
   |none=>rfl
   | some r =>
     have hn:=jq hi hs;have:=hn.dec;simp only;rw[YK k m hn.inv aa aa]
theorem Qr{x y:List Part}(h:ij x y=none):xf x y=([],[]):=by
 unfold xf
 cases tsz x+tsz y with
 |zero=>rfl
 |succ k=>rw[xfK,h]
theorem acn{x y:List Part}(hi:TInv x y){r:XR}(h:ij x y=some r):xf x y=(r.1.1++(xf r.2.1 r.2.2).1,r.1.2++(xf r.2.1 r.2.2).2):=by
 have hn:=jq hi h;have hd:=hn.dec;unfold xf;obtain⟨k,hk⟩:∃k,tsz x+tsz y=k+1:=⟨tsz x+tsz y-1,aa⟩;rw[hk,xfK,h];simp only;rw[YK k (tsz r.2.1+tsz r.2.2) hn.inv aa aa]
theorem Ll:∀{o:List Part},(∀p∈o,aY p)->(frs o:Int)=dF (tX 2) o
 | [],_=>rfl
 | p :: o, h => by
   have ih:=Ll (λq hq=>h q (aG _ hq));have hp:=jD (h p (aP ..));simp only[frs,dF,tX]
   split<;>simp<;>omega
theorem Jz:∀{o:List Part},(∀p∈o,aY p)->(tos o:Int)=dF (tX 3) o
 | [],_=>rfl
 | p :: o, h => by
   have ih:=Jz (λq hq=>h q (aG _ hq));have hp:=jD (h p (aP ..));simp only[tos,dF,tX]
   split<;>simp<;>omega
theorem qf{o:List Part}(h:cz o):(frs o:Int)=bS o:=by
 rw[Ll h.1.1,jT (λp hp=>ahK (h.1.1 p hp)),p4];unfold bS ec;rw[al h.1]
theorem ye{o:List Part}(h:cz o):(tos o:Int)=jt o:=by
 rw[Jz h.1.1,jT (λp hp=>ahJ (h.1.1 p hp)),p4];unfold jt ec;rw[al h.1]
theorem Oy:∀(o:List Part),tsz o<=frs o+tos o
 | []=>by simp[tsz]
 | p :: o => by
   have:=Oy o;simp only[tsz,frs,tos]
   split<;>split<;>omega
theorem uN{o:List Part}(h:cz o):tsz o<=400:=by
 have h1:=Oy o;have h2:=qf h;have h3:=ye h;have:=h.2;omega
theorem VW{a b:List Part}(ha:cz a)(hb:cz b)(h:jt a=bS b):CInv a b:=by
 have h2:=qf hb;have h3:=ye ha;exact⟨ha.1.1,hb.1.1,aa⟩
theorem C6{a b:List Part}(ha:cz a)(hb:cz b)(h:bS a=bS b):TInv a b:=by
 have h2:=qf hb;have h3:=qf ha;exact⟨ha.1.1,hb.1.1,aa⟩
open Classical in
noncomputable def fh(a b:List Part):List Part×Bool:=
 if cz a/\cz b/\jt a=bS b then(if cz (normal (cmp a b))then(normal (cmp a b),true)else([],false))else([],false)
open Classical in
noncomputable def aX(a b:List Part):List Part×List Part×Bool:=
 if cz a/\cz b/\bS a=bS b then(if cz (normal (xf a b).1)/\cz (normal (xf a b).2)then(normal (xf a b).1,normal (xf a b).2,true)else([],[],false))else([],[],false)
def cur(o:List Part)(i d:Nat):List Part:=
 match o.drop i with
 | []=>[]
 |p::l=>bX p d::l
theorem LH{o:List Part}{i d:Nat}(h:o.length<=i):cur o i d=[]:=by unfold cur;rw[bE h]
theorem Gp{o:List Part}{i d:Nat}(h:i<o.length):cur o i d=bX o[i] d::o.drop (i+1):=by unfold cur;rw[bk h]
theorem Gn{o:List Part}{i:Nat}:cur o i 0=o.drop i:=by
 unfold cur
 cases o.drop i with
 |nil=>rfl
 |cons p l=>simp[OR]
theorem abz{o:List Part}(ho:∀p∈o,aY p){i:Nat}(h:i<o.length):nxt (cur o i (psz o[i]))=nxt (cur o (i+1) 0):=by
 rw[Gp h,Gn];have:=jG (ho _ (ao h)) (aC _);simp[nxt,this]
theorem aby{o:List Part}(ho:∀p∈o,aY p){i d:Nat}(h:i<o.length)(hd:d<psz o[i]):nxt (cur o i d)=cur o i d:=by
 rw[Gp h];have:=jG (ho _ (ao h)) (aiO hd);have h2:¬psz (bX o[i] d)=0:=aa;simp[nxt,h2]
theorem abA{o:List Part}{i d n:Nat}(h:i<o.length){p:Part}{l:List Part}(hc:cur o i d=p::l):bX p n::l=cur o i (d+n):=by
 rw[Gp h]at hc⊢
 cases hc
 rw[MT]
theorem cV{k j:Nat}{o:AObj}{h:AH}(hne:j≠k):AH.get ((k,o)::h) j=AH.get h j:=ak hne
theorem nU(p:Part)(h:aY p):ar Tryz.prog 323 [.agg p.row] (.one (.c (vi (psz p)) 1)):=by
 refine pci aq Tryz.func323 (λw0 base=>?_);have hp:=jD h;have e:Go.IntKind.i64.wrap (p.n+(p.signs.length:Int))=p.n+p.signs.length:=ah _ aa;rw[hp.1];simp[Part.row,e]
def hdV:List Part->AV
 | []=>.agg [.v (.int .i64 0),.v (.int .i64 0),.nil]
 |p::_=>.agg [.v (.int .i64 p.kind),.v (.int .i64 p.n),.ro (p.signs.map aN)]
theorem W4{w0:World}{bF bG:Nat->Prop}{bl:Bool}{st:ASt}{dst:Option Nat}{K:ASt->Prop}{kx b kb:Nat}{l:List Part}(hk:kx+16<kb)(hs:∀p∈l,aY p)
 (g:st.h.get kx=.vars b 298 [.ro (l.map Part.row)])
 (hK:∀h',AH.get h' kx=.vars b 298 [.ro ((nxt l).map Part.row)]->(∀q,q≠kx->q<kb->AH.get h' q=st.h.get q)->cG ⟨st.n,st.kb,st.t,h'⟩ dst (hdV (nxt l)) K) :
 ae ⟨Tryz.prog,tt,w0,⟨bF,bG,bl,λ_=>True⟩⟩ 321 [.p kx b 0] st dst K:=by
 refine inl aq Tryz.func321 kb (λw1 F=>?_);simp;intro b2;have hkk:¬kx=kb+32:=aa;have hkk2:¬kb+32=kx:=aa;refine AC eok (λm:List Part=>nxt m=nxt l/\∀p∈m,p∈l) (λm=>⟨40,kb,[(0,.p kx b 0),(2,.p (kb+32) b2 0)],(kx,.vars b 298 [.ro (m.map Part.row)])::(kb+32,.vars b2 258 [.v (.int .i64 0),.v (.int .i64 0),.nil])::st.h⟩) (λm=>m.length) l ⟨rfl,λ_ h=>h⟩ (by simp[hkk,g]) (λm hm=>?_)
 ·cases m with
  | nil =>
    have hn:nxt l=[]:=by rw[<-hm.1];rfl
    rw[hn]at hK;simp[hkk2];refine hK _ (by simp[hkk]) (λq q1 q2=>?_)
    repeat (first|exact rfl|refine(cV aa).trans ?_)
  | cons p m =>
    have hp:=hs p (hm.2 p (aP ..));simp[Part.row];refine ae.pure (nU p hp) iP ?_;by_cases hz:psz p=0
    ·simp[hz,hkk,hkk2]
     refine⟨m,⟨by rw[<-hm.1];simp[nxt,hz],λq hq=>hm.2 q (aG _ hq)⟩,aa,?_⟩;simp[cut];exact zb
    ·have hn:nxt l=p::m:=by rw[<-hm.1];simp[nxt,hz]
     rw[hn]at hK;have hm0:¬(m.length:Int)+1=0:=aa;simp[hz,hkk2,hm0];refine hK _ ?_ (λq q1 q2=>?_)
     ·simp[hkk,Part.row]
     repeat (first|exact rfl|refine(cV aa).trans ?_)
end Go.Proofs.YtdeimojjhhdeaaaGreatDoor
