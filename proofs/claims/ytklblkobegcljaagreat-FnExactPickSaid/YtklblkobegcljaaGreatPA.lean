import Derived.Test.YtklblkobegcljaaGreatNA
import Derived.Test.YtklblkobegcljaaGreatMF
namespace Go.Proofs.YtklblkobegcljaaGreat
open Go.AM
set_option maxRecDepth 20000
theorem bT(n lo hi:Int):ar Tryz.prog 76 [.c (vi n),.c (vi lo),.c (vi hi)] (.one (.c (vb (lo<=n/\n<=hi)) 1)):=by
 refine pci aw Tryz.func76 (λw0 base=>?_);by_cases h1:lo<=n<;>by_cases h2:n<=hi<;>simp[h1,h2]
theorem cG(n lo hi:Int):ar Tryz.prog 22 [.c (vi n),.c (vi lo),.c (vi hi)] (.one (.c (vb (lo<=n/\n<=hi)) 1)):=by
 refine pci aw Tryz.func22 (λw0 base=>?_);by_cases h1:lo<=n<;>by_cases h2:n<=hi<;>simp[h1,h2]
def sY(n:Int):Prop:=(0<=n/\n<=1114111)/\¬(55296<=n/\n<=57343)
def iE(l:List Int):Prop:=∀n∈l,sY n
theorem D8(n:Int):ar Tryz.prog 251 [.c (vi n)] (.one (.c (vb (sY n)) 1)):=by
 refine pci aw Tryz.func251 (λw0 base=>?_);simp;refine ag.pure (bT n 0 1114111) ab ?_;by_cases h:0<=n/\n<=1114111
 ·simp[h]
  refine ag.pure (bT n 55296 57343) ab ?_;exact J7
 ·exact J4
theorem Dz(n:Int):ar Tryz.prog 245 [.c (vi n)] (.one (.c (vb (sY n)) 1)):=by
 refine pci aw Tryz.func245 (λw0 base=>?_);simp;refine ag.pure (cG n 0 1114111) ab ?_;by_cases h:0<=n/\n<=1114111
 ·simp[h]
  refine ag.pure (cG n 55296 57343) ab ?_;exact J7
 ·exact J4
theorem uR{α:Type}{P:α->Prop}{l:List α}{i:Nat}(h:i<l.length)(ha:∀a∈l.take i,P a)(hi:P l[i]):∀a∈l.take (i+1),P a:=by
 rw[<-bb h];intro a ha';rcases aO.1 ha' with h1|h1
 ·exact ha a h1
 ·simp at h1;subst h1;exact hi
theorem pq{α:Type}{P:α->Prop}{l:List α}{i:Nat}(h:l.length<=i)(ha:∀a∈l.take i,P a):∀a∈l,P a:=by
 rwa[aC h]at ha
theorem Nc{α:Type}{P:α->Prop}{l:List α}{i:Nat}(h:i<l.length)(hi:¬P l[i]):¬∀a∈l,P a:=λha=>hi (ha _ (aj h))
theorem sB(l:List Int)(hl:l.length<=2^40):ar Tryz.prog 226 [.c (.s (l.map aI))] (.one (.c (vb (iE l)) 1)):=by
 refine pci aw Tryz.func226 (λw0 base=>?_);simp;refine aU.intro eok (λi:Nat=>i<=l.length/\∀n∈l.take i,sY n) (λi=>⟨15,0,[(7,.v (.int .i64 i)),(6,.v (.int .i64 l.length)),(5,.ro (l.map aI))],[]⟩) (λi=>l.length-i) 0 ab ab (λi hi=>?_);by_cases h:i<l.length
 ·simp[h]
  refine ag.pure (D8 l[i]) ab ?_;exact Jk
 ·simp[h,vJ]
  exact pq aa hi.2
theorem sr(l:List Int)(hl:l.length<=2^40):ar Tryz.prog 214 [.c (.s (l.map aI))] (.one (.c (vb (iE l)) 1)):=by
 refine pci aw Tryz.func214 (λw0 base=>?_);simp;refine aU.intro eok (λi:Nat=>i<=l.length/\∀n∈l.take i,sY n) (λi=>⟨15,0,[(7,.v (.int .i64 i)),(6,.v (.int .i64 l.length)),(5,.ro (l.map aI))],[]⟩) (λi=>l.length-i) 0 ab ab (λi hi=>?_);by_cases h:i<l.length
 ·simp[h]
  refine ag.pure (Dz l[i]) ab ?_;exact Jk
 ·simp[h,vJ]
  exact pq aa hi.2
def a8(p:Part):Prop:=((p.kind=1\/p.kind=3)/\(0<=p.n/\p.n<=200)/\p.signs=[])\/(p.kind=2/\p.n=0/\p.signs.length<=200/\iE p.signs)
theorem v8{p:Part}(h:p.kind=1\/p.kind=3):a8 p=((0<=p.n/\p.n<=200)/\p.signs=[]):=by
 have h2:¬p.kind=2:=aa;simp[a8,h,h2]
theorem jF{p:Part}(h:p.kind=2):a8 p=(p.n=0/\p.signs.length<=200/\iE p.signs):=by simp[a8,h]
theorem Bj{p:Part}(h1:p.kind≠1)(h2:p.kind≠2)(h3:p.kind≠3):¬a8 p:=by simp[a8,h1,h2,h3]
theorem Ec(p:Part)(hl:p.signs.length<=2^40):ar Tryz.prog 229 [.agg p.row] (.one (.c (vb (a8 p)) 1)):=by
 refine pci aw Tryz.func229 (λw0 base=>?_);simp[Part.row];intros;by_cases h13:p.kind=1\/p.kind=3
 ·rw[v8 h13]
  rcases h13 with h|h
  ·simp[h]
   refine ag.pure (bT p.n 0 200) ab ?_;exact yc
  ·simp[h]
   refine ag.pure (bT p.n 0 200) ab ?_;exact yc
 ·have h1:¬p.kind=1:=λh=>h13 (.inl h)
  have h3:¬p.kind=3:=λh=>h13 (.inr h)
  by_cases h2:p.kind=2
  ·rw[jF h2]
   simp[h2];by_cases hn:p.n=0
   ·by_cases hs:p.signs.length<=200
    ·have hs':(p.signs.length:Int)<=200:=by omega
     simp[hn,hs'];refine ag.pure (sB p.signs hl) ab ?_;simp[hs]
    ·have hs':¬(p.signs.length:Int)<=200:=by omega
     simp[hn,hs',hs]
   ·simp[hn]
  ·simp[h1,h2,h3,Bj]
theorem DD(p:Part)(hl:p.signs.length<=2^40):ar Tryz.prog 213 [.agg p.row] (.one (.c (vb (a8 p)) 1)):=by
 refine pci aw Tryz.func213 (λw0 base=>?_);simp[Part.row];intros;by_cases h13:p.kind=1\/p.kind=3
 ·rw[v8 h13]
  rcases h13 with h|h
  ·simp[h]
   refine ag.pure (cG p.n 0 200) ab ?_;exact yc
  ·simp[h]
   refine ag.pure (cG p.n 0 200) ab ?_;exact yc
 ·have h1:¬p.kind=1:=λh=>h13 (.inl h)
  have h3:¬p.kind=3:=λh=>h13 (.inr h)
  by_cases h2:p.kind=2
  ·rw[jF h2]
   simp[h2];by_cases hn:p.n=0
   ·simp[hn]
    refine ag.pure (sr p.signs hl) ab ?_;have e:((p.signs.length:Int)<=200)=(p.signs.length<=200):=aM;by_cases hg:iE p.signs
    ·simp[hg,e]
    ·simp[hg]
   ·simp[hn]
  ·simp[h1,h2,h3,Bj]
def fG(o:List Part):Prop:=(∀p∈o,a8 p)/\o.length<=600
theorem nV(o:List Part)(hl:nL a9 o<=2^40):ar Tryz.prog 188 [.c (.s (o.map Part.row))] (.one (.c (vb (fG o)) 1)):=by
 refine pci aw Tryz.func188 (λw0 base=>?_);have hle:=aY hl;simp;refine aU.intro eok (λi:Nat=>i<=o.length/\∀p∈o.take i,a8 p) (λi=>⟨18,0,[(7,.v (.int .i64 i)),(6,.v (.int .i64 o.length)),(5,.ro (o.map Part.row)),(0,.ro (o.map Part.row))],[]⟩) (λi=>o.length-i) 0 ab ab (λi hi=>?_);by_cases h:i<o.length
 ·simp[h,Part.row]
  intros;refine ag.pure (Ec o[i] (cH hl h)) fX ?_;exact Jn
 ·exact La
theorem nO(o:List Part)(hl:nL a9 o<=2^40):ar Tryz.prog 160 [.c (.s (o.map Part.row))] (.one (.c (vb (fG o)) 1)):=by
 refine pci aw Tryz.func160 (λw0 base=>?_);have hle:=aY hl;simp;refine aU.intro eok (λi:Nat=>i<=o.length/\∀p∈o.take i,a8 p) (λi=>⟨18,0,[(7,.v (.int .i64 i)),(6,.v (.int .i64 o.length)),(5,.ro (o.map Part.row)),(0,.ro (o.map Part.row))],[]⟩) (λi=>o.length-i) 0 ab ab (λi hi=>?_);by_cases h:i<o.length
 ·simp[h,Part.row]
  intros;refine ag.pure (DD o[i] (cH hl h)) fX ?_;exact Jn
 ·exact La
def dU(f:Part->Int):List Part->Int
 | []=>0
 |p::o=>f p+dU f o
theorem vW{f:Part->Int}:∀(a b:List Part),dU f (a++b)=dU f a+dU f b
 | [],b=>by simp[dU]
 |p::a,b=>by simp only[da,dU,vW a b];omega
theorem jk{f:Part->Int}{o:List Part}{i:Nat}(h:i<o.length):dU f (o.take (i+1))=dU f (o.take i)+f o[i]:=by
 rw[<-bb h,vW];simp[dU]
theorem jE{f g:Part->Int}:∀{o:List Part},(∀p∈o,f p=g p)->dU f o=dU g o
 | [],_=>rfl
 | p :: o, h => by
   simp only[dU];rw[h p (aK ..),jE (λq hq=>h q (aD _ hq))]
theorem mC{f g:Part->Int}:∀(o:List Part),dU (λp=>f p+g p) o=dU f o+dU g o
 | []=>by simp[dU]
 |p::o=>by simp only[dU,mC o];omega
def fK(p:Part):Int:=if p.kind=1 then p.n else 0
def fP(p:Part):Int:=if p.kind=2 then p.signs.length else 0
def fD(p:Part):Int:=if p.kind=1 then 0 else if p.kind=2 then 0 else p.n
def po(k:Int)(p:Part):Int:=if p.kind=k then 0 else p.n+p.signs.length
theorem a8.bounds{p:Part}(h:a8 p):(p.kind=1\/p.kind=2\/p.kind=3)/\0<=p.n/\p.n<=200/\p.signs.length<=200/\(p.kind=2->p.n=0)/\(p.kind≠2->p.signs=[]):=by
 rcases h with⟨h1,h2,h3⟩|⟨h1,h2,h3,h4⟩
 ·refine⟨aa,aa,aa,by simp[h3],aa,λ_=>h3⟩
 ·refine⟨aa,aa,aa,h3,λ_=>h2,λh=>absurd h1 h⟩
theorem YS{p:Part}(h:a8 p):po 2 p=fK p+fD p:=by
 obtain⟨h1,h2,h3,h4,h5,h6⟩:=h.bounds;unfold po fK fD;by_cases k2:p.kind=2
 ·simp[k2]
 ·by_cases k1:p.kind=1<;>simp[k1,k2,h6 k2]
theorem YR{p:Part}(h:a8 p):po 3 p=fK p+fP p:=by
 obtain⟨h1,h2,h3,h4,h5,h6⟩:=h.bounds;unfold po fK fP;rcases h1 with k|k|k
 ·simp[k,h6 aa]
 ·simp[k,h5 k]
 ·simp[k]
theorem gC{f:Part->Int}{B:Int}(hf:∀p,a8 p->0<=f p/\f p<=B):∀{o:List Part},(∀p∈o,a8 p)->0<=dU f o/\dU f o<=B*o.length
 | [],_=>by simp[dU]
 | p :: o, h => by
   have h1:=hf p (h p (aK ..));have h2:=gC hf (o:=o) (λq hq=>h q (aD _ hq));simp only[dU,cr];rw[show B*((o.length+1:Nat):Int)=B*o.length+B by rw[Int.natCast_add];simp[Int.mul_add]];omega
theorem R6{p:Part}(h:a8 p):0<=fK p/\fK p<=200:=by have:=h.bounds;unfold fK;split<;>omega
theorem abQ{p:Part}(h:a8 p):0<=fP p/\fP p<=200:=by have:=h.bounds;unfold fP;split<;>omega
theorem Sa{p:Part}(h:a8 p):0<=fD p/\fD p<=200:=by have:=h.bounds;unfold fD;split<;>(try split)<;>omega
theorem YK{k:Int}{p:Part}(h:a8 p):0<=po k p/\po k p<=400:=by have:=h.bounds;unfold po;split<;>omega
theorem rF{o:List Part}(h:∀p∈o,a8 p)(i:Nat):∀p∈o.take i,a8 p:=λp hp=>h p (bu hp)
theorem XA(p:Part)(hp:a8 p):ar Tryz.prog 276 [.agg p.row] (.one (.c (vi (p.n+p.signs.length)) 1)):=by
 refine pci aw Tryz.func276 (λw0 base=>?_);have:=hp.bounds;have e:Go.IntKind.i64.wrap (p.n+(p.signs.length:Int))=p.n+p.signs.length:=ae _ aa;simp[Part.row,e]
open Classical in
noncomputable def sizeOf(o:List Part)(k:Int):Int:=if fG o then dU (po k) o else 0
theorem uz(o:List Part)(hl:nL a9 o<=2^40)(k:Int):ar Tryz.prog 269 [.c (.s (o.map Part.row)),.c (vi k)] (.one (.c (vi (sizeOf o k)) 1)):=by
 refine pci aw Tryz.func269 (λw0 base=>?_);have hle:=aY hl;simp;refine ag.pure (nV o hl) ab ?_;by_cases ho:fG o
 ·have hr:sizeOf o k=dU (po k) o:=by unfold sizeOf;rw[ao ho]
  simp[ho,hr];refine aU.intro eok (λi:Nat=>i<=o.length) (λi=>⟨27,0,[(13,.v (.int .i64 i)),(12,.v (.int .i64 o.length)),(11,.ro (o.map Part.row)),(5,.v (.int .i64 (dU (po k) (o.take i)))),(1,.v (.int .i64 k))],[]⟩) (λi=>o.length-i) 0 ab (by simp[dU]) (λi hi=>?_);by_cases h:i<o.length
  ·have hp:=ho.1 _ (aj h)
   have hb:=gC (f:=po k) (λp h=>YK h) (rF ho.1 i);have hb2:=hp.bounds;have hlen:=ho.2;have hlt:(o.take i).length<=600:=aM;have hs:=jk (f:=po k) h;obtain⟨q,hq⟩:∃q,dU (po k) (o.take i)=q:=⟨_,rfl⟩;have e:Go.IntKind.i64.wrap ((i:Int)+1)=((i+1:Nat):Int):=aQ aa;rw[hq]at hs hb;simp[h,Part.row,hq];intros;by_cases hk:o[i].kind=k
   ·simp[hk]
    refine⟨i+1,aa,aa,e,?_⟩;rw[hs];simp[po,hk]
   ·simp[hk]
    refine ag.pure (XA o[i] hp) fX ?_;have e2:Go.IntKind.i64.wrap (q+(o[i].n+(o[i].signs.length:Int)))=q+(o[i].n+o[i].signs.length):=ae _ aa;simp[e2];refine⟨i+1,aa,aa,e,?_⟩;rw[hs];simp[po,hk]
  ·simp[h]
   rw[aC aa]
 ·have e:dc (fG o)=false:=by rw[iU];exact ho
  have hr:sizeOf o k=0:=by unfold sizeOf;rw[au ho]
  simp[e,hr]
open Classical in
noncomputable def et(o:List Part):Int×Int×Int:=if fG o then(dU fK o,dU fP o,dU fD o)else(0,0,0)
theorem FQ(o:List Part)(hl:nL a9 o<=2^40):ar Tryz.prog 262 [.c (.s (o.map Part.row))] (.tup [.c (vi (et o).1) 1,.c (vi (et o).2.1) 1,.c (vi (et o).2.2) 1]):=by
 refine pci aw Tryz.func262 (λw0 base=>?_);have hle:=aY hl;simp;refine ag.pure (nO o hl) ab ?_;by_cases ho:fG o
 ·have hr:et o=(dU fK o,dU fP o,dU fD o):=by unfold et;rw[ao ho]
  simp[ho,hr];refine aU.intro eok (λi:Nat=>i<=o.length) (λi=>⟨42,0,[(15,.v (.int .i64 i)),(14,.v (.int .i64 o.length)),(13,.ro (o.map Part.row)),(5,.v (.int .i64 (dU fK (o.take i)))),(6,.v (.int .i64 (dU fP (o.take i)))),(7,.v (.int .i64 (dU fD (o.take i))))],[]⟩) (λi=>o.length-i) 0 ab (by simp[dU]) (λi hi=>?_);by_cases h:i<o.length
  ·have hp:=ho.1 _ (aj h)
   have hb1:=gC (f:=fK) (λp h=>R6 h) (rF ho.1 i);have hb2:=gC (f:=fP) (λp h=>abQ h) (rF ho.1 i);have hb3:=gC (f:=fD) (λp h=>Sa h) (rF ho.1 i);have hpb:=hp.bounds;have hlen:=ho.2;have hlt:(o.take i).length<=600:=aM;have hs1:=jk (f:=fK) h;have hs2:=jk (f:=fP) h;have hs3:=jk (f:=fD) h;obtain⟨q1,hq1⟩:∃q,dU fK (o.take i)=q:=⟨_,rfl⟩;obtain⟨q2,hq2⟩:∃q,dU fP (o.take i)=q:=⟨_,rfl⟩;obtain⟨q3,hq3⟩:∃q,dU fD (o.take i)=q:=⟨_,rfl⟩;have e:Go.IntKind.i64.wrap ((i:Int)+1)=((i+1:Nat):Int):=aQ aa;rw[hq1]at hs1 hb1;rw[hq2]at hs2 hb2;rw[hq3]at hs3 hb3;simp[h,Part.row,hq1,hq2,hq3];intros;have e1:Go.IntKind.i64.wrap (q1+o[i].n)=q1+o[i].n:=ae _ aa
   have e2:Go.IntKind.i64.wrap (q2+(o[i].signs.length:Int))=q2+o[i].signs.length:=ae _ aa;have e3:Go.IntKind.i64.wrap (q3+o[i].n)=q3+o[i].n:=ae _ aa;by_cases k1:o[i].kind=1
   ·simp[k1,e1]
    refine⟨i+1,aa,aa,e,?_,?_,?_⟩
    ·rw[hs1];simp[fK,k1]
    ·rw[hs2];simp[fP,k1]
    ·rw[hs3];simp[fD,k1]
   ·by_cases k2:o[i].kind=2
    ·simp[k2,e2]
     refine⟨i+1,aa,aa,e,?_,?_,?_⟩
     ·rw[hs1];simp[fK,k2]
     ·rw[hs2];simp[fP,k2]
     ·rw[hs3];simp[fD,k2]
    ·simp[k1,k2,e3]
     refine⟨i+1,aa,aa,e,?_,?_,?_⟩
     ·rw[hs1];simp[fK,k1]
     ·rw[hs2];simp[fP,k2]
     ·rw[hs3];simp[fD,k1,k2]
  ·simp[h]
   rw[aC aa];simp
 ·have e:dc (fG o)=false:=by rw[iU];exact ho
  have hr:et o=(0,0,0):=by unfold et;rw[au ho]
  simp[e,hr]
noncomputable def cQ(o:List Part):Int:=(et o).1+(et o).2.2
noncomputable def nS(o:List Part):Int:=(et o).1+(et o).2.1
theorem FA(o:List Part):sizeOf o 2=cQ o:=by
 unfold sizeOf cQ et
 split
 ·rename_i h
  show _=dU fK o+dU fD o
  rw[<-mC];exact jE (λp hp=>YS (h.1 p hp))
 ·rfl
theorem NR(o:List Part):sizeOf o 3=nS o:=by
 unfold sizeOf nS et
 split
 ·rename_i h
  show _=dU fK o+dU fP o
  rw[<-mC];exact jE (λp hp=>YR (h.1 p hp))
 ·rfl
theorem Yqz(o:List Part):(0<=(et o).1/\(et o).1<=120000)/\(0<=(et o).2.1/\(et o).2.1<=120000)/\0<=(et o).2.2/\(et o).2.2<=120000:=by
 unfold et
 split
 ·rename_i h
  have h1:=gC (f:=fK) (λp h=>R6 h) h.1;have h2:=gC (f:=fP) (λp h=>abQ h) h.1;have h3:=gC (f:=fD) (λp h=>Sa h) h.1;have h4:=h.2;exact iD
 ·simp
theorem kC(o:List Part)(hl:nL a9 o<=2^40):ar Tryz.prog 253 [.c (.s (o.map Part.row))] (.one (.c (vi (cQ o)) 1)):=by
 refine pci aw Tryz.func253 (λw0 base=>?_);simp;refine ag.pure (uz o hl 2) ab ?_;simp[FA]
theorem Ii(o:List Part)(hl:nL a9 o<=2^40):ar Tryz.prog 257 [.c (.s (o.map Part.row))] (.one (.c (vi (nS o)) 1)):=by
 refine pci aw Tryz.func257 (λw0 base=>?_);simp;refine ag.pure (uz o hl 3) ab ?_;simp[NR]
theorem kj(o:List Part)(hl:nL a9 o<=2^40):ar Tryz.prog 246 [.c (.s (o.map Part.row))] (.one (.c (vi (cQ o)) 1)):=by
 refine pci aw Tryz.func246 (λw0 base=>?_);simp;refine ag.pure (FQ o hl) ab ?_;have:=Yqz o;have e:Go.IntKind.i64.wrap ((et o).1+(et o).2.2)=cQ o:=ae _ aa;simp[e]
theorem G8(o:List Part)(hl:nL a9 o<=2^40):ar Tryz.prog 248 [.c (.s (o.map Part.row))] (.one (.c (vi (nS o)) 1)):=by
 refine pci aw Tryz.func248 (λw0 base=>?_);simp;refine ag.pure (FQ o hl) ab ?_;have:=Yqz o;have e:Go.IntKind.i64.wrap ((et o).1+(et o).2.1)=nS o:=ae _ aa;simp[e]
def dv(o:List Part):Prop:=fG o/\cQ o<=200/\nS o<=200
theorem gJ(o:List Part)(hl:nL a9 o<=2^40):ar Tryz.prog 233 [.c (.s (o.map Part.row))] (.one (.c (vb (dv o)) 1)):=by
 refine pci aw Tryz.func233 (λw0 base=>?_);simp;refine ag.pure (nV o hl) ab ?_;by_cases h:fG o
 ·simp[h]
  refine ag.pure (kC o hl) ab ?_;by_cases h1:cQ o<=200
  ·simp[h1]
   refine ag.pure (Ii o hl) ab ?_;simp[dv,h,h1]
  ·simp[h1,dv,h]
 ·simp[h,dv]
theorem gD(o:List Part)(hl:nL a9 o<=2^40):ar Tryz.prog 219 [.c (.s (o.map Part.row))] (.one (.c (vb (dv o)) 1)):=by
 refine pci aw Tryz.func219 (λw0 base=>?_);simp;refine ag.pure (nO o hl) ab ?_;by_cases h:fG o
 ·simp[h]
  refine ag.pure (kj o hl) ab ?_;by_cases h1:cQ o<=200
  ·simp[h1]
   refine ag.pure (G8 o hl) ab ?_;simp[dv,h,h1]
  ·simp[h1,dv,h]
 ·simp[h,dv]
def bE(L:List Part)(P:List Int)(D:Int):List Part:=L++((if P=[]then []else [⟨2,0,P⟩])++(if 0<D then [⟨3,D,[]⟩]else []))
def dE(L:List Part)(n:Int):List Part:=
 if h:0<L.length then
  if(L[L.length-1]' aa).kind=1 then L.set (L.length-1) ⟨1,(L[L.length-1]' aa).n+n,(L[L.length-1]' aa).signs⟩else L++[⟨1,n,[]⟩]
 else [⟨1,n,[]⟩]
def fY(s:List Part×List Int×Int)(p:Part):List Part×List Int×Int:=
 if p.kind=2 then(s.1,s.2.1++p.signs,s.2.2)
 else if p.kind=3 then(s.1,s.2.1,s.2.2+p.n)
 else if 0<p.n then(dE (bE s.1 s.2.1 s.2.2) p.n,[],0)else s
def bZ(o:List Part):List Part×List Int×Int:=o.foldl fY ([],[],0)
def normal(o:List Part):List Part:=bE (bZ o).1 (bZ o).2.1 (bZ o).2.2
theorem jM{o:List Part}{i:Nat}(h:i<o.length):bZ (o.take (i+1))=fY (bZ (o.take i)) o[i]:=by
 unfold bZ;exact CC
structure NbOk(m:Nat)(s:List Part×List Int×Int):Prop where
 l:s.1.length<=3*m
 p:s.2.1.length<=200*m
 d0:0<=s.2.2
 d:s.2.2<=200*m
 q:∀q∈s.1,0<=q.n/\q.n<=200*m
theorem jO(L:List Part)(P:List Int)(D:Int):(bE L P D).length<=L.length+2:=by
 unfold bE
 split<;>split<;>simp
theorem jN{L:List Part}{P:List Int}{D B:Int}(h0:0<=D)(hD:D<=B)(hL:∀q∈L,0<=q.n/\q.n<=B):∀q∈bE L P D,0<=q.n/\q.n<=B:=by
 intro q hq;unfold bE at hq;simp only[aO]at hq;rcases hq with hq|hq|hq
 ·exact hL q hq
 ·split at hq
  ·simp at hq
  ·exact xL
 ·split at hq
  ·exact xL
  ·simp at hq
theorem ow{o:List Part}(ho:∀p∈o,a8 p):∀(i:Nat),i<=o.length->NbOk i (bZ (o.take i))
 | 0, _ => by
   simp[bZ];exact⟨ab,ab,ab,ab,ab⟩
 | i + 1, hi => by
   have ih:=ow ho i aa;have hlt:i<o.length:=aa;rw[jM hlt];have hp:=(ho _ (aj hlt)).bounds;generalize bZ (o.take i)=s at ih;generalize o[i]=p at hp;obtain⟨L,P,D⟩:=s;obtain⟨h1,h2,h3,h4,h5⟩:=ih;simp only at h1 h2 h3 h4 h5;have w:∀q∈L,0<=q.n/\q.n<=200*((i+1:Nat):Int):=λq hq=>by have:=h5 q hq;omega
   unfold fY
   split
   ·exact⟨aM,aM,h3,aM,w⟩
   ·split
    ·exact⟨aM,aM,aM,aM,w⟩
    ·split
     ·have f1:=jO L P D
      have f2:=jN (P:=P) h3 h4 h5;refine⟨?_,ab,ab,aM,?_⟩
      ·simp only[dE]
       split
       ·split<;>simp<;>omega
       ·simp;omega
      ·simp only[dE]
       intro q hq
       split at hq
       ·split at hq
        ·rcases kW hq with hq|rfl
         ·have:=f2 q hq;omega
         ·have:=f2 _ (aj (show(bE L P D).length-1<(bE L P D).length from aa))
          exact iD
        ·rcases aO.1 hq with hq|hq
         ·have:=f2 q hq;omega
         ·exact xL
       ·exact xL
     ·exact⟨aM,aM,h3,aM,w⟩
theorem vB{L:List Part}{P:List Int}{D:Int}(hP:¬P=[])(hD:0<D):bE L P D=L++[⟨2,0,P⟩]++[⟨3,D,[]⟩]:=xA
theorem vA{L:List Part}{P:List Int}{D:Int}(hP:¬P=[])(hD:¬0<D):bE L P D=L++[⟨2,0,P⟩]:=xA
theorem vz{L:List Part}{P:List Int}{D:Int}(hP:P=[])(hD:0<D):bE L P D=L++[⟨3,D,[]⟩]:=xA
theorem vy{L:List Part}{P:List Int}{D:Int}(hP:P=[])(hD:¬0<D):bE L P D=L:=xA
theorem ql{w0:World}{bF bG:Nat->Prop}{bl:Bool}{st:ASt}{dst:Option Nat}{K:ASt->Prop}{L:List Part}{P:List Int}{D:Int}{b3 b4 b5:Nat}{Hl Hp:Hd}(hL:L.length<=2^20)(_hP:P.length<=2^40)
 (g48:st.h.get 48=.vars b3 59 [.sl 5000 Hl 3 0 L.length]) (g64:st.h.get 64=.vars b4 26 [.sl 5001 Hp 1 0 P.length]) (g80:st.h.get 80=.vars b5 3 [.v (.int .i64 D)])
 (g5000:st.h.get 5000=.rows Hl 3 (L.map Part.row) true) (g5001:st.h.get 5001=.rows Hp 1 (P.map aI) true)
 (hK:∀Hl' h',AH.get h' 48=.vars b3 59 [.sl 5000 Hl' 3 0 (bE L P D).length]->AH.get h' 5000=.rows Hl' 3 ((bE L P D).map Part.row) true->AH.get h' 64=.vars b4 26 [.nil]->AH.get h' 80=.vars b5 3 [.v (.int .i64 0)] ->
  AH.get h' 128=st.h.get 128->bM ⟨st.n,st.kb,st.t,h'⟩ dst (.tup []) K):ag ⟨Tryz.prog,tt,w0,⟨bF,bG,bl,λ_=>True⟩⟩ 275 [.p 64 b4 0,.p 48 b3 0,.p 80 b5 0] st dst K:=by
 refine inl aw Tryz.func275 20000 (λw1 F=>?_);simp[g64];by_cases hp:P=[]
 ·have hp0:¬0<P.length:=by simp[hp]
  simp[hp0,g80];by_cases hd:0<D
  ·simp[hd,g48,g5000,g80,g64]
   intro b;refine⟨aa,λH=>hK H _ ?_ ?_ ?_ ?_ ?_⟩<;>simp[vz hp hd,Part.row]
  ·simp[hd,g80,g64]
   refine hK Hl _ ?_ ?_ ?_ ?_ ?_<;>simp[vy hp hd,g48,g5000]
 ·have hp0:0<P.length:=eu.2 hp
  simp[hp0,g80,g48,g5000,g5001,g64];intro b;refine⟨aa,λH=>?_⟩;by_cases hd:0<D
  ·simp[hd,g80,g64]
   intro b2;refine⟨aa,λH2=>hK H2 _ ?_ ?_ ?_ ?_ ?_⟩<;>simp[vB hp hd,Part.row]
  ·simp[hd,g80,g64]
   refine hK H _ ?_ ?_ ?_ ?_ ?_<;>simp[vA hp hd,Part.row]
theorem o7{F:List Part}{m:Nat}(h:m<F.length){g:List CD->List CD}{p:Part}(hg:g F[m].row=p.row):(F.map Part.row).modify m g=(F.set m p).map Part.row:=by
 apply tE
 intro j;rw[iw];simp only[bW,eA];by_cases hj:m=j
 ·subst hj
  simp[h,hg]
 ·simp[hj]
theorem y2(o:List Part)(ho:∀p∈o,a8 p)(hl:o.length<=10000):ar Tryz.prog 268 [.c (.s (o.map Part.row))] (.one (.c (.s ((normal o).map Part.row)) 3)):=by
 refine pci aw Tryz.func268 (λw0 base=>?_);simp;intro b3 b4 b5
 refine aH eok (λx:Nat×Hd×Hd=>x.1<=o.length) (λx=>⟨73,0,[(13,.v (.int .i64 x.1)),(12,.v (.int .i64 o.length)),(11,.ro (o.map Part.row)),(3,.p 48 b3 0),(4,.p 64 b4 0),(5,.p 80 b5 0),(6,.clo 275 [.p 64 b4 0,.p 48 b3 0,.p 80 b5 0])],
  [(48, .vars b3 59 [.sl 5000 x.2.1 3 0 (bZ (o.take x.1)).1.length]),(64, .vars b4 26 [.sl 5001 x.2.2 1 0 (bZ (o.take x.1)).2.1.length]),(80, .vars b5 3 [.v (.int .i64 (bZ (o.take x.1)).2.2)]),
   (5000,.rows x.2.1 3 ((bZ (o.take x.1)).1.map Part.row) true),(5001,.rows x.2.2 1 ((bZ (o.take x.1)).2.1.map aI) true)]⟩) (λx=>o.length-x.1) (0,none,none) ab (by simp[bZ]) (λx hx=>Ent.refl ?_)
 obtain⟨i,Hl,Hp⟩:=x;simp only at hx⊢;have hok:=ow ho i hx;by_cases h:i<o.length
 ·have hs:=jM h
  have hpb:=(ho _ (aj h)).bounds;generalize bZ (o.take i)=s at hok hs;obtain⟨L,P,D⟩:=s;obtain⟨k1,k2,k3,k4,k5⟩:=hok;simp only at k1 k2 k3 k4 k5;have e:Go.IntKind.i64.wrap ((i:Int)+1)=((i+1:Nat):Int):=aQ aa;simp[h,Part.row];intro b8;by_cases c2:o[i].kind=2
  ·simp[c2]
   exact KG
  ·by_cases c3:o[i].kind=3
   ·have e3:Go.IntKind.i64.wrap (D+o[i].n)=D+o[i].n:=ae _ aa
    simp[c3,e3];exact JX
   ·by_cases cn:0<o[i].n
    ·simp[c2,c3,cn]
     refine ql (L:=L) (P:=P) (D:=D) (Hl:=Hl) (Hp:=Hp) aa aa ab ab ab ab ab (λHl' h' g48 g5000 g64 g80 g128=>?_);have f1:=jO L P D;have f2:=jN (P:=P) k3 k4 k5;have hstep:fY (L,P,D) o[i]=(dE (bE L P D) o[i].n,[],0):=by simp[fY,c2,c3,cn]
     rw[hstep]at hs;generalize bE L P D=F at f1 f2 g48 g5000 hs;simp at g128;by_cases hF:0<F.length
     ·obtain⟨m,hm⟩:∃m,F.length=m+1:=⟨F.length-1,aa⟩
      have hmlt:m<F.length:=aa;have em:Go.IntKind.i64.wrap (m:Int)=m:=fh aa
      have hk:dE F o[i].n=if F[m].kind=1 then F.set m ⟨1,F[m].n+o[i].n,F[m].signs⟩else F++[⟨1,o[i].n,[]⟩]:=by
       have e0:F.length-1=m:=aa;simp[dE,hF,e0]
      have hq:=f2 _ (aj hmlt);simp[g48,g5000,hm,em,Part.row];by_cases ck:F[m].kind=1
      ·rw[ao ck]at hk
       have em2:Go.IntKind.i64.wrap (F[m].n+o[i].n)=F[m].n+o[i].n:=ae _ aa;have hmm:(m:Int)<m+1:=aa;simp[ck,hmm];refine drw eok mix [0,1,2,3,4,5,6,7,8,9,10] [11] (.c 11 11 2045 2 (.l 11 2) .s) ?_;simp[g48,g5000,g128,hm,em,Part.row,ck,em2,hmm];refine Ent.kill 5001 (Ent.refl ⟨i+1,aa,aa,Hl',none,?_⟩);rw[hs,hk];have hmod:=o7 (F:=F) (m:=m) hmlt (g:=λrow=>ix row 1 [CD.v (Value.int IntKind.i64 (F[m].n+o[i].n))]) (p:=⟨1,F[m].n+o[i].n,F[m].signs⟩) xz;simp[e,g48,g64,g80,hm,hmod]
      ·rw[au ck]at hk
       simp[ck,g48,g5000,g128,hm];refine⟨aa,λb=>⟨aa,λH=>?_⟩⟩;refine Ent.kill 5001 (Ent.refl ⟨i+1,aa,aa,H,none,?_⟩);rw[hs,hk];simp[e,Part.row,g64,g80,hm]
     ·have hF0:F=[]:=aA aa
      subst hF0;have hk:dE [] o[i].n=[⟨1,o[i].n,[]⟩]:=by simp[dE]
      simp[g48,g5000,g128];intro b H;refine Ent.kill 5001 (Ent.refl ⟨i+1,aa,aa,H,none,?_⟩);rw[hs,hk];simp[e,Part.row,g64,g80]
    ·simp[c2,c3,cn]
     refine Ent.refl ⟨i+1,aa,aa,Hl,Hp,?_⟩;rw[hs];simp[fY,c2,c3,cn,e]
 ·have he:o.take i=o:=aC aa
  rw[he]at hok⊢;have hn:normal o=bE (bZ o).1 (bZ o).2.1 (bZ o).2.2:=rfl;rw[hn];generalize bZ o=s at hok;obtain⟨L,P,D⟩:=s;obtain⟨k1,k2,k3,k4,k5⟩:=hok;simp only at k1 k2 k3 k4 k5;simp[h];refine ql (L:=L) (P:=P) (D:=D) (Hl:=Hl) (Hp:=Hp) aa aa ab ab ab ab ab (λHl' h' g48 g5000 g64 g80 g128=>?_);simp[g48,g5000]
theorem pY{w0:World}{bF bG:Nat->Prop}{bl:Bool}{st:ASt}{dst:Option Nat}{K:ASt->Prop}{L:List Part}{P:List Int}{D:Int}{b:Nat}{Hl Hp:Hd}(hL:L.length<=2^20)(_hP:P.length<=2^40)
 (g160:st.h.get 160=.vars b 261 [.sl 5000 Hl 3 0 L.length,.sl 5001 Hp 1 0 P.length,.v (.int .i64 D)])
 (g5000:st.h.get 5000=.rows Hl 3 (L.map Part.row) true) (g5001:st.h.get 5001=.rows Hp 1 (P.map aI) true)
 (hK:∀Hl' h',AH.get h' 160=.vars b 261 [.sl 5000 Hl' 3 0 (bE L P D).length,.nil,.v (.int .i64 0)]->AH.get h' 5000=.rows Hl' 3 ((bE L P D).map Part.row) true ->
  AH.get h' 80=st.h.get 80->bM ⟨st.n,st.kb,st.t,h'⟩ dst (.tup []) K):ag ⟨Tryz.prog,tt,w0,⟨bF,bG,bl,λ_=>True⟩⟩ 273 [.p 160 b 0] st dst K:=by
 refine inl aw Tryz.func273 20000 (λw1 F=>?_);simp[g160];by_cases hp:P=[]
 ·have hp0:¬0<P.length:=by simp[hp]
  simp[hp0,g160];by_cases hd:0<D
  ·simp[hd]
   refine drw eok mix [0,1,2,3,4,5,6,7,8,9,12,13] [10,11,14] (.c 12 10 4 4091 (.c 12 11 128 3963 (.c 12 14 3961 2 (.l 12 2) .s) .s) .s) ?_;simp[g160,g5000];intro b1;refine⟨aa,λH=>hK H _ ?_ ?_ ?_⟩<;>simp[vz hp hd,Part.row]
  ·simp[hd,g160]
   refine hK Hl _ ?_ ?_ ?_<;>simp[vy hp hd,g5000]
 ·have hp0:0<P.length:=eu.2 hp
  simp[hp0];refine drw eok mix [0,1,2,3,4,5,6,7,8,9,12,13] [10,11,14] (.c 12 10 4 4091 (.c 12 11 128 3963 (.c 12 14 3961 2 (.l 12 2) .s) .s) .s) ?_;simp[g160,g5000,g5001];intro b1;refine⟨aa,λH=>?_⟩;by_cases hd:0<D
  ·simp[hd]
   refine drw eok mix [0,1,2,3,4,5,6,7,8,9,12,13] [10,11,14] (.c 12 10 4 4091 (.c 12 11 128 3963 (.c 12 14 3961 2 (.l 12 2) .s) .s) .s) ?_;simp;intro b2;refine⟨aa,λH2=>hK H2 _ ?_ ?_ ?_⟩<;>simp[vB hp hd,Part.row]
  ·simp[hd]
   refine hK H _ ?_ ?_ ?_<;>simp[vA hp hd,Part.row]
theorem Am{w0:World}{bF bG:Nat->Prop}{bl:Bool}{st:ASt}{dst:Option Nat}{K:ASt->Prop}{L:List Part}{P:List Int}{D n:Int}{b:Nat}{Hl Hp:Hd}(hL:L.length<=2^19)(hP:P.length<=2^40)(hn0:0<n)(hn:n<=200)(hF:∀q∈bE L P D,0<=q.n/\q.n<=2^40)
 (g160:st.h.get 160=.vars b 261 [.sl 5000 Hl 3 0 L.length,.sl 5001 Hp 1 0 P.length,.v (.int .i64 D)])
 (g5000:st.h.get 5000=.rows Hl 3 (L.map Part.row) true) (g5001:st.h.get 5001=.rows Hp 1 (P.map aI) true)
 (hK:∀Hl' h',AH.get h' 160=.vars b 261 [.sl 5000 Hl' 3 0 (dE (bE L P D) n).length,.nil,.v (.int .i64 0)]->AH.get h' 5000=.rows Hl' 3 ((dE (bE L P D) n).map Part.row) true ->
  AH.get h' 80=st.h.get 80->bM ⟨st.n,st.kb,st.t,h'⟩ dst (.tup []) K):ag ⟨Tryz.prog,tt,w0,⟨bF,bG,bl,λ_=>True⟩⟩ 263 [.p 160 b 0,.v (.int .i64 n)] st dst K:=by
 refine inl aw Tryz.func263 30000 (λw1 F=>?_);have n0:¬n=0:=aa;simp[n0];refine pY (L:=L) (P:=P) (D:=D) (Hl:=Hl) (Hp:=Hp) aa hP (by simp[g160]) (by simp[g5000]) (by simp[g5001]) (λHl' h' k160 k5000 k80=>?_);have f1:=jO L P D;generalize bE L P D=F at f1 hF k160 k5000 hK;by_cases hF0:0<F.length
 ·obtain⟨m,hm⟩:∃m,F.length=m+1:=⟨F.length-1,aa⟩
  have hmlt:m<F.length:=aa;have hmm:(m:Int)<m+1:=aa;have em:Go.IntKind.i64.wrap (m:Int)=m:=fh aa
  have hk:dE F n=if F[m].kind=1 then F.set m ⟨1,F[m].n+n,F[m].signs⟩else F++[⟨1,n,[]⟩]:=by
   exact CG
  have hq:=hF _ (aj hmlt);have em2:Go.IntKind.i64.wrap (F[m].n+n)=F[m].n+n:=ae _ aa;simp[k160,k5000,hm,em,hmm,Part.row];by_cases ck:F[m].kind=1
  ·rw[ao ck]at hk
   simp[ck];refine drw eok mix [0,1,2,3,4,5,6,7,8,9,10,11,12,13,14,15,16,17,18] [19] (.c 19 19 524285 2 (.l 19 2) .s) ?_;simp[k160,k5000,hm,em,hmm,Part.row,ck,em2];have hmod:=o7 (F:=F) (m:=m) hmlt (g:=λrow=>ix row 1 [CD.v (Value.int IntKind.i64 (F[m].n+n))]) (p:=⟨1,F[m].n+n,F[m].signs⟩) xz;refine hK Hl' _ ?_ ?_ ?_
   ·simp[k160,hk,hm]
   ·simp[hk,hmod]
   ·simp[k80]
  ·rw[au ck]at hk
   simp[ck,k160,k5000,hm];intro b1;refine⟨aa,λH=>hK H _ ?_ ?_ ?_⟩<;>simp[hk,hm,Part.row,k80]
 ·have hF1:F=[]:=aA aa
  subst hF1;have hk:dE [] n=[⟨1,n,[]⟩]:=by simp[dE]
  simp[k160,k5000];intro b1 H;refine hK H _ ?_ ?_ ?_<;>simp[hk,Part.row,k80]
open Classical in
noncomputable def dz(o:List Part):List Part:=if dv o then normal o else []
theorem uA(o:List Part)(hl:nL a9 o<=2^40):ar Tryz.prog 252 [.c (.s (o.map Part.row))] (.one (.c (.s ((dz o).map Part.row)) 3)):=by
 refine pci aw Tryz.func252 (λw0 base=>?_);simp;refine ag.pure (gJ o hl) ab ?_;by_cases h:dv o
 ·have e:dz o=normal o:=by unfold dz;rw[ao h]
  simp[h,e];refine ag.pure (y2 o h.1.1 (by have:=h.1.2;omega)) ab ?_;simp
 ·have e:dz o=[]:=by unfold dz;rw[au h]
  have e2:dc (dv o)=false:=by rw[iU];exact h
  simp[e,e2]
theorem tY(o:List Part)(hl:nL a9 o<=2^40):ar Tryz.prog 247 [.c (.s (o.map Part.row))] (.one (.c (.s ((dz o).map Part.row)) 3)):=by
 refine pci aw Tryz.func247 (λw0 base=>?_);simp;refine ag.pure (gD o hl) ab ?_;by_cases hopk:dv o
 rotate_left
 ·have e:dz o=[]:=by unfold dz;rw[au hopk]
  have e2:dc (dv o)=false:=by rw[iU];exact hopk
  simp[e,e2]
 have e:dz o=normal o:=by unfold dz;rw[ao hopk]
 have ho:=hopk.1.1;have hlen:=hopk.1.2;simp[hopk,e];intro b
 refine aH eok (λx:Nat×Hd×Hd=>x.1<=o.length) (λx=>⟨38,0,[(13,.v (.int .i64 x.1)),(12,.v (.int .i64 o.length)),(11,.ro (o.map Part.row)),(3,.p 160 b 0)],
  [(160, .vars b 261 [.sl 5000 x.2.1 3 0 (bZ (o.take x.1)).1.length, .sl 5001 x.2.2 1 0 (bZ (o.take x.1)).2.1.length, .v (.int .i64 (bZ (o.take x.1)).2.2)]),
   (5000,.rows x.2.1 3 ((bZ (o.take x.1)).1.map Part.row) true),(5001,.rows x.2.2 1 ((bZ (o.take x.1)).2.1.map aI) true)]⟩) (λx=>o.length-x.1) (0,none,none) ab (by simp[bZ]) (λx hx=>Ent.refl ?_)
 obtain⟨i,Hl,Hp⟩:=x;simp only at hx⊢;have hok:=ow ho i hx;by_cases h:i<o.length
 ·have hs:=jM h
  have hpb:=(ho _ (aj h)).bounds;generalize bZ (o.take i)=s at hok hs;obtain⟨L,P,D⟩:=s;obtain⟨k1,k2,k3,k4,k5⟩:=hok;simp only at k1 k2 k3 k4 k5;have e:Go.IntKind.i64.wrap ((i:Int)+1)=((i+1:Nat):Int):=aQ aa;simp[h,Part.row];intro b5;by_cases c1:o[i].kind=1
  ·simp[c1]
   by_cases cn:0<o[i].n
   ·have hstep:fY (L,P,D) o[i]=(dE (bE L P D) o[i].n,[],0):=by simp[fY,c1,cn]
    rw[hstep]at hs;have f2:=jN (P:=P) k3 k4 k5;refine Am (L:=L) (P:=P) (D:=D) (Hl:=Hl) (Hp:=Hp) aa aa cn hpb.2.2.1 (λq hq=>by have:=f2 q hq;omega) ab ab ab (λHl' h' k160 k5000 k80=>?_);simp;refine Ent.kill 5001 (Ent.refl ⟨i+1,aa,aa,Hl',none,?_⟩);rw[hs];simp[e,k160,k5000]
   ·have cn0:o[i].n=0:=by omega
    refine inl aw Tryz.func263 30000 (λw1 F=>?_);simp[cn0];refine Ent.refl ⟨i+1,aa,aa,Hl,Hp,?_⟩;rw[hs];simp[fY,c1,cn0,e]
  ·by_cases c2:o[i].kind=2
   ·simp[c2]
    refine inl aw Tryz.func264 30000 (λw1 F=>?_);simp;exact KG
   ·have c3:o[i].kind=3:=by omega
    have e3:Go.IntKind.i64.wrap (D+o[i].n)=D+o[i].n:=ae _ aa;simp[c1,c2];refine inl aw Tryz.func265 30000 (λw1 F=>?_);simp[e3];exact JX
 ·have he:o.take i=o:=aC aa
  rw[he]at hok⊢;have hn:normal o=bE (bZ o).1 (bZ o).2.1 (bZ o).2.2:=rfl;rw[hn];generalize bZ o=s at hok;obtain⟨L,P,D⟩:=s;obtain⟨k1,k2,k3,k4,k5⟩:=hok;simp only at k1 k2 k3 k4 k5;simp[h];refine inl aw Tryz.func266 30000 (λw1 F=>?_);simp;refine pY (L:=L) (P:=P) (D:=D) (Hl:=Hl) (Hp:=Hp) aa aa ab ab ab (λHl' h' k160 k5000 k80=>?_);simp[k160,k5000]
theorem rI(a b:List Int)(hl:a.length<=2^40):ar Tryz.prog 78 [.c (.s (a.map aI)),.c (.s (b.map aI))] (.one (.c (vb (a=b)) 1)):=by
 refine pci aw Tryz.func78 (λw0 base=>?_);exact JC
theorem vY(a b:List Int)(hl:a.length<=2^40):ar Tryz.prog 162 [.c (.s (a.map aI)),.c (.s (b.map aI))] (.one (.c (vb (a=b)) 1)):=by
 refine pci aw Tryz.func162 (λw0 base=>?_);exact JC
theorem Hi(p q:Part)(hl:p.signs.length<=2^40):ar Tryz.prog 255 [.agg p.row,.agg q.row] (.one (.c (vb (p=q)) 1)):=by
 refine pci aw Tryz.func255 (λw0 base=>?_);obtain⟨k1,n1,s1⟩:=p;obtain⟨k2,n2,s2⟩:=q;simp[Part.row];intro b1 b2;by_cases h1:k1=k2
 ·by_cases h2:n1=n2
  ·simp[h1,h2]
   refine ag.pure (rI s1 s2 hl) ab ?_;simp
  ·simp[h1,h2]
 ·simp[h1]
theorem Gp(a b:List Part)(hl:a.length<=2^40)(hs:∀p∈a,p.signs.length<=2^40):ar Tryz.prog 254 [.c (.s (a.map Part.row)),.c (.s (b.map Part.row)),.c (.v (.func (.func 255) #[] #[]))] (.one (.c (vb (a=b)) 1)):=by
 refine pci aw Tryz.func254 (λw0 base=>?_);by_cases h:a.length=b.length
 ·simp[h]
  refine aU.intro eok (λi:Nat=>i<=a.length/\a.take i=b.take i) (λi=>⟨32,0,[(17,.v (.int .i64 i)),(16,.v (.int .i64 b.length)),(15,.ro (a.map Part.row)),(2,.v (.func (.func 255) #[] #[])),(1,.ro (b.map Part.row))],[]⟩) (λi=>a.length-i) 0 ab ab (λi hi=>?_);by_cases hlt:i<a.length
  ·have hlt':i<b.length:=by omega
   simp[hlt,hlt',Part.row];intro b1 b2;refine ag.pure (Hi a[i] b[i] (hs _ (aj hlt))) fX ?_;exact l9
  ·exact Cs
 ·exact jw
theorem Q1(a b:List Part)(hl:a.length<=2^40)(hs:∀p∈a,p.signs.length<=2^40):ar Tryz.prog 230 [.c (.s (a.map Part.row)),.c (.s (b.map Part.row))] (.one (.c (vb (a=b)) 1)):=by
 refine pci aw Tryz.func230 (λw0 base=>?_);simp;refine ag.pure (Gp a b hl hs) ab ?_;simp
theorem DE(a b:List Part)(hl:a.length<=2^40)(hs:∀p∈a,p.signs.length<=2^40):ar Tryz.prog 215 [.c (.s (a.map Part.row)),.c (.s (b.map Part.row))] (.one (.c (vb (a=b)) 1)):=by
 refine pci aw Tryz.func215 (λw0 base=>?_);by_cases h:a.length=b.length
 ·simp[h]
  refine aU.intro eok (λi:Nat=>i<=a.length/\a.take i=b.take i) (λi=>⟨49,0,[(14,.v (.int .i64 i)),(13,.v (.int .i64 b.length)),(12,.ro (a.map Part.row)),(1,.ro (b.map Part.row))],[]⟩) (λi=>a.length-i) 0 ab ab (λi hi=>?_);by_cases hlt:i<a.length
  ·have hlt':i<b.length:=by omega
   simp[hlt,hlt',Part.row];intro b1;refine aZ.quiet eok mix al ?_;simp[hlt',Part.row];by_cases h1:a[i].kind=b[i].kind
   ·by_cases h2:a[i].n=b[i].n
    ·simp[h1,h2,hlt',Part.row]
     refine⟨_,_,vY a[i].signs b[i].signs (hs _ (aj hlt)),ab,?_⟩;simp;by_cases h3:a[i].signs=b[i].signs
     ·simp[h3]
      have he:a[i]=b[i]:=by
       cases hx:a[i];cases hy:b[i]
       rw[hx,hy]at h1 h2 h3;simp at h1 h2 h3;rw[h1,h2,h3]
      exact⟨i+1,⟨aa,rG hlt hlt' hi.2 he⟩,aa,aQ aa⟩
     ·simp[h3,iU]
      exact Bl hlt hlt' (λhe=>h3 (by rw[he]))
    ·simp[h1,h2,hlt',Part.row,iU]
     exact Bl hlt hlt' (λhe=>h2 (by rw[he]))
   ·simp[h1,iU]
    exact Bl hlt hlt' (λhe=>h1 (by rw[he]))
  ·exact Cs
 ·exact jw
theorem pe(a b:List Part)(h:nL a9 a<=2^40):ar Tryz.prog 230 [.c (.s (a.map Part.row)),.c (.s (b.map Part.row))] (.one (.c (vb (a=b)) 1)):=Q1 a b (aY h) (λ_p hp=>gF h hp)
theorem sx(a b:List Part)(h:nL a9 a<=2^40):ar Tryz.prog 215 [.c (.s (a.map Part.row)),.c (.s (b.map Part.row))] (.one (.c (vb (a=b)) 1)):=DE a b (aY h) (λ_p hp=>gF h hp)
theorem jL{α:Type}{f:α->Nat}:∀(a b:List α),cw f (a++b)=cw f a+cw f b
 | [],b=>by simp[cw]
 |x::a,b=>by simp only[da,cw,jL a b];omega
theorem Fe{α:Type}{f:α->Nat}:∀(l:List α) (i:Nat) (h:i<l.length) (x:α),f x=f l[i]->cw f (l.set i x)=cw f l
 |a::l,0,_,x,hx=>by simp at hx;simp[cw,hx]
 | a :: l, i + 1, h, x, hx => by
   simp only[sb,cw];rw[Fe l i kZ x m9]
theorem wa{L:List Part}{P:List Int}{D:Int}:cw a9 (bE L P D)=cw a9 L+P.length:=by
 unfold bE;rw[jL,jL];by_cases hp:P=[]<;>by_cases hd:0<D<;>simp[hp,hd,cw,a9]
theorem HK{L:List Part}{n:Int}:cw a9 (dE L n)=cw a9 L:=by
 unfold dE
 split
 ·rename_i h
  split
  ·exact Fe L _ aa _ rfl
  ·rw[jL];simp[cw,a9]
 ·rename_i h
  have:L=[]:=aA aa;subst this;simp[cw,a9]
theorem Bm{o:List Part}:∀(i:Nat),i<=o.length->cw a9 (bZ (o.take i)).1+(bZ (o.take i)).2.1.length<=cw a9 (o.take i)
 |0,_=>by simp[bZ,cw]
 | i + 1, hi => by
   have ih:=Bm (o:=o) i aa;have hlt:i<o.length:=aa;rw[jM hlt,<-bb hlt,jL];generalize bZ (o.take i)=s at ih;generalize o[i]=p;obtain⟨L,P,D⟩:=s;simp only at ih;have hp:cw a9 [p]=p.signs.length:=by simp[cw,a9]
   rw[hp];unfold fY
   split
   ·simp;omega
   ·split
    ·simp;omega
    ·split
     ·simp only[HK,wa];simp;omega
     ·simp;omega
theorem HG(o:List Part):cw a9 (normal o)<=cw a9 o:=by
 have h:=Bm (o:=o) o.length aa;rw[cI]at h;unfold normal;rw[wa];exact h
theorem HI{o:List Part}(ho:∀p∈o,a8 p):(normal o).length<=3*o.length+2:=by
 have h:=(ow ho o.length aa).l;rw[cI]at h;have:=jO (bZ o).1 (bZ o).2.1 (bZ o).2.2;unfold normal;omega
theorem yC{o:List Part}(ho:∀p∈o,a8 p):cw a9 o<=200*o.length:=by
 induction o with
 |nil=>simp[cw]
 | cons p o ih =>
   have h1:=(ho p (aK ..)).bounds;have h2:=ih (λq hq=>ho q (aD _ hq));simp only[cw,a9,cr];omega
theorem FF{o:List Part}(ho:∀p∈o,a8 p):nL a9 o<=201*o.length:=by
 have:=yC ho;unfold nL;omega
theorem ox{o:List Part}(ho:∀p∈o,a8 p):nL a9 (normal o)<=203*o.length+2:=by
 have h1:=HG o;have h2:=HI ho;have h3:=yC ho;unfold nL;omega
theorem ug(o:List Part):nL a9 (dz o)<=2^20:=by
 unfold dz
 split
 ·rename_i h
  have:=ox h.1.1;have:=h.1.2;omega
 ·simp[nL,cw]
def ku(o:List Part):Prop:=dv o/\dz o=o
theorem Ed(o:List Part)(hl:nL a9 o<=2^40):ar Tryz.prog 227 [.c (.s (o.map Part.row))] (.one (.c (vb (ku o)) 1)):=by
 refine pci aw Tryz.func227 (λw0 base=>?_);simp;refine ag.pure (gJ o hl) ab ?_;by_cases h:dv o
 ·simp[h]
  refine ag.pure (uA o hl) ab ?_;simp;intro H;refine ag.pure (pe o (dz o) hl) ab ?_;simp[ku,h];exact Gr ⟨λh=>h.symm,λh=>h.symm⟩
 ·simp[h,ku]
theorem DG(o:List Part)(hl:nL a9 o<=2^40):ar Tryz.prog 217 [.c (.s (o.map Part.row))] (.one (.c (vb (ku o)) 1)):=by
 refine pci aw Tryz.func217 (λw0 base=>?_);simp;refine ag.pure (gD o hl) ab ?_;by_cases h:dv o
 ·simp[h]
  refine ag.pure (tY o hl) ab ?_;simp;intro H;refine ag.pure (sx (dz o) o (dW (ug o) ah)) ab ?_;simp[ku,h]
 ·simp[h,ku]
def eo(t:List Int):Prop:=t.length<=200/\iE t
theorem kA(t:List Int)(hl:t.length<=2^40):ar Tryz.prog 184 [.c (.s (t.map aI))] (.one (.c (vb (eo t)) 1)):=by
 refine pci aw Tryz.func184 (λw0 base=>?_);by_cases h:t.length<=200
 ·have h':(t.length:Int)<=200:=by omega
  simp[h'];refine ag.pure (sB t hl) ab ?_;simp[eo,h]
 ·have h':¬(t.length:Int)<=200:=by omega
  simp[h',eo,h]
theorem mc(t:List Int)(hl:t.length<=2^40):ar Tryz.prog 161 [.c (.s (t.map aI))] (.one (.c (vb (eo t)) 1)):=by
 refine pci aw Tryz.func161 (λw0 base=>?_);simp;refine ag.pure (sr t hl) ab ?_;have e:((t.length:Int)<=200)=(t.length<=200):=aM;by_cases hg:iE t
 ·simp[hg,eo,e]
 ·simp[hg,eo]
def psz(p:Part):Nat:=p.n.toNat+p.signs.length
def ib(p:Part)(n:Nat):Part:=if p.kind=2 then⟨p.kind,p.n,p.signs.take n⟩else⟨p.kind,n,p.signs⟩
def cu(p:Part)(n:Nat):Part:=if p.kind=2 then⟨p.kind,p.n,p.signs.drop n⟩else⟨p.kind,p.n-n,p.signs⟩
theorem iF{p:Part}(h:a8 p):(psz p:Int)=p.n+p.signs.length/\psz p<=200:=by
 have hb:=h.bounds;unfold psz;by_cases hk:p.kind=2
 ·have:=hb.2.2.2.2.1 hk
  omega
 ·have:=hb.2.2.2.2.2 hk
  rw[this];simp;omega
@[simp] theorem ZR {p:Part} {n:Nat}:(ib p n).kind=p.kind:=by unfold ib;split<;>rfl
@[simp] theorem XN {p:Part} {n:Nat}:(cu p n).kind=p.kind:=by unfold cu;split<;>rfl
theorem rM{p:Part}(h:a8 p){n:Nat}(hn:n<=psz p):a8 (ib p n):=by
 have hp:=iF h;unfold ib;by_cases hk:p.kind=2
 ·rw[ao hk]
  rw[jF hk]at h;refine .inr ⟨hk,h.1,?_,λm hm=>h.2.2 m (bu hm)⟩;simp;omega
 ·rw[au hk]
  have hb:=h.bounds;have hk2:p.kind=1\/p.kind=3:=aa;have:=hb.2.2.2.2.2 hk;refine .inl ⟨hk2,?_,this⟩;exact iD
theorem Fy{p:Part}(h:a8 p){n:Nat}(hn:n<=psz p):a8 (cu p n):=by
 have hp:=iF h;unfold cu;by_cases hk:p.kind=2
 ·rw[ao hk]
  rw[jF hk]at h;refine .inr ⟨hk,h.1,?_,λm hm=>h.2.2 m (ba hm)⟩;simp;omega
 ·rw[au hk]
  have hb:=h.bounds;have hk2:p.kind=1\/p.kind=3:=aa;have:=hb.2.2.2.2.2 hk;refine .inl ⟨hk2,?_,this⟩;rw[this]at hp;simp at hp;exact iD
theorem lB{p:Part}(h:a8 p){n:Nat}(hn:n<=psz p):psz (cu p n)=psz p-n:=by
 have hb:=h.bounds;unfold psz cu at *;by_cases hk:p.kind=2
 ·rw[ao hk]
  have:=hb.2.2.2.2.1 hk;simp only[this,iW]at hn⊢;omega
 ·rw[au hk]
  have:=hb.2.2.2.2.2 hk;simp only[this,il]at hn⊢;omega
theorem fR{p:Part}(h:a8 p):ib p (psz p)=p:=by
 have hb:=h.bounds;unfold psz ib;by_cases hk:p.kind=2
 ·rw[ao hk]
  have:=hb.2.2.2.2.1 hk;rw[aC aa]
 ·rw[au hk]
  have:=hb.2.2.2.2.2 hk;obtain⟨k,n,s⟩:=p;simp only at this hb;subst this;simp;omega
theorem Fx{p:Part}{m n:Nat}:cu (cu p m) n=cu p (m+n):=by
 unfold cu;by_cases hk:p.kind=2
 ·simp[hk,List.drop_drop]
 ·simp[hk]
  omega
theorem Hx{p:Part}:cu p 0=p:=by unfold cu;split<;>simp
def nxt:List Part->List Part
 | []=>[]
 |p::l=>if psz p=0 then nxt l else p::l
def tsz:List Part->Nat
 | []=>0
 |p::l=>psz p+tsz l
def frs:List Part->Nat
 | []=>0
 |p::l=>(if p.kind=2 then 0 else psz p)+frs l
def tos:List Part->Nat
 | []=>0
 |p::l=>(if p.kind=3 then 0 else psz p)+tos l
theorem DS:∀l:List Part,tsz (nxt l)=tsz l
 | []=>rfl
 | p :: l => by
   unfold nxt
   split
   ·rename_i h;rw[DS l];simp[tsz,h]
   ·rfl
theorem mi:∀l:List Part,frs (nxt l)=frs l
 | []=>rfl
 | p :: l => by
   unfold nxt
   split
   ·rename_i h;rw[mi l];simp[frs,h]
   ·rfl
theorem hQ:∀{l:List Part}{p:Part}{l':List Part},nxt l=p::l'->0<psz p
 | [],p,l',h=>by simp[nxt]at h
 | q :: l, p, l', h => by
   unfold nxt at h
   split at h
   ·exact hQ h
   ·simp at h;rw[<-h.1];omega
theorem gj:∀l:List Part,nxt (nxt l)=nxt l
 | []=>rfl
 | p :: l => by
   by_cases h:psz p=0
   ·simp only[nxt,h,dk];exact gj l
   ·simp only[nxt,h,dm]
theorem s6:∀l:List Part,∃k,k<=l.length/\nxt l=l.drop k/\∀i,(h:i<l.length)->i<k->psz l[i]=0
 | []=>⟨0,ab,rfl,λi h=>gQ⟩
 | p :: l => by
   by_cases h:psz p=0
   ·obtain⟨k,h1,h2,h3⟩:=s6 l
    refine⟨k+1,aM,by simp[nxt,h,h2],λi hi hk=>?_⟩
    cases i with
    |zero=>simpa using h
    |succ i=>simpa using h3 i dN aa
   ·exact⟨0,ab,by simp[nxt,h],λi _ hk=>aa⟩
theorem nu{l:List Part}{p:Part}(h:p∈nxt l):p∈l:=by
 obtain⟨k,_,h2,_⟩:=s6 l;rw[h2]at h;exact ba h
theorem MG(l:List Part):(nxt l).length<=l.length:=by
 obtain⟨k,_,h2,_⟩:=s6 l;rw[h2];simp
theorem oy{l l':List Part}{p:Part}{n:Nat}(hl:∀q∈l,a8 q)(he:nxt l=p::l')(hn:n<=psz p):∀q∈cu p n::l',a8 q:=by
 intro q hq;rcases aV.1 hq with rfl|hq
 ·exact Fy (hl p (nu (he ▸ aK ..))) hn
 ·exact hl q (nu (he ▸ aD _ hq))
theorem jz{l l':List Part}{p:Part}(hl:∀q∈l,a8 q)(he:nxt l=p::l'):a8 p/\∀q∈p::l',a8 q:=
 ⟨hl p (nu (he ▸ aK ..)),λq hq=>hl q (nu (he ▸ hq))⟩
abbrev XR:=(List Part×List Part)×List Part×List Part
def fu(x y:List Part):Option XR:=
 match nxt x with
 | p :: x' => if p.kind = 2 then some (([ib p (psz p)], [⟨1, p.signs.length, []⟩]), cu p (psz p) :: x', y) else match nxt y with
   | q :: y' => if q.kind = 2 then some (([⟨1, q.signs.length, []⟩], [ib q (psz q)]), p :: x', cu q (psz q) :: y') else
       some ((if q.kind=1 then [ib p (min (psz p) (psz q))]else [],if p.kind=1 then [ib q (min (psz p) (psz q))]else []),cu p (min (psz p) (psz q))::x',cu q (min (psz p) (psz q))::y')
   | []=>none
 | [] => match nxt y with
   |q::y'=>if q.kind=2 then some (([⟨1,q.signs.length,[]⟩],[ib q (psz q)]),[],cu q (psz q)::y')else none
   | []=>none
structure TInv(x y:List Part):Prop where
 px:∀p∈x,a8 p
 py:∀p∈y,a8 p
 b:frs x=frs y
structure TNext(x y:List Part)(r:XR):Prop where
 inv:TInv r.2.1 r.2.2
 dec:tsz r.2.1+tsz r.2.2<tsz x+tsz y
 okx:∀p∈r.1.1,a8 p
 oky:∀p∈r.1.2,a8 p
 lenx:r.1.1.length<=1
 leny:r.1.2.length<=1
theorem HW{p:Part}(h:a8 p):a8 ⟨1,p.signs.length,[]⟩:=by
 have:=h.bounds;exact .inl ⟨.inl rfl,gh,rfl⟩
theorem gA{x y:List Part}(hi:TInv x y){r:XR}(h:fu x y=some r):TNext x y r:=by
 have hx:=DS x;have hy:=DS y;have hxt:=mi x;have hyf:=mi y;have hb:=hi.b;unfold fu at h
 cases ex:nxt x with
 | nil =>
   rw[ex]at h hx hxt
   cases ey:nxt y with
   |nil=>simp[ey]at h
   | cons q y' =>
     rw[ey]at hy hyf;have hq:=jz hi.py ey;have hp:=hQ ey;simp only[ey]at h
     split at h
     ·rename_i k
      cases h
      have hs:=lB hq.1 (aF _);refine⟨⟨ab,oy hi.py ey (aF _),?_⟩,?_,?_,?_,ab,ab⟩
      ·simp[frs,k]at hxt hyf⊢;omega
      ·simp[tsz]at hx hy⊢;omega
      ·intro p hp;simp at hp;subst hp;exact HW hq.1
      ·intro p hp;simp at hp;subst hp;exact rM hq.1 (aF _)
     ·cases h
 | cons p x' =>
   rw[ex]at h hx hxt;have hp:=jz hi.px ex;have hpp:=hQ ex;simp only at h
   split at h
   ·rename_i k
    cases h
    have hs:=lB hp.1 (aF _);refine⟨⟨oy hi.px ex (aF _),hi.py,?_⟩,?_,?_,?_,ab,ab⟩
    ·simp[frs,k]at hxt⊢;omega
    ·simp[tsz]at hx⊢;omega
    ·intro q hq;simp at hq;subst hq;exact rM hp.1 (aF _)
    ·intro q hq;simp at hq;subst hq;exact HW hp.1
   ·rename_i k3
    cases ey:nxt y with
    |nil=>simp[ey]at h
    | cons q y' =>
      rw[ey]at hy hyf;have hq:=jz hi.py ey;have hqp:=hQ ey;simp only[ey]at h
      split at h
      ·rename_i k
       cases h
       have hs:=lB hq.1 (aF _);refine⟨⟨hp.2,oy hi.py ey (aF _),?_⟩,?_,?_,?_,ab,ab⟩
       ·simp[frs,k,k3]at hxt hyf⊢;omega
       ·simp[tsz]at hx hy⊢;omega
       ·intro p hp;simp at hp;subst hp;exact HW hq.1
       ·intro p hp;simp at hp;subst hp;exact rM hq.1 (aF _)
      ·rename_i k2
       cases h
       have hn1:min (psz p) (psz q)<=psz p:=aa;have hn2:min (psz p) (psz q)<=psz q:=aa;have hs1:=lB hp.1 hn1;have hs2:=lB hq.1 hn2;refine⟨⟨oy hi.px ex hn1,oy hi.py ey hn2,?_⟩,?_,?_,?_,?_,?_⟩
       ·simp[frs,k2,k3]at hxt hyf⊢;omega
       ·simp[tsz]at hx hy⊢;omega
       ·intro r hr
        simp only at hr
        split at hr
        ·simp at hr;subst hr;exact rM hp.1 hn1
        ·simp at hr
       ·intro r hr
        simp only at hr
        split at hr
        ·simp at hr;subst hr;exact rM hq.1 hn2
        ·simp at hr
       ·simp only;split<;>simp
       ·simp only;split<;>simp
noncomputable def xfK:Nat->List Part->List Part->List Part×List Part
 |0,_,_=>([],[])
 | k + 1, x, y => match fu x y with
   |none=>([],[])
   |some r=>(r.1.1++(xfK k r.2.1 r.2.2).1,r.1.2++(xfK k r.2.1 r.2.2).2)
noncomputable def xf(x y:List Part):List Part×List Part:=xfK (tsz x+tsz y) x y
theorem Pw:∀(k m:Nat) {x y:List Part},TInv x y->tsz x+tsz y<=k->tsz x+tsz y<=m->xfK k x y=xfK m x y
 |0,0,_,_,_,_,_=>rfl
 | k + 1, 0, x, y, hi, h, h2 => by
   rw[xfK,xfK];exact CZ
 | 0, m + 1, x, y, hi, h, h2 => by
   rw[xfK,xfK];exact CZ
 | k + 1, m + 1, x, y, hi, h, h2 => by
   rw[xfK,xfK]
   cases hs:fu x y with
   |none=>rfl
   | some r =>
     have hn:=gA hi hs;have:=hn.dec;simp only;rw[Pw k m hn.inv aa aa]
theorem I4{x y:List Part}(h:fu x y=none):xf x y=([],[]):=by
 unfold xf
 cases tsz x+tsz y with
 |zero=>rfl
 |succ k=>rw[xfK,h]
theorem Tk{x y:List Part}(hi:TInv x y){r:XR}(h:fu x y=some r):xf x y=(r.1.1++(xf r.2.1 r.2.2).1,r.1.2++(xf r.2.1 r.2.2).2):=by
 have hn:=gA hi h;have hd:=hn.dec;unfold xf;obtain⟨k,hk⟩:∃k,tsz x+tsz y=k+1:=⟨tsz x+tsz y-1,aa⟩;rw[hk,xfK,h];simp only;rw[Pw k (tsz r.2.1+tsz r.2.2) hn.inv aa aa]
theorem El:∀{o:List Part},(∀p∈o,a8 p)->(frs o:Int)=dU (po 2) o
 | [],_=>rfl
 | p :: o, h => by
   have ih:=El (λq hq=>h q (aD _ hq));have hp:=iF (h p (aK ..));simp only[frs,dU,po]
   split<;>simp<;>omega
theorem B5:∀{o:List Part},(∀p∈o,a8 p)->(tos o:Int)=dU (po 3) o
 | [],_=>rfl
 | p :: o, h => by
   have ih:=B5 (λq hq=>h q (aD _ hq));have hp:=iF (h p (aK ..));simp only[tos,dU,po]
   split<;>simp<;>omega
theorem oB{o:List Part}(h:dv o):(frs o:Int)=cQ o:=by
 rw[El h.1.1,jE (λp hp=>YS (h.1.1 p hp)),mC];unfold cQ et;rw[ao h.1]
theorem u7{o:List Part}(h:dv o):(tos o:Int)=nS o:=by
 rw[B5 h.1.1,jE (λp hp=>YR (h.1.1 p hp)),mC];unfold nS et;rw[ao h.1]
theorem GV:∀(o:List Part),tsz o<=frs o+tos o
 | []=>by simp[tsz]
 | p :: o => by
   have:=GV o;simp only[tsz,frs,tos]
   split<;>split<;>omega
theorem B4{o:List Part}(h:dv o):tsz o<=400:=by
 have h1:=GV o;have h2:=oB h;have h3:=u7 h;have:=h.2;omega
theorem xi{a b:List Part}(ha:dv a)(hb:dv b)(h:cQ a=cQ b):TInv a b:=by
 have h2:=oB hb;have h3:=oB ha;exact⟨ha.1.1,hb.1.1,aa⟩
open Classical in
noncomputable def bn(a b:List Part):List Part×List Part×Bool:=
 if dv a/\dv b/\cQ a=cQ b then(if dv (normal (xf a b).1)/\dv (normal (xf a b).2)then(normal (xf a b).1,normal (xf a b).2,true)else([],[],false))else([],[],false)
def cur(o:List Part)(i d:Nat):List Part:=
 match o.drop i with
 | []=>[]
 |p::l=>cu p d::l
theorem EE{o:List Part}{i d:Nat}(h:o.length<=i):cur o i d=[]:=by unfold cur;rw[bg h]
theorem zB{o:List Part}{i d:Nat}(h:i<o.length):cur o i d=cu o[i] d::o.drop (i+1):=by unfold cur;rw[cY h]
theorem Gs{o:List Part}{i:Nat}:cur o i 0=o.drop i:=by
 unfold cur
 cases o.drop i with
 |nil=>rfl
 |cons p l=>simp[Hx]
theorem Sq{o:List Part}(ho:∀p∈o,a8 p){i:Nat}(h:i<o.length):nxt (cur o i (psz o[i]))=nxt (cur o (i+1) 0):=by
 rw[zB h,Gs];have:=lB (ho _ (aj h)) (aF _);simp[nxt,this]
theorem Sp{o:List Part}(ho:∀p∈o,a8 p){i d:Nat}(h:i<o.length)(hd:d<psz o[i]):nxt (cur o i d)=cur o i d:=by
 rw[zB h];have:=lB (ho _ (aj h)) (Z0 hd);have h2:¬psz (cu o[i] d)=0:=aa;simp[nxt,h2]
theorem Sr{o:List Part}{i d n:Nat}(h:i<o.length){p:Part}{l:List Part}(hc:cur o i d=p::l):cu p n::l=cur o i (d+n):=by
 rw[zB h]at hc⊢
 cases hc
 rw[Fx]
theorem ed{k j:Nat}{o:AObj}{h:AH}(hne:j≠k):AH.get ((k,o)::h) j=AH.get h j:=au hne
theorem pd(p:Part)(h:a8 p):ar Tryz.prog 276 [.agg p.row] (.one (.c (vi (psz p)) 1)):=by
 refine pci aw Tryz.func276 (λw0 base=>?_);have hp:=iF h;have e:Go.IntKind.i64.wrap (p.n+(p.signs.length:Int))=p.n+p.signs.length:=ae _ aa;rw[hp.1];simp[Part.row,e]
def hdV:List Part->AV
 | []=>.agg [.v (.int .i64 0),.v (.int .i64 0),.nil]
 |p::_=>.agg [.v (.int .i64 p.kind),.v (.int .i64 p.n),.ro (p.signs.map aI)]
theorem NV{w0:World}{bF bG:Nat->Prop}{bl:Bool}{st:ASt}{dst:Option Nat}{K:ASt->Prop}{kx b kb:Nat}{l:List Part}(hk:kx+16<kb)(hs:∀p∈l,a8 p)
 (g:st.h.get kx=.vars b 281 [.ro (l.map Part.row)])
 (hK:∀h',AH.get h' kx=.vars b 281 [.ro ((nxt l).map Part.row)]->(∀q,q≠kx->q<kb->AH.get h' q=st.h.get q)->bM ⟨st.n,st.kb,st.t,h'⟩ dst (hdV (nxt l)) K) :
 ag ⟨Tryz.prog,tt,w0,⟨bF,bG,bl,λ_=>True⟩⟩ 283 [.p kx b 0] st dst K:=by
 refine inl aw Tryz.func283 kb (λw1 F=>?_);simp;intro b2;have hkk:¬kx=kb+32:=aa;have hkk2:¬kb+32=kx:=aa;refine uX eok (λm:List Part=>nxt m=nxt l/\∀p∈m,p∈l) (λm=>⟨40,kb,[(0,.p kx b 0),(2,.p (kb+32) b2 0)],(kx,.vars b 281 [.ro (m.map Part.row)])::(kb+32,.vars b2 181 [.v (.int .i64 0),.v (.int .i64 0),.nil])::st.h⟩) (λm=>m.length) l ⟨rfl,λ_ h=>h⟩ (by simp[hkk,g]) (λm hm=>?_)
 ·cases m with
  | nil =>
    have hn:nxt l=[]:=by rw[<-hm.1];rfl
    rw[hn]at hK;simp[hkk2];refine hK _ (by simp[hkk]) (λq q1 q2=>?_)
    repeat (first|exact rfl|refine(ed aa).trans ?_)
  | cons p m =>
    have hp:=hs p (hm.2 p (aK ..));simp[Part.row];refine ag.pure (pd p hp) fX ?_;by_cases hz:psz p=0
    ·simp[hz,hkk,hkk2]
     refine⟨m,⟨by rw[<-hm.1];simp[nxt,hz],λq hq=>hm.2 q (aD _ hq)⟩,aa,?_⟩;simp[cut];exact xO
    ·have hn:nxt l=p::m:=by rw[<-hm.1];simp[nxt,hz]
     rw[hn]at hK;have hm0:¬(m.length:Int)+1=0:=aa;simp[hz,hkk2,hm0];refine hK _ ?_ (λq q1 q2=>?_)
     ·simp[hkk,Part.row]
     repeat (first|exact rfl|refine(ed aa).trans ?_)
theorem Sn(s:List Int){n:Nat}(_h:n<=s.length):cut (s.map aI) 0 n=(s.take n).map aI:=by
 unfold cut
 split
 ·rename_i h2
  rw[aC (by simp at h2;omega)]
 ·simp
theorem So(s:List Int){n:Nat}:cut (s.map aI) n (s.length-n)=(s.drop n).map aI:=by
 unfold cut
 split
 ·rename_i h2
  rw[h2.1];simp
 ·rw[aC ab,tF]
theorem A1{w0:World}{bF bG:Nat->Prop}{bl:Bool}{st:ASt}{dst:Option Nat}{K:ASt->Prop}{kx b n:Nat}{p:Part}{l:List Part}(hk:kx<15000)(hp:a8 p)(hn:n<=psz p)(hl:l.length<=2^20)
 (g:st.h.get kx=.vars b 281 [.ro ((p::l).map Part.row)])
 (hK:∀h',AH.get h' kx=.vars b 281 [.ro ((cu p n::l).map Part.row)]->(∀q,q≠kx->q<15000->AH.get h' q=st.h.get q)->bM ⟨st.n,st.kb,st.t,h'⟩ dst (hdV [ib p n]) K) :
 ag ⟨Tryz.prog,tt,w0,⟨bF,bG,bl,λ_=>True⟩⟩ 285 [.p kx b 0,.v (.int .i64 n)] st dst K:=by
 refine AW aw Tryz.func285 al rfl rfl rfl (ai rfl) 20000 (λw1 F=>?_);have hps:=iF hp;have hb:=hp.bounds;have k0:¬kx=20064:=aa;have k1:¬kx=20080:=aa;have k2:¬kx=20096:=aa;have k3:¬kx=20112:=aa;have k4:¬kx=20608:=aa;have j0:¬20064=kx:=aa;have j1:¬20080=kx:=aa;have j2:¬20096=kx:=aa;have j3:¬20112=kx:=aa;have j4:¬20608=kx:=aa;simp[g,Part.row,k0];intro b4 b5
 refine aZ.cut (λx:Nat×Nat=>⟨48,20000,[(0,.p kx b 0),(1,.v (.int .i64 n)),(4,.p 20064 b4 0),(5,.p 20080 b5 0),(6,.p 20096 x.1 0),(7,.p 20112 x.2 0)],
  (20096,.vars x.1 181 [.v (.int .i64 p.kind),.v (.int .i64 p.n),.ro (p.signs.map aI)])::(20112,.vars x.2 181 [.v (.int .i64 p.kind),.v (.int .i64 p.n),.ro (p.signs.map aI)])::(20080,.vars b5 181 [.v (.int .i64 p.kind),.v (.int .i64 p.n),.ro (p.signs.map aI)])::(20064,.vars b4 181 [.v (.int .i64 0),.v (.int .i64 0),.nil])::st.h⟩) ?_ ?_
 ·refine drw eok mix [0,1] [2,3,4,5] (.c 2 2 0 3 (.c 2 3 0 3 (.c 2 4 2 1 (.c 2 5 1 0 (.l 2 0) .s) .s) .s) (.c 2 3 0 3 (.c 2 2 0 3 (.c 2 4 2 1 (.c 2 5 1 0 (.l 2 0) .s) .s) .s) .s)) ?_
  simp;rw[Trc];refine⟨?_,?_⟩<;>simp
 rintro⟨b6,b7⟩
 simp;by_cases hk2:p.kind=2
 ·simp[hk2]
  refine drw eok mix [0,1,2,3,4,5,6,7,8,10] [9,11] (.c 10 9 962 61 (.c 10 11 61 0 (.l 10 0) .s) .s) ?_;have hns:n<=p.signs.length:=by have:=hb.2.2.2.2.1 hk2;omega
  simp[hns];refine drw eok mix [0,1,3,4,5,6,7,9,10] [2,8,11] (.c 9 2 128 383 (.c 9 8 4 379 (.c 9 11 377 2 (.l 9 2) .s) .s) .s) ?_
  have ct:cut ([vi p.kind,vi p.n,CD.s (p.signs.map aI)]::l.map Part.row) 1 l.length=l.map Part.row:=by
   simp[cut];exact xO
  have hv:hdV [ib p n]=.agg [.v (.int .i64 2),.v (.int .i64 p.n),.ro ((p.signs.map aI).take n)]:=by simp[hdV,ib,hk2]
  rw[hv]at hK;simp[g,Part.row,k0,k1,k2,k3,k4,j0,j3,ct,Sn p.signs hns,So p.signs];intro b8;refine⟨aa,λH=>⟨_,GN (kx:=kx) (b:=b) (T:=281) (cells:=[.sl 20608 H 3 0 (1+l.length)]) (j:=0) (k:=20608) (sz:=3) (off:=0) (len:=1+l.length) (H:=H) (rows:=(cu p n).row::l.map Part.row) (own:=false) ?_ rfl ?_ aM,?_⟩⟩
  ·simp[k0]
  ·simp[j4,Part.row,cu,hk2]
  ·refine hK _ ?_ (λq q1 q2=>?_)
   ·simp[cut,Nat.add_comm]
   ·repeat (first|exact rfl|refine(ed aa).trans ?_)
 ·simp[hk2]
  refine drw eok mix [0,1,2,3,4,5,7] [6,8] (.c 7 6 66 61 (.c 7 8 61 0 (.l 7 0) .s) .s) ?_;have e:Go.IntKind.i64.wrap (p.n-(n:Int))=p.n-n:=ae _ aa;simp[e];refine drw eok mix [0,1,3,4,5,6,7,9,10] [2,8,11] (.c 9 2 128 383 (.c 9 8 4 379 (.c 9 11 377 2 (.l 9 2) .s) .s) .s) ?_
  have ct:cut ([vi p.kind,vi p.n,CD.s (p.signs.map aI)]::l.map Part.row) 1 l.length=l.map Part.row:=by
   simp[cut];exact xO
  have hv:hdV [ib p n]=.agg [.v (.int .i64 p.kind),.v (.int .i64 n),.ro (p.signs.map aI)]:=by simp[hdV,ib,hk2]
  rw[hv]at hK;simp[g,Part.row,k0,k1,k2,k3,k4,j0,j3,ct];intro b8;refine⟨aa,λH=>⟨_,GN (kx:=kx) (b:=b) (T:=281) (cells:=[.sl 20608 H 3 0 (1+l.length)]) (j:=0) (k:=20608) (sz:=3) (off:=0) (len:=1+l.length) (H:=H) (rows:=(cu p n).row::l.map Part.row) (own:=false) ?_ rfl ?_ aM,?_⟩⟩
  ·simp[k0]
  ·simp[j4,Part.row,cu,hk2]
  ·refine hK _ ?_ (λq q1 q2=>?_)
   ·simp[cut,Nat.add_comm]
   ·repeat (first|exact rfl|refine(ed aa).trans ?_)
theorem GU{w0:World}{bF bG:Nat->Prop}{bl:Bool}{st:ASt}{dst:Option Nat}{K:ASt->Prop}{kx b:Nat}{p:Part}{l:List Part}(hk:kx<14000)(hp:a8 p)(hl:l.length<=2^20)
 (g:st.h.get kx=.vars b 281 [.ro ((p::l).map Part.row)])
 (hK:∀h',AH.get h' kx=.vars b 281 [.ro ((cu p (psz p)::l).map Part.row)]->(∀q,q≠kx->q<14000->AH.get h' q=st.h.get q)->bM ⟨st.n,st.kb,st.t,h'⟩ dst (hdV [p]) K) :
 ag ⟨Tryz.prog,tt,w0,⟨bF,bG,bl,λ_=>True⟩⟩ 284 [.p kx b 0] st dst K:=by
 refine inl aw Tryz.func284 14000 (λw1 F=>?_);have k0:¬kx=14032:=aa;have j0:¬14032=kx:=aa;simp[g,Part.row,k0];intro b2;refine ag.pure (pd p hp) fX ?_;simp;refine A1 (n:=psz p) aa hp (aF _) hl (by simp[k0,g]) (λh' g1 g2=>?_);have e:=g2 14032 j0 aa;simp at e;simp[hdV,e];rw[fR hp];refine hK _ (by simp[g1,k0]) (λq q1 q2=>?_);have hq:¬q=14032:=aa;simp[hq,g2 q q1 aa]
structure RS(kx ky bx by_:Nat)(h0 h:AH)(X Y:List Part):Prop where
 ne:kx≠ky
 lx:kx<14000-16
 ly:ky<14000-16
 gx:AH.get h kx=.vars bx 281 [.ro (X.map Part.row)]
 gy:AH.get h ky=.vars by_ 281 [.ro (Y.map Part.row)]
 o:∀q,q≠kx->q≠ky->q<14000->AH.get h q=AH.get h0 q
theorem RS.swap{kx ky bx by_:Nat}{h0 h:AH}{X Y:List Part}(R:RS kx ky bx by_ h0 h X Y):RS ky kx by_ bx h0 h Y X:=⟨R.ne.symm,R.ly,R.lx,R.gy,R.gx,λq h1 h2=>R.o q h2 h1⟩
section
variable {w0:World}{bF bG:Nat->Prop}{bl:Bool}{st:ASt}{dst:Option Nat}{K:ASt->Prop}{kx ky bx by_:Nat}{h0:AH}{X Y:List Part}
theorem RS.next(R:RS kx ky bx by_ h0 st.h X Y)(hs:∀p∈X,a8 p)(hK:∀h',RS kx ky bx by_ h0 h' (nxt X) Y->bM ⟨st.n,st.kb,st.t,h'⟩ dst (hdV (nxt X)) K) :
 ag ⟨Tryz.prog,tt,w0,⟨bF,bG,bl,λ_=>True⟩⟩ 283 [.p kx bx 0] st dst K:=by
 have:=R.lx;have:=R.ly;refine NV (l:=X) (kb:=20000) aa hs R.gx (λh1 g1 o1=>hK h1 ⟨R.ne,R.lx,R.ly,g1,by rw[o1 ky R.ne.symm aa];exact R.gy,λq q1 q2 q3=>by rw[o1 q q1 aa];exact R.o q q1 q2 q3⟩)
theorem RS.take{p:Part}{l:List Part}{n:Nat}(R:RS kx ky bx by_ h0 st.h (p::l) Y)(hp:a8 p)(hn:n<=psz p)(hl:l.length<=2^20)(hK:∀h',RS kx ky bx by_ h0 h' (cu p n::l) Y->bM ⟨st.n,st.kb,st.t,h'⟩ dst (hdV [ib p n]) K) :
 ag ⟨Tryz.prog,tt,w0,⟨bF,bG,bl,λ_=>True⟩⟩ 285 [.p kx bx 0,.v (.int .i64 n)] st dst K:=by
 have:=R.lx;have:=R.ly;refine A1 aa hp hn hl R.gx (λh1 g1 o1=>hK h1 ⟨R.ne,R.lx,R.ly,g1,by rw[o1 ky R.ne.symm aa];exact R.gy,λq q1 q2 q3=>by rw[o1 q q1 aa];exact R.o q q1 q2 q3⟩)
theorem RS.whole{p:Part}{l:List Part}(R:RS kx ky bx by_ h0 st.h (p::l) Y)(hp:a8 p)(hl:l.length<=2^20)(hK:∀h',RS kx ky bx by_ h0 h' (cu p (psz p)::l) Y->bM ⟨st.n,st.kb,st.t,h'⟩ dst (hdV [p]) K) :
 ag ⟨Tryz.prog,tt,w0,⟨bF,bG,bl,λ_=>True⟩⟩ 284 [.p kx bx 0] st dst K:=by
 have:=R.lx;have:=R.ly;refine GU aa hp hl R.gx (λh1 g1 o1=>hK h1 ⟨R.ne,R.lx,R.ly,g1,by rw[o1 ky R.ne.symm aa];exact R.gy,λq q1 q2 q3=>by rw[o1 q q1 aa];exact R.o q q1 q2 q3⟩)
end
theorem Eg:hdV []=.agg [.v (.int .i64 0),.v (.int .i64 0),.nil]:=rfl
theorem gp{p:Part}{l:List Part}:hdV (p::l)=.agg [.v (.int .i64 p.kind),.v (.int .i64 p.n),.ro (p.signs.map aI)]:=rfl
open Go.AM
set_option maxRecDepth 20000
set_option maxHeartbeats 1600000
end Go.Proofs.YtklblkobegcljaaGreat
