import Derived.Test.YtmccaifipoohfaaGreatDoorNA
import Derived.Test.YtmccaifipoohfaaGreatDoorMF
namespace Go.Proofs.YtmccaifipoohfaaGreatDoor
open Go.AM
set_option maxRecDepth 20000
theorem cr(n lo hi:Int):aH Tryz.prog 53 [.c (vi n),.c (vi lo),.c (vi hi)] (.one (.c (vb (lo<=n/\n<=hi)) 1)):=by
 refine pci au Tryz.func53 (λw0 base=>?_);by_cases h1:lo<=n<;>by_cases h2:n<=hi<;>simp[h1,h2]
theorem dT(n lo hi:Int):aH Tryz.prog 101 [.c (vi n),.c (vi lo),.c (vi hi)] (.one (.c (vb (lo<=n/\n<=hi)) 1)):=by
 refine pci au Tryz.func101 (λw0 base=>?_);by_cases h1:lo<=n<;>by_cases h2:n<=hi<;>simp[h1,h2]
def jM(n:Int):Prop:=(0<=n/\n<=1114111)/\¬(55296<=n/\n<=57343)
def dQ(l:List Int):Prop:=∀n∈l,jM n
theorem MV(n:Int):aH Tryz.prog 187 [.c (vi n)] (.one (.c (vb (jM n)) 1)):=by
 refine pci au Tryz.func187 (λw0 base=>?_);simp;refine ae.pure (cr n 0 1114111) ab ?_;by_cases h:0<=n/\n<=1114111
 ·simp[h]
  refine ae.pure (cr n 55296 57343) ab ?_;exact TO
 ·exact TL
theorem zZ(n:Int):aH Tryz.prog 207 [.c (vi n)] (.one (.c (vb (jM n)) 1)):=by
 refine pci au Tryz.func207 (λw0 base=>?_);simp;refine ae.pure (dT n 0 1114111) ab ?_;by_cases h:0<=n/\n<=1114111
 ·simp[h]
  refine ae.pure (dT n 55296 57343) ab ?_;exact TO
 ·exact TL
theorem Fp{α:Type}{P:α->Prop}{l:List α}{i:Nat}(h:i<l.length)(ha:∀a∈l.take i,P a)(hi:P l[i]):∀a∈l.take (i+1),P a:=by
 rw[<-dM h];intro a ha';rcases aG.1 ha' with h1|h1
 ·exact ha a h1
 ·simp at h1;subst h1;exact hi
theorem vc{α:Type}{P:α->Prop}{l:List α}{i:Nat}(h:l.length<=i)(ha:∀a∈l.take i,P a):∀a∈l,P a:=by
 rwa[aC h]at ha
theorem X4{α:Type}{P:α->Prop}{l:List α}{i:Nat}(h:i<l.length)(hi:¬P l[i]):¬∀a∈l,P a:=λha=>hi (ha _ (ak h))
theorem ln(l:List Int)(hl:l.length<=2^40):aH Tryz.prog 90 [.c (.s (l.map aX))] (.one (.c (vb (dQ l)) 1)):=by
 refine pci au Tryz.func90 (λw0 base=>?_);simp;refine bk.intro eok (λi:Nat=>i<=l.length/\∀n∈l.take i,jM n) (λi=>⟨15,0,[(7,.v (.int .i64 i)),(6,.v (.int .i64 l.length)),(5,.ro (l.map aX))],[]⟩) (λi=>l.length-i) 0 ab ab (λi hi=>?_);by_cases h:i<l.length
 ·simp[h]
  refine ae.pure (MV l[i]) ab ?_;exact SD
 ·simp[h,sW]
  exact vc aa hi.2
theorem mM(l:List Int)(hl:l.length<=2^40):aH Tryz.prog 217 [.c (.s (l.map aX))] (.one (.c (vb (dQ l)) 1)):=by
 refine pci au Tryz.func217 (λw0 base=>?_);simp;refine bk.intro eok (λi:Nat=>i<=l.length/\∀n∈l.take i,jM n) (λi=>⟨15,0,[(7,.v (.int .i64 i)),(6,.v (.int .i64 l.length)),(5,.ro (l.map aX))],[]⟩) (λi=>l.length-i) 0 ab ab (λi hi=>?_);by_cases h:i<l.length
 ·simp[h]
  refine ae.pure (zZ l[i]) ab ?_;exact SD
 ·simp[h,sW]
  exact vc aa hi.2
def aS(p:Part):Prop:=((p.kind=1\/p.kind=3)/\(0<=p.n/\p.n<=200)/\p.signs=[])\/(p.kind=2/\p.n=0/\p.signs.length<=200/\dQ p.signs)
theorem CQ{p:Part}(h:p.kind=1\/p.kind=3):aS p=((0<=p.n/\p.n<=200)/\p.signs=[]):=by
 have h2:¬p.kind=2:=aa;simp[aS,h,h2]
theorem ni{p:Part}(h:p.kind=2):aS p=(p.n=0/\p.signs.length<=200/\dQ p.signs):=by simp[aS,h]
theorem JN{p:Part}(h1:p.kind≠1)(h2:p.kind≠2)(h3:p.kind≠3):¬aS p:=by simp[aS,h1,h2,h3]
theorem M0(p:Part)(hl:p.signs.length<=2^40):aH Tryz.prog 240 [.agg p.row] (.one (.c (vb (aS p)) 1)):=by
 refine pci au Tryz.func240 (λw0 base=>?_);simp[Part.row];intros;by_cases h13:p.kind=1\/p.kind=3
 ·rw[CQ h13]
  rcases h13 with h|h
  ·simp[h]
   refine ae.pure (cr p.n 0 200) ab ?_;exact EV
  ·simp[h]
   refine ae.pure (cr p.n 0 200) ab ?_;exact EV
 ·have h1:¬p.kind=1:=λh=>h13 (.inl h)
  have h3:¬p.kind=3:=λh=>h13 (.inr h)
  by_cases h2:p.kind=2
  ·rw[ni h2]
   simp[h2];by_cases hn:p.n=0
   ·by_cases hs:p.signs.length<=200
    ·have hs':(p.signs.length:Int)<=200:=by omega
     simp[hn,hs'];refine ae.pure (ln p.signs hl) ab ?_;simp[hs]
    ·have hs':¬(p.signs.length:Int)<=200:=by omega
     simp[hn,hs',hs]
   ·simp[hn]
  ·simp[h1,h2,h3,JN]
theorem Ms(p:Part)(hl:p.signs.length<=2^40):aH Tryz.prog 273 [.agg p.row] (.one (.c (vb (aS p)) 1)):=by
 refine pci au Tryz.func273 (λw0 base=>?_);simp[Part.row];intros;by_cases h13:p.kind=1\/p.kind=3
 ·rw[CQ h13]
  rcases h13 with h|h
  ·simp[h]
   refine ae.pure (dT p.n 0 200) ab ?_;exact EV
  ·simp[h]
   refine ae.pure (dT p.n 0 200) ab ?_;exact EV
 ·have h1:¬p.kind=1:=λh=>h13 (.inl h)
  have h3:¬p.kind=3:=λh=>h13 (.inr h)
  by_cases h2:p.kind=2
  ·rw[ni h2]
   simp[h2];by_cases hn:p.n=0
   ·simp[hn]
    refine ae.pure (mM p.signs hl) ab ?_;have e:((p.signs.length:Int)<=200)=(p.signs.length<=200):=aJ;by_cases hg:dQ p.signs
    ·simp[hg,e]
    ·simp[hg]
   ·simp[hn]
  ·simp[h1,h2,h3,JN]
def gk(o:List Part):Prop:=(∀p∈o,aS p)/\o.length<=600
theorem sC(o:List Part)(hl:nL aY o<=2^40):aH Tryz.prog 160 [.c (.s (o.map Part.row))] (.one (.c (vb (gk o)) 1)):=by
 refine pci au Tryz.func160 (λw0 base=>?_);have hle:=cT hl;simp;refine bk.intro eok (λi:Nat=>i<=o.length/\∀p∈o.take i,aS p) (λi=>⟨18,0,[(7,.v (.int .i64 i)),(6,.v (.int .i64 o.length)),(5,.ro (o.map Part.row)),(0,.ro (o.map Part.row))],[]⟩) (λi=>o.length-i) 0 ab ab (λi hi=>?_);by_cases h:i<o.length
 ·simp[h,Part.row]
  intros;refine ae.pure (M0 o[i] (iN hl h)) lF ?_;exact SG
 ·exact Vy
theorem su(o:List Part)(hl:nL aY o<=2^40):aH Tryz.prog 208 [.c (.s (o.map Part.row))] (.one (.c (vb (gk o)) 1)):=by
 refine pci au Tryz.func208 (λw0 base=>?_);have hle:=cT hl;simp;refine bk.intro eok (λi:Nat=>i<=o.length/\∀p∈o.take i,aS p) (λi=>⟨18,0,[(7,.v (.int .i64 i)),(6,.v (.int .i64 o.length)),(5,.ro (o.map Part.row)),(0,.ro (o.map Part.row))],[]⟩) (λi=>o.length-i) 0 ab ab (λi hi=>?_);by_cases h:i<o.length
 ·simp[h,Part.row]
  intros;refine ae.pure (Ms o[i] (iN hl h)) lF ?_;exact SG
 ·exact Vy
def dN(f:Part->Int):List Part->Int
 | []=>0
 |p::o=>f p+dN f o
theorem ik{f:Part->Int}:∀(a b:List Part),dN f (a++b)=dN f a+dN f b
 | [],b=>pb
 |p::a,b=>by simp only[bU,dN,ik a b];omega
theorem gQ{f:Part->Int}{o:List Part}{i:Nat}(h:i<o.length):dN f (o.take (i+1))=dN f (o.take i)+f o[i]:=by
 rw[<-dM h,ik];simp[dN]
theorem kH{f g:Part->Int}:∀{o:List Part},(∀p∈o,f p=g p)->dN f o=dN g o
 | [],_=>rfl
 | p :: o, h => by
   simp only[dN];rw[h p (aN ..),kH (λq hq=>h q (aD _ hq))]
theorem q9{f g:Part->Int}:∀(o:List Part),dN (λp=>f p+g p) o=dN f o+dN g o
 | []=>pb
 |p::o=>by simp only[dN,q9 o];omega
def fK(p:Part):Int:=if p.kind=1 then p.n else 0
def fP(p:Part):Int:=if p.kind=2 then p.signs.length else 0
def fD(p:Part):Int:=if p.kind=1 then 0 else if p.kind=2 then 0 else p.n
def u5(k:Int)(p:Part):Int:=if p.kind=k then 0 else p.n+p.signs.length
def fOf(k:Int)(p:Part):Int:=if p.kind=k then p.n+p.signs.length else 0
theorem aS.bounds{p:Part}(h:aS p):(p.kind=1\/p.kind=2\/p.kind=3)/\0<=p.n/\p.n<=200/\p.signs.length<=200/\(p.kind=2->p.n=0)/\(p.kind≠2->p.signs=[]):=by
 rcases h with⟨h1,h2,h3⟩|⟨h1,h2,h3,h4⟩
 ·refine⟨aa,aa,aa,by simp[h3],aa,λ_=>h3⟩
 ·refine⟨aa,aa,aa,h3,λ_=>h2,λh=>absurd h1 h⟩
theorem ahO{p:Part}(h:aS p):u5 2 p=fK p+fD p:=by
 obtain⟨h1,h2,h3,h4,h5,h6⟩:=h.bounds;unfold u5 fK fD;by_cases k2:p.kind=2
 ·simp[k2]
 ·by_cases k1:p.kind=1<;>simp[k1,k2,h6 k2]
theorem ahN{p:Part}(h:aS p):u5 3 p=fK p+fP p:=by
 obtain⟨h1,h2,h3,h4,h5,h6⟩:=h.bounds;unfold u5 fK fP;rcases h1 with k|k|k
 ·simp[k,h6 aa]
 ·simp[k,h5 k]
 ·simp[k]
theorem of2{p:Part}(h:aS p):fOf 2 p=fP p:=by
 obtain⟨h1,h2,h3,h4,h5,h6⟩:=h.bounds;unfold fOf fP;by_cases k:p.kind=2
 ·simp[k,h5 k]
 ·simp[k]
theorem of3{p:Part}(h:aS p):fOf 3 p=fD p:=by
 obtain⟨h1,h2,h3,h4,h5,h6⟩:=h.bounds;unfold fOf fD;rcases h1 with k|k|k
 ·simp[k]
 ·simp[k]
 ·simp[k,h6 aa]
theorem gW{f:Part->Int}{B:Int}(hf:∀p,aS p->0<=f p/\f p<=B):∀{o:List Part},(∀p∈o,aS p)->0<=dN f o/\dN f o<=B*o.length
 | [],_=>pb
 | p :: o, h => by
   have h1:=hf p (h p (aN ..));have h2:=gW hf (o:=o) (λq hq=>h q (aD _ hq));simp only[dN,bu];rw[show B*((o.length+1:Nat):Int)=B*o.length+B by rw[Int.natCast_add];simp[Int.mul_add]];omega
theorem Ry{p:Part}(h:aS p):0<=fK p/\fK p<=200:=by have:=h.bounds;unfold fK;split<;>omega
theorem akk{p:Part}(h:aS p):0<=fP p/\fP p<=200:=by have:=h.bounds;unfold fP;split<;>omega
theorem RC{p:Part}(h:aS p):0<=fD p/\fD p<=200:=by have:=h.bounds;unfold fD;split<;>(try split)<;>omega
theorem ahE{k:Int}{p:Part}(h:aS p):0<=u5 k p/\u5 k p<=400:=by have:=h.bounds;unfold u5;split<;>omega
theorem akl{k:Int}{p:Part}(h:aS p):0<=fOf k p/\fOf k p<=400:=by have:=h.bounds;unfold fOf;split<;>omega
theorem qv{o:List Part}(h:∀p∈o,aS p)(i:Nat):∀p∈o.take i,aS p:=λp hp=>h p (bT hp)
theorem aa7(p:Part)(hp:aS p):aH Tryz.prog 253 [.agg p.row] (.one (.c (vi (p.n+p.signs.length)) 1)):=by
 refine pci au Tryz.func253 (λw0 base=>?_);have:=hp.bounds;have e:Go.IntKind.i64.wrap (p.n+(p.signs.length:Int))=p.n+p.signs.length:=al _ aa;simp[Part.row,e]
open Classical in
noncomputable def sizeOf(o:List Part)(k:Int):Int:=if gk o then dN (u5 k) o else 0
theorem AS(o:List Part)(hl:nL aY o<=2^40)(k:Int):aH Tryz.prog 258 [.c (.s (o.map Part.row)),.c (vi k)] (.one (.c (vi (sizeOf o k)) 1)):=by
 refine pci au Tryz.func258 (λw0 base=>?_);have hle:=cT hl;simp;refine ae.pure (sC o hl) ab ?_;by_cases ho:gk o
 ·have hr:sizeOf o k=dN (u5 k) o:=by unfold sizeOf;rw[ai ho]
  simp[ho,hr];refine bk.intro eok (λi:Nat=>i<=o.length) (λi=>⟨27,0,[(13,.v (.int .i64 i)),(12,.v (.int .i64 o.length)),(11,.ro (o.map Part.row)),(5,.v (.int .i64 (dN (u5 k) (o.take i)))),(1,.v (.int .i64 k))],[]⟩) (λi=>o.length-i) 0 ab pb (λi hi=>?_);by_cases h:i<o.length
  ·have hp:=ho.1 _ (ak h)
   have hb:=gW (f:=u5 k) (λp h=>ahE h) (qv ho.1 i);have hb2:=hp.bounds;have hlen:=ho.2;have hlt:(o.take i).length<=600:=aJ;have hs:=gQ (f:=u5 k) h;obtain⟨q,hq⟩:∃q,dN (u5 k) (o.take i)=q:=⟨_,rfl⟩;have e:Go.IntKind.i64.wrap ((i:Int)+1)=((i+1:Nat):Int):=bL aa;rw[hq]at hs hb;simp[h,Part.row,hq];intros;by_cases hk:o[i].kind=k
   ·simp[hk]
    refine⟨i+1,aa,aa,e,?_⟩;rw[hs];simp[u5,hk]
   ·simp[hk]
    refine ae.pure (aa7 o[i] hp) lF ?_;have e2:Go.IntKind.i64.wrap (q+(o[i].n+(o[i].signs.length:Int)))=q+(o[i].n+o[i].signs.length):=al _ aa;simp[e2];refine⟨i+1,aa,aa,e,?_⟩;rw[hs];simp[u5,hk]
  ·simp[h]
   rw[aC aa]
 ·have e:dc (gk o)=false:=by rw[e8];exact ho
  have hr:sizeOf o k=0:=by unfold sizeOf;rw[aj ho]
  simp[e,hr]
open Classical in
noncomputable def eI(o:List Part):Int×Int×Int:=if gk o then(dN fK o,dN fP o,dN fD o)else(0,0,0)
theorem AQ(o:List Part)(hl:nL aY o<=2^40):aH Tryz.prog 232 [.c (.s (o.map Part.row))] (.tup [.c (vi (eI o).1) 1,.c (vi (eI o).2.1) 1,.c (vi (eI o).2.2) 1]):=by
 refine pci au Tryz.func232 (λw0 base=>?_);have hle:=cT hl;simp;refine ae.pure (su o hl) ab ?_;by_cases ho:gk o
 ·have hr:eI o=(dN fK o,dN fP o,dN fD o):=by unfold eI;rw[ai ho]
  simp[ho,hr];refine bk.intro eok (λi:Nat=>i<=o.length) (λi=>⟨42,0,[(15,.v (.int .i64 i)),(14,.v (.int .i64 o.length)),(13,.ro (o.map Part.row)),(5,.v (.int .i64 (dN fK (o.take i)))),(6,.v (.int .i64 (dN fP (o.take i)))),(7,.v (.int .i64 (dN fD (o.take i))))],[]⟩) (λi=>o.length-i) 0 ab pb (λi hi=>?_);by_cases h:i<o.length
  ·have hp:=ho.1 _ (ak h)
   have hb1:=gW (f:=fK) (λp h=>Ry h) (qv ho.1 i);have hb2:=gW (f:=fP) (λp h=>akk h) (qv ho.1 i);have hb3:=gW (f:=fD) (λp h=>RC h) (qv ho.1 i);have hpb:=hp.bounds;have hlen:=ho.2;have hlt:(o.take i).length<=600:=aJ;have hs1:=gQ (f:=fK) h;have hs2:=gQ (f:=fP) h;have hs3:=gQ (f:=fD) h;obtain⟨q1,hq1⟩:∃q,dN fK (o.take i)=q:=⟨_,rfl⟩;obtain⟨q2,hq2⟩:∃q,dN fP (o.take i)=q:=⟨_,rfl⟩;obtain⟨q3,hq3⟩:∃q,dN fD (o.take i)=q:=⟨_,rfl⟩;have e:Go.IntKind.i64.wrap ((i:Int)+1)=((i+1:Nat):Int):=bL aa;rw[hq1]at hs1 hb1;rw[hq2]at hs2 hb2;rw[hq3]at hs3 hb3;simp[h,Part.row,hq1,hq2,hq3];intros;have e1:Go.IntKind.i64.wrap (q1+o[i].n)=q1+o[i].n:=al _ aa
   have e2:Go.IntKind.i64.wrap (q2+(o[i].signs.length:Int))=q2+o[i].signs.length:=al _ aa;have e3:Go.IntKind.i64.wrap (q3+o[i].n)=q3+o[i].n:=al _ aa;by_cases k1:o[i].kind=1
   ·simp[k1,e1]
    refine⟨i+1,aa,aa,e,?_,?_,?_⟩
    ·rw[hs1];simp[fK,k1]
    ·rw[hs2];simp[fP,k1]
    ·rw[hs3];simp[fD,k1]
   ·by_cases k2:o[i].kind=2
    ·simp[k2,e2]
     refine⟨i+1,aa,aa,e,?_,?_,?_⟩
     ·rw[hs1];simp[fK,k2]
     ·rw[hs2];simp[fP,k2]
     ·rw[hs3];simp[fD,k2]
    ·simp[k1,k2,e3]
     refine⟨i+1,aa,aa,e,?_,?_,?_⟩
     ·rw[hs1];simp[fK,k1]
     ·rw[hs2];simp[fP,k2]
     ·rw[hs3];simp[fD,k1,k2]
  ·simp[h]
   rw[aC aa];simp
 ·have e:dc (gk o)=false:=by rw[e8];exact ho
  have hr:eI o=(0,0,0):=by unfold eI;rw[aj ho]
  simp[e,hr]
noncomputable def bO(o:List Part):Int:=(eI o).1+(eI o).2.2
noncomputable def fH(o:List Part):Int:=(eI o).1+(eI o).2.1
theorem OF(o:List Part):sizeOf o 2=bO o:=by
 unfold sizeOf bO eI
 split
 ·rename_i h
  show _=dN fK o+dN fD o
  rw[<-q9];exact kH (λp hp=>ahO (h.1 p hp))
 ·rfl
theorem YK(o:List Part):sizeOf o 3=fH o:=by
 unfold sizeOf fH eI
 split
 ·rename_i h
  show _=dN fK o+dN fP o
  rw[<-q9];exact kH (λp hp=>ahN (h.1 p hp))
 ·rfl
theorem O0(o:List Part):(0<=(eI o).1/\(eI o).1<=120000)/\(0<=(eI o).2.1/\(eI o).2.1<=120000)/\0<=(eI o).2.2/\(eI o).2.2<=120000:=by
 unfold eI
 split
 ·rename_i h
  have h1:=gW (f:=fK) (λp h=>Ry h) h.1;have h2:=gW (f:=fP) (λp h=>akk h) h.1;have h3:=gW (f:=fD) (λp h=>RC h) h.1;have h4:=h.2;exact gM
 ·simp
theorem iS(o:List Part)(hl:nL aY o<=2^40):aH Tryz.prog 190 [.c (.s (o.map Part.row))] (.one (.c (vi (bO o)) 1)):=by
 refine pci au Tryz.func190 (λw0 base=>?_);simp;refine ae.pure (AS o hl 2) ab ?_;simp[OF]
theorem uO(o:List Part)(hl:nL aY o<=2^40):aH Tryz.prog 176 [.c (.s (o.map Part.row))] (.one (.c (vi (fH o)) 1)):=by
 refine pci au Tryz.func176 (λw0 base=>?_);simp;refine ae.pure (AS o hl 3) ab ?_;simp[YK]
theorem ic(o:List Part)(hl:nL aY o<=2^40):aH Tryz.prog 231 [.c (.s (o.map Part.row))] (.one (.c (vi (bO o)) 1)):=by
 refine pci au Tryz.func231 (λw0 base=>?_);simp;refine ae.pure (AQ o hl) ab ?_;have:=O0 o;have e:Go.IntKind.i64.wrap ((eI o).1+(eI o).2.2)=bO o:=al _ aa;simp[e]
theorem ra(o:List Part)(hl:nL aY o<=2^40):aH Tryz.prog 144 [.c (.s (o.map Part.row))] (.one (.c (vi (fH o)) 1)):=by
 refine pci au Tryz.func144 (λw0 base=>?_);simp;refine ae.pure (AQ o hl) ab ?_;have:=O0 o;have e:Go.IntKind.i64.wrap ((eI o).1+(eI o).2.1)=fH o:=al _ aa;simp[e]
def cg(o:List Part):Prop:=gk o/\bO o<=200/\fH o<=200
theorem eR(o:List Part)(hl:nL aY o<=2^40):aH Tryz.prog 158 [.c (.s (o.map Part.row))] (.one (.c (vb (cg o)) 1)):=by
 refine pci au Tryz.func158 (λw0 base=>?_);simp;refine ae.pure (sC o hl) ab ?_;by_cases h:gk o
 ·simp[h]
  refine ae.pure (iS o hl) ab ?_;by_cases h1:bO o<=200
  ·simp[h1]
   refine ae.pure (uO o hl) ab ?_;simp[cg,h,h1]
  ·simp[h1,cg,h]
 ·simp[h,cg]
theorem eQ(o:List Part)(hl:nL aY o<=2^40):aH Tryz.prog 141 [.c (.s (o.map Part.row))] (.one (.c (vb (cg o)) 1)):=by
 refine pci au Tryz.func141 (λw0 base=>?_);simp;refine ae.pure (su o hl) ab ?_;by_cases h:gk o
 ·simp[h]
  refine ae.pure (ic o hl) ab ?_;by_cases h1:bO o<=200
  ·simp[h1]
   refine ae.pure (ra o hl) ab ?_;simp[cg,h,h1]
  ·simp[h1,cg,h]
 ·simp[h,cg]
def bH(L:List Part)(P:List Int)(D:Int):List Part:=L++((if P=[]then []else [⟨2,0,P⟩])++(if 0<D then [⟨3,D,[]⟩]else []))
def eE(L:List Part)(n:Int):List Part:=
 if h:0<L.length then
  if(L[L.length-1]' aa).kind=1 then L.set (L.length-1) ⟨1,(L[L.length-1]' aa).n+n,(L[L.length-1]' aa).signs⟩else L++[⟨1,n,[]⟩]
 else [⟨1,n,[]⟩]
def fC(s:List Part×List Int×Int)(p:Part):List Part×List Int×Int:=
 if p.kind=2 then(s.1,s.2.1++p.signs,s.2.2)
 else if p.kind=3 then(s.1,s.2.1,s.2.2+p.n)
 else if 0<p.n then(eE (bH s.1 s.2.1 s.2.2) p.n,[],0)else s
def cq(o:List Part):List Part×List Int×Int:=o.foldl fC ([],[],0)
def normal(o:List Part):List Part:=bH (cq o).1 (cq o).2.1 (cq o).2.2
theorem nz{o:List Part}{i:Nat}(h:i<o.length):cq (o.take (i+1))=fC (cq (o.take i)) o[i]:=by
 unfold cq;exact uu
structure NbOk(m:Nat)(s:List Part×List Int×Int):Prop where
 l:s.1.length<=3*m
 p:s.2.1.length<=200*m
 d0:0<=s.2.2
 d:s.2.2<=200*m
 q:∀q∈s.1,0<=q.n/\q.n<=200*m
theorem kB(L:List Part)(P:List Int)(D:Int):(bH L P D).length<=L.length+2:=by
 unfold bH
 split<;>split<;>simp
theorem lh{L:List Part}{P:List Int}{D B:Int}(h0:0<=D)(hD:D<=B)(hL:∀q∈L,0<=q.n/\q.n<=B):∀q∈bH L P D,0<=q.n/\q.n<=B:=by
 intro q hq;unfold bH at hq;simp only[aG]at hq;rcases hq with hq|hq|hq
 ·exact hL q hq
 ·split at hq
  ·simp at hq
  ·exact Ez
 ·split at hq
  ·exact Ez
  ·simp at hq
theorem rj{o:List Part}(ho:∀p∈o,aS p):∀(i:Nat),i<=o.length->NbOk i (cq (o.take i))
 | 0, _ => by
   simp[cq];exact⟨ab,ab,ab,ab,ab⟩
 | i + 1, hi => by
   have ih:=rj ho i aa;have hlt:i<o.length:=aa;rw[nz hlt];have hp:=(ho _ (ak hlt)).bounds;generalize cq (o.take i)=s at ih;generalize o[i]=p at hp;obtain⟨L,P,D⟩:=s;obtain⟨h1,h2,h3,h4,h5⟩:=ih;simp only at h1 h2 h3 h4 h5;have w:∀q∈L,0<=q.n/\q.n<=200*((i+1:Nat):Int):=λq hq=>by have:=h5 q hq;omega
   unfold fC
   split
   ·exact⟨aJ,aJ,h3,aJ,w⟩
   ·split
    ·exact⟨aJ,aJ,aJ,aJ,w⟩
    ·split
     ·have f1:=kB L P D
      have f2:=lh (P:=P) h3 h4 h5;refine⟨?_,ab,ab,aJ,?_⟩
      ·simp only[eE]
       split
       ·split<;>simp<;>omega
       ·simp;omega
      ·simp only[eE]
       intro q hq
       split at hq
       ·split at hq
        ·rcases dB hq with hq|rfl
         ·have:=f2 q hq;omega
         ·have:=f2 _ (ak (show(bH L P D).length-1<(bH L P D).length from aa))
          exact gM
        ·rcases aG.1 hq with hq|hq
         ·have:=f2 q hq;omega
         ·exact Ez
       ·exact Ez
     ·exact⟨aJ,aJ,h3,aJ,w⟩
theorem sJ{L:List Part}{P:List Int}{D:Int}(hP:¬P=[])(hD:0<D):bH L P D=L++[⟨2,0,P⟩]++[⟨3,D,[]⟩]:=Eo
theorem sI{L:List Part}{P:List Int}{D:Int}(hP:¬P=[])(hD:¬0<D):bH L P D=L++[⟨2,0,P⟩]:=Eo
theorem sH{L:List Part}{P:List Int}{D:Int}(hP:P=[])(hD:0<D):bH L P D=L++[⟨3,D,[]⟩]:=Eo
theorem sG{L:List Part}{P:List Int}{D:Int}(hP:P=[])(hD:¬0<D):bH L P D=L:=Eo
theorem wA{w0:World}{bF bG:Nat->Prop}{bl:Bool}{st:ASt}{dst:Option Nat}{K:ASt->Prop}{L:List Part}{P:List Int}{D:Int}{b3 b4 b5:Nat}{Hl Hp:Hd}(hL:L.length<=2^20)(_hP:P.length<=2^40)
 (g48:st.h.get 48=.vars b3 53 [.sl 5000 Hl 3 0 L.length]) (g64:st.h.get 64=.vars b4 29 [.sl 5001 Hp 1 0 P.length]) (g80:st.h.get 80=.vars b5 3 [.v (.int .i64 D)])
 (g5000:st.h.get 5000=.rows Hl 3 (L.map Part.row) true) (g5001:st.h.get 5001=.rows Hp 1 (P.map aX) true)
 (hK:∀Hl' h',AH.get h' 48=.vars b3 53 [.sl 5000 Hl' 3 0 (bH L P D).length]->AH.get h' 5000=.rows Hl' 3 ((bH L P D).map Part.row) true->AH.get h' 64=.vars b4 29 [.nil]->AH.get h' 80=.vars b5 3 [.v (.int .i64 0)] ->
  AH.get h' 128=st.h.get 128->cX ⟨st.n,st.kb,st.t,h'⟩ dst (.tup []) K):ae ⟨Tryz.prog,tt,w0,⟨bF,bG,bl,λ_=>True⟩⟩ 305 [.p 64 b4 0,.p 48 b3 0,.p 80 b5 0] st dst K:=by
 refine inl au Tryz.func305 20000 (λw1 F=>?_);simp[g64];by_cases hp:P=[]
 ·have hp0:¬0<P.length:=by simp[hp]
  simp[hp0,g80];by_cases hd:0<D
  ·simp[hd,g48,g5000,g80,g64]
   intro b;refine⟨aa,λH=>hK H _ ?_ ?_ ?_ ?_ ?_⟩<;>simp[sH hp hd,Part.row]
  ·simp[hd,g80,g64]
   refine hK Hl _ ?_ ?_ ?_ ?_ ?_<;>simp[sG hp hd,g48,g5000]
 ·have hp0:0<P.length:=ca.2 hp
  simp[hp0,g80,g48,g5000,g5001,g64];intro b;refine⟨aa,λH=>?_⟩;by_cases hd:0<D
  ·simp[hd,g80,g64]
   intro b2;refine⟨aa,λH2=>hK H2 _ ?_ ?_ ?_ ?_ ?_⟩<;>simp[sJ hp hd,Part.row]
  ·simp[hd,g80,g64]
   refine hK H _ ?_ ?_ ?_ ?_ ?_<;>simp[sI hp hd,Part.row]
theorem lX{F:List Part}{m:Nat}(h:m<F.length){g:List CD->List CD}{p:Part}(hg:g F[m].row=p.row):(F.map Part.row).modify m g=(F.set m p).map Part.row:=by
 apply List.ext_getElem?
 intro j;rw[ou];simp only[bX,zz];by_cases hj:m=j
 ·subst hj
  simp[h,hg]
 ·simp[hj]
theorem AC(o:List Part)(ho:∀p∈o,aS p)(hl:o.length<=10000):aH Tryz.prog 255 [.c (.s (o.map Part.row))] (.one (.c (.s ((normal o).map Part.row)) 3)):=by
 refine pci au Tryz.func255 (λw0 base=>?_);simp;intro b3 b4 b5
 refine aF eok (λx:Nat×Hd×Hd=>x.1<=o.length) (λx=>⟨73,0,[(13,.v (.int .i64 x.1)),(12,.v (.int .i64 o.length)),(11,.ro (o.map Part.row)),(3,.p 48 b3 0),(4,.p 64 b4 0),(5,.p 80 b5 0),(6,.clo 305 [.p 64 b4 0,.p 48 b3 0,.p 80 b5 0])],
  [(48, .vars b3 53 [.sl 5000 x.2.1 3 0 (cq (o.take x.1)).1.length]),(64, .vars b4 29 [.sl 5001 x.2.2 1 0 (cq (o.take x.1)).2.1.length]),(80, .vars b5 3 [.v (.int .i64 (cq (o.take x.1)).2.2)]),
   (5000,.rows x.2.1 3 ((cq (o.take x.1)).1.map Part.row) true),(5001,.rows x.2.2 1 ((cq (o.take x.1)).2.1.map aX) true)]⟩) (λx=>o.length-x.1) (0,none,none) ab (by simp[cq]) (λx hx=>Ent.refl ?_)
 obtain⟨i,Hl,Hp⟩:=x;simp only at hx⊢;have hok:=rj ho i hx;by_cases h:i<o.length
 ·have hs:=nz h
  have hpb:=(ho _ (ak h)).bounds;generalize cq (o.take i)=s at hok hs;obtain⟨L,P,D⟩:=s;obtain⟨k1,k2,k3,k4,k5⟩:=hok;simp only at k1 k2 k3 k4 k5;have e:Go.IntKind.i64.wrap ((i:Int)+1)=((i+1:Nat):Int):=bL aa;simp[h,Part.row];intro b8;by_cases c2:o[i].kind=2
  ·simp[c2]
   exact UV
  ·by_cases c3:o[i].kind=3
   ·have e3:Go.IntKind.i64.wrap (D+o[i].n)=D+o[i].n:=al _ aa
    simp[c3,e3];exact Tw
   ·by_cases cn:0<o[i].n
    ·simp[c2,c3,cn]
     refine wA (L:=L) (P:=P) (D:=D) (Hl:=Hl) (Hp:=Hp) aa aa ab ab ab ab ab (λHl' h' g48 g5000 g64 g80 g128=>?_);have f1:=kB L P D;have f2:=lh (P:=P) k3 k4 k5;have hstep:fC (L,P,D) o[i]=(eE (bH L P D) o[i].n,[],0):=by simp[fC,c2,c3,cn]
     rw[hstep]at hs;generalize bH L P D=F at f1 f2 g48 g5000 hs;simp at g128;by_cases hF:0<F.length
     ·obtain⟨m,hm⟩:∃m,F.length=m+1:=⟨F.length-1,aa⟩
      have hmlt:m<F.length:=aa;have em:Go.IntKind.i64.wrap (m:Int)=m:=jk aa
      have hk:eE F o[i].n=if F[m].kind=1 then F.set m ⟨1,F[m].n+o[i].n,F[m].signs⟩else F++[⟨1,o[i].n,[]⟩]:=by
       have e0:F.length-1=m:=aa;simp[eE,hF,e0]
      have hq:=f2 _ (ak hmlt);simp[g48,g5000,hm,em,Part.row];by_cases ck:F[m].kind=1
      ·rw[ai ck]at hk
       have em2:Go.IntKind.i64.wrap (F[m].n+o[i].n)=F[m].n+o[i].n:=al _ aa;have hmm:(m:Int)<m+1:=aa;simp[ck,hmm];refine drw eok mix [0,1,2,3,4,5,6,7,8,9,10] [11] (.c 11 11 2045 2 (.l 11 2) .s) ?_;simp[g48,g5000,g128,hm,em,Part.row,ck,em2,hmm];refine Ent.kill 5001 (Ent.refl ⟨i+1,aa,aa,Hl',none,?_⟩);rw[hs,hk];have hmod:=lX (F:=F) (m:=m) hmlt (g:=λrow=>jU row 1 [CD.v (Value.int IntKind.i64 (F[m].n+o[i].n))]) (p:=⟨1,F[m].n+o[i].n,F[m].signs⟩) xp;simp[e,g48,g64,g80,hm,hmod]
      ·rw[aj ck]at hk
       simp[ck,g48,g5000,g128,hm];refine⟨aa,λb=>⟨aa,λH=>?_⟩⟩;refine Ent.kill 5001 (Ent.refl ⟨i+1,aa,aa,H,none,?_⟩);rw[hs,hk];simp[e,Part.row,g64,g80,hm]
     ·have hF0:F=[]:=aL aa
      subst hF0;have hk:eE [] o[i].n=[⟨1,o[i].n,[]⟩]:=xo;simp[g48,g5000,g128];intro b H;refine Ent.kill 5001 (Ent.refl ⟨i+1,aa,aa,H,none,?_⟩);rw[hs,hk];simp[e,Part.row,g64,g80]
    ·simp[c2,c3,cn]
     refine Ent.refl ⟨i+1,aa,aa,Hl,Hp,?_⟩;rw[hs];simp[fC,c2,c3,cn,e]
 ·have he:o.take i=o:=aC aa
  rw[he]at hok⊢;have hn:normal o=bH (cq o).1 (cq o).2.1 (cq o).2.2:=rfl;rw[hn];generalize cq o=s at hok;obtain⟨L,P,D⟩:=s;obtain⟨k1,k2,k3,k4,k5⟩:=hok;simp only at k1 k2 k3 k4 k5;simp[h];refine wA (L:=L) (P:=P) (D:=D) (Hl:=Hl) (Hp:=Hp) aa aa ab ab ab ab ab (λHl' h' g48 g5000 g64 g80 g128=>?_);simp[g48,g5000]
theorem vS{w0:World}{bF bG:Nat->Prop}{bl:Bool}{st:ASt}{dst:Option Nat}{K:ASt->Prop}{L:List Part}{P:List Int}{D:Int}{b:Nat}{Hl Hp:Hd}(hL:L.length<=2^20)(_hP:P.length<=2^40)
 (g160:st.h.get 160=.vars b 250 [.sl 5000 Hl 3 0 L.length,.sl 5001 Hp 1 0 P.length,.v (.int .i64 D)])
 (g5000:st.h.get 5000=.rows Hl 3 (L.map Part.row) true) (g5001:st.h.get 5001=.rows Hp 1 (P.map aX) true)
 (hK:∀Hl' h',AH.get h' 160=.vars b 250 [.sl 5000 Hl' 3 0 (bH L P D).length,.nil,.v (.int .i64 0)]->AH.get h' 5000=.rows Hl' 3 ((bH L P D).map Part.row) true ->
  AH.get h' 80=st.h.get 80->cX ⟨st.n,st.kb,st.t,h'⟩ dst (.tup []) K):ae ⟨Tryz.prog,tt,w0,⟨bF,bG,bl,λ_=>True⟩⟩ 319 [.p 160 b 0] st dst K:=by
 refine inl au Tryz.func319 20000 (λw1 F=>?_);simp[g160];by_cases hp:P=[]
 ·have hp0:¬0<P.length:=by simp[hp]
  simp[hp0,g160];by_cases hd:0<D
  ·simp[hd]
   refine drw eok mix [0,1,2,3,4,5,6,7,8,9,12,13] [10,11,14] (.c 12 10 4 4091 (.c 12 11 128 3963 (.c 12 14 3961 2 (.l 12 2) .s) .s) .s) ?_;simp[g160,g5000];intro b1;refine⟨aa,λH=>hK H _ ?_ ?_ ?_⟩<;>simp[sH hp hd,Part.row]
  ·simp[hd,g160]
   refine hK Hl _ ?_ ?_ ?_<;>simp[sG hp hd,g5000]
 ·have hp0:0<P.length:=ca.2 hp
  simp[hp0];refine drw eok mix [0,1,2,3,4,5,6,7,8,9,12,13] [10,11,14] (.c 12 10 4 4091 (.c 12 11 128 3963 (.c 12 14 3961 2 (.l 12 2) .s) .s) .s) ?_;simp[g160,g5000,g5001];intro b1;refine⟨aa,λH=>?_⟩;by_cases hd:0<D
  ·simp[hd]
   refine drw eok mix [0,1,2,3,4,5,6,7,8,9,12,13] [10,11,14] (.c 12 10 4 4091 (.c 12 11 128 3963 (.c 12 14 3961 2 (.l 12 2) .s) .s) .s) ?_;simp;intro b2;refine⟨aa,λH2=>hK H2 _ ?_ ?_ ?_⟩<;>simp[sJ hp hd,Part.row]
  ·simp[hd]
   refine hK H _ ?_ ?_ ?_<;>simp[sI hp hd,Part.row]
theorem IC{w0:World}{bF bG:Nat->Prop}{bl:Bool}{st:ASt}{dst:Option Nat}{K:ASt->Prop}{L:List Part}{P:List Int}{D n:Int}{b:Nat}{Hl Hp:Hd}(hL:L.length<=2^19)(hP:P.length<=2^40)(hn0:0<n)(hn:n<=200)(hF:∀q∈bH L P D,0<=q.n/\q.n<=2^40)
 (g160:st.h.get 160=.vars b 250 [.sl 5000 Hl 3 0 L.length,.sl 5001 Hp 1 0 P.length,.v (.int .i64 D)])
 (g5000:st.h.get 5000=.rows Hl 3 (L.map Part.row) true) (g5001:st.h.get 5001=.rows Hp 1 (P.map aX) true)
 (hK:∀Hl' h',AH.get h' 160=.vars b 250 [.sl 5000 Hl' 3 0 (eE (bH L P D) n).length,.nil,.v (.int .i64 0)]->AH.get h' 5000=.rows Hl' 3 ((eE (bH L P D) n).map Part.row) true ->
  AH.get h' 80=st.h.get 80->cX ⟨st.n,st.kb,st.t,h'⟩ dst (.tup []) K):ae ⟨Tryz.prog,tt,w0,⟨bF,bG,bl,λ_=>True⟩⟩ 282 [.p 160 b 0,.v (.int .i64 n)] st dst K:=by
 refine inl au Tryz.func282 30000 (λw1 F=>?_);have n0:¬n=0:=aa;simp[n0];refine vS (L:=L) (P:=P) (D:=D) (Hl:=Hl) (Hp:=Hp) aa hP (by simp[g160]) (by simp[g5000]) (by simp[g5001]) (λHl' h' k160 k5000 k80=>?_);have f1:=kB L P D;generalize bH L P D=F at f1 hF k160 k5000 hK;by_cases hF0:0<F.length
 ·obtain⟨m,hm⟩:∃m,F.length=m+1:=⟨F.length-1,aa⟩
  have hmlt:m<F.length:=aa;have hmm:(m:Int)<m+1:=aa;have em:Go.IntKind.i64.wrap (m:Int)=m:=jk aa
  have hk:eE F n=if F[m].kind=1 then F.set m ⟨1,F[m].n+n,F[m].signs⟩else F++[⟨1,n,[]⟩]:=by
   exact zR
  have hq:=hF _ (ak hmlt);have em2:Go.IntKind.i64.wrap (F[m].n+n)=F[m].n+n:=al _ aa;simp[k160,k5000,hm,em,hmm,Part.row];by_cases ck:F[m].kind=1
  ·rw[ai ck]at hk
   simp[ck];refine drw eok mix [0,1,2,3,4,5,6,7,8,9,10,11,12,13,14,15,16,17,18] [19] (.c 19 19 524285 2 (.l 19 2) .s) ?_;simp[k160,k5000,hm,em,hmm,Part.row,ck,em2];have hmod:=lX (F:=F) (m:=m) hmlt (g:=λrow=>jU row 1 [CD.v (Value.int IntKind.i64 (F[m].n+n))]) (p:=⟨1,F[m].n+n,F[m].signs⟩) xp;refine hK Hl' _ ?_ ?_ ?_
   ·simp[k160,hk,hm]
   ·simp[hk,hmod]
   ·simp[k80]
  ·rw[aj ck]at hk
   simp[ck,k160,k5000,hm];intro b1;refine⟨aa,λH=>hK H _ ?_ ?_ ?_⟩<;>simp[hk,hm,Part.row,k80]
 ·have hF1:F=[]:=aL aa
  subst hF1;have hk:eE [] n=[⟨1,n,[]⟩]:=xo;simp[k160,k5000];intro b1 H;refine hK H _ ?_ ?_ ?_<;>simp[hk,Part.row,k80]
open Classical in
noncomputable def cS(o:List Part):List Part:=if cg o then normal o else []
theorem mw(o:List Part)(hl:nL aY o<=2^40):aH Tryz.prog 238 [.c (.s (o.map Part.row))] (.one (.c (.s ((cS o).map Part.row)) 3)):=by
 refine pci au Tryz.func238 (λw0 base=>?_);simp;refine ae.pure (eR o hl) ab ?_;by_cases h:cg o
 ·have e:cS o=normal o:=by unfold cS;rw[ai h]
  simp[h,e];refine ae.pure (AC o h.1.1 (by have:=h.1.2;omega)) ab ?_;simp
 ·have e:cS o=[]:=by unfold cS;rw[aj h]
  have e2:dc (cg o)=false:=En;simp[e,e2]
theorem qw(o:List Part)(hl:nL aY o<=2^40):aH Tryz.prog 292 [.c (.s (o.map Part.row))] (.one (.c (.s ((cS o).map Part.row)) 3)):=by
 refine pci au Tryz.func292 (λw0 base=>?_);simp;refine ae.pure (eQ o hl) ab ?_;by_cases hopk:cg o
 rotate_left
 ·have e:cS o=[]:=by unfold cS;rw[aj hopk]
  have e2:dc (cg o)=false:=by rw[e8];exact hopk
  simp[e,e2]
 have e:cS o=normal o:=by unfold cS;rw[ai hopk]
 have ho:=hopk.1.1;have hlen:=hopk.1.2;simp[hopk,e];intro b
 refine aF eok (λx:Nat×Hd×Hd=>x.1<=o.length) (λx=>⟨38,0,[(13,.v (.int .i64 x.1)),(12,.v (.int .i64 o.length)),(11,.ro (o.map Part.row)),(3,.p 160 b 0)],
  [(160, .vars b 250 [.sl 5000 x.2.1 3 0 (cq (o.take x.1)).1.length, .sl 5001 x.2.2 1 0 (cq (o.take x.1)).2.1.length, .v (.int .i64 (cq (o.take x.1)).2.2)]),
   (5000,.rows x.2.1 3 ((cq (o.take x.1)).1.map Part.row) true),(5001,.rows x.2.2 1 ((cq (o.take x.1)).2.1.map aX) true)]⟩) (λx=>o.length-x.1) (0,none,none) ab (by simp[cq]) (λx hx=>Ent.refl ?_)
 obtain⟨i,Hl,Hp⟩:=x;simp only at hx⊢;have hok:=rj ho i hx;by_cases h:i<o.length
 ·have hs:=nz h
  have hpb:=(ho _ (ak h)).bounds;generalize cq (o.take i)=s at hok hs;obtain⟨L,P,D⟩:=s;obtain⟨k1,k2,k3,k4,k5⟩:=hok;simp only at k1 k2 k3 k4 k5;have e:Go.IntKind.i64.wrap ((i:Int)+1)=((i+1:Nat):Int):=bL aa;simp[h,Part.row];intro b5;by_cases c1:o[i].kind=1
  ·simp[c1]
   by_cases cn:0<o[i].n
   ·have hstep:fC (L,P,D) o[i]=(eE (bH L P D) o[i].n,[],0):=by simp[fC,c1,cn]
    rw[hstep]at hs;have f2:=lh (P:=P) k3 k4 k5;refine IC (L:=L) (P:=P) (D:=D) (Hl:=Hl) (Hp:=Hp) aa aa cn hpb.2.2.1 (λq hq=>Em) ab ab ab (λHl' h' k160 k5000 k80=>?_);simp;refine Ent.kill 5001 (Ent.refl ⟨i+1,aa,aa,Hl',none,?_⟩);rw[hs];simp[e,k160,k5000]
   ·have cn0:o[i].n=0:=by omega
    refine inl au Tryz.func282 30000 (λw1 F=>?_);simp[cn0];refine Ent.refl ⟨i+1,aa,aa,Hl,Hp,?_⟩;rw[hs];simp[fC,c1,cn0,e]
  ·by_cases c2:o[i].kind=2
   ·simp[c2]
    refine inl au Tryz.func279 30000 (λw1 F=>?_);simp;exact UV
   ·have c3:o[i].kind=3:=by omega
    have e3:Go.IntKind.i64.wrap (D+o[i].n)=D+o[i].n:=al _ aa;simp[c1,c2];refine inl au Tryz.func278 30000 (λw1 F=>?_);simp[e3];exact Tw
 ·have he:o.take i=o:=aC aa
  rw[he]at hok⊢;have hn:normal o=bH (cq o).1 (cq o).2.1 (cq o).2.2:=rfl;rw[hn];generalize cq o=s at hok;obtain⟨L,P,D⟩:=s;obtain⟨k1,k2,k3,k4,k5⟩:=hok;simp only at k1 k2 k3 k4 k5;simp[h];refine inl au Tryz.func283 30000 (λw1 F=>?_);simp;refine vS (L:=L) (P:=P) (D:=D) (Hl:=Hl) (Hp:=Hp) aa aa ab ab ab (λHl' h' k160 k5000 k80=>?_);simp[k160,k5000]
theorem xD(a b:List Int)(hl:a.length<=2^40):aH Tryz.prog 99 [.c (.s (a.map aX)),.c (.s (b.map aX))] (.one (.c (vb (a=b)) 1)):=by
 refine pci au Tryz.func99 (λw0 base=>?_);exact W4
theorem vV(a b:List Int)(hl:a.length<=2^40):aH Tryz.prog 204 [.c (.s (a.map aX)),.c (.s (b.map aX))] (.one (.c (vb (a=b)) 1)):=by
 refine pci au Tryz.func204 (λw0 base=>?_);exact W4
theorem QD(p q:Part)(hl:p.signs.length<=2^40):aH Tryz.prog 299 [.agg p.row,.agg q.row] (.one (.c (vb (p=q)) 1)):=by
 refine pci au Tryz.func299 (λw0 base=>?_);obtain⟨k1,n1,s1⟩:=p;obtain⟨k2,n2,s2⟩:=q;simp[Part.row];intro b1 b2;by_cases h1:k1=k2
 ·by_cases h2:n1=n2
  ·simp[h1,h2]
   refine ae.pure (xD s1 s2 hl) ab ?_;simp
  ·simp[h1,h2]
 ·simp[h1]
theorem PH(a b:List Part)(hl:a.length<=2^40)(hs:∀p∈a,p.signs.length<=2^40):aH Tryz.prog 298 [.c (.s (a.map Part.row)),.c (.s (b.map Part.row)),.c (.v (.func (.func 299) #[] #[]))] (.one (.c (vb (a=b)) 1)):=by
 refine pci au Tryz.func298 (λw0 base=>?_);by_cases h:a.length=b.length
 ·simp[h]
  refine bk.intro eok (λi:Nat=>i<=a.length/\a.take i=b.take i) (λi=>⟨32,0,[(17,.v (.int .i64 i)),(16,.v (.int .i64 b.length)),(15,.ro (a.map Part.row)),(2,.v (.func (.func 299) #[] #[])),(1,.ro (b.map Part.row))],[]⟩) (λi=>a.length-i) 0 ab ab (λi hi=>?_);by_cases hlt:i<a.length
  ·have hlt':i<b.length:=by omega
   simp[hlt,hlt',Part.row];intro b1 b2;refine ae.pure (QD a[i] b[i] (hs _ (ak hlt))) lF ?_;simp;refine Br.mk (λh1=>?_) (λh1=>?_)
   ·simp
    exact⟨i+1,⟨aa,BG hlt hlt' hi.2 (QO h1)⟩,aa,bL aa⟩
   ·simp[e8]
    exact OL hlt hlt' (Xw h1)
  ·exact Wy
 ·exact WA
theorem abz(a b:List Part)(hl:a.length<=2^40)(hs:∀p∈a,p.signs.length<=2^40):aH Tryz.prog 241 [.c (.s (a.map Part.row)),.c (.s (b.map Part.row))] (.one (.c (vb (a=b)) 1)):=by
 refine pci au Tryz.func241 (λw0 base=>?_);simp;refine ae.pure (PH a b hl hs) ab ?_;simp
theorem Mt(a b:List Part)(hl:a.length<=2^40)(hs:∀p∈a,p.signs.length<=2^40):aH Tryz.prog 316 [.c (.s (a.map Part.row)),.c (.s (b.map Part.row))] (.one (.c (vb (a=b)) 1)):=by
 refine pci au Tryz.func316 (λw0 base=>?_);by_cases h:a.length=b.length
 ·simp[h]
  refine bk.intro eok (λi:Nat=>i<=a.length/\a.take i=b.take i) (λi=>⟨49,0,[(14,.v (.int .i64 i)),(13,.v (.int .i64 b.length)),(12,.ro (a.map Part.row)),(1,.ro (b.map Part.row))],[]⟩) (λi=>a.length-i) 0 ab ab (λi hi=>?_);by_cases hlt:i<a.length
  ·have hlt':i<b.length:=by omega
   simp[hlt,hlt',Part.row];intro b1;refine cF.quiet eok mix ah ?_;simp[hlt',Part.row];by_cases h1:a[i].kind=b[i].kind
   ·by_cases h2:a[i].n=b[i].n
    ·simp[h1,h2,hlt',Part.row]
     refine⟨_,_,vV a[i].signs b[i].signs (hs _ (ak hlt)),ab,?_⟩;simp;by_cases h3:a[i].signs=b[i].signs
     ·simp[h3]
      have he:a[i]=b[i]:=by
       cases hx:a[i];cases hy:b[i]
       rw[hx,hy]at h1 h2 h3;simp at h1 h2 h3;rw[h1,h2,h3]
      exact⟨i+1,⟨aa,BG hlt hlt' hi.2 he⟩,aa,bL aa⟩
     ·simp[h3,e8]
      exact OL hlt hlt' (λhe=>h3 (by rw[he]))
    ·simp[h1,h2,hlt',Part.row,e8]
     exact OL hlt hlt' (λhe=>h2 (by rw[he]))
   ·simp[h1,e8]
    exact OL hlt hlt' (λhe=>h1 (by rw[he]))
  ·exact Wy
 ·exact WA
theorem uP(a b:List Part)(h:nL aY a<=2^40):aH Tryz.prog 241 [.c (.s (a.map Part.row)),.c (.s (b.map Part.row))] (.one (.c (vb (a=b)) 1)):=abz a b (cT h) (λ_p hp=>iG h hp)
theorem yA(a b:List Part)(h:nL aY a<=2^40):aH Tryz.prog 316 [.c (.s (a.map Part.row)),.c (.s (b.map Part.row))] (.one (.c (vb (a=b)) 1)):=Mt a b (cT h) (λ_p hp=>iG h hp)
theorem lN{α:Type}{f:α->Nat}:∀(a b:List α),fX f (a++b)=fX f a+fX f b
 | [],b=>by simp[fX]
 |x::a,b=>by simp only[bU,fX,lN a b];omega
theorem N6{α:Type}{f:α->Nat}:∀(l:List α) (i:Nat) (h:i<l.length) (x:α),f x=f l[i]->fX f (l.set i x)=fX f l
 |a::l,0,_,x,hx=>by simp at hx;simp[fX,hx]
 | a :: l, i + 1, h, x, hx => by
   simp only[yn,fX];rw[N6 l i nS x zJ]
theorem CX{L:List Part}{P:List Int}{D:Int}:fX aY (bH L P D)=fX aY L+P.length:=by
 unfold bH;rw[lN,lN];by_cases hp:P=[]<;>by_cases hd:0<D<;>simp[hp,hd,fX,aY]
theorem QV{L:List Part}{n:Int}:fX aY (eE L n)=fX aY L:=by
 unfold eE
 split
 ·rename_i h
  split
  ·exact N6 L _ aa _ rfl
  ·rw[lN];simp[fX,aY]
 ·rename_i h
  have:L=[]:=aL aa;subst this;simp[fX,aY]
theorem JU{o:List Part}:∀(i:Nat),i<=o.length->fX aY (cq (o.take i)).1+(cq (o.take i)).2.1.length<=fX aY (o.take i)
 |0,_=>by simp[cq,fX]
 | i + 1, hi => by
   have ih:=JU (o:=o) i aa;have hlt:i<o.length:=aa;rw[nz hlt,<-dM hlt,lN];generalize cq (o.take i)=s at ih;generalize o[i]=p;obtain⟨L,P,D⟩:=s;simp only at ih;have hp:fX aY [p]=p.signs.length:=by simp[fX,aY]
   rw[hp];unfold fC
   split
   ·simp;omega
   ·split
    ·simp;omega
    ·split
     ·simp only[QV,CX];simp;omega
     ·simp;omega
theorem QS(o:List Part):fX aY (normal o)<=fX aY o:=by
 have h:=JU (o:=o) o.length aa;rw[dH]at h;unfold normal;rw[CX];exact h
theorem QT{o:List Part}(ho:∀p∈o,aS p):(normal o).length<=3*o.length+2:=by
 have h:=(rj ho o.length aa).l;rw[dH]at h;have:=kB (cq o).1 (cq o).2.1 (cq o).2.2;unfold normal;omega
theorem FM{o:List Part}(ho:∀p∈o,aS p):fX aY o<=200*o.length:=by
 induction o with
 |nil=>simp[fX]
 | cons p o ih =>
   have h1:=(ho p (aN ..)).bounds;have h2:=ih (λq hq=>ho q (aD _ hq));simp only[fX,aY,bu];omega
theorem nZ{o:List Part}(ho:∀p∈o,aS p):nL aY o<=201*o.length:=by
 have:=FM ho;unfold nL;omega
theorem oO{o:List Part}(ho:∀p∈o,aS p):nL aY (normal o)<=203*o.length+2:=by
 have h1:=QS o;have h2:=QT ho;have h3:=FM ho;unfold nL;omega
theorem Az(o:List Part):nL aY (cS o)<=2^20:=by
 unfold cS
 split
 ·rename_i h
  have:=oO h.1.1;have:=h.1.2;omega
 ·exact ib
def cu(o:List Part):Prop:=cg o/\cS o=o
theorem uR(o:List Part)(hl:nL aY o<=2^40):aH Tryz.prog 189 [.c (.s (o.map Part.row))] (.one (.c (vb (cu o)) 1)):=by
 refine pci au Tryz.func189 (λw0 base=>?_);simp;refine ae.pure (eR o hl) ab ?_;by_cases h:cg o
 ·simp[h]
  refine ae.pure (mw o hl) ab ?_;simp;intro H;refine ae.pure (uP o (cS o) hl) ab ?_;simp[cu,h];exact tM ⟨λh=>h.symm,λh=>h.symm⟩
 ·simp[h,cu]
theorem qx(o:List Part)(hl:nL aY o<=2^40):aH Tryz.prog 272 [.c (.s (o.map Part.row))] (.one (.c (vb (cu o)) 1)):=by
 refine pci au Tryz.func272 (λw0 base=>?_);simp;refine ae.pure (eQ o hl) ab ?_;by_cases h:cg o
 ·simp[h]
  refine ae.pure (qw o hl) ab ?_;simp;intro H;refine ae.pure (yA (cS o) o (cG (Az o) ag)) ab ?_;simp[cu,h]
 ·simp[h,cu]
open Classical in
noncomputable def DE(o:List Part):Int:=if cg o then dN fP o else 0
open Classical in
noncomputable def yP(o:List Part):Int:=if cg o then dN fD o else 0
open Classical in
noncomputable def kJ(o:List Part)(k:Int):Int:=if cg o then dN (fOf k) o else 0
theorem Yy(o:List Part):kJ o 2=DE o:=by
 unfold kJ DE
 split
 ·rename_i h;exact kH (λp hp=>of2 (h.1.1 p hp))
 ·rfl
theorem RF(o:List Part):kJ o 3=yP o:=by
 unfold kJ yP
 split
 ·rename_i h;exact kH (λp hp=>of3 (h.1.1 p hp))
 ·rfl
theorem tF(o:List Part)(hl:nL aY o<=2^40)(k:Int):aH Tryz.prog 306 [.c (.s (o.map Part.row)),.c (vi k)] (.one (.c (vi (kJ o k)) 1)):=by
 refine pci au Tryz.func306 (λw0 base=>?_);have hle:=cT hl;simp;refine ae.pure (eR o hl) ab ?_;by_cases hok:cg o
 ·have ho:=hok.1
  have hr:kJ o k=dN (fOf k) o:=by unfold kJ;rw[ai hok]
  simp[hok,hr];refine bk.intro eok (λi:Nat=>i<=o.length) (λi=>⟨27,0,[(13,.v (.int .i64 i)),(12,.v (.int .i64 o.length)),(11,.ro (o.map Part.row)),(5,.v (.int .i64 (dN (fOf k) (o.take i)))),(1,.v (.int .i64 k))],[]⟩) (λi=>o.length-i) 0 ab pb (λi hi=>?_);by_cases h:i<o.length
  ·have hp:=ho.1 _ (ak h)
   have hb:=gW (f:=fOf k) (λp h=>akl h) (qv ho.1 i);have hb2:=hp.bounds;have hlen:=ho.2;have hlt:(o.take i).length<=600:=aJ;have hs:=gQ (f:=fOf k) h;obtain⟨q,hq⟩:∃q,dN (fOf k) (o.take i)=q:=⟨_,rfl⟩;have e:Go.IntKind.i64.wrap ((i:Int)+1)=((i+1:Nat):Int):=bL aa;rw[hq]at hs hb;simp[h,Part.row,hq];intros;by_cases hk:o[i].kind=k
   ·simp[hk]
    refine ae.pure (aa7 o[i] hp) (by simp[Part.row,hk]) ?_;have e2:Go.IntKind.i64.wrap (q+(o[i].n+(o[i].signs.length:Int)))=q+(o[i].n+o[i].signs.length):=al _ aa;simp[e2];refine⟨i+1,aa,aa,e,?_⟩;rw[hs];simp[fOf,hk]
   ·simp[hk]
    refine⟨i+1,aa,aa,e,?_⟩;rw[hs];simp[fOf,hk]
  ·simp[h]
   rw[aC aa]
 ·have e:dc (cg o)=false:=by rw[e8];exact hok
  have hr:kJ o k=0:=by unfold kJ;rw[aj hok]
  simp[e,hr]
theorem Ri(o:List Part)(hl:nL aY o<=2^40):aH Tryz.prog 256 [.c (.s (o.map Part.row))] (.one (.c (vi (DE o)) 1)):=by
 refine pci au Tryz.func256 (λw0 base=>?_);simp;refine ae.pure (tF o hl 2) ab ?_;simp[Yy]
theorem Pd(o:List Part)(hl:nL aY o<=2^40):aH Tryz.prog 257 [.c (.s (o.map Part.row))] (.one (.c (vi (yP o)) 1)):=by
 refine pci au Tryz.func257 (λw0 base=>?_);simp;refine ae.pure (tF o hl 3) ab ?_;simp[RF]
theorem Qz(o:List Part)(hl:nL aY o<=2^40):aH Tryz.prog 284 [.c (.s (o.map Part.row))] (.one (.c (vi (DE o)) 1)):=by
 refine pci au Tryz.func284 (λw0 base=>?_);simp;refine ae.pure (eQ o hl) ab ?_;by_cases h:cg o
 ·simp[h]
  refine ae.pure (AQ o hl) ab ?_;simp[DE,h,eI,h.1]
 ·have e:dc (cg o)=false:=by rw[e8];exact h
  simp[DE,h]
theorem Od(o:List Part)(hl:nL aY o<=2^40):aH Tryz.prog 285 [.c (.s (o.map Part.row))] (.one (.c (vi (yP o)) 1)):=by
 refine pci au Tryz.func285 (λw0 base=>?_);simp;refine ae.pure (eQ o hl) ab ?_;by_cases h:cg o
 ·simp[h]
  refine ae.pure (AQ o hl) ab ?_;simp[yP,h,eI,h.1]
 ·have e:dc (cg o)=false:=by rw[e8];exact h
  simp[yP,h]
def idle(o:List Part):Prop:=cg o/\DE o=0/\yP o=0
theorem zj(o:List Part)(hl:nL aY o<=2^40):aH Tryz.prog 175 [.c (.s (o.map Part.row))] (.one (.c (vb (idle o)) 1)):=by
 refine pci au Tryz.func175 (λw0 base=>?_);simp;refine ae.pure (eR o hl) ab ?_;by_cases h:cg o
 ·simp[h]
  refine ae.pure (Ri o hl) ab ?_;by_cases h1:DE o=0
  ·simp[h1]
   refine ae.pure (Pd o hl) ab ?_;simp[idle,h,h1]
  ·simp[h1,idle]
 ·simp[h,idle]
theorem y7(o:List Part)(hl:nL aY o<=2^40):aH Tryz.prog 219 [.c (.s (o.map Part.row))] (.one (.c (vb (idle o)) 1)):=by
 refine pci au Tryz.func219 (λw0 base=>?_);simp;refine ae.pure (eQ o hl) ab ?_;by_cases h:cg o
 ·simp[h]
  refine ae.pure (Qz o hl) ab ?_;by_cases h1:DE o=0
  ·simp[h1]
   refine ae.pure (Od o hl) ab ?_;simp[idle,h,h1]
  ·simp[h1,idle]
 ·simp[h,idle]
def eD(t:List Int):Prop:=t.length<=200/\dQ t
theorem mu(t:List Int)(hl:t.length<=2^40):aH Tryz.prog 161 [.c (.s (t.map aX))] (.one (.c (vb (eD t)) 1)):=by
 refine pci au Tryz.func161 (λw0 base=>?_);by_cases h:t.length<=200
 ·have h':(t.length:Int)<=200:=by omega
  simp[h'];refine ae.pure (ln t hl) ab ?_;simp[eD,h]
 ·have h':¬(t.length:Int)<=200:=by omega
  simp[h',eD,h]
theorem mj(t:List Int)(hl:t.length<=2^40):aH Tryz.prog 209 [.c (.s (t.map aX))] (.one (.c (vb (eD t)) 1)):=by
 refine pci au Tryz.func209 (λw0 base=>?_);simp;refine ae.pure (mM t hl) ab ?_;have e:((t.length:Int)<=200)=(t.length<=200):=aJ;by_cases hg:dQ t
 ·simp[hg,eD,e]
 ·simp[hg,eD]
open Classical in
noncomputable def dv(n:Int):List Part:=if 1<=n/\n<=200 then [⟨1,n,[]⟩]else []
theorem mP(n:Int):aH Tryz.prog 151 [.c (vi n)] (.one (.c (.s ((dv n).map Part.row)) 3)):=by
 refine pci au Tryz.func151 (λw0 base=>?_);simp;refine ae.pure (cr n 1 200) ab ?_;exact We
theorem mN(n:Int):aH Tryz.prog 197 [.c (vi n)] (.one (.c (.s ((dv n).map Part.row)) 3)):=by
 refine pci au Tryz.func197 (λw0 base=>?_);simp;refine ae.pure (dT n 1 200) ab ?_;exact We
def psz(p:Part):Nat:=p.n.toNat+p.signs.length
def gl(p:Part)(n:Nat):Part:=if p.kind=2 then⟨p.kind,p.n,p.signs.take n⟩else⟨p.kind,n,p.signs⟩
def cf(p:Part)(n:Nat):Part:=if p.kind=2 then⟨p.kind,p.n,p.signs.drop n⟩else⟨p.kind,p.n-n,p.signs⟩
theorem jY{p:Part}(h:aS p):(psz p:Int)=p.n+p.signs.length/\psz p<=200:=by
 have hb:=h.bounds;unfold psz;by_cases hk:p.kind=2
 ·have:=hb.2.2.2.2.1 hk
  omega
 ·have:=hb.2.2.2.2.2 hk
  rw[this];simp;omega
@[simp] theorem aiK {p:Part} {n:Nat}:(gl p n).kind=p.kind:=by unfold gl;split<;>rfl
@[simp] theorem agY {p:Part} {n:Nat}:(cf p n).kind=p.kind:=by unfold cf;split<;>rfl
theorem sa{p:Part}(h:aS p){n:Nat}(hn:n<=psz p):aS (gl p n):=by
 have hp:=jY h;unfold gl;by_cases hk:p.kind=2
 ·rw[ai hk]
  rw[ni hk]at h;refine .inr ⟨hk,h.1,?_,λm hm=>h.2.2 m (bT hm)⟩;simp;omega
 ·rw[aj hk]
  have hb:=h.bounds;have hk2:p.kind=1\/p.kind=3:=aa;have:=hb.2.2.2.2.2 hk;refine .inl ⟨hk2,?_,this⟩;exact gM
theorem OA{p:Part}(h:aS p){n:Nat}(hn:n<=psz p):aS (cf p n):=by
 have hp:=jY h;unfold cf;by_cases hk:p.kind=2
 ·rw[ai hk]
  rw[ni hk]at h;refine .inr ⟨hk,h.1,?_,λm hm=>h.2.2 m (bI hm)⟩;simp;omega
 ·rw[aj hk]
  have hb:=h.bounds;have hk2:p.kind=1\/p.kind=3:=aa;have:=hb.2.2.2.2.2 hk;refine .inl ⟨hk2,?_,this⟩;rw[this]at hp;simp at hp;exact gM
theorem kf{p:Part}(h:aS p){n:Nat}(hn:n<=psz p):psz (cf p n)=psz p-n:=by
 have hb:=h.bounds;unfold psz cf at *;by_cases hk:p.kind=2
 ·rw[ai hk]
  have:=hb.2.2.2.2.1 hk;simp only[this,eO]at hn⊢;omega
 ·rw[aj hk]
  have:=hb.2.2.2.2.2 hk;simp only[this,eN]at hn⊢;omega
theorem fN{p:Part}(h:aS p):gl p (psz p)=p:=by
 have hb:=h.bounds;unfold psz gl;by_cases hk:p.kind=2
 ·rw[ai hk]
  have:=hb.2.2.2.2.1 hk;rw[aC aa]
 ·rw[aj hk]
  have:=hb.2.2.2.2.2 hk;obtain⟨k,n,s⟩:=p;simp only at this hb;subst this;simp;omega
theorem Oz{p:Part}{m n:Nat}:cf (cf p m) n=cf p (m+n):=by
 unfold cf;by_cases hk:p.kind=2
 ·simp[hk]
 ·simp[hk]
  omega
theorem QJ{p:Part}:cf p 0=p:=by unfold cf;split<;>simp
def nxt:List Part->List Part
 | []=>[]
 |p::l=>if psz p=0 then nxt l else p::l
def tsz:List Part->Nat
 | []=>0
 |p::l=>psz p+tsz l
def frs:List Part->Nat
 | []=>0
 |p::l=>(if p.kind=2 then 0 else psz p)+frs l
def tos:List Part->Nat
 | []=>0
 |p::l=>(if p.kind=3 then 0 else psz p)+tos l
theorem AA:∀l:List Part,tsz (nxt l)=tsz l
 | []=>rfl
 | p :: l => by
   unfold nxt
   split
   ·rename_i h;rw[AA l];simp[tsz,h]
   ·rfl
theorem mq:∀l:List Part,frs (nxt l)=frs l
 | []=>rfl
 | p :: l => by
   unfold nxt
   split
   ·rename_i h;rw[mq l];simp[frs,h]
   ·rfl
theorem AB:∀l:List Part,tos (nxt l)=tos l
 | []=>rfl
 | p :: l => by
   unfold nxt
   split
   ·rename_i h;rw[AB l];simp[tos,h]
   ·rfl
theorem fY:∀{l:List Part}{p:Part}{l':List Part},nxt l=p::l'->0<psz p
 | [],p,l',h=>by simp[nxt]at h
 | q :: l, p, l', h => by
   unfold nxt at h
   split at h
   ·exact fY h
   ·simp at h;rw[<-h.1];omega
theorem eK:∀l:List Part,nxt (nxt l)=nxt l
 | []=>rfl
 | p :: l => by
   by_cases h:psz p=0
   ·simp only[nxt,h,dF];exact eK l
   ·simp only[nxt,h,dO]
theorem zc:∀l:List Part,∃k,k<=l.length/\nxt l=l.drop k/\∀i,(h:i<l.length)->i<k->psz l[i]=0
 | []=>⟨0,ab,rfl,λi h=>iz⟩
 | p :: l => by
   by_cases h:psz p=0
   ·obtain⟨k,h1,h2,h3⟩:=zc l
    refine⟨k+1,aJ,by simp[nxt,h,h2],λi hi hk=>?_⟩
    cases i with
    |zero=>simpa using h
    |succ i=>simpa using h3 i fR aa
   ·exact⟨0,ab,by simp[nxt,h],λi _ hk=>aa⟩
theorem mW{l:List Part}{p:Part}(h:p∈nxt l):p∈l:=by
 obtain⟨k,_,h2,_⟩:=zc l;rw[h2]at h;exact bI h
theorem Fa(l:List Part):(nxt l).length<=l.length:=by
 obtain⟨k,_,h2,_⟩:=zc l;rw[h2];simp
def jG(x y:List Part):Option (List Part×List Part×List Part):=
 match nxt x with
 | p :: x' => if p.kind = 3 then some ([gl p (psz p)], cf p (psz p) :: x', y) else match nxt y with
   | q :: y' => if q.kind = 2 then some ([gl q (psz q)], p :: x', cf q (psz q) :: y') else
       some (if q.kind=1 then [gl p (min (psz p) (psz q))]else if p.kind=1 then [gl q (min (psz p) (psz q))]else [],cf p (min (psz p) (psz q))::x',cf q (min (psz p) (psz q))::y')
   | []=>none
 | [] => match nxt y with
   |q::y'=>if q.kind=2 then some ([gl q (psz q)],[],cf q (psz q)::y')else none
   | []=>none
structure CInv(x y:List Part):Prop where
 px:∀p∈x,aS p
 py:∀p∈y,aS p
 b:tos x=frs y
theorem lk{l l':List Part}{p:Part}{n:Nat}(hl:∀q∈l,aS q)(he:nxt l=p::l')(hn:n<=psz p):∀q∈cf p n::l',aS q:=by
 intro q hq;rcases aQ.1 hq with rfl|hq
 ·exact OA (hl p (mW (he ▸ aN ..))) hn
 ·exact hl q (mW (he ▸ aD _ hq))
theorem fZ{l l':List Part}{p:Part}(hl:∀q∈l,aS q)(he:nxt l=p::l'):aS p/\∀q∈p::l',aS q:=
 ⟨hl p (mW (he ▸ aN ..)),λq hq=>hl q (mW (he ▸ hq))⟩
structure CNext(x y:List Part)(r:List Part×List Part×List Part):Prop where
 inv:CInv r.2.1 r.2.2
 dec:tsz r.2.1+tsz r.2.2<tsz x+tsz y
 ok:∀p∈r.1,aS p
 len:r.1.length<=1
theorem kQ{x y:List Part}(hi:CInv x y){r:List Part×List Part×List Part}(h:jG x y=some r):CNext x y r:=by
 have hx:=AA x;have hy:=AA y;have hxt:=AB x;have hyf:=mq y;have hb:=hi.b;unfold jG at h
 cases ex:nxt x with
 | nil =>
   rw[ex]at h hx hxt
   cases ey:nxt y with
   |nil=>simp[ey]at h
   | cons q y' =>
     rw[ey]at hy hyf;have hq:=fZ hi.py ey;have hp:=fY ey;simp only[ey]at h
     split at h
     ·rename_i k
      cases h
      have hs:=kf hq.1 (aw _);refine⟨⟨ab,lk hi.py ey (aw _),?_⟩,?_,?_,ab⟩
      ·simp[tos,frs,k]at hxt hyf⊢;omega
      ·exact xw
      ·exact EL
     ·cases h
 | cons p x' =>
   rw[ex]at h hx hxt;have hp:=fZ hi.px ex;have hpp:=fY ex;simp only at h
   split at h
   ·rename_i k
    cases h
    have hs:=kf hp.1 (aw _);refine⟨⟨lk hi.px ex (aw _),hi.py,?_⟩,?_,?_,ab⟩
    ·simp[tos,k]at hxt⊢;omega
    ·simp[tsz]at hx⊢;omega
    ·intro q hq;simp at hq;subst hq;exact sa hp.1 (aw _)
   ·rename_i k3
    cases ey:nxt y with
    |nil=>simp[ey]at h
    | cons q y' =>
      rw[ey]at hy hyf;have hq:=fZ hi.py ey;have hqp:=fY ey;simp only[ey]at h
      split at h
      ·rename_i k
       cases h
       have hs:=kf hq.1 (aw _);refine⟨⟨hp.2,lk hi.py ey (aw _),?_⟩,?_,?_,ab⟩
       ·simp[tos,frs,k,k3]at hxt hyf⊢;omega
       ·exact xw
       ·exact EL
      ·rename_i k2
       cases h
       have hn1:min (psz p) (psz q)<=psz p:=aa;have hn2:min (psz p) (psz q)<=psz q:=aa;have hs1:=kf hp.1 hn1;have hs2:=kf hq.1 hn2;refine⟨⟨lk hi.px ex hn1,lk hi.py ey hn2,?_⟩,?_,?_,?_⟩
       ·simp[tos,frs,k2,k3]at hxt hyf⊢;omega
       ·exact xw
       ·intro r hr
        simp only at hr
        split at hr
        ·simp at hr;subst hr;exact sa hp.1 hn1
        ·split at hr
         ·simp at hr;subst hr;exact sa hq.1 hn2
         ·simp at hr
       ·simp only;split<;>(try split)<;>simp
noncomputable def I7:Nat->List Part->List Part->List Part
 |0,_,_=>[]
 | k + 1, x, y => match jG x y with
   |none=>[]
   |some r=>r.1++I7 k r.2.1 r.2.2
noncomputable def cmp(x y:List Part):List Part:=I7 (tsz x+tsz y) x y
theorem XW:∀(k m:Nat) {x y:List Part},CInv x y->tsz x+tsz y<=k->tsz x+tsz y<=m->I7 k x y=I7 m x y
 |0,0,_,_,_,_,_=>rfl
 | k + 1, 0, x, y, hi, h, h2 => by
   exact Ur
 | 0, m + 1, x, y, hi, h, h2 => by
   exact Ur
 | k + 1, m + 1, x, y, hi, h, h2 => by
   rw[I7,I7]
   cases hs:jG x y with
   |none=>rfl
   | some r =>
     have hn:=kQ hi hs;have:=hn.dec;simp only;rw[XW k m hn.inv aa aa]
theorem HD{x y:List Part}(h:jG x y=none):cmp x y=[]:=by
 unfold cmp
 cases tsz x+tsz y with
 |zero=>rfl
 |succ k=>rw[I7,h]
theorem tO{x y:List Part}(hi:CInv x y){r:List Part×List Part×List Part}(h:jG x y=some r):cmp x y=r.1++cmp r.2.1 r.2.2:=by
 have hn:=kQ hi h;have hd:=hn.dec;unfold cmp;obtain⟨k,hk⟩:∃k,tsz x+tsz y=k+1:=⟨tsz x+tsz y-1,aa⟩;rw[hk,I7,h];simp only;rw[XW k (tsz r.2.1+tsz r.2.2) hn.inv aa aa]
abbrev XR:=(List Part×List Part)×List Part×List Part
def iL(x y:List Part):Option XR:=
 match nxt x with
 | p :: x' => if p.kind = 2 then some (([gl p (psz p)], [⟨1, p.signs.length, []⟩]), cf p (psz p) :: x', y) else match nxt y with
   | q :: y' => if q.kind = 2 then some (([⟨1, q.signs.length, []⟩], [gl q (psz q)]), p :: x', cf q (psz q) :: y') else
       some ((if q.kind=1 then [gl p (min (psz p) (psz q))]else [],if p.kind=1 then [gl q (min (psz p) (psz q))]else []),cf p (min (psz p) (psz q))::x',cf q (min (psz p) (psz q))::y')
   | []=>none
 | [] => match nxt y with
   |q::y'=>if q.kind=2 then some (([⟨1,q.signs.length,[]⟩],[gl q (psz q)]),[],cf q (psz q)::y')else none
   | []=>none
structure TInv(x y:List Part):Prop where
 px:∀p∈x,aS p
 py:∀p∈y,aS p
 b:frs x=frs y
structure TNext(x y:List Part)(r:XR):Prop where
 inv:TInv r.2.1 r.2.2
 dec:tsz r.2.1+tsz r.2.2<tsz x+tsz y
 okx:∀p∈r.1.1,aS p
 oky:∀p∈r.1.2,aS p
 lenx:r.1.1.length<=1
 leny:r.1.2.length<=1
theorem Rc{p:Part}(h:aS p):aS ⟨1,p.signs.length,[]⟩:=by
 have:=h.bounds;exact .inl ⟨.inl rfl,gL,rfl⟩
theorem jL{x y:List Part}(hi:TInv x y){r:XR}(h:iL x y=some r):TNext x y r:=by
 have hx:=AA x;have hy:=AA y;have hxt:=mq x;have hyf:=mq y;have hb:=hi.b;unfold iL at h
 cases ex:nxt x with
 | nil =>
   rw[ex]at h hx hxt
   cases ey:nxt y with
   |nil=>simp[ey]at h
   | cons q y' =>
     rw[ey]at hy hyf;have hq:=fZ hi.py ey;have hp:=fY ey;simp only[ey]at h
     split at h
     ·rename_i k
      cases h
      have hs:=kf hq.1 (aw _);refine⟨⟨ab,lk hi.py ey (aw _),?_⟩,?_,?_,?_,ab,ab⟩
      ·simp[frs,k]at hxt hyf⊢;omega
      ·exact xw
      ·intro p hp;simp at hp;subst hp;exact Rc hq.1
      ·exact EL
     ·cases h
 | cons p x' =>
   rw[ex]at h hx hxt;have hp:=fZ hi.px ex;have hpp:=fY ex;simp only at h
   split at h
   ·rename_i k
    cases h
    have hs:=kf hp.1 (aw _);refine⟨⟨lk hi.px ex (aw _),hi.py,?_⟩,?_,?_,?_,ab,ab⟩
    ·simp[frs,k]at hxt⊢;omega
    ·simp[tsz]at hx⊢;omega
    ·intro q hq;simp at hq;subst hq;exact sa hp.1 (aw _)
    ·intro q hq;simp at hq;subst hq;exact Rc hp.1
   ·rename_i k3
    cases ey:nxt y with
    |nil=>simp[ey]at h
    | cons q y' =>
      rw[ey]at hy hyf;have hq:=fZ hi.py ey;have hqp:=fY ey;simp only[ey]at h
      split at h
      ·rename_i k
       cases h
       have hs:=kf hq.1 (aw _);refine⟨⟨hp.2,lk hi.py ey (aw _),?_⟩,?_,?_,?_,ab,ab⟩
       ·simp[frs,k,k3]at hxt hyf⊢;omega
       ·exact xw
       ·intro p hp;simp at hp;subst hp;exact Rc hq.1
       ·exact EL
      ·rename_i k2
       cases h
       have hn1:min (psz p) (psz q)<=psz p:=aa;have hn2:min (psz p) (psz q)<=psz q:=aa;have hs1:=kf hp.1 hn1;have hs2:=kf hq.1 hn2;refine⟨⟨lk hi.px ex hn1,lk hi.py ey hn2,?_⟩,?_,?_,?_,?_,?_⟩
       ·simp[frs,k2,k3]at hxt hyf⊢;omega
       ·exact xw
       ·intro r hr
        simp only at hr
        split at hr
        ·simp at hr;subst hr;exact sa hp.1 hn1
        ·simp at hr
       ·intro r hr
        simp only at hr
        split at hr
        ·simp at hr;subst hr;exact sa hq.1 hn2
        ·simp at hr
       ·simp only;split<;>simp
       ·simp only;split<;>simp
noncomputable def xfK:Nat->List Part->List Part->List Part×List Part
 |0,_,_=>([],[])
 | k + 1, x, y => match iL x y with
   |none=>([],[])
   |some r=>(r.1.1++(xfK k r.2.1 r.2.2).1,r.1.2++(xfK k r.2.1 r.2.2).2)
noncomputable def xf(x y:List Part):List Part×List Part:=xfK (tsz x+tsz y) x y
theorem aai:∀(k m:Nat) {x y:List Part},TInv x y->tsz x+tsz y<=k->tsz x+tsz y<=m->xfK k x y=xfK m x y
 |0,0,_,_,_,_,_=>rfl
 | k + 1, 0, x, y, hi, h, h2 => by
   rw[xfK,xfK];exact LP
 | 0, m + 1, x, y, hi, h, h2 => by
   rw[xfK,xfK];exact LP
 | k + 1, m + 1, x, y, hi, h, h2 => by
   rw[xfK,xfK]
   cases hs:iL x y with
   |none=>rfl
   | some r =>
     have hn:=jL hi hs;have:=hn.dec;simp only;rw[aai k m hn.inv aa aa]
theorem Sk{x y:List Part}(h:iL x y=none):xf x y=([],[]):=by
 unfold xf
 cases tsz x+tsz y with
 |zero=>rfl
 |succ k=>rw[xfK,h]
theorem adk{x y:List Part}(hi:TInv x y){r:XR}(h:iL x y=some r):xf x y=(r.1.1++(xf r.2.1 r.2.2).1,r.1.2++(xf r.2.1 r.2.2).2):=by
 have hn:=jL hi h;have hd:=hn.dec;unfold xf;obtain⟨k,hk⟩:∃k,tsz x+tsz y=k+1:=⟨tsz x+tsz y-1,aa⟩;rw[hk,xfK,h];simp only;rw[aai k (tsz r.2.1+tsz r.2.2) hn.inv aa aa]
theorem M5:∀{o:List Part},(∀p∈o,aS p)->(frs o:Int)=dN (u5 2) o
 | [],_=>rfl
 | p :: o, h => by
   have ih:=M5 (λq hq=>h q (aD _ hq));have hp:=jY (h p (aN ..));simp only[frs,dN,u5]
   split<;>simp<;>omega
theorem KU:∀{o:List Part},(∀p∈o,aS p)->(tos o:Int)=dN (u5 3) o
 | [],_=>rfl
 | p :: o, h => by
   have ih:=KU (λq hq=>h q (aD _ hq));have hp:=jY (h p (aN ..));simp only[tos,dN,u5]
   split<;>simp<;>omega
theorem od{o:List Part}(h:cg o):(frs o:Int)=bO o:=by
 rw[M5 h.1.1,kH (λp hp=>ahO (h.1.1 p hp)),q9];unfold bO eI;rw[ai h.1]
theorem vL{o:List Part}(h:cg o):(tos o:Int)=fH o:=by
 rw[KU h.1.1,kH (λp hp=>ahN (h.1.1 p hp)),q9];unfold fH eI;rw[ai h.1]
theorem Qs:∀(o:List Part),tsz o<=frs o+tos o
 | []=>by simp[tsz]
 | p :: o => by
   have:=Qs o;simp only[tsz,frs,tos]
   split<;>split<;>omega
theorem vK{o:List Part}(h:cg o):tsz o<=400:=by
 have h1:=Qs o;have h2:=od h;have h3:=vL h;have:=h.2;omega
theorem Fl{a b:List Part}(ha:cg a)(hb:cg b)(h:fH a=bO b):CInv a b:=by
 have h2:=od hb;have h3:=vL ha;exact⟨ha.1.1,hb.1.1,aa⟩
theorem DW{a b:List Part}(ha:cg a)(hb:cg b)(h:bO a=bO b):TInv a b:=by
 have h2:=od hb;have h3:=od ha;exact⟨ha.1.1,hb.1.1,aa⟩
open Classical in
noncomputable def cQ(a b:List Part):List Part×Bool:=
 if cg a/\cg b/\fH a=bO b then(if cg (normal (cmp a b))then(normal (cmp a b),true)else([],false))else([],false)
open Classical in
noncomputable def aI(a b:List Part):List Part×List Part×Bool:=
 if cg a/\cg b/\bO a=bO b then(if cg (normal (xf a b).1)/\cg (normal (xf a b).2)then(normal (xf a b).1,normal (xf a b).2,true)else([],[],false))else([],[],false)
def cur(o:List Part)(i d:Nat):List Part:=
 match o.drop i with
 | []=>[]
 |p::l=>cf p d::l
theorem Nl{o:List Part}{i d:Nat}(h:o.length<=i):cur o i d=[]:=by unfold cur;rw[bK h]
theorem Hx{o:List Part}{i d:Nat}(h:i<o.length):cur o i d=cf o[i] d::o.drop (i+1):=by unfold cur;rw[bj h]
theorem Hw{o:List Part}{i:Nat}:cur o i 0=o.drop i:=by
 unfold cur
 cases o.drop i with
 |nil=>rfl
 |cons p l=>simp[QJ]
theorem acB{o:List Part}(ho:∀p∈o,aS p){i:Nat}(h:i<o.length):nxt (cur o i (psz o[i]))=nxt (cur o (i+1) 0):=by
 rw[Hx h,Hw];have:=kf (ho _ (ak h)) (aw _);simp[nxt,this]
theorem acA{o:List Part}(ho:∀p∈o,aS p){i d:Nat}(h:i<o.length)(hd:d<psz o[i]):nxt (cur o i d)=cur o i d:=by
 rw[Hx h];have:=kf (ho _ (ak h)) (aiT hd);have h2:¬psz (cf o[i] d)=0:=aa;simp[nxt,h2]
theorem acC{o:List Part}{i d n:Nat}(h:i<o.length){p:Part}{l:List Part}(hc:cur o i d=p::l):cf p n::l=cur o i (d+n):=by
 rw[Hx h]at hc⊢
 cases hc
 rw[Oz]
theorem dw{k j:Nat}{o:AObj}{h:AH}(hne:j≠k):AH.get ((k,o)::h) j=AH.get h j:=aj hne
theorem oQ(p:Part)(h:aS p):aH Tryz.prog 253 [.agg p.row] (.one (.c (vi (psz p)) 1)):=by
 refine pci au Tryz.func253 (λw0 base=>?_);have hp:=jY h;have e:Go.IntKind.i64.wrap (p.n+(p.signs.length:Int))=p.n+p.signs.length:=al _ aa;rw[hp.1];simp[Part.row,e]
def hdV:List Part->AV
 | []=>.agg [.v (.int .i64 0),.v (.int .i64 0),.nil]
 |p::_=>.agg [.v (.int .i64 p.kind),.v (.int .i64 p.n),.ro (p.signs.map aX)]
theorem YP{w0:World}{bF bG:Nat->Prop}{bl:Bool}{st:ASt}{dst:Option Nat}{K:ASt->Prop}{kx b kb:Nat}{l:List Part}(hk:kx+16<kb)(hs:∀p∈l,aS p)
 (g:st.h.get kx=.vars b 231 [.ro (l.map Part.row)])
 (hK:∀h',AH.get h' kx=.vars b 231 [.ro ((nxt l).map Part.row)]->(∀q,q≠kx->q<kb->AH.get h' q=st.h.get q)->cX ⟨st.n,st.kb,st.t,h'⟩ dst (hdV (nxt l)) K) :
 ae ⟨Tryz.prog,tt,w0,⟨bF,bG,bl,λ_=>True⟩⟩ 251 [.p kx b 0] st dst K:=by
 refine inl au Tryz.func251 kb (λw1 F=>?_);simp;intro b2;have hkk:¬kx=kb+32:=aa;have hkk2:¬kb+32=kx:=aa;refine Bw eok (λm:List Part=>nxt m=nxt l/\∀p∈m,p∈l) (λm=>⟨40,kb,[(0,.p kx b 0),(2,.p (kb+32) b2 0)],(kx,.vars b 231 [.ro (m.map Part.row)])::(kb+32,.vars b2 211 [.v (.int .i64 0),.v (.int .i64 0),.nil])::st.h⟩) (λm=>m.length) l ⟨rfl,λ_ h=>h⟩ (by simp[hkk,g]) (λm hm=>?_)
 ·cases m with
  | nil =>
    have hn:nxt l=[]:=by rw[<-hm.1];rfl
    rw[hn]at hK;simp[hkk2];refine hK _ (by simp[hkk]) (λq q1 q2=>?_)
    repeat (first|exact rfl|refine(dw aa).trans ?_)
  | cons p m =>
    have hp:=hs p (hm.2 p (aN ..));simp[Part.row];refine ae.pure (oQ p hp) lF ?_;by_cases hz:psz p=0
    ·simp[hz,hkk,hkk2]
     refine⟨m,⟨by rw[<-hm.1];simp[nxt,hz],λq hq=>hm.2 q (aD _ hq)⟩,aa,?_⟩;simp[cut];exact EC
    ·have hn:nxt l=p::m:=by rw[<-hm.1];simp[nxt,hz]
     rw[hn]at hK;have hm0:¬(m.length:Int)+1=0:=aa;simp[hz,hkk2,hm0];refine hK _ ?_ (λq q1 q2=>?_)
     ·simp[hkk,Part.row]
     repeat (first|exact rfl|refine(dw aa).trans ?_)
end Go.Proofs.YtmccaifipoohfaaGreatDoor
