import Derived.Test.YtklblkobegcljaaGreatNA
import Derived.Test.YtklblkobegcljaaGreatMF
namespace Go.Proofs.YtklblkobegcljaaGreat
open Go.AM
set_option maxRecDepth 20000
theorem bZ(n lo hi:Int):ar Tryz.prog 76 [.c (vi n),.c (vi lo),.c (vi hi)] (.one (.c (vb (lo<=n/\n<=hi)) 1)):=by
 refine pci aw Tryz.func76 (λw0 base=>?_);by_cases h1:lo<=n<;>by_cases h2:n<=hi<;>simp[h1,h2]
theorem cS(n lo hi:Int):ar Tryz.prog 22 [.c (vi n),.c (vi lo),.c (vi hi)] (.one (.c (vb (lo<=n/\n<=hi)) 1)):=by
 refine pci aw Tryz.func22 (λw0 base=>?_);by_cases h1:lo<=n<;>by_cases h2:n<=hi<;>simp[h1,h2]
def ux(n:Int):Prop:=(0<=n/\n<=1114111)/\¬(55296<=n/\n<=57343)
def ja(l:List Int):Prop:=∀n∈l,ux n
theorem Yqz(n:Int):ar Tryz.prog 251 [.c (vi n)] (.one (.c (vb (ux n)) 1)):=by
 refine pci aw Tryz.func251 (λw0 base=>?_);simp;refine ag.pure (bZ n 0 1114111) ab ?_;by_cases h:0<=n/\n<=1114111
 ·simp[h]
  refine ag.pure (bZ n 55296 57343) ab ?_;exact Mm
 ·exact Mi
theorem Fc(n:Int):ar Tryz.prog 245 [.c (vi n)] (.one (.c (vb (ux n)) 1)):=by
 refine pci aw Tryz.func245 (λw0 base=>?_);simp;refine ag.pure (cS n 0 1114111) ab ?_;by_cases h:0<=n/\n<=1114111
 ·simp[h]
  refine ag.pure (cS n 55296 57343) ab ?_;exact Mm
 ·exact Mi
theorem v9{α:Type}{P:α->Prop}{l:List α}{i:Nat}(h:i<l.length)(ha:∀a∈l.take i,P a)(hi:P l[i]):∀a∈l.take (i+1),P a:=by
 rw[<-bd h];intro a ha';rcases aP.1 ha' with h1|h1
 ·exact ha a h1
 ·simp at h1;subst h1;exact hi
theorem qx{α:Type}{P:α->Prop}{l:List α}{i:Nat}(h:l.length<=i)(ha:∀a∈l.take i,P a):∀a∈l,P a:=by
 rwa[aB h]at ha
theorem Pt{α:Type}{P:α->Prop}{l:List α}{i:Nat}(h:i<l.length)(hi:¬P l[i]):¬∀a∈l,P a:=λha=>hi (ha _ (ak h))
theorem tT(l:List Int)(hl:l.length<=2^40):ar Tryz.prog 226 [.c (.s (l.map aG))] (.one (.c (vb (ja l)) 1)):=by
 refine pci aw Tryz.func226 (λw0 base=>?_);simp;refine aV.intro eok (λi:Nat=>i<=l.length/\∀n∈l.take i,ux n) (λi=>⟨15,0,[(7,.v (.int .i64 i)),(6,.v (.int .i64 l.length)),(5,.ro (l.map aG))],[]⟩) (λi=>l.length-i) 0 ab ab (λi hi=>?_);by_cases h:i<l.length
 ·simp[h]
  refine ag.pure (Yqz l[i]) ab ?_;exact Lj
 ·simp[h,w9]
  exact qx aa hi.2
theorem tN(l:List Int)(hl:l.length<=2^40):ar Tryz.prog 214 [.c (.s (l.map aG))] (.one (.c (vb (ja l)) 1)):=by
 refine pci aw Tryz.func214 (λw0 base=>?_);simp;refine aV.intro eok (λi:Nat=>i<=l.length/\∀n∈l.take i,ux n) (λi=>⟨15,0,[(7,.v (.int .i64 i)),(6,.v (.int .i64 l.length)),(5,.ro (l.map aG))],[]⟩) (λi=>l.length-i) 0 ab ab (λi hi=>?_);by_cases h:i<l.length
 ·simp[h]
  refine ag.pure (Fc l[i]) ab ?_;exact Lj
 ·simp[h,w9]
  exact qx aa hi.2
def bb(p:Part):Prop:=((p.kind=1\/p.kind=3)/\(0<=p.n/\p.n<=200)/\p.signs=[])\/(p.kind=2/\p.n=0/\p.signs.length<=200/\ja p.signs)
theorem xB{p:Part}(h:p.kind=1\/p.kind=3):bb p=((0<=p.n/\p.n<=200)/\p.signs=[]):=by
 have h2:¬p.kind=2:=aa;simp[bb,h,h2]
theorem kl{p:Part}(h:p.kind=2):bb p=(p.n=0/\p.signs.length<=200/\ja p.signs):=by simp[bb,h]
theorem CI{p:Part}(h1:p.kind≠1)(h2:p.kind≠2)(h3:p.kind≠3):¬bb p:=by simp[bb,h1,h2,h3]
theorem FW(p:Part)(hl:p.signs.length<=2^40):ar Tryz.prog 229 [.agg p.row] (.one (.c (vb (bb p)) 1)):=by
 refine pci aw Tryz.func229 (λw0 base=>?_);simp[Part.row];intros;by_cases h13:p.kind=1\/p.kind=3
 ·rw[xB h13]
  rcases h13 with h|h
  ·simp[h]
   refine ag.pure (bZ p.n 0 200) ab ?_;exact zm
  ·simp[h]
   refine ag.pure (bZ p.n 0 200) ab ?_;exact zm
 ·have h1:¬p.kind=1:=λh=>h13 (.inl h)
  have h3:¬p.kind=3:=λh=>h13 (.inr h)
  by_cases h2:p.kind=2
  ·rw[kl h2]
   simp[h2];by_cases hn:p.n=0
   ·by_cases hs:p.signs.length<=200
    ·have hs':(p.signs.length:Int)<=200:=by omega
     simp[hn,hs'];refine ag.pure (tT p.signs hl) ab ?_;simp[hs]
    ·have hs':¬(p.signs.length:Int)<=200:=by omega
     simp[hn,hs',hs]
   ·simp[hn]
  ·simp[h1,h2,h3,CI]
theorem Fh(p:Part)(hl:p.signs.length<=2^40):ar Tryz.prog 213 [.agg p.row] (.one (.c (vb (bb p)) 1)):=by
 refine pci aw Tryz.func213 (λw0 base=>?_);simp[Part.row];intros;by_cases h13:p.kind=1\/p.kind=3
 ·rw[xB h13]
  rcases h13 with h|h
  ·simp[h]
   refine ag.pure (cS p.n 0 200) ab ?_;exact zm
  ·simp[h]
   refine ag.pure (cS p.n 0 200) ab ?_;exact zm
 ·have h1:¬p.kind=1:=λh=>h13 (.inl h)
  have h3:¬p.kind=3:=λh=>h13 (.inr h)
  by_cases h2:p.kind=2
  ·rw[kl h2]
   simp[h2];by_cases hn:p.n=0
   ·simp[hn]
    refine ag.pure (tN p.signs hl) ab ?_;have e:((p.signs.length:Int)<=200)=(p.signs.length<=200):=aN;by_cases hg:ja p.signs
    ·simp[hg,e]
    ·simp[hg]
   ·simp[hn]
  ·simp[h1,h2,h3,CI]
def ga(o:List Part):Prop:=(∀p∈o,bb p)/\o.length<=600
theorem oW(o:List Part)(hl:nL bc o<=2^40):ar Tryz.prog 188 [.c (.s (o.map Part.row))] (.one (.c (vb (ga o)) 1)):=by
 refine pci aw Tryz.func188 (λw0 base=>?_);have hle:=aS hl;simp;refine aV.intro eok (λi:Nat=>i<=o.length/\∀p∈o.take i,bb p) (λi=>⟨18,0,[(7,.v (.int .i64 i)),(6,.v (.int .i64 o.length)),(5,.ro (o.map Part.row)),(0,.ro (o.map Part.row))],[]⟩) (λi=>o.length-i) 0 ab ab (λi hi=>?_);by_cases h:i<o.length
 ·simp[h,Part.row]
  intros;refine ag.pure (FW o[i] (cT hl h)) gw ?_;exact Lm
 ·exact Nk
theorem oP(o:List Part)(hl:nL bc o<=2^40):ar Tryz.prog 160 [.c (.s (o.map Part.row))] (.one (.c (vb (ga o)) 1)):=by
 refine pci aw Tryz.func160 (λw0 base=>?_);have hle:=aS hl;simp;refine aV.intro eok (λi:Nat=>i<=o.length/\∀p∈o.take i,bb p) (λi=>⟨18,0,[(7,.v (.int .i64 i)),(6,.v (.int .i64 o.length)),(5,.ro (o.map Part.row)),(0,.ro (o.map Part.row))],[]⟩) (λi=>o.length-i) 0 ab ab (λi hi=>?_);by_cases h:i<o.length
 ·simp[h,Part.row]
  intros;refine ag.pure (Fh o[i] (cT hl h)) gw ?_;exact Lm
 ·exact Nk
def ez(f:Part->Int):List Part->Int
 | []=>0
 |p::o=>f p+ez f o
theorem xr{f:Part->Int}:∀(a b:List Part),ez f (a++b)=ez f a+ez f b
 | [],b=>by simp[ez]
 |p::a,b=>by simp only[dn,ez,xr a b];omega
theorem jS{f:Part->Int}{o:List Part}{i:Nat}(h:i<o.length):ez f (o.take (i+1))=ez f (o.take i)+f o[i]:=by
 rw[<-bd h,xr];simp[ez]
theorem kj{f g:Part->Int}:∀{o:List Part},(∀p∈o,f p=g p)->ez f o=ez g o
 | [],_=>rfl
 | p :: o, h => by
   simp only[ez];rw[h p (aJ ..),kj (λq hq=>h q (aC _ hq))]
theorem np{f g:Part->Int}:∀(o:List Part),ez (λp=>f p+g p) o=ez f o+ez g o
 | []=>by simp[ez]
 |p::o=>by simp only[ez,np o];omega
def fK(p:Part):Int:=if p.kind=1 then p.n else 0
def fP(p:Part):Int:=if p.kind=2 then p.signs.length else 0
def fD(p:Part):Int:=if p.kind=1 then 0 else if p.kind=2 then 0 else p.n
def qw(k:Int)(p:Part):Int:=if p.kind=k then 0 else p.n+p.signs.length
theorem bb.bounds{p:Part}(h:bb p):(p.kind=1\/p.kind=2\/p.kind=3)/\0<=p.n/\p.n<=200/\p.signs.length<=200/\(p.kind=2->p.n=0)/\(p.kind≠2->p.signs=[]):=by
 rcases h with⟨h1,h2,h3⟩|⟨h1,h2,h3,h4⟩
 ·refine⟨aa,aa,aa,by simp[h3],aa,λ_=>h3⟩
 ·refine⟨aa,aa,aa,h3,λ_=>h2,λh=>absurd h1 h⟩
theorem abj{p:Part}(h:bb p):qw 2 p=fK p+fD p:=by
 obtain⟨h1,h2,h3,h4,h5,h6⟩:=h.bounds;unfold qw fK fD;by_cases k2:p.kind=2
 ·simp[k2]
 ·by_cases k1:p.kind=1<;>simp[k1,k2,h6 k2]
theorem abi{p:Part}(h:bb p):qw 3 p=fK p+fP p:=by
 obtain⟨h1,h2,h3,h4,h5,h6⟩:=h.bounds;unfold qw fK fP;rcases h1 with k|k|k
 ·simp[k,h6 aa]
 ·simp[k,h5 k]
 ·simp[k]
theorem gW{f:Part->Int}{B:Int}(hf:∀p,bb p->0<=f p/\f p<=B):∀{o:List Part},(∀p∈o,bb p)->0<=ez f o/\ez f o<=B*o.length
 | [],_=>by simp[ez]
 | p :: o, h => by
   have h1:=hf p (h p (aJ ..));have h2:=gW hf (o:=o) (λq hq=>h q (aC _ hq));simp only[ez,cI];rw[show B*((o.length+1:Nat):Int)=B*o.length+B by rw[Int.natCast_add];simp[Int.mul_add]];omega
theorem Uu{p:Part}(h:bb p):0<=fK p/\fK p<=200:=by have:=h.bounds;unfold fK;split<;>omega
theorem ad8{p:Part}(h:bb p):0<=fP p/\fP p<=200:=by have:=h.bounds;unfold fP;split<;>omega
theorem Ux{p:Part}(h:bb p):0<=fD p/\fD p<=200:=by have:=h.bounds;unfold fD;split<;>(try split)<;>omega
theorem abb{k:Int}{p:Part}(h:bb p):0<=qw k p/\qw k p<=400:=by have:=h.bounds;unfold qw;split<;>omega
theorem sV{o:List Part}(h:∀p∈o,bb p)(i:Nat):∀p∈o.take i,bb p:=λp hp=>h p (br hp)
theorem aac(p:Part)(hp:bb p):ar Tryz.prog 276 [.agg p.row] (.one (.c (vi (p.n+p.signs.length)) 1)):=by
 refine pci aw Tryz.func276 (λw0 base=>?_);have:=hp.bounds;have e:Go.IntKind.i64.wrap (p.n+(p.signs.length:Int))=p.n+p.signs.length:=ae _ aa;simp[Part.row,e]
open Classical in
noncomputable def sizeOf(o:List Part)(k:Int):Int:=if ga o then ez (qw k) o else 0
theorem vL(o:List Part)(hl:nL bc o<=2^40)(k:Int):ar Tryz.prog 269 [.c (.s (o.map Part.row)),.c (vi k)] (.one (.c (vi (sizeOf o k)) 1)):=by
 refine pci aw Tryz.func269 (λw0 base=>?_);have hle:=aS hl;simp;refine ag.pure (oW o hl) ab ?_;by_cases ho:ga o
 ·have hr:sizeOf o k=ez (qw k) o:=by unfold sizeOf;rw[an ho]
  simp[ho,hr];refine aV.intro eok (λi:Nat=>i<=o.length) (λi=>⟨27,0,[(13,.v (.int .i64 i)),(12,.v (.int .i64 o.length)),(11,.ro (o.map Part.row)),(5,.v (.int .i64 (ez (qw k) (o.take i)))),(1,.v (.int .i64 k))],[]⟩) (λi=>o.length-i) 0 ab (by simp[ez]) (λi hi=>?_);by_cases h:i<o.length
  ·have hp:=ho.1 _ (ak h)
   have hb:=gW (f:=qw k) (λp h=>abb h) (sV ho.1 i);have hb2:=hp.bounds;have hlen:=ho.2;have hlt:(o.take i).length<=600:=aN;have hs:=jS (f:=qw k) h;obtain⟨q,hq⟩:∃q,ez (qw k) (o.take i)=q:=⟨_,rfl⟩;have e:Go.IntKind.i64.wrap ((i:Int)+1)=((i+1:Nat):Int):=aR aa;rw[hq]at hs hb;simp[h,Part.row,hq];intros;by_cases hk:o[i].kind=k
   ·simp[hk]
    refine⟨i+1,aa,aa,e,?_⟩;rw[hs];simp[qw,hk]
   ·simp[hk]
    refine ag.pure (aac o[i] hp) gw ?_;have e2:Go.IntKind.i64.wrap (q+(o[i].n+(o[i].signs.length:Int)))=q+(o[i].n+o[i].signs.length):=ae _ aa;simp[e2];refine⟨i+1,aa,aa,e,?_⟩;rw[hs];simp[qw,hk]
  ·simp[h]
   rw[aB aa]
 ·have e:dc (ga o)=false:=by rw[jx];exact ho
  have hr:sizeOf o k=0:=by unfold sizeOf;rw[aq ho]
  simp[e,hr]
open Classical in
noncomputable def eM(o:List Part):Int×Int×Int:=if ga o then(ez fK o,ez fP o,ez fD o)else(0,0,0)
theorem Ia(o:List Part)(hl:nL bc o<=2^40):ar Tryz.prog 262 [.c (.s (o.map Part.row))] (.tup [.c (vi (eM o).1) 1,.c (vi (eM o).2.1) 1,.c (vi (eM o).2.2) 1]):=by
 refine pci aw Tryz.func262 (λw0 base=>?_);have hle:=aS hl;simp;refine ag.pure (oP o hl) ab ?_;by_cases ho:ga o
 ·have hr:eM o=(ez fK o,ez fP o,ez fD o):=by unfold eM;rw[an ho]
  simp[ho,hr];refine aV.intro eok (λi:Nat=>i<=o.length) (λi=>⟨42,0,[(15,.v (.int .i64 i)),(14,.v (.int .i64 o.length)),(13,.ro (o.map Part.row)),(5,.v (.int .i64 (ez fK (o.take i)))),(6,.v (.int .i64 (ez fP (o.take i)))),(7,.v (.int .i64 (ez fD (o.take i))))],[]⟩) (λi=>o.length-i) 0 ab (by simp[ez]) (λi hi=>?_);by_cases h:i<o.length
  ·have hp:=ho.1 _ (ak h)
   have hb1:=gW (f:=fK) (λp h=>Uu h) (sV ho.1 i);have hb2:=gW (f:=fP) (λp h=>ad8 h) (sV ho.1 i);have hb3:=gW (f:=fD) (λp h=>Ux h) (sV ho.1 i);have hpb:=hp.bounds;have hlen:=ho.2;have hlt:(o.take i).length<=600:=aN;have hs1:=jS (f:=fK) h;have hs2:=jS (f:=fP) h;have hs3:=jS (f:=fD) h;obtain⟨q1,hq1⟩:∃q,ez fK (o.take i)=q:=⟨_,rfl⟩;obtain⟨q2,hq2⟩:∃q,ez fP (o.take i)=q:=⟨_,rfl⟩;obtain⟨q3,hq3⟩:∃q,ez fD (o.take i)=q:=⟨_,rfl⟩;have e:Go.IntKind.i64.wrap ((i:Int)+1)=((i+1:Nat):Int):=aR aa;rw[hq1]at hs1 hb1;rw[hq2]at hs2 hb2;rw[hq3]at hs3 hb3;simp[h,Part.row,hq1,hq2,hq3];intros;have e1:Go.IntKind.i64.wrap (q1+o[i].n)=q1+o[i].n:=ae _ aa
   have e2:Go.IntKind.i64.wrap (q2+(o[i].signs.length:Int))=q2+o[i].signs.length:=ae _ aa;have e3:Go.IntKind.i64.wrap (q3+o[i].n)=q3+o[i].n:=ae _ aa;by_cases k1:o[i].kind=1
   ·simp[k1,e1]
    refine⟨i+1,aa,aa,e,?_,?_,?_⟩
    ·rw[hs1];simp[fK,k1]
    ·rw[hs2];simp[fP,k1]
    ·rw[hs3];simp[fD,k1]
   ·by_cases k2:o[i].kind=2
    ·simp[k2,e2]
     refine⟨i+1,aa,aa,e,?_,?_,?_⟩
     ·rw[hs1];simp[fK,k2]
     ·rw[hs2];simp[fP,k2]
     ·rw[hs3];simp[fD,k2]
    ·simp[k1,k2,e3]
     refine⟨i+1,aa,aa,e,?_,?_,?_⟩
     ·rw[hs1];simp[fK,k1]
     ·rw[hs2];simp[fP,k2]
     ·rw[hs3];simp[fD,k1,k2]
  ·simp[h]
   rw[aB aa];simp
 ·have e:dc (ga o)=false:=by rw[jx];exact ho
  have hr:eM o=(0,0,0):=by unfold eM;rw[aq ho]
  simp[e,hr]
noncomputable def db(o:List Part):Int:=(eM o).1+(eM o).2.2
noncomputable def oT(o:List Part):Int:=(eM o).1+(eM o).2.1
theorem HC(o:List Part):sizeOf o 2=db o:=by
 unfold sizeOf db eM
 split
 ·rename_i h
  show _=ez fK o+ez fD o
  rw[<-np];exact kj (λp hp=>abj (h.1 p hp))
 ·rfl
theorem Qe(o:List Part):sizeOf o 3=oT o:=by
 unfold sizeOf oT eM
 split
 ·rename_i h
  show _=ez fK o+ez fP o
  rw[<-np];exact kj (λp hp=>abi (h.1 p hp))
 ·rfl
theorem Ib(o:List Part):(0<=(eM o).1/\(eM o).1<=120000)/\(0<=(eM o).2.1/\(eM o).2.1<=120000)/\0<=(eM o).2.2/\(eM o).2.2<=120000:=by
 unfold eM
 split
 ·rename_i h
  have h1:=gW (f:=fK) (λp h=>Uu h) h.1;have h2:=gW (f:=fP) (λp h=>ad8 h) h.1;have h3:=gW (f:=fD) (λp h=>Ux h) h.1;have h4:=h.2;exact i9
 ·simp
theorem lz(o:List Part)(hl:nL bc o<=2^40):ar Tryz.prog 253 [.c (.s (o.map Part.row))] (.one (.c (vi (db o)) 1)):=by
 refine pci aw Tryz.func253 (λw0 base=>?_);simp;refine ag.pure (vL o hl 2) ab ?_;simp[HC]
theorem J5(o:List Part)(hl:nL bc o<=2^40):ar Tryz.prog 257 [.c (.s (o.map Part.row))] (.one (.c (vi (oT o)) 1)):=by
 refine pci aw Tryz.func257 (λw0 base=>?_);simp;refine ag.pure (vL o hl 3) ab ?_;simp[Qe]
theorem ld(o:List Part)(hl:nL bc o<=2^40):ar Tryz.prog 246 [.c (.s (o.map Part.row))] (.one (.c (vi (db o)) 1)):=by
 refine pci aw Tryz.func246 (λw0 base=>?_);simp;refine ag.pure (Ia o hl) ab ?_;have:=Ib o;have e:Go.IntKind.i64.wrap ((eM o).1+(eM o).2.2)=db o:=ae _ aa;simp[e]
theorem Jp(o:List Part)(hl:nL bc o<=2^40):ar Tryz.prog 248 [.c (.s (o.map Part.row))] (.one (.c (vi (oT o)) 1)):=by
 refine pci aw Tryz.func248 (λw0 base=>?_);simp;refine ag.pure (Ia o hl) ab ?_;have:=Ib o;have e:Go.IntKind.i64.wrap ((eM o).1+(eM o).2.1)=oT o:=ae _ aa;simp[e]
def dH(o:List Part):Prop:=ga o/\db o<=200/\oT o<=200
theorem hU(o:List Part)(hl:nL bc o<=2^40):ar Tryz.prog 233 [.c (.s (o.map Part.row))] (.one (.c (vb (dH o)) 1)):=by
 refine pci aw Tryz.func233 (λw0 base=>?_);simp;refine ag.pure (oW o hl) ab ?_;by_cases h:ga o
 ·simp[h]
  refine ag.pure (lz o hl) ab ?_;by_cases h1:db o<=200
  ·simp[h1]
   refine ag.pure (J5 o hl) ab ?_;simp[dH,h,h1]
  ·simp[h1,dH,h]
 ·simp[h,dH]
theorem gX(o:List Part)(hl:nL bc o<=2^40):ar Tryz.prog 219 [.c (.s (o.map Part.row))] (.one (.c (vb (dH o)) 1)):=by
 refine pci aw Tryz.func219 (λw0 base=>?_);simp;refine ag.pure (oP o hl) ab ?_;by_cases h:ga o
 ·simp[h]
  refine ag.pure (ld o hl) ab ?_;by_cases h1:db o<=200
  ·simp[h1]
   refine ag.pure (Jp o hl) ab ?_;simp[dH,h,h1]
  ·simp[h1,dH,h]
 ·simp[h,dH]
def bN(L:List Part)(P:List Int)(D:Int):List Part:=L++((if P=[]then []else [⟨2,0,P⟩])++(if 0<D then [⟨3,D,[]⟩]else []))
def dN(L:List Part)(n:Int):List Part:=
 if h:0<L.length then
  if(L[L.length-1]' aa).kind=1 then L.set (L.length-1) ⟨1,(L[L.length-1]' aa).n+n,(L[L.length-1]' aa).signs⟩else L++[⟨1,n,[]⟩]
 else [⟨1,n,[]⟩]
def gz(s:List Part×List Int×Int)(p:Part):List Part×List Int×Int:=
 if p.kind=2 then(s.1,s.2.1++p.signs,s.2.2)
 else if p.kind=3 then(s.1,s.2.1,s.2.2+p.n)
 else if 0<p.n then(dN (bN s.1 s.2.1 s.2.2) p.n,[],0)else s
def cr(o:List Part):List Part×List Int×Int:=o.foldl gz ([],[],0)
def normal(o:List Part):List Part:=bN (cr o).1 (cr o).2.1 (cr o).2.2
theorem kB{o:List Part}{i:Nat}(h:i<o.length):cr (o.take (i+1))=gz (cr (o.take i)) o[i]:=by
 unfold cr;exact D6
structure NbOk(m:Nat)(s:List Part×List Int×Int):Prop where
 l:s.1.length<=3*m
 p:s.2.1.length<=200*m
 d0:0<=s.2.2
 d:s.2.2<=200*m
 q:∀q∈s.1,0<=q.n/\q.n<=200*m
theorem kD(L:List Part)(P:List Int)(D:Int):(bN L P D).length<=L.length+2:=by
 unfold bN
 split<;>split<;>simp
theorem kC{L:List Part}{P:List Int}{D B:Int}(h0:0<=D)(hD:D<=B)(hL:∀q∈L,0<=q.n/\q.n<=B):∀q∈bN L P D,0<=q.n/\q.n<=B:=by
 intro q hq;unfold bN at hq;simp only[aP]at hq;rcases hq with hq|hq|hq
 ·exact hL q hq
 ·split at hq
  ·simp at hq
  ·exact y5
 ·split at hq
  ·exact y5
  ·simp at hq
theorem pt{o:List Part}(ho:∀p∈o,bb p):∀(i:Nat),i<=o.length->NbOk i (cr (o.take i))
 | 0, _ => by
   simp[cr];exact⟨ab,ab,ab,ab,ab⟩
 | i + 1, hi => by
   have ih:=pt ho i aa;have hlt:i<o.length:=aa;rw[kB hlt];have hp:=(ho _ (ak hlt)).bounds;generalize cr (o.take i)=s at ih;generalize o[i]=p at hp;obtain⟨L,P,D⟩:=s;obtain⟨h1,h2,h3,h4,h5⟩:=ih;simp only at h1 h2 h3 h4 h5;have w:∀q∈L,0<=q.n/\q.n<=200*((i+1:Nat):Int):=λq hq=>by have:=h5 q hq;omega
   unfold gz
   split
   ·exact⟨aN,aN,h3,aN,w⟩
   ·split
    ·exact⟨aN,aN,aN,aN,w⟩
    ·split
     ·have f1:=kD L P D
      have f2:=kC (P:=P) h3 h4 h5;refine⟨?_,ab,ab,aN,?_⟩
      ·simp only[dN]
       split
       ·split<;>simp<;>omega
       ·simp;omega
      ·simp only[dN]
       intro q hq
       split at hq
       ·split at hq
        ·rcases iH hq with hq|rfl
         ·have:=f2 q hq;omega
         ·have:=f2 _ (ak (show(bN L P D).length-1<(bN L P D).length from aa))
          exact i9
        ·rcases aP.1 hq with hq|hq
         ·have:=f2 q hq;omega
         ·exact y5
       ·exact y5
     ·exact⟨aN,aN,h3,aN,w⟩
theorem wU{L:List Part}{P:List Int}{D:Int}(hP:¬P=[])(hD:0<D):bN L P D=L++[⟨2,0,P⟩]++[⟨3,D,[]⟩]:=yQ
theorem wS{L:List Part}{P:List Int}{D:Int}(hP:¬P=[])(hD:¬0<D):bN L P D=L++[⟨2,0,P⟩]:=yQ
theorem wQ{L:List Part}{P:List Int}{D:Int}(hP:P=[])(hD:0<D):bN L P D=L++[⟨3,D,[]⟩]:=yQ
theorem wP{L:List Part}{P:List Int}{D:Int}(hP:P=[])(hD:¬0<D):bN L P D=L:=yQ
theorem rG{w0:World}{bF bG:Nat->Prop}{bl:Bool}{st:ASt}{dst:Option Nat}{K:ASt->Prop}{L:List Part}{P:List Int}{D:Int}{b3 b4 b5:Nat}{Hl Hp:Hd}(hL:L.length<=2^20)(_hP:P.length<=2^40)
 (g48:st.h.get 48=.vars b3 59 [.sl 5000 Hl 3 0 L.length]) (g64:st.h.get 64=.vars b4 26 [.sl 5001 Hp 1 0 P.length]) (g80:st.h.get 80=.vars b5 3 [.v (.int .i64 D)])
 (g5000:st.h.get 5000=.rows Hl 3 (L.map Part.row) true) (g5001:st.h.get 5001=.rows Hp 1 (P.map aG) true)
 (hK:∀Hl' h',AH.get h' 48=.vars b3 59 [.sl 5000 Hl' 3 0 (bN L P D).length]->AH.get h' 5000=.rows Hl' 3 ((bN L P D).map Part.row) true->AH.get h' 64=.vars b4 26 [.nil]->AH.get h' 80=.vars b5 3 [.v (.int .i64 0)] ->
  AH.get h' 128=st.h.get 128->bQ ⟨st.n,st.kb,st.t,h'⟩ dst (.tup []) K):ag ⟨Tryz.prog,tt,w0,⟨bF,bG,bl,λ_=>True⟩⟩ 275 [.p 64 b4 0,.p 48 b3 0,.p 80 b5 0] st dst K:=by
 refine inl aw Tryz.func275 20000 (λw1 F=>?_);simp[g64];by_cases hp:P=[]
 ·have hp0:¬0<P.length:=by simp[hp]
  simp[hp0,g80];by_cases hd:0<D
  ·simp[hd,g48,g5000,g80,g64]
   intro b;refine⟨aa,λH=>hK H _ ?_ ?_ ?_ ?_ ?_⟩<;>simp[wQ hp hd,Part.row]
  ·simp[hd,g80,g64]
   refine hK Hl _ ?_ ?_ ?_ ?_ ?_<;>simp[wP hp hd,g48,g5000]
 ·have hp0:0<P.length:=eN.2 hp
  simp[hp0,g80,g48,g5000,g5001,g64];intro b;refine⟨aa,λH=>?_⟩;by_cases hd:0<D
  ·simp[hd,g80,g64]
   intro b2;refine⟨aa,λH2=>hK H2 _ ?_ ?_ ?_ ?_ ?_⟩<;>simp[wU hp hd,Part.row]
  ·simp[hd,g80,g64]
   refine hK H _ ?_ ?_ ?_ ?_ ?_<;>simp[wS hp hd,Part.row]
theorem qd{F:List Part}{m:Nat}(h:m<F.length){g:List CD->List CD}{p:Part}(hg:g F[m].row=p.row):(F.map Part.row).modify m g=(F.set m p).map Part.row:=by
 apply uT
 intro j;rw[iV];simp only[ch,eQ];by_cases hj:m=j
 ·subst hj
  simp[h,hg]
 ·simp[hj]
theorem Ap(o:List Part)(ho:∀p∈o,bb p)(hl:o.length<=10000):ar Tryz.prog 268 [.c (.s (o.map Part.row))] (.one (.c (.s ((normal o).map Part.row)) 3)):=by
 refine pci aw Tryz.func268 (λw0 base=>?_);simp;intro b3 b4 b5
 refine aE eok (λx:Nat×Hd×Hd=>x.1<=o.length) (λx=>⟨73,0,[(13,.v (.int .i64 x.1)),(12,.v (.int .i64 o.length)),(11,.ro (o.map Part.row)),(3,.p 48 b3 0),(4,.p 64 b4 0),(5,.p 80 b5 0),(6,.clo 275 [.p 64 b4 0,.p 48 b3 0,.p 80 b5 0])],
  [(48, .vars b3 59 [.sl 5000 x.2.1 3 0 (cr (o.take x.1)).1.length]),(64, .vars b4 26 [.sl 5001 x.2.2 1 0 (cr (o.take x.1)).2.1.length]),(80, .vars b5 3 [.v (.int .i64 (cr (o.take x.1)).2.2)]),
   (5000,.rows x.2.1 3 ((cr (o.take x.1)).1.map Part.row) true),(5001,.rows x.2.2 1 ((cr (o.take x.1)).2.1.map aG) true)]⟩) (λx=>o.length-x.1) (0,none,none) ab (by simp[cr]) (λx hx=>Ent.refl ?_)
 obtain⟨i,Hl,Hp⟩:=x;simp only at hx⊢;have hok:=pt ho i hx;by_cases h:i<o.length
 ·have hs:=kB h
  have hpb:=(ho _ (ak h)).bounds;generalize cr (o.take i)=s at hok hs;obtain⟨L,P,D⟩:=s;obtain⟨k1,k2,k3,k4,k5⟩:=hok;simp only at k1 k2 k3 k4 k5;have e:Go.IntKind.i64.wrap ((i:Int)+1)=((i+1:Nat):Int):=aR aa;simp[h,Part.row];intro b8;by_cases c2:o[i].kind=2
  ·simp[c2]
   exact MW
  ·by_cases c3:o[i].kind=3
   ·have e3:Go.IntKind.i64.wrap (D+o[i].n)=D+o[i].n:=ae _ aa
    simp[c3,e3];exact L9
   ·by_cases cn:0<o[i].n
    ·simp[c2,c3,cn]
     refine rG (L:=L) (P:=P) (D:=D) (Hl:=Hl) (Hp:=Hp) aa aa ab ab ab ab ab (λHl' h' g48 g5000 g64 g80 g128=>?_);have f1:=kD L P D;have f2:=kC (P:=P) k3 k4 k5;have hstep:gz (L,P,D) o[i]=(dN (bN L P D) o[i].n,[],0):=by simp[gz,c2,c3,cn]
     rw[hstep]at hs;generalize bN L P D=F at f1 f2 g48 g5000 hs;simp at g128;by_cases hF:0<F.length
     ·obtain⟨m,hm⟩:∃m,F.length=m+1:=⟨F.length-1,aa⟩
      have hmlt:m<F.length:=aa;have em:Go.IntKind.i64.wrap (m:Int)=m:=fE aa
      have hk:dN F o[i].n=if F[m].kind=1 then F.set m ⟨1,F[m].n+o[i].n,F[m].signs⟩else F++[⟨1,o[i].n,[]⟩]:=by
       have e0:F.length-1=m:=aa;simp[dN,hF,e0]
      have hq:=f2 _ (ak hmlt);simp[g48,g5000,hm,em,Part.row];by_cases ck:F[m].kind=1
      ·rw[an ck]at hk
       have em2:Go.IntKind.i64.wrap (F[m].n+o[i].n)=F[m].n+o[i].n:=ae _ aa;have hmm:(m:Int)<m+1:=aa;simp[ck,hmm];refine drw eok mix [0,1,2,3,4,5,6,7,8,9,10] [11] (.c 11 11 2045 2 (.l 11 2) .s) ?_;simp[g48,g5000,g128,hm,em,Part.row,ck,em2,hmm];refine Ent.kill 5001 (Ent.refl ⟨i+1,aa,aa,Hl',none,?_⟩);rw[hs,hk];have hmod:=qd (F:=F) (m:=m) hmlt (g:=λrow=>iW row 1 [CD.v (Value.int IntKind.i64 (F[m].n+o[i].n))]) (p:=⟨1,F[m].n+o[i].n,F[m].signs⟩) yP;simp[e,g48,g64,g80,hm,hmod]
      ·rw[aq ck]at hk
       simp[ck,g48,g5000,g128,hm];refine⟨aa,λb=>⟨aa,λH=>?_⟩⟩;refine Ent.kill 5001 (Ent.refl ⟨i+1,aa,aa,H,none,?_⟩);rw[hs,hk];simp[e,Part.row,g64,g80,hm]
     ·have hF0:F=[]:=aA aa
      subst hF0;have hk:dN [] o[i].n=[⟨1,o[i].n,[]⟩]:=by simp[dN]
      simp[g48,g5000,g128];intro b H;refine Ent.kill 5001 (Ent.refl ⟨i+1,aa,aa,H,none,?_⟩);rw[hs,hk];simp[e,Part.row,g64,g80]
    ·simp[c2,c3,cn]
     refine Ent.refl ⟨i+1,aa,aa,Hl,Hp,?_⟩;rw[hs];simp[gz,c2,c3,cn,e]
 ·have he:o.take i=o:=aB aa
  rw[he]at hok⊢;have hn:normal o=bN (cr o).1 (cr o).2.1 (cr o).2.2:=rfl;rw[hn];generalize cr o=s at hok;obtain⟨L,P,D⟩:=s;obtain⟨k1,k2,k3,k4,k5⟩:=hok;simp only at k1 k2 k3 k4 k5;simp[h];refine rG (L:=L) (P:=P) (D:=D) (Hl:=Hl) (Hp:=Hp) aa aa ab ab ab ab ab (λHl' h' g48 g5000 g64 g80 g128=>?_);simp[g48,g5000]
theorem ri{w0:World}{bF bG:Nat->Prop}{bl:Bool}{st:ASt}{dst:Option Nat}{K:ASt->Prop}{L:List Part}{P:List Int}{D:Int}{b:Nat}{Hl Hp:Hd}(hL:L.length<=2^20)(_hP:P.length<=2^40)
 (g160:st.h.get 160=.vars b 261 [.sl 5000 Hl 3 0 L.length,.sl 5001 Hp 1 0 P.length,.v (.int .i64 D)])
 (g5000:st.h.get 5000=.rows Hl 3 (L.map Part.row) true) (g5001:st.h.get 5001=.rows Hp 1 (P.map aG) true)
 (hK:∀Hl' h',AH.get h' 160=.vars b 261 [.sl 5000 Hl' 3 0 (bN L P D).length,.nil,.v (.int .i64 0)]->AH.get h' 5000=.rows Hl' 3 ((bN L P D).map Part.row) true ->
  AH.get h' 80=st.h.get 80->bQ ⟨st.n,st.kb,st.t,h'⟩ dst (.tup []) K):ag ⟨Tryz.prog,tt,w0,⟨bF,bG,bl,λ_=>True⟩⟩ 273 [.p 160 b 0] st dst K:=by
 refine inl aw Tryz.func273 20000 (λw1 F=>?_);simp[g160];by_cases hp:P=[]
 ·have hp0:¬0<P.length:=by simp[hp]
  simp[hp0,g160];by_cases hd:0<D
  ·simp[hd]
   refine drw eok mix [0,1,2,3,4,5,6,7,8,9,12,13] [10,11,14] (.c 12 10 4 4091 (.c 12 11 128 3963 (.c 12 14 3961 2 (.l 12 2) .s) .s) .s) ?_;simp[g160,g5000];intro b1;refine⟨aa,λH=>hK H _ ?_ ?_ ?_⟩<;>simp[wQ hp hd,Part.row]
  ·simp[hd,g160]
   refine hK Hl _ ?_ ?_ ?_<;>simp[wP hp hd,g5000]
 ·have hp0:0<P.length:=eN.2 hp
  simp[hp0];refine drw eok mix [0,1,2,3,4,5,6,7,8,9,12,13] [10,11,14] (.c 12 10 4 4091 (.c 12 11 128 3963 (.c 12 14 3961 2 (.l 12 2) .s) .s) .s) ?_;simp[g160,g5000,g5001];intro b1;refine⟨aa,λH=>?_⟩;by_cases hd:0<D
  ·simp[hd]
   refine drw eok mix [0,1,2,3,4,5,6,7,8,9,12,13] [10,11,14] (.c 12 10 4 4091 (.c 12 11 128 3963 (.c 12 14 3961 2 (.l 12 2) .s) .s) .s) ?_;simp;intro b2;refine⟨aa,λH2=>hK H2 _ ?_ ?_ ?_⟩<;>simp[wU hp hd,Part.row]
  ·simp[hd]
   refine hK H _ ?_ ?_ ?_<;>simp[wS hp hd,Part.row]
theorem BJ{w0:World}{bF bG:Nat->Prop}{bl:Bool}{st:ASt}{dst:Option Nat}{K:ASt->Prop}{L:List Part}{P:List Int}{D n:Int}{b:Nat}{Hl Hp:Hd}(hL:L.length<=2^19)(hP:P.length<=2^40)(hn0:0<n)(hn:n<=200)(hF:∀q∈bN L P D,0<=q.n/\q.n<=2^40)
 (g160:st.h.get 160=.vars b 261 [.sl 5000 Hl 3 0 L.length,.sl 5001 Hp 1 0 P.length,.v (.int .i64 D)])
 (g5000:st.h.get 5000=.rows Hl 3 (L.map Part.row) true) (g5001:st.h.get 5001=.rows Hp 1 (P.map aG) true)
 (hK:∀Hl' h',AH.get h' 160=.vars b 261 [.sl 5000 Hl' 3 0 (dN (bN L P D) n).length,.nil,.v (.int .i64 0)]->AH.get h' 5000=.rows Hl' 3 ((dN (bN L P D) n).map Part.row) true ->
  AH.get h' 80=st.h.get 80->bQ ⟨st.n,st.kb,st.t,h'⟩ dst (.tup []) K):ag ⟨Tryz.prog,tt,w0,⟨bF,bG,bl,λ_=>True⟩⟩ 263 [.p 160 b 0,.v (.int .i64 n)] st dst K:=by
 refine inl aw Tryz.func263 30000 (λw1 F=>?_);have n0:¬n=0:=aa;simp[n0];refine ri (L:=L) (P:=P) (D:=D) (Hl:=Hl) (Hp:=Hp) aa hP (by simp[g160]) (by simp[g5000]) (by simp[g5001]) (λHl' h' k160 k5000 k80=>?_);have f1:=kD L P D;generalize bN L P D=F at f1 hF k160 k5000 hK;by_cases hF0:0<F.length
 ·obtain⟨m,hm⟩:∃m,F.length=m+1:=⟨F.length-1,aa⟩
  have hmlt:m<F.length:=aa;have hmm:(m:Int)<m+1:=aa;have em:Go.IntKind.i64.wrap (m:Int)=m:=fE aa
  have hk:dN F n=if F[m].kind=1 then F.set m ⟨1,F[m].n+n,F[m].signs⟩else F++[⟨1,n,[]⟩]:=by
   exact D9
  have hq:=hF _ (ak hmlt);have em2:Go.IntKind.i64.wrap (F[m].n+n)=F[m].n+n:=ae _ aa;simp[k160,k5000,hm,em,hmm,Part.row];by_cases ck:F[m].kind=1
  ·rw[an ck]at hk
   simp[ck];refine drw eok mix [0,1,2,3,4,5,6,7,8,9,10,11,12,13,14,15,16,17,18] [19] (.c 19 19 524285 2 (.l 19 2) .s) ?_;simp[k160,k5000,hm,em,hmm,Part.row,ck,em2];have hmod:=qd (F:=F) (m:=m) hmlt (g:=λrow=>iW row 1 [CD.v (Value.int IntKind.i64 (F[m].n+n))]) (p:=⟨1,F[m].n+n,F[m].signs⟩) yP;refine hK Hl' _ ?_ ?_ ?_
   ·simp[k160,hk,hm]
   ·simp[hk,hmod]
   ·simp[k80]
  ·rw[aq ck]at hk
   simp[ck,k160,k5000,hm];intro b1;refine⟨aa,λH=>hK H _ ?_ ?_ ?_⟩<;>simp[hk,hm,Part.row,k80]
 ·have hF1:F=[]:=aA aa
  subst hF1;have hk:dN [] n=[⟨1,n,[]⟩]:=by simp[dN]
  simp[k160,k5000];intro b1 H;refine hK H _ ?_ ?_ ?_<;>simp[hk,Part.row,k80]
open Classical in
noncomputable def dJ(o:List Part):List Part:=if dH o then normal o else []
theorem vM(o:List Part)(hl:nL bc o<=2^40):ar Tryz.prog 252 [.c (.s (o.map Part.row))] (.one (.c (.s ((dJ o).map Part.row)) 3)):=by
 refine pci aw Tryz.func252 (λw0 base=>?_);simp;refine ag.pure (hU o hl) ab ?_;by_cases h:dH o
 ·have e:dJ o=normal o:=by unfold dJ;rw[an h]
  simp[h,e];refine ag.pure (Ap o h.1.1 (by have:=h.1.2;omega)) ab ?_;simp
 ·have e:dJ o=[]:=by unfold dJ;rw[aq h]
  have e2:dc (dH o)=false:=by rw[jx];exact h
  simp[e,e2]
theorem vo(o:List Part)(hl:nL bc o<=2^40):ar Tryz.prog 247 [.c (.s (o.map Part.row))] (.one (.c (.s ((dJ o).map Part.row)) 3)):=by
 refine pci aw Tryz.func247 (λw0 base=>?_);simp;refine ag.pure (gX o hl) ab ?_;by_cases hopk:dH o
 rotate_left
 ·have e:dJ o=[]:=by unfold dJ;rw[aq hopk]
  have e2:dc (dH o)=false:=by rw[jx];exact hopk
  simp[e,e2]
 have e:dJ o=normal o:=by unfold dJ;rw[an hopk]
 have ho:=hopk.1.1;have hlen:=hopk.1.2;simp[hopk,e];intro b
 refine aE eok (λx:Nat×Hd×Hd=>x.1<=o.length) (λx=>⟨38,0,[(13,.v (.int .i64 x.1)),(12,.v (.int .i64 o.length)),(11,.ro (o.map Part.row)),(3,.p 160 b 0)],
  [(160, .vars b 261 [.sl 5000 x.2.1 3 0 (cr (o.take x.1)).1.length, .sl 5001 x.2.2 1 0 (cr (o.take x.1)).2.1.length, .v (.int .i64 (cr (o.take x.1)).2.2)]),
   (5000,.rows x.2.1 3 ((cr (o.take x.1)).1.map Part.row) true),(5001,.rows x.2.2 1 ((cr (o.take x.1)).2.1.map aG) true)]⟩) (λx=>o.length-x.1) (0,none,none) ab (by simp[cr]) (λx hx=>Ent.refl ?_)
 obtain⟨i,Hl,Hp⟩:=x;simp only at hx⊢;have hok:=pt ho i hx;by_cases h:i<o.length
 ·have hs:=kB h
  have hpb:=(ho _ (ak h)).bounds;generalize cr (o.take i)=s at hok hs;obtain⟨L,P,D⟩:=s;obtain⟨k1,k2,k3,k4,k5⟩:=hok;simp only at k1 k2 k3 k4 k5;have e:Go.IntKind.i64.wrap ((i:Int)+1)=((i+1:Nat):Int):=aR aa;simp[h,Part.row];intro b5;by_cases c1:o[i].kind=1
  ·simp[c1]
   by_cases cn:0<o[i].n
   ·have hstep:gz (L,P,D) o[i]=(dN (bN L P D) o[i].n,[],0):=by simp[gz,c1,cn]
    rw[hstep]at hs;have f2:=kC (P:=P) k3 k4 k5;refine BJ (L:=L) (P:=P) (D:=D) (Hl:=Hl) (Hp:=Hp) aa aa cn hpb.2.2.1 (λq hq=>by have:=f2 q hq;omega) ab ab ab (λHl' h' k160 k5000 k80=>?_);simp;refine Ent.kill 5001 (Ent.refl ⟨i+1,aa,aa,Hl',none,?_⟩);rw[hs];simp[e,k160,k5000]
   ·have cn0:o[i].n=0:=by omega
    refine inl aw Tryz.func263 30000 (λw1 F=>?_);simp[cn0];refine Ent.refl ⟨i+1,aa,aa,Hl,Hp,?_⟩;rw[hs];simp[gz,c1,cn0,e]
  ·by_cases c2:o[i].kind=2
   ·simp[c2]
    refine inl aw Tryz.func264 30000 (λw1 F=>?_);simp;exact MW
   ·have c3:o[i].kind=3:=by omega
    have e3:Go.IntKind.i64.wrap (D+o[i].n)=D+o[i].n:=ae _ aa;simp[c1,c2];refine inl aw Tryz.func265 30000 (λw1 F=>?_);simp[e3];exact L9
 ·have he:o.take i=o:=aB aa
  rw[he]at hok⊢;have hn:normal o=bN (cr o).1 (cr o).2.1 (cr o).2.2:=rfl;rw[hn];generalize cr o=s at hok;obtain⟨L,P,D⟩:=s;obtain⟨k1,k2,k3,k4,k5⟩:=hok;simp only at k1 k2 k3 k4 k5;simp[h];refine inl aw Tryz.func266 30000 (λw1 F=>?_);simp;refine ri (L:=L) (P:=P) (D:=D) (Hl:=Hl) (Hp:=Hp) aa aa ab ab ab (λHl' h' k160 k5000 k80=>?_);simp[k160,k5000]
theorem sY(a b:List Int)(hl:a.length<=2^40):ar Tryz.prog 78 [.c (.s (a.map aG)),.c (.s (b.map aG))] (.one (.c (vb (a=b)) 1)):=by
 refine pci aw Tryz.func78 (λw0 base=>?_);exact LI
theorem xw(a b:List Int)(hl:a.length<=2^40):ar Tryz.prog 162 [.c (.s (a.map aG)),.c (.s (b.map aG))] (.one (.c (vb (a=b)) 1)):=by
 refine pci aw Tryz.func162 (λw0 base=>?_);exact LI
theorem Ju(p q:Part)(hl:p.signs.length<=2^40):ar Tryz.prog 255 [.agg p.row,.agg q.row] (.one (.c (vb (p=q)) 1)):=by
 refine pci aw Tryz.func255 (λw0 base=>?_);obtain⟨k1,n1,s1⟩:=p;obtain⟨k2,n2,s2⟩:=q;simp[Part.row];intro b1 b2;by_cases h1:k1=k2
 ·by_cases h2:n1=n2
  ·simp[h1,h2]
   refine ag.pure (sY s1 s2 hl) ab ?_;simp
  ·simp[h1,h2]
 ·simp[h1]
theorem IH(a b:List Part)(hl:a.length<=2^40)(hs:∀p∈a,p.signs.length<=2^40):ar Tryz.prog 254 [.c (.s (a.map Part.row)),.c (.s (b.map Part.row)),.c (.v (.func (.func 255) #[] #[]))] (.one (.c (vb (a=b)) 1)):=by
 refine pci aw Tryz.func254 (λw0 base=>?_);by_cases h:a.length=b.length
 ·simp[h]
  refine aV.intro eok (λi:Nat=>i<=a.length/\a.take i=b.take i) (λi=>⟨32,0,[(17,.v (.int .i64 i)),(16,.v (.int .i64 b.length)),(15,.ro (a.map Part.row)),(2,.v (.func (.func 255) #[] #[])),(1,.ro (b.map Part.row))],[]⟩) (λi=>a.length-i) 0 ab ab (λi hi=>?_);by_cases hlt:i<a.length
  ·have hlt':i<b.length:=by omega
   simp[hlt,hlt',Part.row];intro b1 b2;refine ag.pure (Ju a[i] b[i] (hs _ (ak hlt))) gw ?_;exact mR
  ·exact DZ
 ·exact j5
theorem Th(a b:List Part)(hl:a.length<=2^40)(hs:∀p∈a,p.signs.length<=2^40):ar Tryz.prog 230 [.c (.s (a.map Part.row)),.c (.s (b.map Part.row))] (.one (.c (vb (a=b)) 1)):=by
 refine pci aw Tryz.func230 (λw0 base=>?_);simp;refine ag.pure (IH a b hl hs) ab ?_;simp
theorem Fi(a b:List Part)(hl:a.length<=2^40)(hs:∀p∈a,p.signs.length<=2^40):ar Tryz.prog 215 [.c (.s (a.map Part.row)),.c (.s (b.map Part.row))] (.one (.c (vb (a=b)) 1)):=by
 refine pci aw Tryz.func215 (λw0 base=>?_);by_cases h:a.length=b.length
 ·simp[h]
  refine aV.intro eok (λi:Nat=>i<=a.length/\a.take i=b.take i) (λi=>⟨49,0,[(14,.v (.int .i64 i)),(13,.v (.int .i64 b.length)),(12,.ro (a.map Part.row)),(1,.ro (b.map Part.row))],[]⟩) (λi=>a.length-i) 0 ab ab (λi hi=>?_);by_cases hlt:i<a.length
  ·have hlt':i<b.length:=by omega
   simp[hlt,hlt',Part.row];intro b1;refine aY.quiet eok mix al ?_;simp[hlt',Part.row];by_cases h1:a[i].kind=b[i].kind
   ·by_cases h2:a[i].n=b[i].n
    ·simp[h1,h2,hlt',Part.row]
     refine⟨_,_,xw a[i].signs b[i].signs (hs _ (ak hlt)),ab,?_⟩;simp;by_cases h3:a[i].signs=b[i].signs
     ·simp[h3]
      have he:a[i]=b[i]:=by
       cases hx:a[i];cases hy:b[i]
       rw[hx,hy]at h1 h2 h3;simp at h1 h2 h3;rw[h1,h2,h3]
      exact⟨i+1,⟨aa,sW hlt hlt' hi.2 he⟩,aa,aR aa⟩
     ·simp[h3,jx]
      exact CO hlt hlt' (λhe=>h3 (by rw[he]))
    ·simp[h1,h2,hlt',Part.row,jx]
     exact CO hlt hlt' (λhe=>h2 (by rw[he]))
   ·simp[h1,jx]
    exact CO hlt hlt' (λhe=>h1 (by rw[he]))
  ·exact DZ
 ·exact j5
theorem qn(a b:List Part)(h:nL bc a<=2^40):ar Tryz.prog 230 [.c (.s (a.map Part.row)),.c (.s (b.map Part.row))] (.one (.c (vb (a=b)) 1)):=Th a b (aS h) (λ_p hp=>gA h hp)
theorem tQ(a b:List Part)(h:nL bc a<=2^40):ar Tryz.prog 215 [.c (.s (a.map Part.row)),.c (.s (b.map Part.row))] (.one (.c (vb (a=b)) 1)):=Fi a b (aS h) (λ_p hp=>gA h hp)
theorem kA{α:Type}{f:α->Nat}:∀(a b:List α),cK f (a++b)=cK f a+cK f b
 | [],b=>by simp[cK]
 |x::a,b=>by simp only[dn,cK,kA a b];omega
theorem G5{α:Type}{f:α->Nat}:∀(l:List α) (i:Nat) (h:i<l.length) (x:α),f x=f l[i]->cK f (l.set i x)=cK f l
 |a::l,0,_,x,hx=>by simp at hx;simp[cK,hx]
 | a :: l, i + 1, h, x, hx => by
   simp only[GW,cK];rw[G5 l i mN x oa]
theorem xD{L:List Part}{P:List Int}{D:Int}:cK bc (bN L P D)=cK bc L+P.length:=by
 unfold bN;rw[kA,kA];by_cases hp:P=[]<;>by_cases hd:0<D<;>simp[hp,hd,cK,bc]
theorem JO{L:List Part}{n:Int}:cK bc (dN L n)=cK bc L:=by
 unfold dN
 split
 ·rename_i h
  split
  ·exact G5 L _ aa _ rfl
  ·rw[kA];simp[cK,bc]
 ·rename_i h
  have:L=[]:=aA aa;subst this;simp[cK,bc]
theorem CQ{o:List Part}:∀(i:Nat),i<=o.length->cK bc (cr (o.take i)).1+(cr (o.take i)).2.1.length<=cK bc (o.take i)
 |0,_=>by simp[cr,cK]
 | i + 1, hi => by
   have ih:=CQ (o:=o) i aa;have hlt:i<o.length:=aa;rw[kB hlt,<-bd hlt,kA];generalize cr (o.take i)=s at ih;generalize o[i]=p;obtain⟨L,P,D⟩:=s;simp only at ih;have hp:cK bc [p]=p.signs.length:=by simp[cK,bc]
   rw[hp];unfold gz
   split
   ·simp;omega
   ·split
    ·simp;omega
    ·split
     ·simp only[JO,xD];simp;omega
     ·simp;omega
theorem JL(o:List Part):cK bc (normal o)<=cK bc o:=by
 have h:=CQ (o:=o) o.length aa;rw[cU]at h;unfold normal;rw[xD];exact h
theorem JM{o:List Part}(ho:∀p∈o,bb p):(normal o).length<=3*o.length+2:=by
 have h:=(pt ho o.length aa).l;rw[cU]at h;have:=kD (cr o).1 (cr o).2.1 (cr o).2.2;unfold normal;omega
theorem zN{o:List Part}(ho:∀p∈o,bb p):cK bc o<=200*o.length:=by
 induction o with
 |nil=>simp[cK]
 | cons p o ih =>
   have h1:=(ho p (aJ ..)).bounds;have h2:=ih (λq hq=>ho q (aC _ hq));simp only[cK,bc,cI];omega
theorem HJ{o:List Part}(ho:∀p∈o,bb p):nL bc o<=201*o.length:=by
 have:=zN ho;unfold nL;omega
theorem pw{o:List Part}(ho:∀p∈o,bb p):nL bc (normal o)<=203*o.length+2:=by
 have h1:=JL o;have h2:=JM ho;have h3:=zN ho;unfold nL;omega
theorem vy(o:List Part):nL bc (dJ o)<=2^20:=by
 unfold dJ
 split
 ·rename_i h
  have:=pw h.1.1;have:=h.1.2;omega
 ·simp[nL,cK]
def lq(o:List Part):Prop:=dH o/\dJ o=o
theorem FX(o:List Part)(hl:nL bc o<=2^40):ar Tryz.prog 227 [.c (.s (o.map Part.row))] (.one (.c (vb (lq o)) 1)):=by
 refine pci aw Tryz.func227 (λw0 base=>?_);simp;refine ag.pure (hU o hl) ab ?_;by_cases h:dH o
 ·simp[h]
  refine ag.pure (vM o hl) ab ?_;simp;intro H;refine ag.pure (qn o (dJ o) hl) ab ?_;simp[lq,h];exact IJ ⟨λh=>h.symm,λh=>h.symm⟩
 ·simp[h,lq]
theorem Fk(o:List Part)(hl:nL bc o<=2^40):ar Tryz.prog 217 [.c (.s (o.map Part.row))] (.one (.c (vb (lq o)) 1)):=by
 refine pci aw Tryz.func217 (λw0 base=>?_);simp;refine ag.pure (gX o hl) ab ?_;by_cases h:dH o
 ·simp[h]
  refine ag.pure (vo o hl) ab ?_;simp;intro H;refine ag.pure (tQ (dJ o) o (dP (vy o) ah)) ab ?_;simp[lq,h]
 ·simp[h,lq]
def eL(t:List Int):Prop:=t.length<=200/\ja t
theorem lu(t:List Int)(hl:t.length<=2^40):ar Tryz.prog 184 [.c (.s (t.map aG))] (.one (.c (vb (eL t)) 1)):=by
 refine pci aw Tryz.func184 (λw0 base=>?_);by_cases h:t.length<=200
 ·have h':(t.length:Int)<=200:=by omega
  simp[h'];refine ag.pure (tT t hl) ab ?_;simp[eL,h]
 ·have h':¬(t.length:Int)<=200:=by omega
  simp[h',eL,h]
theorem mU(t:List Int)(hl:t.length<=2^40):ar Tryz.prog 161 [.c (.s (t.map aG))] (.one (.c (vb (eL t)) 1)):=by
 refine pci aw Tryz.func161 (λw0 base=>?_);simp;refine ag.pure (tN t hl) ab ?_;have e:((t.length:Int)<=200)=(t.length<=200):=aN;by_cases hg:ja t
 ·simp[hg,eL,e]
 ·simp[hg,eL]
def psz(p:Part):Nat:=p.n.toNat+p.signs.length
def iI(p:Part)(n:Nat):Part:=if p.kind=2 then⟨p.kind,p.n,p.signs.take n⟩else⟨p.kind,n,p.signs⟩
def cJ(p:Part)(n:Nat):Part:=if p.kind=2 then⟨p.kind,p.n,p.signs.drop n⟩else⟨p.kind,p.n-n,p.signs⟩
theorem jb{p:Part}(h:bb p):(psz p:Int)=p.n+p.signs.length/\psz p<=200:=by
 have hb:=h.bounds;unfold psz;by_cases hk:p.kind=2
 ·have:=hb.2.2.2.2.1 hk
  omega
 ·have:=hb.2.2.2.2.2 hk
  rw[this];simp;omega
@[simp] theorem acc {p:Part} {n:Nat}:(iI p n).kind=p.kind:=by unfold iI;split<;>rfl
@[simp] theorem aao {p:Part} {n:Nat}:(cJ p n).kind=p.kind:=by unfold cJ;split<;>rfl
theorem s8{p:Part}(h:bb p){n:Nat}(hn:n<=psz p):bb (iI p n):=by
 have hp:=jb h;unfold iI;by_cases hk:p.kind=2
 ·rw[an hk]
  rw[kl hk]at h;refine .inr ⟨hk,h.1,?_,λm hm=>h.2.2 m (br hm)⟩;simp;omega
 ·rw[aq hk]
  have hb:=h.bounds;have hk2:p.kind=1\/p.kind=3:=aa;have:=hb.2.2.2.2.2 hk;refine .inl ⟨hk2,?_,this⟩;exact i9
theorem Hy{p:Part}(h:bb p){n:Nat}(hn:n<=psz p):bb (cJ p n):=by
 have hp:=jb h;unfold cJ;by_cases hk:p.kind=2
 ·rw[an hk]
  rw[kl hk]at h;refine .inr ⟨hk,h.1,?_,λm hm=>h.2.2 m (a8 hm)⟩;simp;omega
 ·rw[aq hk]
  have hb:=h.bounds;have hk2:p.kind=1\/p.kind=3:=aa;have:=hb.2.2.2.2.2 hk;refine .inl ⟨hk2,?_,this⟩;rw[this]at hp;simp at hp;exact i9
theorem mh{p:Part}(h:bb p){n:Nat}(hn:n<=psz p):psz (cJ p n)=psz p-n:=by
 have hb:=h.bounds;unfold psz cJ at *;by_cases hk:p.kind=2
 ·rw[an hk]
  have:=hb.2.2.2.2.1 hk;simp only[this,iq]at hn⊢;omega
 ·rw[aq hk]
  have:=hb.2.2.2.2.2 hk;simp only[this,iN]at hn⊢;omega
theorem gp{p:Part}(h:bb p):iI p (psz p)=p:=by
 have hb:=h.bounds;unfold psz iI;by_cases hk:p.kind=2
 ·rw[an hk]
  have:=hb.2.2.2.2.1 hk;rw[aB aa]
 ·rw[aq hk]
  have:=hb.2.2.2.2.2 hk;obtain⟨k,n,s⟩:=p;simp only at this hb;subst this;simp;omega
theorem Hx{p:Part}{m n:Nat}:cJ (cJ p m) n=cJ p (m+n):=by
 unfold cJ;by_cases hk:p.kind=2
 ·simp[hk,List.drop_drop]
 ·simp[hk]
  omega
theorem JE{p:Part}:cJ p 0=p:=by unfold cJ;split<;>simp
def nxt:List Part->List Part
 | []=>[]
 |p::l=>if psz p=0 then nxt l else p::l
def tsz:List Part->Nat
 | []=>0
 |p::l=>psz p+tsz l
def frs:List Part->Nat
 | []=>0
 |p::l=>(if p.kind=2 then 0 else psz p)+frs l
def tos:List Part->Nat
 | []=>0
 |p::l=>(if p.kind=3 then 0 else psz p)+tos l
theorem FC:∀l:List Part,tsz (nxt l)=tsz l
 | []=>rfl
 | p :: l => by
   unfold nxt
   split
   ·rename_i h;rw[FC l];simp[tsz,h]
   ·rfl
theorem m5:∀l:List Part,frs (nxt l)=frs l
 | []=>rfl
 | p :: l => by
   unfold nxt
   split
   ·rename_i h;rw[m5 l];simp[frs,h]
   ·rfl
theorem iD:∀{l:List Part}{p:Part}{l':List Part},nxt l=p::l'->0<psz p
 | [],p,l',h=>by simp[nxt]at h
 | q :: l, p, l', h => by
   unfold nxt at h
   split at h
   ·exact iD h
   ·simp at h;rw[<-h.1];omega
theorem gK:∀l:List Part,nxt (nxt l)=nxt l
 | []=>rfl
 | p :: l => by
   by_cases h:psz p=0
   ·simp only[nxt,h,du];exact gK l
   ·simp only[nxt,h,dv]
theorem uA:∀l:List Part,∃k,k<=l.length/\nxt l=l.drop k/\∀i,(h:i<l.length)->i<k->psz l[i]=0
 | []=>⟨0,ab,rfl,λi h=>ik⟩
 | p :: l => by
   by_cases h:psz p=0
   ·obtain⟨k,h1,h2,h3⟩:=uA l
    refine⟨k+1,aN,by simp[nxt,h,h2],λi hi hk=>?_⟩
    cases i with
    |zero=>simpa using h
    |succ i=>simpa using h3 i ee aa
   ·exact⟨0,ab,by simp[nxt,h],λi _ hk=>aa⟩
theorem oy{l:List Part}{p:Part}(h:p∈nxt l):p∈l:=by
 obtain⟨k,_,h2,_⟩:=uA l;rw[h2]at h;exact a8 h
theorem OW(l:List Part):(nxt l).length<=l.length:=by
 obtain⟨k,_,h2,_⟩:=uA l;rw[h2];simp
theorem pz{l l':List Part}{p:Part}{n:Nat}(hl:∀q∈l,bb q)(he:nxt l=p::l')(hn:n<=psz p):∀q∈cJ p n::l',bb q:=by
 intro q hq;rcases aX.1 hq with rfl|hq
 ·exact Hy (hl p (oy (he ▸ aJ ..))) hn
 ·exact hl q (oy (he ▸ aC _ hq))
theorem ka{l l':List Part}{p:Part}(hl:∀q∈l,bb q)(he:nxt l=p::l'):bb p/\∀q∈p::l',bb q:=
 ⟨hl p (oy (he ▸ aJ ..)),λq hq=>hl q (oy (he ▸ hq))⟩
abbrev XR:=(List Part×List Part)×List Part×List Part
def fT(x y:List Part):Option XR:=
 match nxt x with
 | p :: x' => if p.kind = 2 then some (([iI p (psz p)], [⟨1, p.signs.length, []⟩]), cJ p (psz p) :: x', y) else match nxt y with
   | q :: y' => if q.kind = 2 then some (([⟨1, q.signs.length, []⟩], [iI q (psz q)]), p :: x', cJ q (psz q) :: y') else
       some ((if q.kind=1 then [iI p (min (psz p) (psz q))]else [],if p.kind=1 then [iI q (min (psz p) (psz q))]else []),cJ p (min (psz p) (psz q))::x',cJ q (min (psz p) (psz q))::y')
   | []=>none
 | [] => match nxt y with
   |q::y'=>if q.kind=2 then some (([⟨1,q.signs.length,[]⟩],[iI q (psz q)]),[],cJ q (psz q)::y')else none
   | []=>none
structure TInv(x y:List Part):Prop where
 px:∀p∈x,bb p
 py:∀p∈y,bb p
 b:frs x=frs y
structure TNext(x y:List Part)(r:XR):Prop where
 inv:TInv r.2.1 r.2.2
 dec:tsz r.2.1+tsz r.2.2<tsz x+tsz y
 okx:∀p∈r.1.1,bb p
 oky:∀p∈r.1.2,bb p
 lenx:r.1.1.length<=1
 leny:r.1.2.length<=1
theorem JY{p:Part}(h:bb p):bb ⟨1,p.signs.length,[]⟩:=by
 have:=h.bounds;exact .inl ⟨.inl rfl,gI,rfl⟩
theorem gV{x y:List Part}(hi:TInv x y){r:XR}(h:fT x y=some r):TNext x y r:=by
 have hx:=FC x;have hy:=FC y;have hxt:=m5 x;have hyf:=m5 y;have hb:=hi.b;unfold fT at h
 cases ex:nxt x with
 | nil =>
   rw[ex]at h hx hxt
   cases ey:nxt y with
   |nil=>simp[ey]at h
   | cons q y' =>
     rw[ey]at hy hyf;have hq:=ka hi.py ey;have hp:=iD ey;simp only[ey]at h
     split at h
     ·rename_i k
      cases h
      have hs:=mh hq.1 (aH _);refine⟨⟨ab,pz hi.py ey (aH _),?_⟩,?_,?_,?_,ab,ab⟩
      ·simp[frs,k]at hxt hyf⊢;omega
      ·simp[tsz]at hx hy⊢;omega
      ·intro p hp;simp at hp;subst hp;exact JY hq.1
      ·intro p hp;simp at hp;subst hp;exact s8 hq.1 (aH _)
     ·cases h
 | cons p x' =>
   rw[ex]at h hx hxt;have hp:=ka hi.px ex;have hpp:=iD ex;simp only at h
   split at h
   ·rename_i k
    cases h
    have hs:=mh hp.1 (aH _);refine⟨⟨pz hi.px ex (aH _),hi.py,?_⟩,?_,?_,?_,ab,ab⟩
    ·simp[frs,k]at hxt⊢;omega
    ·simp[tsz]at hx⊢;omega
    ·intro q hq;simp at hq;subst hq;exact s8 hp.1 (aH _)
    ·intro q hq;simp at hq;subst hq;exact JY hp.1
   ·rename_i k3
    cases ey:nxt y with
    |nil=>simp[ey]at h
    | cons q y' =>
      rw[ey]at hy hyf;have hq:=ka hi.py ey;have hqp:=iD ey;simp only[ey]at h
      split at h
      ·rename_i k
       cases h
       have hs:=mh hq.1 (aH _);refine⟨⟨hp.2,pz hi.py ey (aH _),?_⟩,?_,?_,?_,ab,ab⟩
       ·simp[frs,k,k3]at hxt hyf⊢;omega
       ·simp[tsz]at hx hy⊢;omega
       ·intro p hp;simp at hp;subst hp;exact JY hq.1
       ·intro p hp;simp at hp;subst hp;exact s8 hq.1 (aH _)
      ·rename_i k2
       cases h
       have hn1:min (psz p) (psz q)<=psz p:=aa;have hn2:min (psz p) (psz q)<=psz q:=aa;have hs1:=mh hp.1 hn1;have hs2:=mh hq.1 hn2;refine⟨⟨pz hi.px ex hn1,pz hi.py ey hn2,?_⟩,?_,?_,?_,?_,?_⟩
       ·simp[frs,k2,k3]at hxt hyf⊢;omega
       ·simp[tsz]at hx hy⊢;omega
       ·intro r hr
        simp only at hr
        split at hr
        ·simp at hr;subst hr;exact s8 hp.1 hn1
        ·simp at hr
       ·intro r hr
        simp only at hr
        split at hr
        ·simp at hr;subst hr;exact s8 hq.1 hn2
        ·simp at hr
       ·simp only;split<;>simp
       ·simp only;split<;>simp
noncomputable def xfK:Nat->List Part->List Part->List Part×List Part
 |0,_,_=>([],[])
 | k + 1, x, y => match fT x y with
   |none=>([],[])
   |some r=>(r.1.1++(xfK k r.2.1 r.2.2).1,r.1.2++(xfK k r.2.1 r.2.2).2)
noncomputable def xf(x y:List Part):List Part×List Part:=xfK (tsz x+tsz y) x y
theorem RH:∀(k m:Nat) {x y:List Part},TInv x y->tsz x+tsz y<=k->tsz x+tsz y<=m->xfK k x y=xfK m x y
 |0,0,_,_,_,_,_=>rfl
 | k + 1, 0, x, y, hi, h, h2 => by
   rw[xfK,xfK];exact Et
 | 0, m + 1, x, y, hi, h, h2 => by
   rw[xfK,xfK];exact Et
 | k + 1, m + 1, x, y, hi, h, h2 => by
   rw[xfK,xfK]
   cases hs:fT x y with
   |none=>rfl
   | some r =>
     have hn:=gV hi hs;have:=hn.dec;simp only;rw[RH k m hn.inv aa aa]
theorem KX{x y:List Part}(h:fT x y=none):xf x y=([],[]):=by
 unfold xf
 cases tsz x+tsz y with
 |zero=>rfl
 |succ k=>rw[xfK,h]
theorem VG{x y:List Part}(hi:TInv x y){r:XR}(h:fT x y=some r):xf x y=(r.1.1++(xf r.2.1 r.2.2).1,r.1.2++(xf r.2.1 r.2.2).2):=by
 have hn:=gV hi h;have hd:=hn.dec;unfold xf;obtain⟨k,hk⟩:∃k,tsz x+tsz y=k+1:=⟨tsz x+tsz y-1,aa⟩;rw[hk,xfK,h];simp only;rw[RH k (tsz r.2.1+tsz r.2.2) hn.inv aa aa]
theorem Gb:∀{o:List Part},(∀p∈o,bb p)->(frs o:Int)=ez (qw 2) o
 | [],_=>rfl
 | p :: o, h => by
   have ih:=Gb (λq hq=>h q (aC _ hq));have hp:=jb (h p (aJ ..));simp only[frs,ez,qw]
   split<;>simp<;>omega
theorem DA:∀{o:List Part},(∀p∈o,bb p)->(tos o:Int)=ez (qw 3) o
 | [],_=>rfl
 | p :: o, h => by
   have ih:=DA (λq hq=>h q (aC _ hq));have hp:=jb (h p (aJ ..));simp only[tos,ez,qw]
   split<;>simp<;>omega
theorem pC{o:List Part}(h:dH o):(frs o:Int)=db o:=by
 rw[Gb h.1.1,kj (λp hp=>abj (h.1.1 p hp)),np];unfold db eM;rw[an h.1]
theorem wo{o:List Part}(h:dH o):(tos o:Int)=oT o:=by
 rw[DA h.1.1,kj (λp hp=>abi (h.1.1 p hp)),np];unfold oT eM;rw[an h.1]
theorem Jg:∀(o:List Part),tsz o<=frs o+tos o
 | []=>by simp[tsz]
 | p :: o => by
   have:=Jg o;simp only[tsz,frs,tos]
   split<;>split<;>omega
theorem Dz{o:List Part}(h:dH o):tsz o<=400:=by
 have h1:=Jg o;have h2:=pC h;have h3:=wo h;have:=h.2;omega
theorem yB{a b:List Part}(ha:dH a)(hb:dH b)(h:db a=db b):TInv a b:=by
 have h2:=pC hb;have h3:=pC ha;exact⟨ha.1.1,hb.1.1,aa⟩
open Classical in
noncomputable def bu(a b:List Part):List Part×List Part×Bool:=
 if dH a/\dH b/\db a=db b then(if dH (normal (xf a b).1)/\dH (normal (xf a b).2)then(normal (xf a b).1,normal (xf a b).2,true)else([],[],false))else([],[],false)
def cur(o:List Part)(i d:Nat):List Part:=
 match o.drop i with
 | []=>[]
 |p::l=>cJ p d::l
theorem Gu{o:List Part}{i d:Nat}(h:o.length<=i):cur o i d=[]:=by unfold cur;rw[bm h]
theorem A6{o:List Part}{i d:Nat}(h:i<o.length):cur o i d=cJ o[i] d::o.drop (i+1):=by unfold cur;rw[dj h]
theorem IK{o:List Part}{i:Nat}:cur o i 0=o.drop i:=by
 unfold cur
 cases o.drop i with
 |nil=>rfl
 |cons p l=>simp[JE]
theorem UM{o:List Part}(ho:∀p∈o,bb p){i:Nat}(h:i<o.length):nxt (cur o i (psz o[i]))=nxt (cur o (i+1) 0):=by
 rw[A6 h,IK];have:=mh (ho _ (ak h)) (aH _);simp[nxt,this]
theorem UL{o:List Part}(ho:∀p∈o,bb p){i d:Nat}(h:i<o.length)(hd:d<psz o[i]):nxt (cur o i d)=cur o i d:=by
 rw[A6 h];have:=mh (ho _ (ak h)) (acl hd);have h2:¬psz (cJ o[i] d)=0:=aa;simp[nxt,h2]
theorem UN{o:List Part}{i d n:Nat}(h:i<o.length){p:Part}{l:List Part}(hc:cur o i d=p::l):cJ p n::l=cur o i (d+n):=by
 rw[A6 h]at hc⊢
 cases hc
 rw[Hx]
theorem eD{k j:Nat}{o:AObj}{h:AH}(hne:j≠k):AH.get ((k,o)::h) j=AH.get h j:=aq hne
theorem ql(p:Part)(h:bb p):ar Tryz.prog 276 [.agg p.row] (.one (.c (vi (psz p)) 1)):=by
 refine pci aw Tryz.func276 (λw0 base=>?_);have hp:=jb h;have e:Go.IntKind.i64.wrap (p.n+(p.signs.length:Int))=p.n+p.signs.length:=ae _ aa;rw[hp.1];simp[Part.row,e]
def hdV:List Part->AV
 | []=>.agg [.v (.int .i64 0),.v (.int .i64 0),.nil]
 |p::_=>.agg [.v (.int .i64 p.kind),.v (.int .i64 p.n),.ro (p.signs.map aG)]
theorem Qi{w0:World}{bF bG:Nat->Prop}{bl:Bool}{st:ASt}{dst:Option Nat}{K:ASt->Prop}{kx b kb:Nat}{l:List Part}(hk:kx+16<kb)(hs:∀p∈l,bb p)
 (g:st.h.get kx=.vars b 281 [.ro (l.map Part.row)])
 (hK:∀h',AH.get h' kx=.vars b 281 [.ro ((nxt l).map Part.row)]->(∀q,q≠kx->q<kb->AH.get h' q=st.h.get q)->bQ ⟨st.n,st.kb,st.t,h'⟩ dst (hdV (nxt l)) K) :
 ag ⟨Tryz.prog,tt,w0,⟨bF,bG,bl,λ_=>True⟩⟩ 283 [.p kx b 0] st dst K:=by
 refine inl aw Tryz.func283 kb (λw1 F=>?_);simp;intro b2;have hkk:¬kx=kb+32:=aa;have hkk2:¬kb+32=kx:=aa;refine wh eok (λm:List Part=>nxt m=nxt l/\∀p∈m,p∈l) (λm=>⟨40,kb,[(0,.p kx b 0),(2,.p (kb+32) b2 0)],(kx,.vars b 281 [.ro (m.map Part.row)])::(kb+32,.vars b2 181 [.v (.int .i64 0),.v (.int .i64 0),.nil])::st.h⟩) (λm=>m.length) l ⟨rfl,λ_ h=>h⟩ (by simp[hkk,g]) (λm hm=>?_)
 ·cases m with
  | nil =>
    have hn:nxt l=[]:=by rw[<-hm.1];rfl
    rw[hn]at hK;simp[hkk2];refine hK _ (by simp[hkk]) (λq q1 q2=>?_)
    repeat (first|exact rfl|refine(eD aa).trans ?_)
  | cons p m =>
    have hp:=hs p (hm.2 p (aJ ..));simp[Part.row];refine ag.pure (ql p hp) gw ?_;by_cases hz:psz p=0
    ·simp[hz,hkk,hkk2]
     refine⟨m,⟨by rw[<-hm.1];simp[nxt,hz],λq hq=>hm.2 q (aC _ hq)⟩,aa,?_⟩;simp[cut];exact ve
    ·have hn:nxt l=p::m:=by rw[<-hm.1];simp[nxt,hz]
     rw[hn]at hK;have hm0:¬(m.length:Int)+1=0:=aa;simp[hz,hkk2,hm0];refine hK _ ?_ (λq q1 q2=>?_)
     ·simp[hkk,Part.row]
     repeat (first|exact rfl|refine(eD aa).trans ?_)
theorem UJ(s:List Int){n:Nat}(_h:n<=s.length):cut (s.map aG) 0 n=(s.take n).map aG:=by
 unfold cut
 split
 ·rename_i h2
  rw[aB (by simp at h2;omega)]
 ·simp
theorem UK(s:List Int){n:Nat}:cut (s.map aG) n (s.length-n)=(s.drop n).map aG:=by
 unfold cut
 split
 ·rename_i h2
  rw[h2.1];simp
 ·rw[aB ab,mz]
theorem Cn{w0:World}{bF bG:Nat->Prop}{bl:Bool}{st:ASt}{dst:Option Nat}{K:ASt->Prop}{kx b n:Nat}{p:Part}{l:List Part}(hk:kx<15000)(hp:bb p)(hn:n<=psz p)(hl:l.length<=2^20)
 (g:st.h.get kx=.vars b 281 [.ro ((p::l).map Part.row)])
 (hK:∀h',AH.get h' kx=.vars b 281 [.ro ((cJ p n::l).map Part.row)]->(∀q,q≠kx->q<15000->AH.get h' q=st.h.get q)->bQ ⟨st.n,st.kb,st.t,h'⟩ dst (hdV [iI p n]) K) :
 ag ⟨Tryz.prog,tt,w0,⟨bF,bG,bl,λ_=>True⟩⟩ 285 [.p kx b 0,.v (.int .i64 n)] st dst K:=by
 refine Ci aw Tryz.func285 al rfl rfl rfl (ai rfl) 20000 (λw1 F=>?_);have hps:=jb hp;have hb:=hp.bounds;have k0:¬kx=20064:=aa;have k1:¬kx=20080:=aa;have k2:¬kx=20096:=aa;have k3:¬kx=20112:=aa;have k4:¬kx=20608:=aa;have j0:¬20064=kx:=aa;have j1:¬20080=kx:=aa;have j2:¬20096=kx:=aa;have j3:¬20112=kx:=aa;have j4:¬20608=kx:=aa;simp[g,Part.row,k0];intro b4 b5
 refine aY.cut (λx:Nat×Nat=>⟨48,20000,[(0,.p kx b 0),(1,.v (.int .i64 n)),(4,.p 20064 b4 0),(5,.p 20080 b5 0),(6,.p 20096 x.1 0),(7,.p 20112 x.2 0)],
  (20096,.vars x.1 181 [.v (.int .i64 p.kind),.v (.int .i64 p.n),.ro (p.signs.map aG)])::(20112,.vars x.2 181 [.v (.int .i64 p.kind),.v (.int .i64 p.n),.ro (p.signs.map aG)])::(20080,.vars b5 181 [.v (.int .i64 p.kind),.v (.int .i64 p.n),.ro (p.signs.map aG)])::(20064,.vars b4 181 [.v (.int .i64 0),.v (.int .i64 0),.nil])::st.h⟩) ?_ ?_
 ·refine drw eok mix [0,1] [2,3,4,5] (.c 2 2 0 3 (.c 2 3 0 3 (.c 2 4 2 1 (.c 2 5 1 0 (.l 2 0) .s) .s) .s) (.c 2 3 0 3 (.c 2 2 0 3 (.c 2 4 2 1 (.c 2 5 1 0 (.l 2 0) .s) .s) .s) .s)) ?_
  simp;rw[Trc];refine⟨?_,?_⟩<;>simp
 rintro⟨b6,b7⟩
 simp;by_cases hk2:p.kind=2
 ·simp[hk2]
  refine drw eok mix [0,1,2,3,4,5,6,7,8,10] [9,11] (.c 10 9 962 61 (.c 10 11 61 0 (.l 10 0) .s) .s) ?_;have hns:n<=p.signs.length:=by have:=hb.2.2.2.2.1 hk2;omega
  simp[hns];refine drw eok mix [0,1,3,4,5,6,7,9,10] [2,8,11] (.c 9 2 128 383 (.c 9 8 4 379 (.c 9 11 377 2 (.l 9 2) .s) .s) .s) ?_
  have ct:cut ([vi p.kind,vi p.n,CD.s (p.signs.map aG)]::l.map Part.row) 1 l.length=l.map Part.row:=by
   simp[cut];exact ve
  have hv:hdV [iI p n]=.agg [.v (.int .i64 2),.v (.int .i64 p.n),.ro ((p.signs.map aG).take n)]:=by simp[hdV,iI,hk2]
  rw[hv]at hK;simp[g,Part.row,k0,k1,k2,k3,k4,j0,j3,ct,UJ p.signs hns,UK p.signs];intro b8;refine⟨aa,λH=>⟨_,I8 (kx:=kx) (b:=b) (T:=281) (cells:=[.sl 20608 H 3 0 (1+l.length)]) (j:=0) (k:=20608) (sz:=3) (off:=0) (len:=1+l.length) (H:=H) (rows:=(cJ p n).row::l.map Part.row) (own:=false) ?_ rfl ?_ aN,?_⟩⟩
  ·simp[k0]
  ·simp[j4,Part.row,cJ,hk2]
  ·refine hK _ ?_ (λq q1 q2=>?_)
   ·simp[cut,Nat.add_comm]
   ·repeat (first|exact rfl|refine(eD aa).trans ?_)
 ·simp[hk2]
  refine drw eok mix [0,1,2,3,4,5,7] [6,8] (.c 7 6 66 61 (.c 7 8 61 0 (.l 7 0) .s) .s) ?_;have e:Go.IntKind.i64.wrap (p.n-(n:Int))=p.n-n:=ae _ aa;simp[e];refine drw eok mix [0,1,3,4,5,6,7,9,10] [2,8,11] (.c 9 2 128 383 (.c 9 8 4 379 (.c 9 11 377 2 (.l 9 2) .s) .s) .s) ?_
  have ct:cut ([vi p.kind,vi p.n,CD.s (p.signs.map aG)]::l.map Part.row) 1 l.length=l.map Part.row:=by
   simp[cut];exact ve
  have hv:hdV [iI p n]=.agg [.v (.int .i64 p.kind),.v (.int .i64 n),.ro (p.signs.map aG)]:=by simp[hdV,iI,hk2]
  rw[hv]at hK;simp[g,Part.row,k0,k1,k2,k3,k4,j0,j3,ct];intro b8;refine⟨aa,λH=>⟨_,I8 (kx:=kx) (b:=b) (T:=281) (cells:=[.sl 20608 H 3 0 (1+l.length)]) (j:=0) (k:=20608) (sz:=3) (off:=0) (len:=1+l.length) (H:=H) (rows:=(cJ p n).row::l.map Part.row) (own:=false) ?_ rfl ?_ aN,?_⟩⟩
  ·simp[k0]
  ·simp[j4,Part.row,cJ,hk2]
  ·refine hK _ ?_ (λq q1 q2=>?_)
   ·simp[cut,Nat.add_comm]
   ·repeat (first|exact rfl|refine(eD aa).trans ?_)
theorem Jf{w0:World}{bF bG:Nat->Prop}{bl:Bool}{st:ASt}{dst:Option Nat}{K:ASt->Prop}{kx b:Nat}{p:Part}{l:List Part}(hk:kx<14000)(hp:bb p)(hl:l.length<=2^20)
 (g:st.h.get kx=.vars b 281 [.ro ((p::l).map Part.row)])
 (hK:∀h',AH.get h' kx=.vars b 281 [.ro ((cJ p (psz p)::l).map Part.row)]->(∀q,q≠kx->q<14000->AH.get h' q=st.h.get q)->bQ ⟨st.n,st.kb,st.t,h'⟩ dst (hdV [p]) K) :
 ag ⟨Tryz.prog,tt,w0,⟨bF,bG,bl,λ_=>True⟩⟩ 284 [.p kx b 0] st dst K:=by
 refine inl aw Tryz.func284 14000 (λw1 F=>?_);have k0:¬kx=14032:=aa;have j0:¬14032=kx:=aa;simp[g,Part.row,k0];intro b2;refine ag.pure (ql p hp) gw ?_;simp;refine Cn (n:=psz p) aa hp (aH _) hl (by simp[k0,g]) (λh' g1 g2=>?_);have e:=g2 14032 j0 aa;simp at e;simp[hdV,e];rw[gp hp];refine hK _ (by simp[g1,k0]) (λq q1 q2=>?_);have hq:¬q=14032:=aa;simp[hq,g2 q q1 aa]
structure RS(kx ky bx by_:Nat)(h0 h:AH)(X Y:List Part):Prop where
 ne:kx≠ky
 lx:kx<14000-16
 ly:ky<14000-16
 gx:AH.get h kx=.vars bx 281 [.ro (X.map Part.row)]
 gy:AH.get h ky=.vars by_ 281 [.ro (Y.map Part.row)]
 o:∀q,q≠kx->q≠ky->q<14000->AH.get h q=AH.get h0 q
theorem RS.swap{kx ky bx by_:Nat}{h0 h:AH}{X Y:List Part}(R:RS kx ky bx by_ h0 h X Y):RS ky kx by_ bx h0 h Y X:=⟨R.ne.symm,R.ly,R.lx,R.gy,R.gx,λq h1 h2=>R.o q h2 h1⟩
section
variable {w0:World}{bF bG:Nat->Prop}{bl:Bool}{st:ASt}{dst:Option Nat}{K:ASt->Prop}{kx ky bx by_:Nat}{h0:AH}{X Y:List Part}
theorem RS.next(R:RS kx ky bx by_ h0 st.h X Y)(hs:∀p∈X,bb p)(hK:∀h',RS kx ky bx by_ h0 h' (nxt X) Y->bQ ⟨st.n,st.kb,st.t,h'⟩ dst (hdV (nxt X)) K) :
 ag ⟨Tryz.prog,tt,w0,⟨bF,bG,bl,λ_=>True⟩⟩ 283 [.p kx bx 0] st dst K:=by
 have:=R.lx;have:=R.ly;refine Qi (l:=X) (kb:=20000) aa hs R.gx (λh1 g1 o1=>hK h1 ⟨R.ne,R.lx,R.ly,g1,by rw[o1 ky R.ne.symm aa];exact R.gy,λq q1 q2 q3=>by rw[o1 q q1 aa];exact R.o q q1 q2 q3⟩)
theorem RS.take{p:Part}{l:List Part}{n:Nat}(R:RS kx ky bx by_ h0 st.h (p::l) Y)(hp:bb p)(hn:n<=psz p)(hl:l.length<=2^20)(hK:∀h',RS kx ky bx by_ h0 h' (cJ p n::l) Y->bQ ⟨st.n,st.kb,st.t,h'⟩ dst (hdV [iI p n]) K) :
 ag ⟨Tryz.prog,tt,w0,⟨bF,bG,bl,λ_=>True⟩⟩ 285 [.p kx bx 0,.v (.int .i64 n)] st dst K:=by
 have:=R.lx;have:=R.ly;refine Cn aa hp hn hl R.gx (λh1 g1 o1=>hK h1 ⟨R.ne,R.lx,R.ly,g1,by rw[o1 ky R.ne.symm aa];exact R.gy,λq q1 q2 q3=>by rw[o1 q q1 aa];exact R.o q q1 q2 q3⟩)
theorem RS.whole{p:Part}{l:List Part}(R:RS kx ky bx by_ h0 st.h (p::l) Y)(hp:bb p)(hl:l.length<=2^20)(hK:∀h',RS kx ky bx by_ h0 h' (cJ p (psz p)::l) Y->bQ ⟨st.n,st.kb,st.t,h'⟩ dst (hdV [p]) K) :
 ag ⟨Tryz.prog,tt,w0,⟨bF,bG,bl,λ_=>True⟩⟩ 284 [.p kx bx 0] st dst K:=by
 have:=R.lx;have:=R.ly;refine Jf aa hp hl R.gx (λh1 g1 o1=>hK h1 ⟨R.ne,R.lx,R.ly,g1,by rw[o1 ky R.ne.symm aa];exact R.gy,λq q1 q2 q3=>by rw[o1 q q1 aa];exact R.o q q1 q2 q3⟩)
end
theorem F7:hdV []=.agg [.v (.int .i64 0),.v (.int .i64 0),.nil]:=rfl
theorem gN{p:Part}{l:List Part}:hdV (p::l)=.agg [.v (.int .i64 p.kind),.v (.int .i64 p.n),.ro (p.signs.map aG)]:=rfl
open Go.AM
set_option maxRecDepth 20000
set_option maxHeartbeats 1600000
end Go.Proofs.YtklblkobegcljaaGreat
