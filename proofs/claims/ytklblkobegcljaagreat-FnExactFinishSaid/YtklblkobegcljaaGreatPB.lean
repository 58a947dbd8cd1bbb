import Derived.Test.YtklblkobegcljaaGreatPA
import Derived.Test.YtklblkobegcljaaGreatMF
import Derived.Test.YtklblkobegcljaaGreatNA
namespace Go.Proofs.YtklblkobegcljaaGreat
open Go.AM
set_option maxRecDepth 20000
theorem CX(p:Part)(h:bb p):ar Tryz.prog 286 [.agg p.row] (.one (.c (vi (psz p)) 1)):=by
 refine pci aw Tryz.func286 (λw0 base=>?_);have hp:=jb h;have hb:=h.bounds;rw[hp.1];simp[Part.row];by_cases hk:p.kind=2
 ·have:=hb.2.2.2.2.1 hk
  simp[hk,this]
 ·have:=hb.2.2.2.2.2 hk
  simp[hk,this]
structure Cu(a:List Part)(i d:Nat)(X:List Part):Prop where
 ok:∀p∈a,bb p
 le:i<=a.length
 v:∀h:i<a.length,d<=psz a[i]
 z:i=a.length->d=0
 c:cur a i d=X
def hdK:List Part->Int
 | []=>0
 |p::_=>p.kind
structure CR(kx ky bx by_:Nat)(h0 h:AH)(a b:List Part)(i d j e:Nat)(X Y:List Part):Prop where
 ne:kx≠ky
 lx:kx<14000-16
 ly:ky<14000-16
 gx:AH.get h kx=.vars bx 275 [.ro (a.map Part.row),.v (.int .i64 i),.v (.int .i64 d)]
 gy:AH.get h ky=.vars by_ 275 [.ro (b.map Part.row),.v (.int .i64 j),.v (.int .i64 e)]
 o:∀q,q≠kx->q≠ky->q<14000->AH.get h q=AH.get h0 q
 cx:Cu a i d X
 cy:Cu b j e Y
theorem CR.swap{kx ky bx by_:Nat}{h0 h:AH}{a b:List Part}{i d j e:Nat}{X Y:List Part}(R:CR kx ky bx by_ h0 h a b i d j e X Y):CR ky kx by_ bx h0 h b a j e i d Y X:=⟨R.ne.symm,R.ly,R.lx,R.gy,R.gx,λq h1 h2=>R.o q h2 h1,R.cy,R.cx⟩
theorem Cu.bnd{a:List Part}{i d:Nat}{X:List Part}(h:Cu a i d X):d<=200:=by
 by_cases hlt:i<a.length
 ·have:=h.v hlt
  have:=(jb (h.ok _ (ak hlt))).2;omega
 ·have:=h.z (by have:=h.le;omega)
  omega
theorem QD{w0:World}{bF bG:Nat->Prop}{bl:Bool}{st:ASt}{dst:Option Nat}{K:ASt->Prop}{kx b i d:Nat}{a X:List Part}(_hk:kx<14000)(hl:a.length<=2^20)(cx:Cu a i d X)
 (g:st.h.get kx=.vars b 275 [.ro (a.map Part.row),.v (.int .i64 i),.v (.int .i64 d)])
 (hK:∀h' i' d',Cu a i' d' (nxt X)->AH.get h' kx=.vars b 275 [.ro (a.map Part.row),.v (.int .i64 i'),.v (.int .i64 d')]->(∀q,q≠kx->q<20000->AH.get h' q=st.h.get q)->bQ ⟨st.n,st.kb,st.t,h'⟩ dst (.v (.int .i64 (hdK (nxt X)))) K) :
 ag ⟨Tryz.prog,tt,w0,⟨bF,bG,bl,λ_=>True⟩⟩ 279 [.p kx b 0] st dst K:=by
 refine inl aw Tryz.func279 20000 (λw1 F=>?_);simp;refine wh eok (λx:Nat×Nat=>Cu a x.1 x.2 (cur a x.1 x.2)/\nxt (cur a x.1 x.2)=nxt X) (λx=>⟨62,20000,[(0,.p kx b 0),(2,.v (.int .i64 0))],(kx,.vars b 275 [.ro (a.map Part.row),.v (.int .i64 x.1),.v (.int .i64 x.2)])::st.h⟩) (λx=>a.length-x.1) (i,d) ⟨⟨cx.ok,cx.le,cx.v,cx.z,rfl⟩,by rw[cx.c]⟩ (by simp[g]) (λx hx=>?_);obtain⟨i,d⟩:=x;obtain⟨hc,hn⟩:=hx;have hcl:=hc.le;have hb:=hc.bnd;simp only at hc hn hcl⊢;simp;by_cases hlt:i<a.length
 ·have hp:=hc.ok _ (ak hlt)
  have hd:=hc.v hlt;have hps:=jb hp;refine aY.quiet eok mix al ?_;simp[hlt];refine⟨_,_,CX a[i] hp,gw,?_⟩;by_cases he:d=psz a[i]
  ·have e1:Go.IntKind.i64.wrap ((i:Int)+1)=((i+1:Nat):Int):=aR aa
   simp[he,e1];refine⟨i+1,0,⟨⟨hc.ok,aa,λ_=>aa,λ_=>rfl,rfl⟩,?_⟩,aa,aa,rfl⟩;rw[<-hn,he,UM hc.ok hlt]
  ·have he2:¬(d:Int)=psz a[i]:=by omega
   have hne:¬i=a.length:=aa;simp[he2];refine aY.quiet eok mix al ?_;have hne2:¬(i:Int)=a.length:=aa;simp[hne2];refine aY.quiet eok mix al ?_;simp[hlt,Part.row];have hs:=UL hc.ok hlt (show d<psz a[i]from aa);rw[hs]at hn;have hk2:hdK (nxt X)=a[i].kind:=by rw[<-hn,A6 hlt];simp[hdK]
   rw[hk2]at hK;refine hK _ i d ⟨hc.ok,hc.le,hc.v,hc.z,hn⟩ ab (λq q1 q2=>by simp[q1])
 ·have hi:i=a.length:=by omega
  have hd:=hc.z hi;refine aY.quiet eok mix al ?_;simp[hlt];refine aY.quiet eok mix al ?_;simp[hi];have hn2:nxt X=[]:=by rw[<-hn,Gu aa];rfl
  rw[hn2]at hK;refine hK _ i d ⟨hc.ok,hc.le,hc.v,hc.z,Gu aa⟩ (by simp[hi]) (λq q1 q2=>by simp[q1])
theorem Cu.head{a:List Part}{i d:Nat}{p:Part}{l:List Part}(h:Cu a i d (p::l)):∃hi:i<a.length,p=cJ a[i] d/\l=a.drop (i+1)/\psz p=psz a[i]-d/\d<=psz a[i]/\p.kind=a[i].kind/\bb p:=by
 have hi:i<a.length:=by
  have:=h.le;rcases ig i a.length with h1|h1
  ·exact h1
  ·have:=h.c
   rw[Gu h1]at this
   cases this
 have hc:=h.c;rw[A6 hi]at hc
 cases hc
 have hp:=h.ok _ (ak hi);exact⟨hi,rfl,rfl,mh hp (h.v hi),h.v hi,ab,Hy hp (h.v hi)⟩
theorem Cu.add{a:List Part}{i d n:Nat}{p:Part}{l:List Part}(h:Cu a i d (p::l))(hn:n<=psz p):Cu a i (d+n) (cJ p n::l):=by
 obtain⟨hi,h1,h2,h3,h4,-,-⟩:=h.head;exact⟨h.ok,h.le,λ_=>aa,λhe=>aa,(UN hi h.c).symm⟩
theorem Qt{w0:World}{bF bG:Nat->Prop}{bl:Bool}{st:ASt}{dst:Option Nat}{K:ASt->Prop}{kx b i d:Nat}{a l:List Part}{p:Part}(cx:Cu a i d (p::l))
 (g:st.h.get kx=.vars b 275 [.ro (a.map Part.row),.v (.int .i64 i),.v (.int .i64 d)])
 (hK:bQ st dst (.v (.int .i64 (psz p))) K) :
 ag ⟨Tryz.prog,tt,w0,⟨bF,bG,bl,λ_=>True⟩⟩ 280 [.p kx b 0] st dst K:=by
 refine inl aw Tryz.func280 20000 (λw1 F=>?_);obtain⟨hi,h1,h2,h3,h4,-,-⟩:=cx.head;have hp:=cx.ok _ (ak hi);have hps:=jb hp;simp;refine aY.quiet eok mix al ?_;simp[g,hi];refine⟨_,_,CX a[i] hp,gw,?_⟩;have e:Go.IntKind.i64.wrap ((psz a[i]:Int)-(d:Int))=(psz p:Int):=by rw[ae _ aa];omega
 simp[e];exact hK
theorem Gv{w0:World}{bF bG:Nat->Prop}{bl:Bool}{st:ASt}{dst:Option Nat}{K:ASt->Prop}{kx b i d n:Nat}{a l:List Part}{p:Part}(_hk:kx<14000)(cx:Cu a i d (p::l))(hk2:p.kind=2)(hn:n<=psz p)
 (g:st.h.get kx=.vars b 275 [.ro (a.map Part.row),.v (.int .i64 i),.v (.int .i64 d)])
 (hK:∀h',Cu a i (d+n) (cJ p n::l)->AH.get h' kx=.vars b 275 [.ro (a.map Part.row),.v (.int .i64 i),.v (.int .i64 ((d+n:Nat):Int))]->(∀q,q≠kx->q<20000->AH.get h' q=st.h.get q)->bQ ⟨st.n,st.kb,st.t,h'⟩ dst (.ro ((p.signs.take n).map aG)) K) :
 ag ⟨Tryz.prog,tt,w0,⟨bF,bG,bl,λ_=>True⟩⟩ 281 [.p kx b 0,.v (.int .i64 n)] st dst K:=by
 refine inl aw Tryz.func281 20000 (λw1 F=>?_);obtain⟨hi,h1,h2,h3,h4,h5,-⟩:=cx.head;have hp:=cx.ok _ (ak hi);have hps:=jb hp;have hkk:a[i].kind=2:=by rw[<-h5];exact hk2
 have hn0:=hp.bounds.2.2.2.2.1 hkk;have hsz:psz a[i]=a[i].signs.length:=aa;have hs:p.signs=a[i].signs.drop d:=by rw[h1];simp[cJ,hkk]
 have e:Go.IntKind.i64.wrap ((d:Int)+(n:Int))=((d+n:Nat):Int):=by rw[ae _ aa];omega
 have hle:d+n<=a[i].signs.length:=aa
 have hv:cut (a[i].signs.map aG) d n=(p.signs.take n).map aG:=by
  unfold cut
  split
  ·rename_i hh
   rw[hs,hh.1];simp at hh;simp[hh.2]
  ·rw[hs,dU,mz]
 obtain⟨m,hm⟩:∃m,d+n=m:=⟨_,rfl⟩;have e2:m-d=n:=aa;have hadd:=cx.add hn;rw[hm]at e hle hK hadd;simp;refine aY.quiet eok mix al ?_;simp[g,hi,Part.row,e,e2,hv];simp only[dU]at hK;refine⟨hle,aa,hK _ hadd ?_ (λq q1 q2=>?_)⟩
 ·simp
 ·simp[q1]
theorem TH(x y:Nat):ar Tryz.prog 282 [.c (vi x),.c (vi y)] (.one (.c (vi ((min x y:Nat):Int)) 1)):=by
 refine pci aw Tryz.func282 (λw0 base=>?_);simp;by_cases h:x<y
 ·have:min x y=x:=by omega
  simp[h,this]
 ·have:min x y=y:=by omega
  simp[h,this]
section
variable {w0:World}{bF bG:Nat->Prop}{bl:Bool}{st:ASt}{dst:Option Nat}{K:ASt->Prop}{kx ky bx by_ i d j e:Nat}{h0:AH}{a b X Y:List Part}
theorem CR.kind(R:CR kx ky bx by_ h0 st.h a b i d j e X Y)(hl:a.length<=2^20)(hK:∀h' i' d',CR kx ky bx by_ h0 h' a b i' d' j e (nxt X) Y->bQ ⟨st.n,st.kb,st.t,h'⟩ dst (.v (.int .i64 (hdK (nxt X)))) K) :
 ag ⟨Tryz.prog,tt,w0,⟨bF,bG,bl,λ_=>True⟩⟩ 279 [.p kx bx 0] st dst K:=by
 have:=R.lx;have:=R.ly;refine QD aa hl R.cx R.gx (λh1 i1 d1 c1 g1 o1=>hK h1 i1 d1 ⟨R.ne,R.lx,R.ly,g1,by rw[o1 ky R.ne.symm aa];exact R.gy,λq q1 q2 q3=>by rw[o1 q q1 aa];exact R.o q q1 q2 q3,c1,R.cy⟩)
theorem CR.left{p:Part}{l:List Part}(R:CR kx ky bx by_ h0 st.h a b i d j e (p::l) Y)(hK:bQ st dst (.v (.int .i64 (psz p))) K) :
 ag ⟨Tryz.prog,tt,w0,⟨bF,bG,bl,λ_=>True⟩⟩ 280 [.p kx bx 0] st dst K:=Qt R.cx R.gx hK
theorem CR.take{p:Part}{l:List Part}{n:Nat}(R:CR kx ky bx by_ h0 st.h a b i d j e (p::l) Y)(hk2:p.kind=2)(hn:n<=psz p)(hK:∀h',CR kx ky bx by_ h0 h' a b i (d+n) j e (cJ p n::l) Y->bQ ⟨st.n,st.kb,st.t,h'⟩ dst (.ro ((p.signs.take n).map aG)) K) :
 ag ⟨Tryz.prog,tt,w0,⟨bF,bG,bl,λ_=>True⟩⟩ 281 [.p kx bx 0,.v (.int .i64 n)] st dst K:=by
 have:=R.lx;have:=R.ly;refine Gv aa R.cx hk2 hn R.gx (λh1 c1 g1 o1=>hK h1 ⟨R.ne,R.lx,R.ly,g1,by rw[o1 ky R.ne.symm aa];exact R.gy,λq q1 q2 q3=>by rw[o1 q q1 aa];exact R.o q q1 q2 q3,c1,R.cy⟩)
theorem CR.rebase(R:CR kx ky bx by_ h0 st.h a b i d j e X Y){h':AH}(hx:AH.get h' kx=AH.get st.h kx)(hy:AH.get h' ky=AH.get st.h ky):CR kx ky bx by_ h' h' a b i d j e X Y:=
 ⟨R.ne,R.lx,R.ly,hx.trans R.gx,hy.trans R.gy,λ_ _ _ _=>rfl,R.cx,R.cy⟩
theorem CR.done{p:Part}{l:List Part}{n:Nat}(R:CR kx ky bx by_ h0 st.h a b i d j e (p::l) Y)(hn:n<=psz p):CR kx ky bx by_ ((kx,.vars bx 275 [.ro (a.map Part.row),.v (.int .i64 i),.v (.int .i64 ((d+n:Nat):Int))])::st.h) ((kx,.vars bx 275 [.ro (a.map Part.row),.v (.int .i64 i),.v (.int .i64 ((d+n:Nat):Int))])::st.h) a b i (d+n) j e (cJ p n::l) Y:=
 ⟨R.ne,R.lx,R.ly,ab,by rw[bH,aq R.ne.symm];exact R.gy,λ_ _ _ _=>rfl,R.cx.add hn,R.cy⟩
end
open Go.AM
set_option maxRecDepth 20000
set_option maxHeartbeats 1600000
theorem jn(L:List Part)(p:Part):cr (L++[p])=gz (cr L) p:=by simp[cr,List.foldl_append]
theorem CU{L:List Part}(h:∀p∈L,bb p):NbOk L.length (cr L):=by
 have:=pt h L.length (aH _)
 rwa[cU]at this
def aD(d:Doc):Int:=Go.IntKind.i64.wrap (d.fr+d.list.length)
theorem jy(l:List Int)(hl:l.length<=2^40):ar Tryz.prog 82 [.c (.s (l.map aG))] (.one (.c (.s (l.map aG)) 1)):=by
 refine pci aw Tryz.func82 (λw0 base=>?_);simp;omega
def Rep.zero:Rep:=⟨0,0,0,[],false,[],[]⟩
theorem Rep.zero_n:Tq Rep.zero=0:=rfl
theorem iO{α β:Type}{f:α->β}{l:List α}{i:Nat}(h:i<l.length):List.take i (l.map f)++[f l[i]]=List.take (i+1) (l.map f):=by
 rw[List.take_add_one];simp[h]
theorem A7(o:List Part)(hl:nL bc o<=2^30):ar Tryz.prog 195 [.c (.s (o.map Part.row))] (.one (.c (.s (o.map Part.row)) 3)):=by
 refine pci aw Tryz.func195 (λw0 base=>?_);have hle:=aS hl;simp;refine aV.intro eok (λx:Nat×Hd=>x.1<=o.length) (λx=>⟨22,0,[(8,.v (.int .i64 x.1)),(7,.v (.int .i64 o.length)),(6,.ro (o.map Part.row)),(3,.sl 304 x.2 3 0 x.1)],[(304,.rows x.2 3 ((o.take x.1).map Part.row) true)]⟩) (λx=>o.length-x.1) (0,none) ab ab (λx hi=>?_);obtain⟨i,H⟩:=x;simp only at hi⊢;by_cases h:i<o.length
 ·have e:Go.IntKind.i64.wrap ((i:Int)+1)=((i+1:Nat):Int):=aR aa
  have hm:min i o.length=i:=aa;have hs:=cT hl h;simp[h,Part.row];intro b5;refine ag.pure (jy o[i].signs (by unfold bc at hs;omega)) ab ?_;simp[hm];exact⟨aa,λH3=>⟨i+1,aa,aa,H3,⟨e,rfl,rfl⟩,rfl,iO (f:=Part.row) h⟩⟩
 ·have:i=o.length:=by omega
  subst this;simp[cut]
theorem wL(o:List Part)(hl:nL bc o<=2^30):ar Tryz.prog 169 [.c (.s (o.map Part.row))] (.one (.c (.s (o.map Part.row)) 3)):=by
 refine pci aw Tryz.func169 (λw0 base=>?_);have hle:=aS hl;simp;intro b;refine aV.intro eok (λx:Nat×Hd=>x.1<=o.length) (λx=>⟨27,0,[(9,.v (.int .i64 x.1)),(8,.v (.int .i64 o.length)),(7,.ro (o.map Part.row)),(3,.sl 96 x.2 3 0 x.1)],[(96,.rows x.2 3 ((o.take x.1).map Part.row) true)]⟩) (λx=>o.length-x.1) (0,some (b,0,0)) ab ab (λx hi=>?_);obtain⟨i,H⟩:=x;simp only at hi⊢;by_cases h:i<o.length
 ·have e:Go.IntKind.i64.wrap ((i:Int)+1)=((i+1:Nat):Int):=aR aa
  have hm:min i o.length=i:=aa;have hs:=cT hl h;unfold bc at hs;simp[h,Part.row];intro b5;refine drw eok mix [0,1,2,3,4,6,7] [5,8,9,10,11,12] (.c 7 5 0 127 (.c 7 8 1 126 (.c 7 9 20 106 (.c 7 10 0 106 (.c 7 11 64 42 (.c 7 12 42 0 (.l 7 0) .s) .s) .s) .s) .s) .s) ?_;simp[hm];exact⟨aa,aa,λH3=>⟨i+1,aa,aa,H3,⟨e,rfl,rfl⟩,rfl,iO (f:=Part.row) h⟩⟩
 ·have:i=o.length:=by omega
  subst this;simp[cut]
def Call.zero:Call:=⟨0,⟨#[]⟩,0,0,0,[],[]⟩
def af9(r:Rep):Call:=⟨2,⟨#[]⟩,r.client,r.seq,r.rev,r.sent,[]⟩
theorem Call.zero_n:dX Call.zero=0:=rfl
def mD(t:List Int)(s:List Int×Int)(p:Part):List Int×Int:=
 if p.kind=1 then(s.1++(t.drop s.2.toNat).take p.n.toNat,s.2+p.n)else if p.kind=2 then(s.1++p.signs,s.2)else(s.1,s.2+p.n)
def ie(o:List Part)(t:List Int):List Int×Int:=o.foldl (mD t) ([],0)
theorem tx{o:List Part}{t:List Int}{i:Nat}(h:i<o.length):ie (o.take (i+1)) t=mD t (ie (o.take i) t) o[i]:=by
 unfold ie;exact D6
def mm(o:List Part)(t:List Int):Prop:=dH o/\eL t/\db o=t.length
open Classical in
noncomputable def apply(o:List Part)(t:List Int):List Int×Bool:=if mm o t then((ie o t).1,true)else([],false)
theorem rZ{o:List Part}{t:List Int}(ho:∀p∈o,bb p):∀(i:Nat),i<=o.length->(ie (o.take i) t).2=ez fK (o.take i)+ez fD (o.take i)/\(ie (o.take i) t).1.length<=200*i
 |0,_=>by simp[ie,ez]
 | i + 1, hi => by
   have hlt:i<o.length:=aa;obtain⟨h1,h2⟩:=rZ ho i aa;have hb:=(ho _ (ak hlt)).bounds;rw[tx hlt,jS hlt,jS hlt];generalize ie (o.take i) t=s at h1 h2;obtain⟨L,a⟩:=s;simp only at h1 h2;generalize ez fK (o.take i)=x1 at h1⊢;generalize ez fD (o.take i)=x2 at h1⊢;unfold mD fK fD;by_cases k1:o[i].kind=1
   ·simp[k1]
    omega
   ·by_cases k2:o[i].kind=2
    ·simp[k2];omega
    ·simp[k1,k2];omega
theorem mT{f:Part->Int}(hf:∀p,bb p->0<=f p):∀{o:List Part}(_:∀p∈o,bb p) (i:Nat),ez f (o.take i)<=ez f o
 | [],_,i=>ab
 | p :: o, ho, 0 => by
   have h1:=hf p (ho p (aJ ..));have h2:=mT hf (o:=o) (λq hq=>ho q (aC _ hq)) 0;simp only[List.take_zero,ez]at h2⊢;omega
 | p :: o, ho, i + 1 => by
   have h2:=mT hf (o:=o) (λq hq=>ho q (aC _ hq)) i;simp only[me,ez];omega
theorem Bi{o:List Part}{t:List Int}(h:mm o t){i:Nat}(hi:i<o.length):0<=(ie (o.take i) t).2/\(o[i].kind≠2->(ie (o.take i) t).2+o[i].n<=t.length)/\(ie (o.take i) t).2<=t.length:=by
 have ho:=h.1.1.1;have h1:=(rZ (t:=t) ho i aa).1;have hf:db o=ez fK o+ez fD o:=by unfold db eM;rw[an h.1.1]
 have h2:=mT (λp hp=>(Uu hp).1) ho (i+1);have h3:=mT (λp hp=>(Ux hp).1) ho (i+1);have h4:=gW (f:=fK) (λp h=>Uu h) (sV ho i);have h5:=gW (f:=fD) (λp h=>Ux h) (sV ho i);have h6:=jS (f:=fK) hi;have h7:=jS (f:=fD) hi;have h8:=h.2.2;have hb:=(ho _ (ak hi)).bounds;have k1:=Uu (ho _ (ak hi));have k2:=Ux (ho _ (ak hi));refine⟨aa,λhk=>?_,aa⟩
 have:fK o[i]+fD o[i]=o[i].n:=by
  unfold fK fD;by_cases c1:o[i].kind=1
  ·simp[c1]
  ·simp[c1,hk]
 omega
theorem oA(o:List Part)(t:List Int)(hl:nL bc o<=2^40)(ht:t.length<=2^40):ar Tryz.prog 228 [.c (.s (o.map Part.row)),.c (.s (t.map aG))] (.tup [.c (.s ((apply o t).1.map aG)) 1,.c (.v (.bool (apply o t).2)) 1]):=by
 refine pci aw Tryz.func228 (λw0 base=>?_);simp;have no:¬mm o t->apply o t=([],false):=λh=>by unfold apply;rw[aq h]
 refine ag.pure (hU o hl) ab ?_;by_cases c1:dH o
 rotate_left
 ·have e:dc (dH o)=false:=by rw[jx];exact c1
  simp[e,no (λh=>c1 h.1)]
 simp[c1];refine ag.pure (lu t ht) ab ?_;by_cases c2:eL t
 rotate_left
 ·have e:dc (eL t)=false:=by rw[jx];exact c2
  simp[e,no (λh=>c2 h.2.1)]
 simp[c2];refine ag.pure (lz o hl) ab ?_;by_cases c3:db o=t.length
 rotate_left
 ·simp[c3,no (λh=>c3 h.2.2)]
 have hf:mm o t:=⟨c1,c2,c3⟩;have e:apply o t=((ie o t).1,true):=by unfold apply;rw[an hf]
 have ho:=c1.1.1;have hlen:=c1.1.2;simp[c3,e];refine aV.intro eok (λx:Nat×Hd=>x.1<=o.length) (λx=>⟨60,0,[(27,.v (.int .i64 x.1)),(26,.v (.int .i64 o.length)),(25,.ro (o.map Part.row)),(7,.v (.int .i64 (ie (o.take x.1) t).2)),(6,.sl 752 x.2 1 0 (ie (o.take x.1) t).1.length),(1,.ro (t.map aG))],[(752,.rows x.2 1 ((ie (o.take x.1) t).1.map aG) true)]⟩) (λx=>o.length-x.1) (0,none) ab (by simp[ie]) (λx hi=>?_);obtain⟨i,H⟩:=x;simp only at hi⊢;by_cases h:i<o.length
 ·have hin:=Bi hf h
  have hat:=rZ (t:=t) ho i hi;have hb:=(ho _ (ak h)).bounds;have hs:=tx (t:=t) h;generalize ie (o.take i) t=s at hin hat hs;obtain⟨L,a⟩:=s;simp only at hin hat hs;obtain⟨a',rfl⟩:∃a':Nat,a=a':=⟨a.toNat,aa⟩;obtain⟨n,hn⟩:∃n:Nat,o[i].n=n:=⟨o[i].n.toNat,aa⟩;have e:Go.IntKind.i64.wrap ((i:Int)+1)=((i+1:Nat):Int):=aR aa;have ea:Go.IntKind.i64.wrap ((a':Int)+n)=(a':Int)+n:=ae _ aa;rw[hn]at hin;simp[h,Part.row];intro b9;by_cases k1:o[i].kind=1
  ·exact On
  ·by_cases k3:o[i].kind=3
   ·have hst:mD t (L,(a':Int)) o[i]=(L,(a':Int)+n):=by simp[mD,k3,hn]
    rw[hst]at hs;simp[k3,hn,ea];refine⟨i+1,aa,aa,H,?_⟩;rw[hs];simp[e]
   ·have k2:o[i].kind=2:=by omega
    exact Ln
 ·have he:o.take i=o:=aB aa
  rw[he];simp[h]
theorem QC(o:List Part)(t:List Int)(hl:nL bc o<=2^40)(ht:t.length<=2^40):ar Tryz.prog 216 [.c (.s (o.map Part.row)),.c (.s (t.map aG))] (.one (.c (vb (mm o t)) 1)):=by
 refine pci aw Tryz.func216 (λw0 base=>?_);simp;refine ag.pure (gX o hl) ab ?_;by_cases c1:dH o
 rotate_left
 ·simp[c1,mm]
 simp[c1];refine ag.pure (mU t ht) ab ?_;by_cases c2:eL t
 rotate_left
 ·simp[c2,mm]
 simp[c2];refine ag.pure (ld o hl) ab ?_;simp[mm,c1,c2]
theorem mf(o:List Part)(t:List Int)(hl:nL bc o<=2^40)(ht:t.length<=2^40):ar Tryz.prog 165 [.c (.s (o.map Part.row)),.c (.s (t.map aG))] (.tup [.c (.s ((apply o t).1.map aG)) 1,.c (.v (.bool (apply o t).2)) 1]):=by
 refine pci aw Tryz.func165 (λw0 base=>?_);simp;refine ag.pure (QC o t hl ht) ab ?_;by_cases hf:mm o t
 rotate_left
 ·have e:dc (mm o t)=false:=by rw[jx];exact hf
  have e2:apply o t=([],false):=by unfold apply;rw[aq hf]
  simp[e,e2]
 have e:apply o t=((ie o t).1,true):=by unfold apply;rw[an hf]
 have ho:=hf.1.1.1;have hlen:=hf.1.1.2;simp[hf,e];intro b;refine aV.intro eok (λx:Nat×Hd=>x.1<=o.length) (λx=>⟨50,0,[(17,.v (.int .i64 x.1)),(16,.v (.int .i64 o.length)),(15,.ro (o.map Part.row)),(7,.v (.int .i64 (ie (o.take x.1) t).2)),(6,.sl 224 x.2 1 0 (ie (o.take x.1) t).1.length),(1,.ro (t.map aG))],[(224,.rows x.2 1 ((ie (o.take x.1) t).1.map aG) true)]⟩) (λx=>o.length-x.1) (0,some (b,0,0)) ab (by simp[ie]) (λx hi=>?_);obtain⟨i,H⟩:=x;simp only at hi⊢;by_cases h:i<o.length
 ·have hin:=Bi hf h
  have hat:=rZ (t:=t) ho i hi;have hb:=(ho _ (ak h)).bounds;have hs:=tx (t:=t) h;generalize ie (o.take i) t=s at hin hat hs;obtain⟨L,a⟩:=s;simp only at hin hat hs;obtain⟨a',rfl⟩:∃a':Nat,a=a':=⟨a.toNat,aa⟩;obtain⟨n,hn⟩:∃n:Nat,o[i].n=n:=⟨o[i].n.toNat,aa⟩;have e:Go.IntKind.i64.wrap ((i:Int)+1)=((i+1:Nat):Int):=aR aa;have ea:Go.IntKind.i64.wrap ((a':Int)+n)=(a':Int)+n:=ae _ aa;rw[hn]at hin;simp[h,Part.row];intro b9;by_cases k1:o[i].kind=1
  ·exact On
  ·by_cases k2:o[i].kind=2
   ·exact Ln
   ·have k3:o[i].kind=3:=by omega
    have hst:mD t (L,(a':Int)) o[i]=(L,(a':Int)+n):=by simp[mD,k3,hn]
    rw[hst]at hs;simp[k1,k2,hn,ea];refine⟨i+1,aa,aa,H,?_⟩;rw[hs];simp[e]
 ·have he:o.take i=o:=aB aa
  rw[he];simp[h]
theorem xe(o:List Part)(t:List Int):(apply o t).1.length<=2^17:=by
 unfold apply
 split
 ·rename_i h
  have h1:=(rZ (t:=t) h.1.1.1 o.length aa).2;rw[cU]at h1;have:=h.1.1.2;simp only;omega
 ·simp
abbrev iX(o:List Part):List CD:=[.s (o.map Part.row)]
open Classical in
noncomputable def bq:List (List Part)->List Int->Option (List Int)
 | [],t=>some t
 |o::l,t=>if(apply o t).2=true then bq l (apply o t).1 else none
open Classical in
noncomputable def fW(l:List (List Part))(t:List Int):List Int×Bool:=
 if eL t then match bq l t with
  |some u=>(u,true)
  |none=>([],false)
 else([],false)
theorem nM{l:List (List Part)}{i:Nat}{u:List Int}(h:i<l.length):bq (l.drop i) u=if(apply l[i] u).2=true then bq (l.drop (i+1)) (apply l[i] u).1 else none:=by
 rw[dj h,bq]
theorem rH(l:List (List Part))(t:List Int)(hl:l.length<=2^30)(hs:∀o∈l,nL bc o<=2^40)(ht:t.length<=2^40):ar Tryz.prog 186 [.c (.s (l.map iX)),.c (.s (t.map aG))] (.tup [.c (.s ((fW l t).1.map aG)) 1,.c (.v (.bool (fW l t).2)) 1]):=by
 refine pci aw Tryz.func186 (λw0 base=>?_);simp;refine ag.pure (lu t ht) ab ?_;by_cases c2:eL t
 rotate_left
 ·have e:dc (eL t)=false:=by rw[jx];exact c2
  have e2:fW l t=([],false):=by unfold fW;rw[aq c2]
  simp[e,e2]
 obtain⟨r,hr⟩:∃r,fW l t=r:=⟨_,rfl⟩;have hr':(match bq l t with|some u=>(u,true)|none=>([],false))=r:=by rw[<-hr];unfold fW;rw[an c2]
 rw[hr];simp[c2];refine ag.pure (jy t ht) ab ?_;simp;intro H0
 refine aV.intro eok (λx:Nat×Nat×Hd×List Int=>x.1<=l.length/\x.2.2.2.length<=2^40/\(match bq (l.drop x.1) x.2.2.2 with|some u=>(u,true)|none=>([],false))=r)
  (λx=>⟨33,0,[(18,.v (.int .i64 x.1)),(17,.v (.int .i64 l.length)),(16,.ro (l.map iX)),(6,.sl x.2.1 x.2.2.1 1 0 x.2.2.2.length)],[(x.2.1,.rows x.2.2.1 1 (x.2.2.2.map aG) true)]⟩) (λx=>l.length-x.1) (0,240,H0,t) (by simp[ht,hr']) ab (λx hi=>?_)
 obtain⟨i,K,H,u⟩:=x;simp only at hi⊢;obtain⟨hi1,hi2,hi3⟩:=hi;by_cases h:i<l.length
 ·have e:Go.IntKind.i64.wrap ((i:Int)+1)=((i+1:Nat):Int):=aR aa
  rw[nM h]at hi3;have hlen:=xe l[i] u;simp[h];refine ag.pure (oA l[i] u (hs _ (ak h)) hi2) ab ?_;generalize apply l[i] u=q at hi3 hlen;obtain⟨v,ok⟩:=q;simp only at hi3 hlen
  cases ok
  ·simp at hi3
   simp[<-hi3]
  ·simp at hi3
   simp;intro H2;exact⟨i+1,400,H2,v,⟨aa,aa,hi3⟩,aa,⟨e,rfl,rfl,rfl⟩,.inl rfl⟩
 ·have hd:l.drop i=[]:=bm aa
  rw[hd]at hi3;simp[bq]at hi3;simp[h,<-hi3]
theorem Dj{o:List Part}{t:List Int}(h:mm o t):∀(i:Nat),i<=o.length->((ie (o.take i) t).1.length:Int)=ez fK (o.take i)+ez fP (o.take i)/\ja (ie (o.take i) t).1
 |0,_=>by simp[ie,ez,ja]
 | i + 1, hi => by
   have hlt:i<o.length:=aa;obtain⟨h1,h2⟩:=Dj h i aa;have hin:=Bi h hlt;have hpo:=h.1.1.1 _ (ak hlt);have hb:=hpo.bounds;rw[tx hlt,jS hlt,jS hlt];generalize ie (o.take i) t=s at h1 h2 hin;generalize o[i]=p at hin hpo hb;unfold mD;rw[show fK p=(if p.kind=1 then p.n else 0)from rfl,show fP p=(if p.kind=2 then(p.signs.length:Int)else 0)from rfl];rcases hb.1 with k|k|k
   ·have:=hin.2.1 aa
    have e:((t.drop s.2.toNat).take p.n.toNat).length=p.n.toNat:=aN;refine⟨?_,?_⟩
    ·simp only[k,du,fb,e]
     have k2:¬(1:Int)=2:=ah;simp only[k2,dv];omega
    simp only[k,du];intro n hn;rcases aP.1 hn with hn|hn
    ·exact h2 n hn
    ·exact h.2.1.2 n (a8 (br hn))
   ·refine⟨by simp[k];omega,?_⟩
    have k1:¬p.kind=1:=aa;simp only[k,du];rw[kl k]at hpo;intro n hn;rcases aP.1 hn with hn|hn
    ·exact h2 n hn
    ·exact hpo.2.2 n hn
   ·exact⟨by simp[k];omega,by simpa[k]using h2⟩
theorem ng{o:List Part}{t:List Int}(h:mm o t):eL (apply o t).1/\((apply o t).1.length:Int)=oT o:=by
 have h1:=Dj h o.length (aH _);rw[cU]at h1;have e:apply o t=((ie o t).1,true):=by unfold apply;rw[an h]
 have ht:oT o=ez fK o+ez fP o:=by unfold oT eM;rw[an h.1.1]
 have h3:=h.1.2.2;rw[e];refine⟨⟨gI,h1.2⟩,gI⟩
theorem nm{o:List Part}{t:List Int}:(apply o t).2=true↔mm o t:=by
 unfold apply
 split<;>simp_all
def nz(s:ByteArray):Prop:=(1<=s.size/\s.size<=8)/\∀(i:Nat) (h:i<s.size),97<=s[i].toNat/\s[i].toNat<=122
def dm(e:Entry):Prop:=(1<=e.client/\e.client<=8)/\(1<=e.seq/\e.seq<=1000000000)/\lq e.o
def vu(d:Doc):Prop:=∀(i:Nat) (h:i<d.seen.length),(1<=d.seen[i].client/\d.seen[i].client<=8)/\(1<=d.seen[i].seq/\d.seen[i].seq<=1000000000)/\(1<=d.seen[i].rev/\d.seen[i].rev<=aD d)/\(∀h0:0<i,d.seen[i-1].client<d.seen[i].client)
def bV(d:Doc):Prop:=nz d.name/\(0<=d.fr/\d.fr<=999999000)/\eL d.text/\d.list.length<=8/\(∀e∈d.list,dm e)/\(bq (d.list.map Entry.o) d.text).isSome=true/\vu d
open Classical in
noncomputable def ir(d:Doc)(rev:Int):List Int×Bool:=if bV d/\d.fr<=rev/\rev<=aD d then fW ((d.list.take (rev-d.fr).toNat).map Entry.o) d.text else([],false)
noncomputable def fe(d:Doc):List Int:=(ir d (aD d)).1
open Classical in
noncomputable def fZ(d:Doc)(c:Int):Seen×Bool:=match d.seen.find? (λs=>decide (s.client=c))with
 |some s=>(s,true)
 |none=>(⟨0,0,0⟩,false)
theorem FB{o:List Part}(h:dH o):nL bc o<=2^18:=by
 have:=HJ h.1.1;have:=h.1.2;omega
theorem l8{a b:List Part}(h:¬(dH a/\dH b/\db a=db b)):bu a b=([],[],false):=by unfold bu;rw[aq h]
theorem rO{a b:List Part}(h1:dH a)(h2:dH b)(h3:db a=db b):(dH (normal (xf a b).1)/\dH (normal (xf a b).2)->bu a b=(normal (xf a b).1,normal (xf a b).2,true))/\(¬(dH (normal (xf a b).1)/\dH (normal (xf a b).2))->bu a b=([],[],false)):=by
 unfold bu;rw[an ⟨h1,h2,h3⟩];exact⟨λh=>by rw[an h],λh=>by rw[aq h]⟩
theorem kc{P:Part->Prop}{a b:List Part}(ha:∀p∈a,P p)(hb:∀p∈b,P p):∀p∈a++b,P p:=by
 intro p hp;rcases aP.1 hp with hp|hp
 ·exact ha p hp
 ·exact hb p hp
theorem uV{X Y L M:List Part}{a b:List Part}(hi:TInv X Y){r:XR}(hc:fT X Y=some r)(h1:L++(xf X Y).1=(xf a b).1)(h2:M++(xf X Y).2=(xf a b).2):(L++r.1.1)++(xf r.2.1 r.2.2).1=(xf a b).1/\(M++r.1.2)++(xf r.2.1 r.2.2).2=(xf a b).2:=by
 have h:=VG hi hc;rw[<-h1,<-h2,h];simp
theorem yu(a b:List Part)(ha:nL bc a<=2^40)(hb:nL bc b<=2^40):ar Tryz.prog 277 [.c (.s (a.map Part.row)),.c (.s (b.map Part.row))] (.tup [.c (.s ((bu a b).1.map Part.row)) 3,.c (.s ((bu a b).2.1.map Part.row)) 3,.c (.v (.bool (bu a b).2.2)) 1]):=by
 refine pci aw Tryz.func277 (λw0 base=>?_);simp;refine ag.pure (hU a ha) ab ?_;by_cases c1:dH a
 rotate_left
 ·exact M4
 simp[c1];refine ag.pure (hU b hb) ab ?_;by_cases c2:dH b
 rotate_left
 ·exact M6
 simp[c2];refine ag.pure (lz a ha) ab ?_;simp;refine ag.pure (lz b hb) ab ?_;by_cases c3:db a=db b
 rotate_left
 ·have e:=l8 (a:=a) (b:=b) (λh=>c3 h.2.2)
  simp[c3,e]
 have hf:=rO c1 c2 c3;simp[c3];intro bx by_;have t1:=Dz c1;have t2:=Dz c2
 refine aE eok (λx:List Part×List Part×List Part×List Part×Hd×Hd=>TInv x.1 x.2.1/\(x.2.2.1++(xf x.1 x.2.1).1=(xf a b).1/\x.2.2.2.1++(xf x.1 x.2.1).2=(xf a b).2)/\((∀p∈x.2.2.1,bb p)/\(∀p∈x.2.2.2.1,bb p))/\(x.2.2.1.length+(tsz x.1+tsz x.2.1)<=800/\x.2.2.2.1.length+(tsz x.1+tsz x.2.1)<=800)/\x.1.length<=1000/\x.2.1.length<=1000)
  (λx=>⟨124,0,[(7,.p 528 bx 0),(8,.p 576 by_ 0),(9,.sl 5000 x.2.2.2.2.1 3 0 x.2.2.1.length),(10,.sl 5001 x.2.2.2.2.2 3 0 x.2.2.2.1.length)],
  [(528,.vars bx 281 [.ro (x.1.map Part.row)]),(576,.vars by_ 281 [.ro (x.2.1.map Part.row)]),(5000,.rows x.2.2.2.2.1 3 (x.2.2.1.map Part.row) false),(5001,.rows x.2.2.2.2.2 3 (x.2.2.2.1.map Part.row) false)]⟩) (λx=>tsz x.1+tsz x.2.1) (a,b,[],[],none,none)
  ⟨yB c1 c2 c3,ab,ab,aN,by have:=c1.1.2;simp only;omega,by have:=c2.1.2;simp only;omega⟩ ab (λx hx=>Ent.refl ?_)
 obtain⟨X,Y,L,M,H,G⟩:=x;obtain⟨hi,⟨hcx,hcy⟩,⟨hL,hM⟩,⟨hlen,hlen2⟩,hlx,hly⟩:=hx;simp only at hi hcx hcy hL hM hlen hlen2 hlx hly⊢;have xl:=OW X;have yl:=OW Y;obtain⟨h0,hh0⟩:∃h0:AH,[(528,.vars bx 281 [.ro (X.map Part.row)]),(576,.vars by_ 281 [.ro (Y.map Part.row)]),(5000,.rows H 3 (L.map Part.row) false),(5001,.rows G 3 (M.map Part.row) false)]=h0:=⟨_,rfl⟩;have R:RS 528 576 bx by_ h0 h0 X Y:=⟨ah,ah,ah,jY,jY,λ_ _ _ _=>rfl⟩;have g5:AH.get h0 5000=.rows H 3 (L.map Part.row) false:=jY;have g6:AH.get h0 5001=.rows G 3 (M.map Part.row) false:=jY;rw[hh0]
 clear hh0
 simp;refine R.next hi.px (λh1 R=>?_);have okx:∀p∈nxt X,bb p:=λp hp=>hi.px p (oy hp)
 have oky:∀p∈nxt Y,bb p:=λp hp=>hi.py p (oy hp)
 have hxt:=m5 X;have hyf:=m5 Y;have hbal:=hi.b
 cases ex:nxt X with
 | nil =>
   rw[ex]at R;simp[F7];refine R.swap.next hi.py (λh2 R=>?_);have R:=R.swap
   cases ey:nxt Y with
   | nil =>
     have hc:xf X Y=([],[]):=KX (by simp[fT,ex,ey]);simp[F7];rw[hc]at hcx hcy;simp only[bO]at hcx hcy;have e5:=R.o 5000 ah ah ah;have e6:=R.o 5001 ah ah ah;refine ag.pure (Ap L hL aa) (by simp[e5,g5]) ?_;simp;intro H2;refine ag.pure (Ap M hM aa) (by simp[e6,g6]) ?_;simp;intro H3;rw[hcx]at hL hlen⊢;rw[hcy]at hM hlen2⊢;refine ag.pure (hU (normal (xf a b).1) (by have:=pw hL;omega)) ab ?_;by_cases c4:dH (normal (xf a b).1)
     rotate_left
     ·exact MU
     simp[c4];refine ag.pure (hU (normal (xf a b).2) (by have:=pw hM;omega)) ab ?_;by_cases c5:dH (normal (xf a b).2)
     rotate_left
     ·exact MT
     have e:=hf.1 ⟨c4,c5⟩;simp[c5,e]
   | cons q y' =>
     rw[ey]at R;have hq:=(ka hi.py ey).1;have hqb:=hq.bounds;have q0:¬q.kind=0:=aa;simp[gN,q0];refine R.next ab (λh3 R=>?_);simp only[nxt]at R;simp[nxt,F7];refine R.swap.next (by rw[<-ey];exact oky) (λh4 R=>?_);have R:=R.swap;rw[<-ey,gK,ey]at R;rw[<-ey,gK,ey];by_cases q2:q.kind=2
     ·simp[gN,q2]
      refine R.swap.whole hq (by simp[ey]at yl;omega) (λh5 R=>?_);have R:=R.swap;have e5:=R.o 5000 ah ah ah;have e6:=R.o 5001 ah ah ah;have hc:fT X Y=some (([⟨1,q.signs.length,[]⟩],[iI q (psz q)]),[],cJ q (psz q)::y'):=by simp[fT,ex,ey,q2]
      rw[gp hq]at hc;have hn:=gV hi hc;have hdec:=hn.dec;have hcm:=uV hi hc hcx hcy;simp only at hcm hdec;rw[gN];simp;intro b1;simp[e5,g5,e6,g6];intro b2;refine⟨aa,λH2 b3=>⟨aa,λG2=>?_⟩⟩;refine Ent.refl ⟨[],cJ q (psz q)::y',L++[⟨1,q.signs.length,[]⟩],M++[q],⟨hn.inv,hcm,⟨kc hL hn.okx,kc hM hn.oky⟩,⟨aN,aN⟩,ab,by simp[ey]at yl⊢;omega⟩,hdec,H2,G2,?_⟩;simp[R.gx,R.gy,Part.row]
     ·exact Ma
 | cons p x' =>
   rw[ex]at R;have hp:=(ka hi.px ex).1;have hpb:=hp.bounds;have p0:¬p.kind=0:=aa;simp[gN,p0];refine R.next (by rw[<-ex];exact okx) (λh3 R=>?_);rw[<-ex,gK,ex]at R;rw[<-ex,gK,ex];by_cases p2:p.kind=2
   ·simp[gN,p2]
    refine R.whole hp (by simp[ex]at xl;omega) (λh5 R=>?_);have e5:=R.o 5000 ah ah ah;have e6:=R.o 5001 ah ah ah;have hc:fT X Y=some (([iI p (psz p)],[⟨1,p.signs.length,[]⟩]),cJ p (psz p)::x',Y):=by simp[fT,ex,p2]
    rw[gp hp]at hc;have hn:=gV hi hc;have hdec:=hn.dec;have hcm:=uV hi hc hcx hcy;simp only at hcm hdec;rw[gN];simp;intro b1;simp[e5,g5,e6,g6];intro b2;refine⟨aa,λH2 b3=>⟨aa,λG2=>?_⟩⟩;refine Ent.refl ⟨cJ p (psz p)::x',Y,L++[p],M++[⟨1,p.signs.length,[]⟩],⟨hn.inv,hcm,⟨kc hL hn.okx,kc hM hn.oky⟩,⟨aN,aN⟩,by simp[ex]at xl⊢;omega,hly⟩,hdec,H2,G2,?_⟩;simp[R.gx,R.gy,Part.row]
   ·simp[gN,p2]
    refine R.swap.next hi.py (λh4 R=>?_);have R:=R.swap
    cases ey:nxt Y with
    | nil =>
      exact Mb
    | cons q y' =>
      rw[ey]at R;have hq:=(ka hi.py ey).1;have hqb:=hq.bounds;by_cases q2:q.kind=2
      ·simp[gN,q2]
       refine R.swap.whole hq (by simp[ey]at yl;omega) (λh5 R=>?_);have R:=R.swap;have e5:=R.o 5000 ah ah ah;have e6:=R.o 5001 ah ah ah;have hc:fT X Y=some (([⟨1,q.signs.length,[]⟩],[iI q (psz q)]),p::x',cJ q (psz q)::y'):=by simp[fT,ex,ey,q2,p2]
       rw[gp hq]at hc;have hn:=gV hi hc;have hdec:=hn.dec;have hcm:=uV hi hc hcx hcy;simp only at hcm hdec;rw[gN];simp;intro b1;simp[e5,g5,e6,g6];intro b2;refine⟨aa,λH2 b3=>⟨aa,λG2=>?_⟩⟩;refine Ent.refl ⟨p::x',cJ q (psz q)::y',L++[⟨1,q.signs.length,[]⟩],M++[q],⟨hn.inv,hcm,⟨kc hL hn.okx,kc hM hn.oky⟩,⟨aN,aN⟩,by simp[ex]at xl⊢;omega,by simp[ey]at yl⊢;omega⟩,hdec,H2,G2,?_⟩;simp[R.gx,R.gy,Part.row]
      ·simp[gN,q2]
       refine R.next (by rw[<-ex];exact okx) (λh5 R=>?_);rw[<-ex,gK,ex]at R;rw[<-ex,gK,ex];simp[gN];refine ag.pure (ql p hp) gw ?_;simp;refine R.swap.next (by rw[<-ey];exact oky) (λh6 R=>?_);have R:=R.swap;rw[<-ey,gK,ey]at R;rw[<-ey,gK,ey];simp[gN];refine ag.pure (ql q hq) gw ?_;simp;rw[KE];obtain⟨n,hn⟩:∃n,min (psz p) (psz q)=n:=⟨_,rfl⟩;rw[hn];simp;refine R.take hp (n:=n) aa (by simp[ex]at xl;omega) (λh7 R=>?_);rw[gN];obtain⟨pc,hpc⟩:∃pc,iI p n=pc:=⟨_,rfl⟩;have pk:pc.kind=p.kind:=by rw[<-hpc];simp
       rw[hpc];simp;refine R.swap.take hq (n:=n) aa (by simp[ey]at yl;omega) (λh8 R=>?_);have R:=R.swap;rw[gN];obtain⟨qc,hqc⟩:∃qc,iI q n=qc:=⟨_,rfl⟩;have qk:qc.kind=q.kind:=by rw[<-hqc];simp
       rw[hqc];have e5:=R.o 5000 ah ah ah;have e6:=R.o 5001 ah ah ah;have hc:fT X Y=some ((if q.kind=1 then [pc]else [],if p.kind=1 then [qc]else []),cJ p n::x',cJ q n::y'):=by simp[fT,ex,ey,p2,q2,hn,hpc,hqc]
       have hnx:=gV hi hc;have hdec:=hnx.dec;have hcm:=uV hi hc hcx hcy;have okx':=hnx.okx;have oky':=hnx.oky;have hinv:=hnx.inv
       clear hnx hc
       simp only at hcm hdec okx' oky' hinv;have hlx2:(cJ p n::x').length<=1000:=by simp[ex]at xl⊢;omega
       have hly2:(cJ q n::y').length<=1000:=by simp[ey]at yl⊢;omega
       simp;intro b1 b2;by_cases q1:q.kind=1
       ·by_cases p1:p.kind=1
        ·simp only[q1,p1,du]at hcm okx' oky'
         simp[qk,q1,pk,p1,e5,g5,e6,g6];intro b3;refine⟨aa,λH2 b4=>⟨aa,λG2=>?_⟩⟩;refine Ent.refl ⟨cJ p n::x',cJ q n::y',L++[pc],M++[qc],⟨hinv,hcm,⟨kc hL okx',kc hM oky'⟩,⟨aN,aN⟩,hlx2,hly2⟩,hdec,H2,G2,?_⟩;simp[R.gx,R.gy,Part.row,pk,qk,p1,q1]
        ·simp only[q1,p1,du,dv]at hcm okx' oky'
         simp[qk,q1,pk,p1,e5,g5];intro b3;refine⟨aa,λH2=>?_⟩;refine Ent.refl ⟨cJ p n::x',cJ q n::y',L++[pc],M,⟨hinv,by simpa using hcm,⟨kc hL okx',hM⟩,⟨aN,aa⟩,hlx2,hly2⟩,hdec,H2,G,?_⟩;simp[R.gx,R.gy,Part.row,pk,q1,e6,g6]
       ·by_cases p1:p.kind=1
        ·simp only[q1,p1,du,dv]at hcm okx' oky'
         simp[qk,q1,pk,p1,e6,g6];intro b3;refine⟨aa,λG2=>?_⟩;refine Ent.refl ⟨cJ p n::x',cJ q n::y',L,M++[qc],⟨hinv,by simpa using hcm,⟨hL,kc hM oky'⟩,⟨aa,aN⟩,hlx2,hly2⟩,hdec,H,G2,?_⟩;simp[R.gx,R.gy,Part.row,qk,p1,e5,g5]
        ·simp only[q1,p1,dv]at hcm okx' oky'
         simp[qk,q1,pk,p1];refine Ent.refl ⟨cJ p n::x',cJ q n::y',L,M,⟨hinv,by simpa using hcm,⟨hL,hM⟩,⟨aa,aa⟩,hlx2,hly2⟩,hdec,H,G,?_⟩;simp[R.gx,R.gy,e5,g5,e6,g6]
theorem qF{w0:World}{bF bG:Nat->Prop}{bl:Bool}{st:ASt}{dst:Option Nat}{K:ASt->Prop}{L:List Part}{P:List Int}{D:Int}{b:Nat}{Hl Hp:Hd}(hL:L.length<=2^20)(_hP:P.length<=2^40)
 (g160:st.h.get 640=.vars b 261 [.sl 5000 Hl 3 0 L.length,.sl 5001 Hp 1 0 P.length,.v (.int .i64 D)])
 (g5000:st.h.get 5000=.rows Hl 3 (L.map Part.row) true) (g5001:st.h.get 5001=.rows Hp 1 (P.map aG) true)
 (hK:∀Hl' h',AH.get h' 640=.vars b 261 [.sl 5000 Hl' 3 0 (bN L P D).length,.nil,.v (.int .i64 0)]->AH.get h' 5000=.rows Hl' 3 ((bN L P D).map Part.row) true ->
  (∀q,q<15000->q≠640->q≠5000->q≠5001->AH.get h' q=st.h.get q)->bQ ⟨st.n,st.kb,st.t,h'⟩ dst (.tup []) K):ag ⟨Tryz.prog,tt,w0,⟨bF,bG,bl,λ_=>True⟩⟩ 273 [.p 640 b 0] st dst K:=by
 refine inl aw Tryz.func273 20000 (λw1 F=>?_);simp[g160];by_cases hp:P=[]
 ·have hp0:¬0<P.length:=by simp[hp]
  simp[hp0,g160];by_cases hd:0<D
  ·simp[hd]
   refine drw eok mix [0,1,2,3,4,5,6,7,8,9,12,13] [10,11,14] (.c 12 10 4 4091 (.c 12 11 128 3963 (.c 12 14 3961 2 (.l 12 2) .s) .s) .s) ?_;simp[g160,g5000];intro b1;refine⟨aa,λH=>hK H _ ?_ ?_ ?_⟩
   ·simp[wQ hp hd]
   ·simp[wQ hp hd,Part.row]
   ·intro q q0 q1 q2 q3
    repeat (first|exact rfl|refine(eD aa).trans ?_)
  ·simp[hd,g160]
   refine hK Hl _ ?_ ?_ ?_
   ·simp[wP hp hd]
   ·simp[wP hp hd,g5000]
   ·intro q q0 q1 q2 q3
    repeat (first|exact rfl|refine(eD aa).trans ?_)
 ·have hp0:0<P.length:=eN.2 hp
  simp[hp0];refine drw eok mix [0,1,2,3,4,5,6,7,8,9,12,13] [10,11,14] (.c 12 10 4 4091 (.c 12 11 128 3963 (.c 12 14 3961 2 (.l 12 2) .s) .s) .s) ?_;simp[g160,g5000,g5001];intro b1;refine⟨aa,λH=>?_⟩;by_cases hd:0<D
  ·simp[hd]
   refine drw eok mix [0,1,2,3,4,5,6,7,8,9,12,13] [10,11,14] (.c 12 10 4 4091 (.c 12 11 128 3963 (.c 12 14 3961 2 (.l 12 2) .s) .s) .s) ?_;simp;intro b2;refine⟨aa,λH2=>hK H2 _ ?_ ?_ ?_⟩
   ·simp[wU hp hd]
   ·simp[wU hp hd,Part.row]
   ·intro q q0 q1 q2 q3
    repeat (first|exact rfl|refine(eD aa).trans ?_)
  ·simp[hd]
   refine hK H _ ?_ ?_ ?_
   ·simp[wS hp hd]
   ·simp[wS hp hd,Part.row]
   ·intro q q0 q1 q2 q3
    repeat (first|exact rfl|refine(eD aa).trans ?_)
theorem nr{w0:World}{bF bG:Nat->Prop}{bl:Bool}{st:ASt}{dst:Option Nat}{K:ASt->Prop}{L:List Part}{P:List Int}{D n:Int}{b:Nat}{Hl Hp:Hd}(hL:L.length<=2^19)(hP:P.length<=2^40)(hn0:0<n)(hn:n<=200)(hF:∀q∈bN L P D,0<=q.n/\q.n<=2^40)
 (g160:st.h.get 640=.vars b 261 [.sl 5000 Hl 3 0 L.length,.sl 5001 Hp 1 0 P.length,.v (.int .i64 D)])
 (g5000:st.h.get 5000=.rows Hl 3 (L.map Part.row) true) (g5001:st.h.get 5001=.rows Hp 1 (P.map aG) true)
 (hK:∀Hl' h',AH.get h' 640=.vars b 261 [.sl 5000 Hl' 3 0 (dN (bN L P D) n).length,.nil,.v (.int .i64 0)]->AH.get h' 5000=.rows Hl' 3 ((dN (bN L P D) n).map Part.row) true ->
  (∀q,q<15000->q≠640->q≠5000->q≠5001->AH.get h' q=st.h.get q)->bQ ⟨st.n,st.kb,st.t,h'⟩ dst (.tup []) K):ag ⟨Tryz.prog,tt,w0,⟨bF,bG,bl,λ_=>True⟩⟩ 263 [.p 640 b 0,.v (.int .i64 n)] st dst K:=by
 refine inl aw Tryz.func263 30000 (λw1 F=>?_);have n0:¬n=0:=aa;simp[n0];refine qF (L:=L) (P:=P) (D:=D) (Hl:=Hl) (Hp:=Hp) aa hP (by simp[g160]) (by simp[g5000]) (by simp[g5001]) (λHl' h' k160 k5000 k80=>?_);have f1:=kD L P D;generalize bN L P D=F at f1 hF k160 k5000 hK;by_cases hF0:0<F.length
 ·obtain⟨m,hm⟩:∃m,F.length=m+1:=⟨F.length-1,aa⟩
  have hmlt:m<F.length:=aa;have hmm:(m:Int)<m+1:=aa;have em:Go.IntKind.i64.wrap (m:Int)=m:=fE aa
  have hk:dN F n=if F[m].kind=1 then F.set m ⟨1,F[m].n+n,F[m].signs⟩else F++[⟨1,n,[]⟩]:=by
   exact D9
  have hq:=hF _ (ak hmlt);have em2:Go.IntKind.i64.wrap (F[m].n+n)=F[m].n+n:=ae _ aa;simp[k160,k5000,hm,em,hmm,Part.row];by_cases ck:F[m].kind=1
  ·rw[an ck]at hk
   simp[ck];refine drw eok mix [0,1,2,3,4,5,6,7,8,9,10,11,12,13,14,15,16,17,18] [19] (.c 19 19 524285 2 (.l 19 2) .s) ?_;simp[k160,k5000,hm,em,hmm,Part.row,ck,em2];have hmod:=qd (F:=F) (m:=m) hmlt (g:=λrow=>iW row 1 [CD.v (Value.int IntKind.i64 (F[m].n+n))]) (p:=⟨1,F[m].n+n,F[m].signs⟩) yP;refine hK Hl' _ ?_ ?_ ?_
   ·simp[k160,hk,hm]
   ·simp[hk,hmod]
   ·intro q q0 q1 q2 q3
    repeat (first|exact k80 q q0 q1 q2 q3|exact rfl|refine(eD aa).trans ?_)
  ·rw[aq ck]at hk
   simp[ck,k160,k5000,hm];intro b1;refine⟨aa,λH=>hK H _ ?_ ?_ ?_⟩
   ·simp[hk,hm]
   ·simp[hk,Part.row]
   ·intro q q0 q1 q2 q3
    repeat (first|exact k80 q q0 q1 q2 q3|exact rfl|refine(eD aa).trans ?_)
 ·have hF1:F=[]:=aA aa
  subst hF1;have hk:dN [] n=[⟨1,n,[]⟩]:=by simp[dN]
  simp[k160,k5000];intro b1 H;refine hK H _ ?_ ?_ ?_
  ·simp[hk]
  ·simp[hk,Part.row]
  ·intro q q0 q1 q2 q3
   repeat (first|exact k80 q q0 q1 q2 q3|exact rfl|refine(eD aa).trans ?_)
theorem BI{w0:World}{bF bG:Nat->Prop}{bl:Bool}{st:ASt}{dst:Option Nat}{K:ASt->Prop}{L:List Part}{P l:List Int}{D:Int}{b:Nat}{Hl Hp:Hd}(hP:P.length<=2^40)(hl:l.length<=2^40)
 (g160:st.h.get 640=.vars b 261 [.sl 5000 Hl 3 0 L.length,.sl 5001 Hp 1 0 P.length,.v (.int .i64 D)]) (g5001:st.h.get 5001=.rows Hp 1 (P.map aG) true)
 (hK:∀Hp' h',AH.get h' 640=.vars b 261 [.sl 5000 Hl 3 0 L.length,.sl 5001 Hp' 1 0 (P++l).length,.v (.int .i64 D)]->AH.get h' 5001=.rows Hp' 1 ((P++l).map aG) true->AH.get h' 5000=st.h.get 5000 ->
  (∀q,q<15000->q≠640->q≠5000->q≠5001->AH.get h' q=st.h.get q)->bQ ⟨st.n,st.kb,st.t,h'⟩ dst (.tup []) K):ag ⟨Tryz.prog,tt,w0,⟨bF,bG,bl,λ_=>True⟩⟩ 264 [.p 640 b 0,.ro (l.map aG)] st dst K:=by
 refine inl aw Tryz.func264 30000 (λw1 F=>?_);simp[g160,g5001];refine⟨aa,λH=>hK H _ ?_ ?_ ?_ ?_⟩
 ·simp
 ·simp
 ·simp
 ·intro q q0 q1 q2 q3
  repeat (first|exact rfl|refine(eD aa).trans ?_)
theorem zV{w0:World}{bF bG:Nat->Prop}{bl:Bool}{st:ASt}{dst:Option Nat}{K:ASt->Prop}{n D:Int}{b:Nat}{x y:AV}(h0:0<=D/\D<=2^40)(h1:0<=n/\n<=2^40)
 (g160:st.h.get 640=.vars b 261 [x,y,.v (.int .i64 D)])
 (hK:∀h',AH.get h' 640=.vars b 261 [x,y,.v (.int .i64 (D+n))]->(∀q,q≠640->AH.get h' q=st.h.get q)->bQ ⟨st.n,st.kb,st.t,h'⟩ dst (.tup []) K):ag ⟨Tryz.prog,tt,w0,⟨bF,bG,bl,λ_=>True⟩⟩ 265 [.p 640 b 0,.v (.int .i64 n)] st dst K:=by
 refine inl aw Tryz.func265 30000 (λw1 F=>?_);have e:Go.IntKind.i64.wrap (D+n)=D+n:=ae _ aa;simp[g160,e];refine hK _ ab (λq hq=>by simp[hq])
theorem qE{w0:World}{bF bG:Nat->Prop}{bl:Bool}{st:ASt}{dst:Option Nat}{K:ASt->Prop}{L:List Part}{P:List Int}{D:Int}{b:Nat}{Hl Hp:Hd}(hL:L.length<=2^20)(_hP:P.length<=2^40)
 (g160:st.h.get 672=.vars b 261 [.sl 5002 Hl 3 0 L.length,.sl 5003 Hp 1 0 P.length,.v (.int .i64 D)])
 (g5000:st.h.get 5002=.rows Hl 3 (L.map Part.row) true) (g5001:st.h.get 5003=.rows Hp 1 (P.map aG) true)
 (hK:∀Hl' h',AH.get h' 672=.vars b 261 [.sl 5002 Hl' 3 0 (bN L P D).length,.nil,.v (.int .i64 0)]->AH.get h' 5002=.rows Hl' 3 ((bN L P D).map Part.row) true ->
  (∀q,q<15000->q≠672->q≠5002->q≠5003->AH.get h' q=st.h.get q)->bQ ⟨st.n,st.kb,st.t,h'⟩ dst (.tup []) K):ag ⟨Tryz.prog,tt,w0,⟨bF,bG,bl,λ_=>True⟩⟩ 273 [.p 672 b 0] st dst K:=by
 refine inl aw Tryz.func273 20000 (λw1 F=>?_);simp[g160];by_cases hp:P=[]
 ·have hp0:¬0<P.length:=by simp[hp]
  simp[hp0,g160];by_cases hd:0<D
  ·simp[hd]
   refine drw eok mix [0,1,2,3,4,5,6,7,8,9,12,13] [10,11,14] (.c 12 10 4 4091 (.c 12 11 128 3963 (.c 12 14 3961 2 (.l 12 2) .s) .s) .s) ?_;simp[g160,g5000];intro b1;refine⟨aa,λH=>hK H _ ?_ ?_ ?_⟩
   ·simp[wQ hp hd]
   ·simp[wQ hp hd,Part.row]
   ·intro q q0 q1 q2 q3
    repeat (first|exact rfl|refine(eD aa).trans ?_)
  ·simp[hd,g160]
   refine hK Hl _ ?_ ?_ ?_
   ·simp[wP hp hd]
   ·simp[wP hp hd,g5000]
   ·intro q q0 q1 q2 q3
    repeat (first|exact rfl|refine(eD aa).trans ?_)
 ·have hp0:0<P.length:=eN.2 hp
  simp[hp0];refine drw eok mix [0,1,2,3,4,5,6,7,8,9,12,13] [10,11,14] (.c 12 10 4 4091 (.c 12 11 128 3963 (.c 12 14 3961 2 (.l 12 2) .s) .s) .s) ?_;simp[g160,g5000,g5001];intro b1;refine⟨aa,λH=>?_⟩;by_cases hd:0<D
  ·simp[hd]
   refine drw eok mix [0,1,2,3,4,5,6,7,8,9,12,13] [10,11,14] (.c 12 10 4 4091 (.c 12 11 128 3963 (.c 12 14 3961 2 (.l 12 2) .s) .s) .s) ?_;simp;intro b2;refine⟨aa,λH2=>hK H2 _ ?_ ?_ ?_⟩
   ·simp[wU hp hd]
   ·simp[wU hp hd,Part.row]
   ·intro q q0 q1 q2 q3
    repeat (first|exact rfl|refine(eD aa).trans ?_)
  ·simp[hd]
   refine hK H _ ?_ ?_ ?_
   ·simp[wS hp hd]
   ·simp[wS hp hd,Part.row]
   ·intro q q0 q1 q2 q3
    repeat (first|exact rfl|refine(eD aa).trans ?_)
theorem rh{w0:World}{bF bG:Nat->Prop}{bl:Bool}{st:ASt}{dst:Option Nat}{K:ASt->Prop}{L:List Part}{P:List Int}{D n:Int}{b:Nat}{Hl Hp:Hd}(hL:L.length<=2^19)(hP:P.length<=2^40)(hn0:0<n)(hn:n<=200)(hF:∀q∈bN L P D,0<=q.n/\q.n<=2^40)
 (g160:st.h.get 672=.vars b 261 [.sl 5002 Hl 3 0 L.length,.sl 5003 Hp 1 0 P.length,.v (.int .i64 D)])
 (g5000:st.h.get 5002=.rows Hl 3 (L.map Part.row) true) (g5001:st.h.get 5003=.rows Hp 1 (P.map aG) true)
 (hK:∀Hl' h',AH.get h' 672=.vars b 261 [.sl 5002 Hl' 3 0 (dN (bN L P D) n).length,.nil,.v (.int .i64 0)]->AH.get h' 5002=.rows Hl' 3 ((dN (bN L P D) n).map Part.row) true ->
  (∀q,q<15000->q≠672->q≠5002->q≠5003->AH.get h' q=st.h.get q)->bQ ⟨st.n,st.kb,st.t,h'⟩ dst (.tup []) K):ag ⟨Tryz.prog,tt,w0,⟨bF,bG,bl,λ_=>True⟩⟩ 263 [.p 672 b 0,.v (.int .i64 n)] st dst K:=by
 refine inl aw Tryz.func263 30000 (λw1 F=>?_);have n0:¬n=0:=aa;simp[n0];refine qE (L:=L) (P:=P) (D:=D) (Hl:=Hl) (Hp:=Hp) aa hP (by simp[g160]) (by simp[g5000]) (by simp[g5001]) (λHl' h' k160 k5000 k80=>?_);have f1:=kD L P D;generalize bN L P D=F at f1 hF k160 k5000 hK;by_cases hF0:0<F.length
 ·obtain⟨m,hm⟩:∃m,F.length=m+1:=⟨F.length-1,aa⟩
  have hmlt:m<F.length:=aa;have hmm:(m:Int)<m+1:=aa;have em:Go.IntKind.i64.wrap (m:Int)=m:=fE aa
  have hk:dN F n=if F[m].kind=1 then F.set m ⟨1,F[m].n+n,F[m].signs⟩else F++[⟨1,n,[]⟩]:=by
   exact D9
  have hq:=hF _ (ak hmlt);have em2:Go.IntKind.i64.wrap (F[m].n+n)=F[m].n+n:=ae _ aa;simp[k160,k5000,hm,em,hmm,Part.row];by_cases ck:F[m].kind=1
  ·rw[an ck]at hk
   simp[ck];refine drw eok mix [0,1,2,3,4,5,6,7,8,9,10,11,12,13,14,15,16,17,18] [19] (.c 19 19 524285 2 (.l 19 2) .s) ?_;simp[k160,k5000,hm,em,hmm,Part.row,ck,em2];have hmod:=qd (F:=F) (m:=m) hmlt (g:=λrow=>iW row 1 [CD.v (Value.int IntKind.i64 (F[m].n+n))]) (p:=⟨1,F[m].n+n,F[m].signs⟩) yP;refine hK Hl' _ ?_ ?_ ?_
   ·simp[k160,hk,hm]
   ·simp[hk,hmod]
   ·intro q q0 q1 q2 q3
    repeat (first|exact k80 q q0 q1 q2 q3|exact rfl|refine(eD aa).trans ?_)
  ·rw[aq ck]at hk
   simp[ck,k160,k5000,hm];intro b1;refine⟨aa,λH=>hK H _ ?_ ?_ ?_⟩
   ·simp[hk,hm]
   ·simp[hk,Part.row]
   ·intro q q0 q1 q2 q3
    repeat (first|exact k80 q q0 q1 q2 q3|exact rfl|refine(eD aa).trans ?_)
 ·have hF1:F=[]:=aA aa
  subst hF1;have hk:dN [] n=[⟨1,n,[]⟩]:=by simp[dN]
  simp[k160,k5000];intro b1 H;refine hK H _ ?_ ?_ ?_
  ·simp[hk]
  ·simp[hk,Part.row]
  ·intro q q0 q1 q2 q3
   repeat (first|exact k80 q q0 q1 q2 q3|exact rfl|refine(eD aa).trans ?_)
theorem tP{w0:World}{bF bG:Nat->Prop}{bl:Bool}{st:ASt}{dst:Option Nat}{K:ASt->Prop}{L:List Part}{P l:List Int}{D:Int}{b:Nat}{Hl Hp:Hd}(hP:P.length<=2^40)(hl:l.length<=2^40)
 (g160:st.h.get 672=.vars b 261 [.sl 5002 Hl 3 0 L.length,.sl 5003 Hp 1 0 P.length,.v (.int .i64 D)]) (g5001:st.h.get 5003=.rows Hp 1 (P.map aG) true)
 (hK:∀Hp' h',AH.get h' 672=.vars b 261 [.sl 5002 Hl 3 0 L.length,.sl 5003 Hp' 1 0 (P++l).length,.v (.int .i64 D)]->AH.get h' 5003=.rows Hp' 1 ((P++l).map aG) true->AH.get h' 5002=st.h.get 5002 ->
  (∀q,q<15000->q≠672->q≠5002->q≠5003->AH.get h' q=st.h.get q)->bQ ⟨st.n,st.kb,st.t,h'⟩ dst (.tup []) K):ag ⟨Tryz.prog,tt,w0,⟨bF,bG,bl,λ_=>True⟩⟩ 264 [.p 672 b 0,.ro (l.map aG)] st dst K:=by
 refine inl aw Tryz.func264 30000 (λw1 F=>?_);simp[g160,g5001];refine⟨aa,λH=>hK H _ ?_ ?_ ?_ ?_⟩
 ·simp
 ·simp
 ·simp
 ·intro q q0 q1 q2 q3
  repeat (first|exact rfl|refine(eD aa).trans ?_)
theorem zU{w0:World}{bF bG:Nat->Prop}{bl:Bool}{st:ASt}{dst:Option Nat}{K:ASt->Prop}{n D:Int}{b:Nat}{x y:AV}(h0:0<=D/\D<=2^40)(h1:0<=n/\n<=2^40)
 (g160:st.h.get 672=.vars b 261 [x,y,.v (.int .i64 D)])
 (hK:∀h',AH.get h' 672=.vars b 261 [x,y,.v (.int .i64 (D+n))]->(∀q,q≠672->AH.get h' q=st.h.get q)->bQ ⟨st.n,st.kb,st.t,h'⟩ dst (.tup []) K):ag ⟨Tryz.prog,tt,w0,⟨bF,bG,bl,λ_=>True⟩⟩ 265 [.p 672 b 0,.v (.int .i64 n)] st dst K:=by
 refine inl aw Tryz.func265 30000 (λw1 F=>?_);have e:Go.IntKind.i64.wrap (D+n)=D+n:=ae _ aa;simp[g160,e];refine hK _ ab (λq hq=>by simp[hq])
end Go.Proofs.YtklblkobegcljaaGreat
