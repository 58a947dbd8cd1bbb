import Derived.Test.YtmccaifipoohfaaGreatDoorPM
import Derived.Test.YtmccaifipoohfaaGreatDoorPJ
import Derived.Test.YtmccaifipoohfaaGreatDoorPI
import Derived.Test.YtmccaifipoohfaaGreatDoorPD
import Derived.Test.YtmccaifipoohfaaGreatDoorPF
import Derived.Test.YtmccaifipoohfaaGreatDoorPH
import Derived.Test.YtmccaifipoohfaaGreatDoorPE
namespace Go.Proofs.YtmccaifipoohfaaGreatDoor
open Go.AM
set_option maxRecDepth 20000
set_option maxHeartbeats 3200000
theorem Zk{d:Doc}(h:bS d)(n:Int):(fW d n).1.length<=8:=by
 have:=h.2.2.2.1;unfold fW
 repeat' split
 all_goals first|(simp only[eO];omega)|simp
theorem abt(h:Hub)(id n:Int):(el h id n).2.1.length<=8:=by
 unfold el
 split
 ·rename_i c
  split
  ·rename_i s hs
   obtain⟨hi,rfl⟩:=az.1 hs;have hr:=(A3 c.1 hi).1;generalize h.subs[(kI h.subs id).toNat]=s at hr;have hl:s.r.list.length<=6:=by have:=hr.2.1.2;have:=hr.2.2.2.1;omega
   have h2:(dA s.r n).2.1.length<=8:=by
    unfold dA
    repeat' split
    all_goals first|(simp only[gh];omega)|simp
   repeat' split
   all_goals first|exact h2|simp
  ·simp
 ·simp
theorem Rx{h:Hub}(c:bq h)(x:Call):(qb h x).list.length<=8:=by
 unfold qb
 split
 ·exact mT
 split
 ·rename_i d hd
  obtain⟨hi,rfl⟩:=az.1 hd
  split
  ·split
   ·exact mT
   ·exact Zk (gO c hi) _
  ·exact mT
 ·exact mT
theorem acp(h:Hub)(c:Call):(fDo h c).2.list.length<=8:=by
 unfold fDo
 split
 ·rename_i ok
  repeat' split
  all_goals first|exact fe _|exact Rx ok.1 c|exact abt h c.client c.n
 ·exact mT
theorem Gq(k:Int):(lu k).length<=20:=by
 by_cases h:0<=k/\k<=12
 ·have hc:k=0\/k=1\/k=2\/k=3\/k=4\/k=5\/k=6\/k=7\/k=8\/k=9\/k=10\/k=11\/k=12:=by omega
  rcases hc with rfl|rfl|rfl|rfl|rfl|rfl|rfl|rfl|rfl|rfl|rfl|rfl|rfl
  all_goals simp[lu]
 ·unfold lu
  simp only[show ¬k=0 from aa,show ¬k=1 from aa,show ¬k=2 from aa,show ¬k=3 from aa,show ¬k=4 from aa,show ¬k=5 from aa,show ¬k=6 from aa,show ¬k=7 from aa,show ¬k=8 from aa,show ¬k=9 from aa,show ¬k=10 from aa,show ¬k=11 from aa,show ¬k=12 from aa,dO];exact mT
theorem RW(h:Hub)(c:Call):(gC (fDo h c).2).length<=2^32:=by
 have h1:=acp h c;have h2:=(XO h c).2;generalize (fDo h c).2=a at h1 h2⊢;unfold gC
 split
 ·have h3:=lT a.text
  have h4:=bQ a.rev;have h5:=Fe kR (B:=2500023) (λe=>Lh) a.list a.list.length;rw[aC ab]at h5;unfold mr at h2;simp only[cP,bu,eN];omega
 ·have:=Gq a.code
  omega
theorem F6(d:Doc):(okS (mO (cE d))).size<=2^33:=by
 have h1:=Gr (mO (cE d));have h2:=oK (cE d);have h3:(cE d).length<=2^30:=lM d _;omega
theorem Dh(h:Hub)(w0 w1:List UInt8)(n:Int):(jP h w0 w1 n).size<=2^33:=by
 unfold jP
 split
 ·decide
 ·unfold jF
  split
  ·exact F6 _
  split
  ·have h1:=FA (rf (et (h.docs.getD (dm h.docs (bs w1)).toNat Doc.zero)))
   have h2:=Ge (et (h.docs.getD (dm h.docs (bs w1)).toNat Doc.zero));have h3:=rz (h.docs.getD (dm h.docs (bs w1)).toNat Doc.zero);rw[cO];omega
  split
  ·rw[Gr,cO]
   have:=ja (fV (h.docs.getD (dm h.docs (bs w1)).toNat Doc.zero) n).1;omega
  ·decide
theorem Ot{n:Net}(hn:gT n<=2^26)(k:Int):(sw n k).size<=2^33:=by
 unfold sw
 split
 ·rename_i r hr
  rw[Gr];have h1:=oK (fJ r)
  have h2:(fJ r).length<=2^27:=by
   have h3:dX r<=2^26:=by
    obtain⟨hi,rfl⟩:=az.1 hr;exact iN (B:=2^26) (by unfold gT at hn;omega) hi
   unfold fJ
   split
   ·have:=Bl [r.sent,r.buf] r.text
    unfold dX at h3;omega
   ·simp
  omega
 ·decide
theorem BB{d:Desk}(h:vA d)(s:List UInt8):(qK d s).2.size<=2^33:=by
 have hc:∀(x:Desk) (b:ByteArray),b.size<=20->((x,b):Desk×ByteArray).2.size<=2^33:=λx b h=>cG h ag
 unfold qK oV l8
 split
 ·exact hc _ _ ag
 split
 ·exact hc _ _ ag
 split
 ·rw[cO]
  have:=RW d.h (ez s).1;omega
 split
 ·rw[cO]
  have:=Gq (du d.n (dS s).1).2;omega
 split
 ·refine hc _ _ ?_
  split<;>decide
 split
 ·exact Dh ..
 split
 ·exact Dh ..
 split
 ·exact Ot h.2 _
 split
 ·split
  ·exact hc _ _ ag
  ·exact hc _ _ ag
 ·exact hc _ _ ag
def Mz(b told:ByteArray):ByteArray:=if told=bs []then b else b++told++bs [10]
noncomputable def Al(st:Desk×ByteArray)(x:List UInt8):Desk×ByteArray:=((qK st.1 x).1,Mz st.2 (qK st.1 x).2)
noncomputable def fv(L:List (List UInt8)):Desk×ByteArray:=L.foldl Al (l0,bs [])
theorem uA{L:List (List UInt8)}{i:Nat}(h:i<L.length):fv (L.take (i+1))=Al (fv (L.take i)) L[i]:=by
 unfold fv;exact uu
theorem F9(L:List (List UInt8)):∀i,i<=L.length->vA (fv (L.take i)).1/\(fv (L.take i)).2.size<=2^34*i
 |0,_=>⟨Zv,by simp[fv];decide⟩
 | i + 1, hi => by
   obtain⟨h1,h2⟩:=F9 L i aa;rw[uA aa];have h3:=BB h1 L[i];refine⟨PA _ h1,?_⟩;unfold Al Mz;simp only
   split
   ·omega
   ·rw[nM,nM]
    have:(bs [10]).size=1:=rfl;omega
noncomputable def Kh(s:List UInt8):ByteArray×Int:=if 80<(n8 s).length then(bs [],-1)else((fv (n8 s)).2,((n8 s).length:Int))
theorem Q6(s:List UInt8):(n8 s).length<=s.length+1/\∀x∈n8 s,x.length<=s.length:=by
 have h1:=(dK 10 s).1;have h2:=(dK 10 s).2;unfold n8
 split
 ·exact⟨by rw[List.length_dropLast];omega,λx hx=>h2 x ((List.dropLast_sublist _).subset hx)⟩
 ·exact⟨h1,h2⟩
def apA:List At->List Int->List Int
 | [],_=>[]
 | .k::a,[]=>apA a []
 | .k::a,c::t=>c::apA a t
 | .p c::a,t=>c::apA a t
 | .d::a,t=>apA a (t.drop 1)
theorem zp{a:List At}:∀(n:Nat) (t:List Int),n<=t.length->apA (List.replicate n .k++a) t=t.take n++apA a (t.drop n)
 |0,t,_=>ab
 |n+1,[],h=>iz
 | n + 1, c :: t, h => by
   simp only[bo,bU,apA,jJ,mb];rw[zp n t nS]
theorem wX{a:List At}{t:List Int}:∀Q:List Int,apA (Q.map At.p++a) t=Q++apA a t
 | []=>rfl
 |c::Q=>by simp only[bR,bU,apA,wX Q]
theorem zq{a:List At}:∀(n:Nat) (t:List Int),apA (List.replicate n .d++a) t=apA a (t.drop n)
 |0,t=>ab
 | n + 1, t => by
   simp only[bo,bU,apA];rw[zq n,yo,Dw]
theorem OQ:∀(l:List At) (P:List Int) (n:Nat) (t:List Int),apA (nA P n l) t=P++apA l (t.drop n)
 | [], P, n, t => by
   have:=zq (a:=[]) n t;simp only[bg]at this;rw[nA,wX,this]
 | .k :: l, P, n, t => by
   rw[nA,wX,zq]
   congr 1
   cases t.drop n with
   |nil=>simp only[apA];rw[OQ l];simp
   |cons c t=>simp only[apA];rw[OQ l];simp
 | .p c :: l, P, n, t => by
   rw[nA,OQ l];simp[apA]
 | .d :: l, P, n, t => by
   rw[nA,OQ l];simp[apA]
theorem abH(l:List At)(t:List Int):apA (nY l) t=apA l t:=by
 unfold nY;rw[OQ];simp
theorem MA:∀{o:List Part},(∀p∈o,aS p)->∀{t acc:List Int}{n:Nat},n+frs o<=t.length->(o.foldl (kT t) (acc,(n:Int))).1=acc++apA (aZ o) (t.drop n)
 | [],_,t,acc,n,h=>by simp[aZ,apA]
 | p :: o, ho, t, acc, n, h => by
   have hp:=ho p (aN ..);have ho':=λq hq=>ho q (aD _ hq)
   have hb:=hp.bounds;simp only[frs]at h;rw[nf,aZ];by_cases k1:p.kind=1
   ·have hz:psz p=p.n.toNat:=by unfold psz;simp[hb.2.2.2.2.2 aa]
    rw[aj aa,hz]at h
    have e:kT t (acc,(n:Int)) p=(acc++(t.drop n).take p.n.toNat,((n+p.n.toNat:Nat):Int)):=by
     unfold kT;simp[k1];omega
    rw[e,MA ho' aa];have ea:ats p=List.replicate (psz p) .k:=by unfold ats;rw[aj aa,aj aa]
    rw[ea,hz,zp _ _ aJ,yo,bf]
   ·by_cases k2:p.kind=2
    ·rw[ai k2]at h
     have e:kT t (acc,(n:Int)) p=(acc++p.signs,(n:Int)):=by unfold kT;simp[k2]
     rw[e,MA ho' aa];have ea:ats p=p.signs.map At.p:=by unfold ats;rw[ai k2]
     rw[ea,wX,bf]
    ·have k3:p.kind=3:=by omega
     have hz:psz p=p.n.toNat:=by unfold psz;simp[hb.2.2.2.2.2 aa]
     rw[aj aa,hz]at h
     have e:kT t (acc,(n:Int)) p=(acc,((n+p.n.toNat:Nat):Int)):=by
      unfold kT;simp[k3];omega
     rw[e,MA ho' aa];have ea:ats p=List.replicate (psz p) .d:=by unfold ats;rw[aj aa,ai k3]
     rw[ea,hz,zq,yo]
theorem HU{o:List Part}{t:List Int}(h:gm o t):apply o t=(apA (aZ o) t,true):=by
 have h1:=od h.1;have h2:=h.2.2;have:=MA h.1.1.1 (t:=t) (acc:=[]) (n:=0) aa;unfold apply;rw[ai h];unfold jH;simp only[Int.ofNat_zero,gb,eb]at this;exact Prod.ext this rfl
theorem tP{o:List Part}(h:cg o):(frA (aZ o):Int)=bO o:=by rw[<-oS];exact od h
theorem pN{o:List Part}(h:cg o):(toA (aZ o):Int)=fH o:=by rw[<-qY h.1.1];exact vL h
theorem OJ{o:List Part}(h:∀p∈o,aS p)(h1:frs o<=200)(h2:tos o<=200):cg (normal o)/\bO (normal o)=frs o/\fH (normal o)=tos o:=by
 have hs:=uK h;have e1:frs (normal o)=frs o:=by rw[oS,jv h,AF,<-oS]
 have e2:tos (normal o)=tos o:=by rw[KW hs,jv h,AE,<-qY h]
 have hp:=aa8 hs aa aa;have f2:=zb hp;have t2:=Gn hp;exact⟨⟨hp,aa,aa⟩,aa,aa⟩
structure CpOk(x y:List Part):Prop where
 ok:∀p∈cmp x y,aS p
 fr:frA (aZ (cmp x y))=frA (aZ x)
 to:toA (aZ (cmp x y))=toA (aZ y)
 ap:∀t:List Int,frA (aZ x)<=t.length->apA (aZ (cmp x y)) t=apA (aZ y) (apA (aZ x) t)
theorem Fm{p:Part}(k:p.kind=2)(n:Nat):ats (gl p n)=(p.signs.take n).map At.p:=by
 unfold gl ats;rw[ai k];simp[k]
theorem RN:∀(k:Nat) {x y:List Part},CInv x y->tsz x+tsz y<=k->CpOk x y
 | k, x, y, hi, hk => by
   have ax:=lr hi.px;have ay:=lr hi.py
   cases hs:jG x y with
   | none =>
     have hb:=hi.b;have hxt:=AB x;have hyf:=mq y
     have h0:nxt x=[]/\nxt y=[]:=by
      unfold jG at hs
      cases ex:nxt x with
      | nil =>
        refine⟨rfl,?_⟩
        cases ey:nxt y with
        |nil=>rfl
        | cons q y' =>
          rw[ex,ey]at hs;have hq:=fZ hi.py ey;have hqp:=fY ey;simp only at hs
          split at hs
          ·cases hs
          ·rename_i k2
           rw[ex]at hxt;rw[ey]at hyf;simp[tos,frs,k2]at hxt hyf;omega
      | cons p x' =>
        rw[ex]at hs;have hpp:=fY ex;simp only at hs
        split at hs
        ·cases hs
        ·rename_i k3
         cases ey:nxt y with
         | nil =>
           rw[ex]at hxt;rw[ey]at hyf;simp[tos,frs,k3]at hxt hyf;omega
         | cons q y' =>
           rw[ey]at hs;simp only at hs
           split at hs<;>cases hs
     rw[h0.1]at ax;rw[h0.2]at ay;have e:=HD hs;exact⟨by rw[e];simp,by rw[e,<-ax],by rw[e,<-ay],λt ht=>by rw[e,<-ax,<-ay];rfl⟩
   | some r =>
     have hn:=kQ hi hs;have hd:=hn.dec;have ih:=RN (k-1) hn.inv aa;have e:=tO hi hs
     have hok:∀p∈cmp x y,aS p:=by
      rw[e];intro p hp;exact(aG.1 hp).elim (hn.ok p) (ih.ok p)
     have hb:=hi.b;unfold jG at hs
     cases ex:nxt x with
     | nil =>
       rw[ex]at hs ax
       cases ey:nxt y with
       |nil=>rw[ey]at hs;simp at hs
       | cons q y' =>
         rw[ey]at hs ay;have hq:=(fZ hi.py ey).1;simp only at hs
         split at hs
         ·rename_i k2
          cases hs
          have sq:=nH hq (n:=psz q) (aw _);have aq:=Fm k2 (psz q);simp only[aZ]at ax ay;refine⟨hok,?_,?_,λt ht=>?_⟩
          ·exact Ut
          ·exact LS
          ·rw[e,dr,<-ax,<-ay,sq]
           simp only[aZ,bg,bf,aq,wX];have:=ih.ap t (by simp[aZ,frA]);exact zO
         ·cases hs
     | cons p x' =>
       rw[ex]at hs ax;have hp:=(fZ hi.px ex).1;have hpp:=fY ex;simp only[aZ]at ax;simp only at hs
       split at hs
       ·rename_i k3
        cases hs
        have sp:=nH hp (n:=psz p) (aw _);have ap:=pw hp aa (n:=psz p) (aw _);rw[ai k3]at ap;refine⟨hok,?_,?_,λt ht=>?_⟩
        ·exact LU
        ·rw[e,dr,fM,ih.to];simp only[aZ,bg,ap,y0];omega
        ·rw[<-ax,sp,bf,fk,ap,B6]at ht
         rw[e,dr,<-ax,sp];simp only[aZ,bg,bf,ap,zq];have:=ih.ap (t.drop (psz p)) (by simp only[aZ,eO];omega)
         simpa only[aZ]using this
       ·rename_i k3
        cases ey:nxt y with
        |nil=>rw[ey]at hs;simp at hs
        | cons q y' =>
          rw[ey]at hs ay;have hq:=(fZ hi.py ey).1;simp only[aZ]at ay;simp only at hs
          split at hs
          ·rename_i k2
           cases hs
           have sq:=nH hq (n:=psz q) (aw _);have aq:=Fm k2 (psz q);refine⟨hok,?_,?_,λt ht=>?_⟩
           ·exact Ut
           ·exact LS
           ·rw[<-ax]at ht
            rw[e,dr,<-ax,<-ay,sq];simp only[aZ,bg,bf,aq,wX];have:=ih.ap t (by simpa only[aZ]using ht);exact zO
          ·rename_i k2
           cases hs
           generalize hm:min (psz p) (psz q)=m at ih e hok hn hd;have hm1:m<=psz p:=aa;have hm2:m<=psz q:=aa;have sp:=nH hp hm1;have sq:=nH hq hm2;have aq:=pw hq k2 hm2;by_cases q1:q.kind=1
           ·rw[ai q1]at e
            rw[aj aa]at aq;by_cases p2:p.kind=2
            ·have ap:=Fm p2 m
             have hl:(p.signs.take m).length=m:=by
              have:=Av hp p2;simp;omega
             refine⟨hok,?_,?_,λt ht=>?_⟩
             ·exact LU
             ·rw[e,dr,fM,ih.to,<-ay,sq];simp only[aZ,bg,fM,ap,aq,BE,KX,hl];omega
             ·rw[<-ax,sp,bf,fk,ap,wC]at ht
              rw[e,dr,<-ax,<-ay,sp,sq];simp only[aZ,bg,bf,ap,aq,wX];rw[zp _ _ (by simp only[cP,hl];omega)];have h1:=List.take_left' (l₂:=apA (ats (cf p m)++aZ x') t) hl;have h2:=DR (l₂:=apA (ats (cf p m)++aZ x') t) hl;rw[h1,h2];have:=ih.ap t (by simp only[aZ];omega);exact zO
            ·have ap:=pw hp p2 hm1
             rw[aj k3]at ap;refine⟨hok,?_,?_,λt ht=>?_⟩
             ·exact LU
             ·rw[e,dr,fM,ih.to,<-ay,sq];simp only[aZ,bg,fM,ap,aq];omega
             ·rw[<-ax,sp,bf,fk,ap,GW]at ht
              rw[e,dr,<-ax,<-ay,sp,sq];simp only[aZ,bg,bf,ap,aq];rw[zp m t aa,zp m t aa,zp _ _ aJ];have hl:(t.take m).length=m:=aJ;have h1:=List.take_left' (l₂:=apA (ats (cf p m)++aZ x') (t.drop m)) hl;have h2:=DR (l₂:=apA (ats (cf p m)++aZ x') (t.drop m)) hl;rw[h1,h2];exact SA
           ·have q3:q.kind=3:=by have:=hq.bounds.1;omega
            rw[aj q1]at e;rw[ai q3]at aq;by_cases p1:p.kind=1
            ·rw[ai p1]at e
             have ap:=pw hp aa hm1;rw[aj k3]at ap;refine⟨hok,?_,?_,λt ht=>?_⟩
             ·rw[e,dr,fk,ih.fr,<-ax,sp];simp only[aZ,bg,fk,ap,aq,GW,B6];omega
             ·exact LS
             ·rw[<-ax,sp,bf,fk,ap,GW]at ht
              rw[e,dr,<-ax,<-ay,sp,sq];simp only[aZ,bg,bf,ap,aq,zq];rw[zp m t aa];have hl:(t.take m).length=m:=aJ;have h2:=DR (l₂:=apA (ats (cf p m)++aZ x') (t.drop m)) hl;rw[h2];exact SA
            ·rw[aj p1]at e
             have p2:p.kind=2:=by have:=hp.bounds.1;omega
             have ap:=Fm p2 m
             have hl:(p.signs.take m).length=m:=by
              have:=Av hp p2;simp;omega
             refine⟨hok,?_,?_,λt ht=>?_⟩
             ·rw[e,dr,fk,ih.fr,<-ax,sp];simp only[aZ,fk,ap,wC,frA];omega
             ·rw[e,dr,fM,ih.to,<-ay,sq];simp only[aZ,fM,aq,y0,toA];omega
             ·rw[<-ax,sp,bf,fk,ap,wC]at ht
              rw[e,dr,<-ax,<-ay,sp,sq];simp only[aZ,gb,bf,ap,aq,zq,wX];have h2:=DR (l₂:=apA (ats (cf p m)++aZ x') t) hl;rw[h2];have:=ih.ap t (by simp only[aZ];omega);exact zO
termination_by k=>k
decreasing_by omega
theorem M9{a b:List Part}(ha:cg a)(hb:cg b)(h:fH a=bO b) :
 (cQ a b).2=true/\cu (cQ a b).1/\bO (cQ a b).1=bO a/\fH (cQ a b).1=fH b /\
 ∀t:List Int,eD t->bO a=t.length->(apply (cQ a b).1 t).1=(apply b (apply a t).1).1:=by
 have hi:=Fl ha hb h;have c:=RN _ hi (aw _);have f1:=tP ha;have t1:=pN hb;have g1:=ha.2.1;have g2:=hb.2.2;have n:=OJ c.ok (by rw[oS,c.fr];omega) (by rw[qY c.ok,c.to];omega);have e:cQ a b=(normal (cmp a b),true):=Sq;have n1:=n.2.1;have n2:=n.2.2;rw[oS,c.fr]at n1;rw[qY c.ok,c.to]at n2
 have hnn:cu (normal (cmp a b)):=by
  have hx:=jv c.ok;refine⟨n.1,?_⟩;unfold cS;rw[ai n.1,oN n.1.1.1,hx,oN c.ok];unfold nY;rw[JX]
 rw[e];refine⟨rfl,hnn,gL,gL,λt ht hf=>?_⟩;have fa:gm a t:=⟨ha,ht,hf⟩;have ta:=kS fa;have fb:gm b (apply a t).1:=⟨hb,ta.1,aa⟩;have fc:gm (normal (cmp a b)) t:=⟨n.1,ht,aa⟩;rw[HU fc,HU fb,HU fa];simp only;rw[jv c.ok,abH];exact c.ap t aa
def gg:List At->Nat
 | []=>0
 | .p _::l=>gg l+1
 |_::l=>gg l
def kY:List At->Nat
 | []=>0
 | .d::l=>kY l+1
 |_::l=>kY l
theorem l9:∀(a b:List At),gg (a++b)=gg a+gg b
 | [],b=>by simp[gg]
 | .p c::a,b=>by simp[gg,l9 a b];omega
 | .k::a,b=>by simp[gg,l9 a b]
 | .d::a,b=>by simp[gg,l9 a b]
theorem nG:∀(a b:List At),kY (a++b)=kY a+kY b
 | [],b=>by simp[kY]
 | .d::a,b=>by simp[kY,nG a b];omega
 | .k::a,b=>by simp[kY,nG a b]
 | .p c::a,b=>by simp[kY,nG a b]
theorem Bg:∀l:List Int,gg (l.map At.p)=l.length
 | []=>rfl
 |c::l=>by simp[gg,Bg l]
theorem Fj:∀l:List Int,kY (l.map At.p)=0
 | []=>rfl
 |c::l=>by simp[kY,Fj l]
theorem No:∀n:Nat,gg (List.replicate n At.k)=0
 |0=>rfl
 |n+1=>by simp[bo,gg,No n]
theorem Bh:∀n:Nat,gg (List.replicate n At.d)=0
 |0=>rfl
 |n+1=>by simp[bo,gg,Bh n]
theorem XV:∀n:Nat,kY (List.replicate n At.k)=0
 |0=>rfl
 |n+1=>by simp[bo,kY,XV n]
theorem Fk:∀n:Nat,kY (List.replicate n At.d)=n
 |0=>rfl
 |n+1=>by simp[bo,kY,Fk n]
theorem acD{p:Part}(h:aS p):(gg (ats p):Int)=fP p/\(kY (ats p):Int)=fD p:=by
 have hb:=h.bounds;unfold ats fP fD;by_cases k2:p.kind=2
 ·have:¬p.kind=1:=by omega
  simp[k2,Bg,Fj]
 ·have hz:psz p=p.n.toNat:=by unfold psz;simp[hb.2.2.2.2.2 k2]
  by_cases k3:p.kind=3
  ·simp[k3,Bh,Fk,hz];omega
  ·have:p.kind=1:=by omega
   simp[this,No,XV]
theorem RM:∀{o:List Part},(∀p∈o,aS p)->(gg (aZ o):Int)=dN fP o/\(kY (aZ o):Int)=dN fD o
 | [],_=>by simp[aZ,gg,kY,dN]
 | p :: o, h => by
   have h1:=acD (h p (aN ..));have h2:=RM (o:=o) (λq hq=>h q (aD _ hq));simp only[aZ,l9,nG,dN];omega
theorem Fc{o:List Part}:idle o↔cg o/\gg (aZ o)=0/\kY (aZ o)=0:=by
 unfold idle DE yP
 constructor
 ·rintro⟨h,h1,h2⟩
  rw[ai h]at h1 h2;have:=RM h.1.1;exact⟨h,aa,aa⟩
 ·rintro⟨h,h1,h2⟩
  have:=RM h.1.1;rw[ai h,ai h];exact⟨h,aa,aa⟩
theorem Kb:∀(a:List At),gg a=0->kY a=0->frA a=toA a
 | [],_,_=>rfl
 | .k :: a, h1, h2 => by
   simp only[frA,toA];rw[Kb a (by simpa[gg]using h1) (by simpa[kY]using h2)]
 | .p c::a,h1,_=>by simp[gg]at h1
 | .d::a,_,h2=>by simp[kY]at h2
theorem aes{o:List Part}(h:idle o):fH o=bO o:=by
 have h1:=Fc.1 h;have:=Kb _ h1.2.1 h1.2.2;have:=tP h1.1;have:=pN h1.1;omega
theorem GB:∀(l:List At) (P:List Int) (n:Nat),gg (nA P n l)=P.length+gg l/\kY (nA P n l)=n+kY l
 | [],P,n=>by simp[nA,l9,nG,Bg,Fj,Bh,Fk,gg,kY]
 | .k :: l, P, n => by
   have:=GB l [] 0;simp[nA,l9,nG,Bg,Fj,Bh,Fk,gg,kY,this]
 | .p c :: l, P, n => by
   have:=GB l (P++[c]) n;simp[nA,gg,kY,this];omega
 | .d :: l, P, n => by
   have:=GB l P (n+1);simp[nA,gg,kY,this];omega
theorem E3:∀(a b:List At),gg b=0->kY b=0->gg (tA a b).2=0/\kY (tA a b).2=0
 | .p c::a,b,h1,h2=>by rw[adC];simpa[gg,kY]using E3 a b h1 h2
 | [],.p c::b,h1,_=>by simp[gg]at h1
 | .k::a,.p c::b,h1,_=>by simp[gg]at h1
 | .d::a,.p c::b,h1,_=>by simp[gg]at h1
 | .k::a,.k::b,h1,h2=>by rw[tA];simpa[gg,kY]using E3 a b (by simpa[gg]using h1) (by simpa[kY]using h2)
 | .d::a,.k::b,h1,h2=>by rw[tA];exact E3 a b (by simpa[gg]using h1) (by simpa[kY]using h2)
 | .k::a,.d::b,_,h2=>by simp[kY]at h2
 | .d::a,.d::b,_,h2=>by simp[kY]at h2
 | [],[],_,_=>D3
 | [],.k::b,_,_=>D3
 | [],.d::b,_,h2=>by simp[kY]at h2
 | .k::a,[],_,_=>D3
 | .d::a,[],_,_=>D3
termination_by a b=>a.length+b.length
theorem DL{a b:List Part}(h:(aI a b).2.2=true)(hb:idle b):idle (aI a b).2.1:=by
 have o:=sK h;have h1:=Fc.1 hb;have h2:=E3 (aZ a) (aZ b) h1.2.1 h1.2.2;have h3:=GB (tA (aZ a) (aZ b)).2 [] 0;refine Fc.2 ⟨o.oky,?_,?_⟩
 ·rw[o.ay];unfold nY;simp at h3;omega
 ·rw[o.ay];unfold nY;simp at h3;omega
theorem adE{r:Rep}(h:cm r)(h1:r.has=false)(h2:r.seq≠999999999):cm (gu r):=by
 obtain⟨g1,g2,g3,g4,g5,g6,g7,g8,g9⟩:=h;rw[h1]at g9;have hi:idle r.sent:=by simpa using g9
 have ht:=aes hi;have hb:=g6.1.2.2;have hk:=lY (n:=fH r.buf) (by have:=pN g6.1;omega) hb;refine⟨g1,by simp only[gu];omega,g3,g4,g6,hk.1,by simp only[gu];omega,hk.2.1,?_⟩;simp only[gu,dF];omega
def Pn(o:List Part):Nat:=gg (aZ o)
theorem xA:∀(a b:List At),frA a=frA b->gg (tA a b).1=gg a/\gg (tA a b).2=gg b
 | .p c :: a, b, h => by
   have:=xA a b qi;rw[adC];simp[gg,this]
 | [], .p c :: b, h => by
   have:=xA [] b qi;exact LH
 | .k :: a, .p c :: b, h => by
   have:=xA (.k::a) b qi;exact LH
 | .d :: a, .p c :: b, h => by
   have:=xA (.d::a) b qi;exact LH
 | .k :: a, .k :: b, h => by
   exact ER
 | .d :: a, .k :: b, h => by
   exact ER
 | .k :: a, .d :: b, h => by
   exact ER
 | .d :: a, .d :: b, h => by
   exact ER
 | [],[],_=>by simp[tA,gg]
 | [],.k::b,h=>rV
 | [],.d::b,h=>rV
 | .k::a,[],h=>rV
 | .d::a,[],h=>rV
termination_by a b=>a.length+b.length
theorem ze(l:List At):gg (nY l)=gg l:=by
 have:=(GB l [] 0).1;unfold nY;simpa using this
theorem aav:∀a:List At,toA a<=frA a+gg a
 | []=>by simp[toA]
 | .k::a=>Lc
 | .p c::a=>Lc
 | .d::a=>Lc
theorem E9{o:List Part}(h:cg o):fH o<=bO o+Pn o:=by
 have h1:=tP h;have h2:=pN h;have:=aav (aZ o);unfold Pn;omega
theorem DV{a b:List Part}(h:(aI a b).2.2=true):Pn (aI a b).1=Pn a/\Pn (aI a b).2.1=Pn b:=by
 have o:=sK h;have f1:=tP o.oka;have f2:=tP o.okb;have ff:=o.from_;have:=xA (aZ a) (aZ b) aa;unfold Pn;rw[o.ax,o.ay,ze,ze];exact this
def zo:List Int->Nat
 | []=>0
 |x::t=>(if 0<=x then 1 else 0)+zo t
theorem Kr:∀(n:Nat) (t:List Int),zo (t.drop n)<=zo t
 |0,t=>ab
 |n+1,[]=>ab
 |n+1,x::t=>by have:=Kr n t;simp only[mb,zo];omega
theorem yh:∀(a:List At) (t:List Int),zo (apA a t)<=gg a+zo t
 | [],t=>by simp[apA,zo]
 | .k::a,[]=>by have:=yh a [];simpa[apA,gg]using this
 | .k::a,x::t=>by have:=yh a t;simp only[apA,gg,zo];omega
 | .p c::a,t=>by have:=yh a t;simp only[apA,gg,zo];split<;>omega
 | .d::a,t=>by have:=yh a (t.drop 1);have:=Kr 1 t;simp only[apA,gg];omega
theorem rE:∀(a:List At) (n:Nat),(∀c,At.p c∈a->0<=c)->zo (apA a (List.replicate n (-1)))=gg a
 | [],n,_=>by simp[apA,zo,gg]
 | .k :: a, 0, h => by
   have:=rE a 0 (λc hc=>h c (aD _ hc))
   simpa[apA,gg]using this
 | .k :: a, n + 1, h => by
   have:=rE a n (λc hc=>h c (aD _ hc))
   simpa[bo,apA,gg,zo]using this
 | .p c :: a, n, h => by
   have:=rE a n (λc hc=>h c (aD _ hc));have h0:=h c (aN ..);simp only[apA,gg,zo,this,ai h0];omega
 | .d :: a, n, h => by
   have:=rE a (n-1) (λc hc=>h c (aD _ hc))
   simpa[apA,gg]using this
theorem PM:∀n:Nat,zo (List.replicate n (-1))=0
 |0=>rfl
 |n+1=>by simp[bo,zo,PM n]
theorem aeM{p:Part}(h:aS p){c:Int}(hc:At.p c∈ats p):0<=c:=by
 unfold ats at hc
 split at hc
 ·obtain⟨x,hx,e⟩:=cH.1 hc
  cases e
  rcases h with⟨h1,-,h2⟩|⟨-,-,-,h2⟩
  ·rw[h2]at hx;cases hx
  ·exact(h2 _ hx).1.1
 ·split at hc
  ·have:=(List.mem_replicate.1 hc).2;cases this
  ·have:=(List.mem_replicate.1 hc).2;cases this
theorem Ky:∀{o:List Part},(∀p∈o,aS p)->∀c,At.p c∈aZ o->0<=c
 | [],_,c,hc=>by cases hc
 | p :: o, h, c, hc => by
   unfold aZ at hc;rcases aG.1 hc with hc|hc
   ·exact aeM (h p (aN ..)) hc
   ·exact Ky (λq hq=>h q (aD _ hq)) c hc
theorem ahM{a b:List Part}(ha:cg a)(hb:cg b)(h:fH a=bO b):Pn (cQ a b).1<=Pn a+Pn b:=by
 have hi:=Fl ha hb h;have c:=RN _ hi (aw _);have f1:=tP ha;have t1:=pN hb;have g1:=ha.2.1;have g2:=hb.2.2;have n:=OJ c.ok (by rw[oS,c.fr];omega) (by rw[qY c.ok,c.to];omega);have e:cQ a b=(normal (cmp a b),true):=Sq;rw[e];unfold Pn;simp only;rw[jv c.ok,ze];have k1:=rE (aZ (cmp a b)) (frA (aZ a)) (Ky c.ok);have k2:=c.ap (List.replicate (frA (aZ a)) (-1)) ab;have k3:=yh (aZ b) (apA (aZ a) (List.replicate (frA (aZ a)) (-1)));have k4:=yh (aZ a) (List.replicate (frA (aZ a)) (-1));have k5:=PM (frA (aZ a));rw[k2]at k1;omega
theorem M3{o:List Part}(h:idle o):Pn o=0:=(Fc.1 h).2.1
theorem Zc{n:Int}(h0:0<=n)(h1:n<=200):Pn (dv n)=0:=M3 (lY h0 h1).2.2.2
def pA:List Entry->Nat
 | []=>0
 |e::l=>Pn e.o+pA l
theorem rY:∀(a b:List Entry),pA (a++b)=pA a+pA b
 | [],b=>by simp[pA]
 |e::a,b=>by simp only[bU,pA,rY a b];omega
theorem PZ{o:List Part}{t:List Int}(h:gm o t):(apply o t).1.length<=t.length+Pn o:=by
 have h1:=(kS h).2;have h2:=E9 h.1;have h3:=h.2.2;omega
theorem XL:∀(l:List Entry) (t u:List Int),ba (l.map Entry.o) t=some u->u.length<=t.length+pA l
 | [],t,u,h=>by simp only[jb,ba,cR]at h;subst h;simp[pA]
 | e :: l, t, u, h => by
   rw[bR,ba]at h
   split at h
   ·rename_i ha
    have h1:=XL l _ u h;have h2:=PZ (jx.1 ha);simp only[pA];omega
   ·cases h
theorem Yj{d:Doc}(h:bS d){rev:Int}(h1:d.fr<=rev)(h2:rev<=ar d):(dj d rev).1.length<=d.text.length+pA (d.list.take (rev-d.fr).toNat):=
 XL _ _ _ (gG h h1 h2).2.1
theorem Qu{d:Doc}(h:bS d){rev:Int}(h1:d.fr<=rev)(hl:(rev-d.fr).toNat<d.list.length) :
 gm (d.list[(rev-d.fr).toNat]).o (dj d rev).1/\dj d (rev+1)=((apply (d.list[(rev-d.fr).toNat]).o (dj d rev).1).1,true):=by
 have hh:=bM h;obtain⟨k1,k2,k3,k4⟩:=gG h h1 aa;obtain⟨m1,m2,m3,m4⟩:=gG h (rev:=rev+1) aa aa;have e:(rev+1-d.fr).toNat=(rev-d.fr).toNat+1:=aa;rw[e,<-dM hl,iJ,kl,k2]at m2;simp only[bR,jb,Ya,ba]at m2
 split at m2
 ·rename_i ha
  injection m2 with m2
  exact⟨jx.1 ha,Prod.ext m2.symm m1⟩
 ·cases m2
theorem Pq{c s r x:Int}:∀l:List Seen,(dR c s r l).find? (λy=>decide (y.client=x))=if x=c then some ⟨c,s,r⟩else l.find? (λy=>decide (y.client=x))
 | [] => by
   by_cases h:x=c
   ·subst h;simp[dR]
   ·have:¬c=x:=λe=>h e.symm
    simp[dR,h,this]
 | y :: l => by
   unfold dR;have ih:=Pq (c:=c) (s:=s) (r:=r) (x:=x) l;by_cases h:x=c
   ·subst h
    by_cases h1:y.client<x
    ·have h2:¬y.client=x:=by omega
     rw[ai h1,rK nT,ih,ai rfl,ai rfl]
    ·rw[aj h1,ai rfl]
     split<;>simp
   ·have hc:¬c=x:=λe=>h e.symm
    rw[aj h]at ih⊢;by_cases h1:y.client<c
    ·rw[ai h1,List.find?_cons,List.find?_cons,ih]
    ·rw[aj h1]
     split
     ·rename_i h2
      have h3:¬y.client=x:=aa;rw[rK (by simpa using hc),rK (by simpa using h3)]
     ·rw[rK (by simpa using hc)]
theorem BN(d:Doc)(e:Entry)(x:Int):(cz (bW d e) x).1=if x=e.client then⟨e.client,e.seq,ar d+1⟩else(cz d x).1:=by
 have hs:(bW d e).seen=dR e.client e.seq (ar d+1) d.seen:=Ld;unfold cz;rw[hs,Pq];by_cases h:x=e.client
 ·rw[ai h,ai h]
 ·rw[aj h,aj h]
def DIn(d:Doc):Prop:=∀(j:Nat) (e:Entry),d.list[j]? = some e->e.seq<=(cz d e.client).1.seq/\(e.seq=(cz d e.client).1.seq->(cz d e.client).1.rev=d.fr+j+1)
theorem xJ{d:Doc}(h:bS d)(e:Entry):∃k:Nat,k<=1/\(bW d e).fr=d.fr+k/\(bW d e).list=(d.list++[e]).drop k/\(k=0->(bW d e).text=d.text) /\
 (k=1->∃h0:0<d.list.length,(bW d e).text=(apply (d.list[0]).o d.text).1):=by
 have hh:=bM h;unfold bW
 split
 ·exact⟨0,aa,ab,ab,λ_=>rfl,λh=>aa⟩
 ·refine⟨1,aa,ab,rfl,λh=>aa,λ_=>⟨aa,?_⟩⟩
  simp only;rw[pS aa]
theorem adR{d:Doc}(h:bS d)(hi:DIn d){e:Entry}(he:e.seq=(cz d e.client).1.seq+1):DIn (bW d e):=by
 obtain⟨k,hk,h1,h2,-,-⟩:=xJ h e;have hh:=bM h;intro j x hx;rw[h2,dV]at hx;rw[BN,h1];by_cases c:k+j<d.list.length
 ·rw[cj c]at hx
  obtain⟨a1,a2⟩:=hi _ x hx;by_cases q:x.client=e.client
  ·rw[ai q]
   rw[q]at a1;exact⟨gL,λe2=>by simp only at e2;omega⟩
  ·rw[aj q]
   exact⟨a1,λe2=>by have:=a2 e2;omega⟩
 ·by_cases c2:k+j=d.list.length
  ·rw[c2,br (aw _)]at hx
   simp at hx;subst hx;rw[ai rfl];exact⟨ub _,λ_=>gL⟩
  ·rw[br aa]at hx
   have:(d.list++[e]).length<=k+j:=by rw[cP,ku];omega
   rw[s7 (by rw[ku];omega)]at hx
   cases hx
theorem Yz{d:Doc}(h:bS d){e:Entry}(hp:bS (bW d e)){rev:Int}(h1:(bW d e).fr<=rev)(h2:rev<=ar d):dj (bW d e) rev=dj d rev:=by
 obtain⟨k,hk,k1,k2,k3,k4⟩:=xJ h e;have hh:=bM h;have hd:=(og h e).1;rw[q8 ⟨hp,h1,aa⟩,q8 ⟨h,aa,h2⟩,k1,k2];obtain⟨n,hn⟩:∃n,(rev-d.fr).toNat=n:=⟨_,rfl⟩;have hnl:n<=d.list.length:=aa;rw[show(rev-(d.fr+(k:Int))).toNat=n-k from aa,hn];rcases ym k with hz|hz
 ·subst hz
  rw[k3 rfl,eb,mH,tW hnl]
 ·have hk1:k=1:=by omega
  subst hk1;obtain⟨h0,k5⟩:=k4 rfl;obtain⟨m,rfl⟩:∃m,n=m+1:=⟨n-1,aa⟩
  obtain⟨y,L,hL⟩:∃y L,d.list=y::L:=by
   exact TU
  have ht:=h.2.2.1;have hs:=h.2.2.2.2.2.1;have hy:(d.list[0])=y:=by simp[hL]
  rw[hy]at k5;rw[hL]at hnl hs⊢;rw[k5];simp only[bU,mb,eb,iY,jJ,bR];rw[tW (by simpa using hnl)];rw[bR,ba]at hs
  have ha:(apply y.o d.text).2=true:=by
   exact Tm
  have ht2:=(kS (jx.1 ha)).1;unfold eA;rw[ai ht2,ai ht,ba,ai ha]
theorem abs{d:Doc}(h:bS d)(e:Entry):(bW d e).text.length+pA (bW d e).list<=d.text.length+pA d.list+Pn e.o:=by
 obtain⟨k,hk,k1,k2,k3,k4⟩:=xJ h e;rcases ym k with hz|hz
 ·subst hz
  rw[k2,k3 rfl,eb,rY];simp only[pA];omega
 ·have hk1:k=1:=by omega
  subst hk1;obtain⟨h0,k5⟩:=k4 rfl
  obtain⟨y,L,hL⟩:∃y L,d.list=y::L:=by
   exact TU
  have hy:(d.list[0])=y:=by simp[hL]
  have hs:=h.2.2.2.2.2.1;rw[hL,bR,ba]at hs
  have ha:(apply y.o d.text).2=true:=by
   exact Tm
  have:=PZ (jx.1 ha);rw[hy]at k5;rw[k2,k5,hL];simp only[bU,mb,eb,pA,rY];omega
theorem K8{d:Doc}(h:bS d):dj d d.fr=(d.text,true):=by
 have hh:=bM h;unfold dj;rw[ai ⟨h,aa,aa⟩];simp[eA,h.2.2.1,ba]
theorem Am{r:Rep}{s:Seen}(h:r.seq=s.seq)(h2:¬(r.has=true/\s.rev<=r.rev)):jB r s:=by unfold jB;rw[ai h];exact h2
def Bn(c s:Int):List Entry->List Part->Prop
 | [],_=>False
 |e::l,v=>(e.client=c/\e.seq=s/\e.o=v)\/(¬(e.client=c/\e.seq=s)/\(aI e.o v).2.2=true/\Bn c s l (aI e.o v).2.1)
theorem HW{c s:Int}{m:List Entry}:∀{l:List Entry}{v:List Part},Bn c s l v->Bn c s (l++m) v
 | e :: l, v, h => by
   rcases h with h|⟨h1,h2,h3⟩
   ·exact .inl h
   ·exact .inr ⟨h1,h2,HW h3⟩
theorem KB{c s:Int}:∀{l:List Entry}{v:List Part},Bn c s l v->∃(j:Nat) (e:Entry),l[j]? = some e/\e.client=c/\e.seq=s
 | e :: l, v, h => by
   rcases h with h|⟨h1,h2,h3⟩
   ·exact⟨0,e,rfl,h.1,h.2.1⟩
   ·obtain⟨j,x,h4,h5⟩:=KB h3
    exact⟨j+1,x,by simpa using h4,h5⟩
theorem X6{c s:Int}:∀{l:List Entry}{v:List Part},Bn c s l v->Pn v<=pA l
 | e :: l, v, h => by
   rcases h with⟨-,-,rfl⟩|⟨h1,h2,h3⟩
   ·simp[pA]
   ·have:=X6 h3
    rw[(DV h2).2]at this;simp only[pA];omega
theorem KC{c s:Int}{v':List Part}:∀{l:List Entry}{v:List Part},lH (l.map Entry.o) v=some v'->(∀e∈l,¬(e.client=c/\e.seq=s))->Bn c s (l++[⟨c,s,v'⟩]) v
 | [], v, h, _ => by
   simp only[jb,lH,cR]at h;exact .inl ⟨rfl,rfl,h.symm⟩
 | e :: l, v, h, hn => by
   rw[bR,lH]at h
   split at h
   ·rename_i ht
    exact .inr ⟨hn e (aN ..),ht,KC h (λx hx=>hn x (aD _ hx))⟩
   ·cases h
theorem abv:∀{l:List (List Part)}{v v':List Part},lH l v=some v'->Pn v'=Pn v
 | [],v,v',h=>by simp only[lH,cR]at h;rw[h]
 | a :: l, v, v', h => by
   rw[lH]at h
   split at h
   ·rename_i ht
    rw[abv h,(DV ht).2]
   ·cases h
def qC(d:Doc)(r:Rep):Prop:=r.has=true/\r.seq=(cz d r.client).1.seq
def RIn(d:Doc)(r:Rep):Prop:=qC d r->d.fr<=r.rev->Bn r.client r.seq (d.list.drop (r.rev-d.fr).toNat) r.sent
def NIn(n:Net):Prop:=gS n/\DIn n.d/\∀r∈n.reps,RIn n.d r
open Classical in
noncomputable def pend(d:Doc)(r:Rep):Nat:=(if qC d r then 0 else Pn r.sent)+Pn r.buf
noncomputable def pT(d:Doc):List Rep->Nat
 | []=>0
 |r::l=>pend d r+pT d l
noncomputable def tot(n:Net):Nat:=n.d.text.length+pA n.d.list+pT n.d n.reps
theorem FK(d:Doc):∀{l:List Rep}{i:Nat}(h:i<l.length) (x:Rep),pT d (l.set i x)+pend d l[i]=pT d l+pend d x
 |r::l,0,h,x=>by simp only[qf,pT,mI];omega
 | r :: l, i + 1, h, x => by
   have:=FK d (l:=l) (i:=i) nS x;simp only[yn,pT,rJ];omega
theorem FL(d:Doc):∀{l:List Rep}{i:Nat}(h:i<l.length),pend d l[i]<=pT d l
 |r::l,0,h=>by simp only[pT,mI];omega
 | r :: l, i + 1, h => by
   have:=FL d (l:=l) (i:=i) nS;simp only[pT,rJ];omega
theorem Jo{d d':Doc}:∀{l:List Rep},(∀r∈l,pend d' r=pend d r)->pT d' l=pT d l
 | [],_=>rfl
 | r :: l, h => by
   rw[pT,pT,h r (aN ..),Jo (λx hx=>h x (aD _ hx))]
theorem MI{d:Doc}{r:Rep}(h:r.has=false):¬qC d r:=λq=>by have:=q.1;rw[h]at this;cases this
theorem agQ{r:Rep}(h:cm r)(h1:r.has=false):Pn r.sent=0:=by
 have:=h.2.2.2.2.2.2.2.2;rw[h1]at this;exact M3 (by simpa using this)
theorem Ax{d:Doc}{r:Rep}(h:cm r)(h1:r.has=false):pend d r=Pn r.buf:=by
 unfold pend;rw[aj (MI h1),agQ h h1];omega
theorem OB{d:Doc}{r:Rep}(h:qC d r):pend d r=Pn r.buf:=by unfold pend;rw[ai h];omega
theorem Aw{d:Doc}{r:Rep}(h:¬qC d r):pend d r=Pn r.sent+Pn r.buf:=by unfold pend;rw[aj h]
theorem Ga{r:Rep}{s:Seen}(h:¬r.seq=s.seq)(h2:r.has=true/\r.seq=s.seq+1):jB r s:=by unfold jB;rw[aj h];exact h2
theorem Qv{r:Rep}{e:Entry}(h:(eh r e).2=true):(cm r/\dq e/\gm e.o r.text) /\
 ((yD r e /\ e.o = r.sent /\ eh r e = (lB r (apply e.o r.text).1, true) /\ cm (lB r (apply e.o r.text).1)) \/
  (¬yD r e/\(aI e.o r.sent).2.2=true/\(aI (aI e.o r.sent).1 r.buf).2.2=true /\
   eh r e=(ji r (apply e.o r.text).1 (aI e.o r.sent).2.1 (aI (aI e.o r.sent).1 r.buf).2.1,true)/\cm (ji r (apply e.o r.text).1 (aI e.o r.sent).2.1 (aI (aI e.o r.sent).1 r.buf).2.1))):=by
 have key:∀x:Rep,(mD x).2=true->cm x:=λx hx=>aR λc=>by rw[pG c]at hx;cases hx
 have c:cm r/\dq e/\gm e.o r.text:=aR λc=>by rw[pL c]at h;cases h
 refine⟨c,?_⟩;by_cases a:yD r e
 ·by_cases eo:e.o=r.sent
  ·have e1:=(qI c a).1 eo
   rw[e1]at h;have k:=key _ h;exact .inl ⟨a,eo,by rw[e1,ka k],k⟩
  ·rw[(qI c a).2 eo]at h;cases h
 ·by_cases t:(aI e.o r.sent).2.2=true/\(aI (aI e.o r.sent).1 r.buf).2.2=true
  ·have e1:=(pq c a).1 t
   rw[e1]at h;have k:=key _ h;exact .inr ⟨a,t.1,t.2,by rw[e1,ka k],k⟩
  ·rw[(pq c a).2 t]at h;cases h
structure TIn(d:Doc)(i:Nat)(r:Rep):Prop where
 at_:ke d i r
 fr:d.fr<=r.rev
 inn:RIn d r
structure TSt(d:Doc)(r x:Rep)(m:Nat):Prop where
 rev:x.rev=r.rev+m
 has:x.has=true->r.has=true
 idle:idle r.buf->idle x.buf
 seq:x.seq=r.seq
 client:x.client=r.client
 pend:pend d x<=pend d r
theorem agP{d:Doc}{r:Rep}(h:jB r (cz d r.client).1)(hle:r.seq<=(cz d r.client).1.seq):r.seq=(cz d r.client).1.seq:=by
 unfold jB at h
 split at h
 ·assumption
 ·omega
theorem adB{d:Doc}{i:Nat}{r:Rep}(h:bS d)(hi:DIn d)(t:TIn d i r){p:Nat}(hp:(r.rev-d.fr).toNat=p)(hl:p<d.list.length)(hy:(eh r d.list[p]).2=true) :
 TIn d i (eh r d.list[p]).1/\TSt d r (eh r d.list[p]).1 1:=by
 have hh:=bM h;obtain⟨a1,a2,a3,a4,a5⟩:=t.at_;have hf:=t.fr;subst hp;obtain⟨s1,s2⟩:=Qu h hf hl;have htx:=a4 (gG h hf a3).1;rw[htx]at s2;have hin:=t.inn;have hget:d.list[(r.rev-d.fr).toNat]? = some d.list[(r.rev-d.fr).toNat]:=aB hl;have hdrop:d.list.drop (r.rev-d.fr).toNat=d.list[(r.rev-d.fr).toNat]::d.list.drop ((r.rev-d.fr).toNat+1):=bj hl;obtain⟨i1,i2⟩:=hi _ _ hget;unfold RIn at hin;rw[hdrop]at hin;obtain⟨e,he⟩:∃e,d.list[(r.rev-d.fr).toNat]=e:=⟨_,rfl⟩;rw[he]at hy s2 hin i1 i2⊢;obtain⟨c,⟨k1,k2,k3,k4⟩|⟨k1,k2,k3,k4,k5⟩⟩:=Qv hy
 ·rw[k3]
  have hcl:=k1.2.1;have hsq:=k1.2.2;have hseq:r.seq=(cz d r.client).1.seq:=agP a5 (by rw[hcl]at i1;omega);refine⟨⟨⟨k4,a2,by simp only[lB];omega,λ_=>by simp only[lB];rw[s2],?_⟩,by simp only[lB];omega,λq=>absurd q (MI rfl)⟩,⟨rfl,λq=>by simp[lB]at q,λq=>q,rfl,rfl,?_⟩⟩
  ·show jB (lB r _) (cz d r.client).1
   unfold jB lB;simp only;rw[ai hseq];simp
  ·rw[Ax k4 rfl]
   show Pn r.buf<=_
   unfold pend;omega
 ·rw[k4]
  have hown:∀x,qC d (ji r (apply e.o r.text).1 x (aI (aI e.o r.sent).1 r.buf).2.1)↔qC d r:=λx=>Iff.rfl
  have hmv:qC d r->Bn r.client r.seq (d.list.drop ((r.rev-d.fr).toNat+1)) (aI e.o r.sent).2.1:=λq=>by
   rcases hin q hf with h1|⟨-,-,h1⟩
   ·exact absurd ⟨q.1,h1.1,h1.2.1⟩ k1
   ·exact h1
  have e1:(r.rev+1-d.fr).toNat=(r.rev-d.fr).toNat+1:=aa;refine⟨⟨⟨k5,a2,by simp only[ji];omega,λ_=>by simp only[ji];rw[s2],?_⟩,by simp only[ji];omega,λq _=>?_⟩,⟨rfl,λq=>q,λq=>DL k3 q,rfl,rfl,?_⟩⟩
  ·show jB (ji r _ _ _) (cz d r.client).1
   unfold jB at a5;by_cases q:r.seq=(cz d r.client).1.seq
   ·rw[ai q]at a5
    refine Am q ?_
    rintro⟨h1,h2⟩
    obtain⟨j,x,h3,h4,h5⟩:=KB (hmv ⟨h1,q⟩);rw[dV]at h3;have:=(hi _ _ h3).2 (by rw[h4,h5,q]);rw[h4]at this;simp only[ji]at h2;omega
   ·rw[aj q]at a5
    exact Ga q a5
  ·show Bn r.client r.seq (d.list.drop (r.rev+1-d.fr).toNat) (aI e.o r.sent).2.1
   rw[e1];exact hmv q
  ·unfold pend
   have p1:=(DV k2).2;have p2:=(DV k3).2;by_cases q:qC d r
   ·rw[ai ((hown _).2 q),ai q]
    show 0+Pn (aI (aI e.o r.sent).1 r.buf).2.1<=_
    omega
   ·rw[aj (λz=>q ((hown _).1 z)),aj q]
    show Pn (aI e.o r.sent).2.1+Pn (aI (aI e.o r.sent).1 r.buf).2.1<=_
    omega
theorem RX{d:Doc}{i:Nat}(h:bS d)(hi:DIn d):∀(m:Nat) {r x:Rep},TIn d i r->gr r ((d.list.drop (r.rev-d.fr).toNat).take m)=some x->TIn d i x/\TSt d r x (min m (d.list.length-(r.rev-d.fr).toNat))
 | 0, r, x, t, hx => by
   simp only[adi,gr,cR]at hx;subst hx;refine⟨t,⟨?_,λq=>q,λq=>q,rfl,rfl,aw _⟩⟩;simp
 | m + 1, r, x, t, hx => by
   by_cases hl:(r.rev-d.fr).toNat<d.list.length
   ·rw[bj hl,jJ,gr]at hx
    split at hx
    ·rename_i hy
     obtain⟨t1,u1⟩:=adB h hi t rfl hl hy;have e1:((eh r d.list[(r.rev-d.fr).toNat]).1.rev-d.fr).toNat=(r.rev-d.fr).toNat+1:=by rw[u1.rev];have:=t.fr;omega
     have:=RX h hi m t1 (x:=x);rw[e1]at this;obtain⟨t2,u2⟩:=this hx;refine⟨t2,⟨?_,λq=>u1.has (u2.has q),λq=>u2.idle (u1.idle q),by rw[u2.seq,u1.seq],by rw[u2.client,u1.client],cG u2.pend u1.pend⟩⟩;rw[u2.rev,u1.rev];omega
    ·cases hx
   ·rw[bK aa]at hx
    simp only[List.take_nil,gr,cR]at hx;subst hx;refine⟨t,⟨?_,λq=>q,λq=>q,rfl,rfl,aw _⟩⟩;rw[show min (m+1) (d.list.length-(r.rev-d.fr).toNat)=0 from aa];simp
theorem N8{d:Doc}{c s b:Int}{o:List Part}(h:(cV d c s b o).2.2=0)(hs:s=(cz d c).1.seq+1) :
 ∃v,(cV d c s b o).1=bW d ⟨c,s,v⟩/\d.fr<=b/\b<=ar d/\cg o/\bO o=(dj d b).1.length/\lH ((d.list.drop (b-d.fr).toNat).map Entry.o) (cS o)=some v:=by
 unfold cV at h⊢
 split at h
 ·rename_i h1
  rw[ai h1];rw[aj aa]at h⊢;rw[ai aa]at h⊢
  split at h
  ·rename_i h2
   rw[ai h2]
   split at h
   ·simp at h
   ·rename_i h3
    rw[aj h3];refine⟨_,rfl,?_⟩;unfold gw at h2⊢
    split at h2
    ·rename_i c1
     rw[ai c1]
     split at h2
     ·simp at h2
     ·rename_i c2
      rw[aj c2]
      split at h2
      ·simp at h2
      ·rename_i c3
       rw[aj c3]
       split at h2
       ·rename_i c4
        rw[ai c4]
        split at h2
        ·rename_i c5
         rw[ai c5];refine⟨aa,aa,c1.2,c4,?_⟩;unfold mQ at c5⊢;rw[ai c1.2]at c5⊢
         cases hx:lH ((d.list.drop (b-d.fr).toNat).map Entry.o) (cS o)with
         |none=>rw[hx]at c5;simp at c5
         |some v=>rfl
        ·simp at h2
       ·simp at h2
    ·simp at h2
  ·rename_i h2;exact absurd h h2
 ·simp at h
structure Wait(d:Doc)(i:Nat)(r:Rep):Prop where
 ok:cm r
 client:r.client=i+1
 has:r.has=true
 rev:r.rev<=ar d
 text:(dj d r.rev).2=true->(dj d r.rev).1=r.text
 seq:r.seq=(cz d r.client).1.seq+1
structure Dlv(d:Doc)(i:Nat)(r:Rep)(D:Doc):Prop where
 ok:bS D
 inn:DIn D
 at_:ke D i r
 rin:RIn D r
 put:D.text.length+pA D.list+pend D r<=d.text.length+pA d.list+(Pn r.sent+Pn r.buf)
 head:ar d<=ar D/\ar D<=ar d+1
 old:D.fr<=d.fr+1/\d.fr<=D.fr
 oth:∀(j:Nat) (x:Rep),x.client≠r.client->ke d j x->RIn d x->ke D j x/\RIn D x/\pend D x=pend d x
theorem YO{o:List Part}(h:cu o):cS o=o:=h.2
theorem Hr{d:Doc}{i:Nat}{r:Rep}(h:bS d)(hi:DIn d)(w:Wait d i r):Dlv d i r (j5 d (j8 r))/\((cV d r.client r.seq r.rev r.sent).2.2=0->qC (j5 d (j8 r)) r):=by
 have hno:¬qC d r:=λq=>by have:=q.2;have:=w.seq;omega
 have hat:ke d i r:=⟨w.ok,w.client,w.rev,w.text,Ga (λq=>by have:=w.seq;omega) ⟨w.has,w.seq⟩⟩;by_cases hc:(cV d r.client r.seq r.rev r.sent).2.2=0
 rotate_left
 ·have e:j5 d (j8 r)=d:=by
   unfold j5 j8;simp only;rw[aj hc]
  rw[e];refine⟨⟨h,hi,hat,λq=>absurd q hno,?_,aa,aa,λj x _ h1 h2=>⟨h1,h2,rfl⟩⟩,λq=>absurd q hc⟩;rw[Aw hno];omega
 obtain⟨v,e1,e2,e3,e4,e5,e6⟩:=N8 hc w.seq;have hsn:cu r.sent:=w.ok.2.2.2.2.1;rw[YO hsn]at e6
 have e:j5 d (j8 r)=bW d ⟨r.client,r.seq,v⟩:=by
  unfold j5 j8;simp only;rw[ai hc,e1]
 have hD:bS (bW d ⟨r.client,r.seq,v⟩):=by have:=(sL h hc).1;rwa[e1]at this
 have hhd:=(og h ⟨r.client,r.seq,v⟩).1;have hh:=bM h;have hH:=bM hD;obtain⟨k,hk,k1,k2,-,-⟩:=xJ h ⟨r.client,r.seq,v⟩;have hsum:=abs h ⟨r.client,r.seq,v⟩;have hsn1:=BN d ⟨r.client,r.seq,v⟩ r.client;rw[ai rfl]at hsn1;simp only at hsn1 hsum;have hPv:=abv e6;have hown:qC (bW d ⟨r.client,r.seq,v⟩) r:=⟨w.has,by rw[hsn1]⟩;rw[e]
 have hdr:∀x:Rep,(bW d ⟨r.client,r.seq,v⟩).fr<=x.rev->x.rev<=ar d->(bW d ⟨r.client,r.seq,v⟩).list.drop (x.rev-(bW d ⟨r.client,r.seq,v⟩).fr).toNat=d.list.drop (x.rev-d.fr).toNat++[⟨r.client,r.seq,v⟩]:=λx hx hx2=>by
  rw[k2,yo,show k+(x.rev-(bW d ⟨r.client,r.seq,v⟩).fr).toNat=(x.rev-d.fr).toNat from aa,tY aa]
 have htx:∀x:Rep,x.rev<=ar d->((dj d x.rev).2=true->(dj d x.rev).1=x.text)->(dj (bW d ⟨r.client,r.seq,v⟩) x.rev).2=true->(dj (bW d ⟨r.client,r.seq,v⟩) x.rev).1=x.text:=λx hx hy hz=>by
  by_cases q:(bW d ⟨r.client,r.seq,v⟩).fr<=x.rev
  ·rw[Yz h hD q hx]at hz⊢
   exact hy hz
  ·rw[xb (λz=>q z.2.1)]at hz;cases hz
 refine⟨⟨hD,adR h hi (e:=⟨r.client,r.seq,v⟩) w.seq,⟨w.ok,w.client,by have:=w.rev;omega,htx r w.rev w.text,?_⟩,λ_ q=>?_,?_,aa,aa,λj x hx h1 h2=>?_⟩,λ_=>hown⟩
 ·rw[hsn1]
  exact Am rfl (λq=>by have h1:=q.2;have h2:=w.rev;simp only at h1;omega)
 ·rw[hdr r q w.rev]
  refine KC e6 (λx hx hq=>?_);obtain⟨j,hj,rfl⟩:=bC hx
  have hg:d.list[(r.rev-d.fr).toNat+j]? = some (d.list.drop (r.rev-d.fr).toNat)[j]:=by
   rw[<-dV,aB hj]
  have:=(hi _ _ hg).1;rw[hq.1]at this;have:=w.seq;omega
 ·rw[OB hown];omega
 ·have hsx:(cz (bW d ⟨r.client,r.seq,v⟩) x.client).1=(cz d x.client).1:=by rw[BN,aj zJ]
  obtain⟨x1,x2,x3,x4,x5⟩:=h1;have hox:qC (bW d ⟨r.client,r.seq,v⟩) x↔qC d x:=by unfold qC;rw[hsx]
  refine⟨⟨x1,x2,aa,htx x x3 x4,by rw[hsx];exact x5⟩,λq1 q2=>?_,?_⟩
  ·rw[hdr x q2 x3]
   exact HW (h2 (hox.1 q1) aa)
  ·unfold pend
   by_cases q:qC d x
   ·rw[ai q,ai (hox.2 q)]
   ·rw[aj q,aj (λz=>q (hox.1 z))]
structure Step(n n':Net)(P:Nat):Prop where
 inn:NIn n'
 tot:tot n'<=tot n+P
 head:ar n.d<=ar n'.d/\ar n'.d<=ar n.d+1
 seq:∀k,(∀r∈n.reps,r.seq<=k)->∀r∈n'.reps,r.seq<=k+1
 len:n'.reps.length=n.reps.length
theorem Step.same{n:Net}(N:NIn n){P:Nat}:Step n n P:=⟨N,aa,aa,λk h r hr=>by have:=h r hr;omega,rfl⟩
theorem zX{n:Net}(N:NIn n){i:Nat}(hi:i<n.reps.length){x:Rep}{P:Nat}(h1:ke n.d i x)(h2:RIn n.d x)(h3:pend n.d x<=pend n.d n.reps[i]+P)(h4:x.seq<=n.reps[i].seq+1):Step n (j9 n i x) P:=by
 obtain⟨⟨n1,n2,n3⟩,n4,n5⟩:=N;have hs:=FK n.d hi x;refine⟨⟨⟨n1,by simpa[j9]using n2,λj hj=>?_⟩,n4,λr hr=>?_⟩,?_,by simp only[j9];omega,λk hk r hr=>?_,by simp[j9]⟩
 ·simp only[j9]at hj⊢
  by_cases c:j=i
  ·subst c;rw[Fu];exact h1
  ·rw[pz (λe=>c e.symm)]
   exact n3 j mf
 ·rcases dB hr with hr|rfl
  ·exact n5 r hr
  ·exact h2
 ·unfold tot j9
  exact gM
 ·exact UR
theorem Oa{n:Net}(N:NIn n){i:Nat}(hi:i<n.reps.length){x:Rep}{D:Doc}(hx:x.client=n.reps[i].client)(V:Dlv n.d i x D)(h3:Pn x.sent+Pn x.buf<=pend n.d n.reps[i])(h4:x.seq<=n.reps[i].seq+1):Step n ⟨D,n.reps.set i x⟩ 0:=by
 obtain⟨⟨n1,n2,n3⟩,n4,n5⟩:=N
 have hne:∀j,∀hj:j<n.reps.length,j≠i->n.reps[j].client≠x.client:=λj hj c=>by
  have a:=(n3 j hj).2.1;have b:=(n3 i hi).2.1;omega
 have hs:=FK D hi x
 have hsum:pT D n.reps+pend n.d n.reps[i]=pT n.d n.reps+pend D n.reps[i]:=by
  have key:∀(l:List Rep) (k:Nat) (hk:k<l.length),(∀j,∀hj:j<l.length,j≠k->pend D l[j]=pend n.d l[j])->pT D l+pend n.d l[k]=pT n.d l+pend D l[k]:=by
   intro l
   induction l with
   |nil=>intro k hk;simp at hk
   | cons r l ih =>
     intro k hk hj
     cases k with
     | zero =>
       have:pT D l=pT n.d l:=Jo (λy hy=>by
        obtain⟨j,hj2,rfl⟩:=bC hy;exact hj (j+1) (by simpa using hj2) aa)
       simp only[pT,mI,this];omega
     | succ k =>
       have:=ih k zM (λj hj2 hne=>hj (j+1) (by simpa using hj2) aa);have h0:=hj 0 ab aa;simp only[mI]at h0;simp only[pT,rJ,h0];omega
  exact key n.reps i hi (λj hj c=>(V.oth j _ (hne j hj c) (n3 j hj) (n5 _ (ak hj))).2.2)
 have hput:=V.put;refine⟨⟨⟨V.ok,by simpa using n2,λj hj=>?_⟩,V.inn,λr hr=>?_⟩,?_,V.head,λk hk r hr=>?_,ab⟩
 ·simp only at hj⊢
  by_cases c:j=i
  ·subst c;rw[Fu];exact V.at_
  ·rw[pz (λe=>c e.symm)]
   have hj2:j<n.reps.length:=mf;exact(V.oth j _ (hne j hj2 c) (n3 j hj2) (n5 _ (ak hj2))).1
 ·simp only at hr⊢
  obtain⟨j,hj,rfl⟩:=bC hr;by_cases c:j=i
  ·subst c;rw[Fu];exact V.rin
  ·rw[pz (λe=>c e.symm)]
   have hj2:j<n.reps.length:=mf;exact(V.oth j _ (hne j hj2 c) (n3 j hj2) (n5 _ (ak hj2))).2.1
 ·unfold tot
  exact gM
 ·exact UR
theorem Xn{n:Net}(N:NIn n){i:Nat}(hi:i<n.reps.length)(hf:n.d.fr<=n.reps[i].rev):TIn n.d i n.reps[i]:=⟨N.1.2.2 i hi,hf,N.2.2 _ (ak hi)⟩
theorem Jx{d:Doc}{i:Nat}{r:Rep}(h:ke d i r)(c:cm r/\r.has=false/\¬idle r.buf/\r.seq≠999999999):Wait d i (gu r):=by
 obtain⟨h1,h2,h3,h4,h5⟩:=h;refine⟨adE c.1 c.2.1 c.2.2.2,h2,rfl,h3,h4,?_⟩
 have:r.seq=(cz d r.client).1.seq:=by
  unfold jB at h5
  split at h5
  ·assumption
  ·exact absurd h5.1 (by rw[c.2.1];simp)
 simp only[gu];omega
theorem Jy{r:Rep}(h:cm r):Pn (gu r).sent+Pn (gu r).buf=Pn r.buf:=by
 have h1:=h.2.2.2.2.2.1.1;have h2:=Zc (n:=fH r.buf) (by have:=pN h1;omega) h1.2.2
 show Pn r.buf+Pn (dv (fH r.buf))=_
 omega
theorem acg{d:Doc}{i:Nat}{r:Rep}(h:ke d i r)(hh:r.has=true)(hn:¬qC d r):Wait d i r:=by
 obtain⟨h1,h2,h3,h4,h5⟩:=h;refine⟨h1,h2,hh,h3,h4,?_⟩;unfold jB at h5
 split at h5
 ·rename_i q;exact absurd ⟨hh,q⟩ hn
 ·exact h5.2
theorem adX{d:Doc}{r:Rep}(_h:bS d)(hi:cm r)(ho:qC d r):j5 d (j8 r)=d:=by
 have:=hi;unfold j5
 split
 ·show(cV d r.client r.seq r.rev r.sent).1=d
  unfold cV
  split
  ·rw[ai ho.2.symm]
  ·rename_i h1 h2
   exfalso
   have h1:(cV d r.client r.seq r.rev r.sent).2.2=0:=h1;unfold cV at h1;rw[aj h2]at h1;simp at h1
 ·rfl
theorem X0{n:Net}(N:NIn n){i:Nat}(hi:i<n.reps.length):ke n.d i (na n.d n.reps[i])/\(na n.d n.reps[i]).has=false/\(na n.d n.reps[i]).rev=ar n.d/\idle (na n.d n.reps[i]).buf/\(na n.d n.reps[i]).seq<=n.reps[i].seq/\Pn (na n.d n.reps[i]).buf=0:=by
 have hd:=N.1.1;have hy:=Nx N.1 hi;have hh:=bM hd;obtain⟨h1,h2,h3,h4,h5⟩:=N.1.2.2 i hi
 have hx:cm (fo n.reps[i].client (cz n.d n.reps[i].client).1.seq (ar n.d) (cE n.d)):=aR λc=>by
  unfold eZ at hy;rw[pG c]at hy;cases hy
 have e:na n.d n.reps[i]=fo n.reps[i].client (cz n.d n.reps[i].client).1.seq (ar n.d) (cE n.d):=by
  unfold na eZ;rw[ka hx]
 have ht:=(sD hd).2;have hk:=lY (n:=((cE n.d).length:Int)) aa (by have:=ht.1;omega)
 have hs:(cz n.d n.reps[i].client).1.seq<=n.reps[i].seq:=by
  unfold jB at h5
  split at h5<;>omega
 rw[e];refine⟨⟨hx,h2,ub _,λ_=>rfl,?_⟩,rfl,rfl,hk.2.2.2,hs,M3 hk.2.2.2⟩;exact Am rfl (λq=>by simp[fo]at q)
theorem Hh{r:Rep}{o:List Part}(h:(iq r o).2=true):cm r/\(cQ r.buf o).2=true/\(iq r o).1=jZ r (cQ r.buf o).1/\cm (jZ r (cQ r.buf o).1)/\Pn (cQ r.buf o).1<=Pn r.buf+Pn o:=by
 have c:cm r/\(cQ r.buf o).2=true:=aR λc=>by rw[sf c]at h;cases h
 rw[qJ c]at h;have hx:cm (jZ r (cQ r.buf o).1):=aR λc=>by rw[pG c]at h;cases h
 refine⟨c.1,c.2,by rw[qJ c,ka hx],hx,?_⟩;have c2:=c.2;unfold cQ at c2
 split at c2
 ·rename_i q
  exact ahM q.1 q.2.1 q.2.2
 ·simp at c2
theorem acr{n:Net}(N:NIn n)(e:Event):((du n e).2=0/\Step n (du n e).1 (Pn e.o))\/((du n e).1=n/\1<=(du n e).2/\(du n e).2<=12):=by
 by_cases hev:RD n e
 rotate_left
 ·rw[xX hev];exact .inr ⟨rfl,ab,ab⟩
 obtain⟨i,hi⟩:∃i:Nat,e.who=i:=⟨e.who.toNat,DZ⟩;have hl:i<n.reps.length:=DZ;rw[u4 hev hi hl];have hat:=N.1.2.2 i hl;have hrin:=N.2.2 _ (ak hl);unfold DN;by_cases k1:e.kind=1
 ·rw[ai k1]
  split
  ·rename_i hy
   obtain⟨a1,a2,a3,a4,a5⟩:=Hh hy;rw[a3];refine .inl ⟨rfl,zX N hl ⟨a4,hat.2.1,hat.2.2.1,hat.2.2.2.1,hat.2.2.2.2⟩ hrin ?_ (by simp only[jZ];omega)⟩;have:∀q:Prop,(qC n.d (jZ n.reps[i] (cQ n.reps[i].buf e.o).1)↔qC n.d n.reps[i]):=λ_=>Iff.rfl
   unfold pend;by_cases q:qC n.d n.reps[i]
   ·rw[ai ((this True).2 q),ai q]
    show 0+Pn (cQ n.reps[i].buf e.o).1<=_
    omega
   ·rw[aj (λz=>q ((this True).1 z)),aj q]
    show Pn n.reps[i].sent+Pn (cQ n.reps[i].buf e.o).1<=_
    omega
  ·exact zQ
 rw[aj k1];by_cases k2:e.kind=2
 ·rw[ai k2]
  split
  ·rename_i hy
   have c:cm n.reps[i]/\n.reps[i].has=false/\¬idle n.reps[i].buf/\n.reps[i].seq≠999999999:=aR λc=>Lb
   rw[kO c];have st:=Oa N hl (x:=gu n.reps[i]) rfl (Hr N.1.1 N.2.1 (Jx hat c)).1 (by rw[Jy c.1,Ax c.1 c.2.1];exact aw _) (by simp only[gu];omega);exact .inl ⟨rfl,⟨st.inn,cG (m:=tot n+0) st.tot aa,st.head,st.seq,st.len⟩⟩
  ·exact zQ
 rw[aj k2];by_cases k3:e.kind=3
 ·rw[ai k3]
  split
  ·rename_i hy
   have c:cm n.reps[i]/\n.reps[i].has=false/\¬idle n.reps[i].buf/\n.reps[i].seq≠999999999:=aR λc=>Lb
   rw[kO c];have w:=Jx hat c;have hno:¬qC n.d (gu n.reps[i]):=λq=>by have:=q.2;have:=w.seq;omega
   have hatS:ke n.d i (gu n.reps[i]):=⟨w.ok,w.client,w.rev,w.text,Ga (λq=>by have:=w.seq;omega) ⟨rfl,w.seq⟩⟩;have st:=zX N hl (P:=Pn e.o) hatS (λq=>absurd q hno) (by rw[Aw hno,Jy c.1,Ax c.1 c.2.1];omega) (ub (n.reps[i].seq+1));exact .inl ⟨rfl,st⟩
  ·exact zQ
 rw[aj k3];by_cases k4:e.kind=4
 ·rw[ai k4]
  split
  ·rename_i hy
   have c:cm n.reps[i]/\n.reps[i].has=true:=aR λc=>by unfold dY at hy;rw[aj c]at hy;cases hy
   have er:dY n.reps[i]=(j8 n.reps[i],true):=by unfold dY;rw[ai c]
   rw[er];refine .inl ⟨rfl,?_⟩;simp only;by_cases q:qC n.d n.reps[i]
   ·rw[adX N.1.1 c.1 q];exact Step.same N
   ·have st:=Oa N hl (x:=n.reps[i]) rfl (Hr N.1.1 N.2.1 (acg hat c.2 q)).1 (by rw[Aw q];exact aw _) aa
    rw[Fs]at st;exact⟨st.inn,cG (m:=tot n+0) st.tot aa,st.head,st.seq,st.len⟩
  ·exact zQ
 rw[aj k4];by_cases k5:e.kind=5
 ·rw[ai k5]
  unfold kK;by_cases m0:e.n<0
  ·rw[ai m0];simp
  rw[aj m0];have hh:=bM N.1.1;have hrev:=hat.2.2.1
  have hfe:fW n.d n.reps[i].rev=if n.reps[i].rev<n.d.fr then([],3)else(n.d.list.drop (n.reps[i].rev-n.d.fr).toNat,0):=by
   unfold fW;rw[ai N.1.1,aj aa]
  rw[hfe];by_cases q:n.reps[i].rev<n.d.fr
  ·rw[ai q];simp
  rw[aj q,ai rfl];simp only;by_cases hy:(ga n.reps[i] ((n.d.list.drop (n.reps[i].rev-n.d.fr).toNat).take e.n.toNat)).2=true
  ·rw[ai hy,ai rfl]
   refine .inl ⟨rfl,?_⟩;unfold ga at hy⊢;rw[ai hat.1]at hy⊢
   cases hx:gr n.reps[i] ((n.d.list.drop (n.reps[i].rev-n.d.fr).toNat).take e.n.toNat)with
   |none=>rw[hx]at hy;simp at hy
   | some x =>
     obtain⟨t,u⟩:=RX N.1.1 N.2.1 _ (Xn N hl aa) hx;have st:=zX N hl (P:=Pn e.o) t.at_ t.inn (by have:=u.pend;omega) (by rw[u.seq];omega);exact st
  ·rw[aj hy,aj ab]
   exact zQ
 rw[aj k5];obtain⟨a1,a2,a3,a4,a5,a6⟩:=X0 N hl;refine .inl ⟨rfl,zX N hl a1 (λq=>absurd q (MI a2)) ?_ aa⟩;rw[Ax a1.1 a2,a6];omega
set_option maxHeartbeats 1600000
theorem Ym(l:List Entry)(p:Nat):pA (l.take p)+pA (l.drop p)=pA l:=by
 rw[<-rY,gD]
structure SN(n:Net)(k:Int):Prop where
 inn:NIn n
 tot:tot n<=200
 head:ar n.d<=k
 seq:∀r∈n.reps,r.seq<=k
theorem SN.step{n n':Net}{k:Int}(S:SN n k)(s:Step n n' 0):SN n' (k+1):=⟨s.inn,by have:=s.tot;have:=S.tot;omega,by have:=s.head;have:=S.head;omega,s.seq k S.seq⟩
theorem SN.up{n:Net}{k k':Int}(S:SN n k)(h:k<=k'):SN n k':=⟨S.inn,S.tot,by have:=S.head;omega,λr hr=>by have:=S.seq r hr;omega⟩
theorem SN.ev{n:Net}{k:Int}(S:SN n k){e:Event}(he:e.o=[]):SN (du n e).1 (k+1):=by
 rcases acr S.inn e with h|h
 ·have s:=h.2
  rw[he]at s;exact S.step s
 ·rw[h.1];exact S.up aa
theorem SN.room{n:Net}{k:Int}(S:SN n k){i:Nat}(hi:i<n.reps.length):n.d.text.length+pA n.d.list+pend n.d n.reps[i]<=200:=by
 have h1:n.d.text.length+pA n.d.list+pT n.d n.reps<=200:=S.tot;have h2:=FL n.d hi;omega
theorem abJ{name:ByteArray}{t:List Int}{many:Int}(hn:jd name)(ht:eD t)(hm:1<=many/\many<=4):(fg name t many).2=true/\NIn (fg name t many).1/\tot (fg name t many).1=t.length/\ar (fg name t many).1.d=0/\∀r∈(fg name t many).1.reps,r.seq=0:=by
 have d0:bS (gF name t):=⟨hn,xe,ht,xe,xe,by simp[gF,ba],λi h=>by simp[gF]at h⟩;have ed:gz name t=(gF name t,true):=by unfold gz;rw[ai d0]
 rw[si ⟨by rw[ed],hm.1,hm.2⟩,ed];simp only;have hk:=lY (n:=(t.length:Int)) aa (by have:=ht.1;omega)
 have r0:∀c:Int,1<=c/\c<=8->cm (fo c 0 0 t):=λc hc=>
  ⟨by simp only[fo];omega,by simp[fo],by simp[fo],ht,hk.1,hk.1,hk.2.1,by simp only[fo];rw[hk.2.1,hk.2.2.1],by simpa[fo]using hk.2.2.2⟩
 have hd0:ar (gF name t)=0:=by have:=(bM d0).1;simpa[gF]using this
 have tx0:dj (gF name t) 0=(t,true):=K8 d0;have seen0:∀c,cz (gF name t) c=(⟨0,0,0⟩,false):=λc=>by simp[cz,gF]
 have hget:∀j,∀hj:j<(jh t many.toNat).length,(jh t many.toNat)[j]=fo ((j:Int)+1) 0 0 t:=λj hj=>by
  have hj2:j<many.toNat:=La
  have h1:(jh t many.toNat)[j]? = some (eZ ((j:Int)+1) 0 0 t).1:=by
   unfold jh;rw[bX,List.getElem?_range hj2];rfl
  rw[aB hj]at h1
  injection h1 with h1
  rw[h1];unfold eZ;rw[ka (r0 _ aa)]
 have hP:∀c,Pn (fo c 0 0 t).buf=0:=λc=>M3 hk.2.2.2
 refine⟨trivial,⟨⟨d0,by rw[ny];omega,λj hj=>?_⟩,λj e he=>by simp[gF]at he,λr hr=>?_⟩,?_,hd0,λr hr=>?_⟩
 ·simp only at hj⊢
  rw[hget j hj];have hj2:j<many.toNat:=La;refine⟨r0 _ aa,rfl,by simp only[fo];omega,λ_=>by simp only[fo];rw[tx0],Am (by rw[seen0];rfl) (by simp[fo])⟩
 ·simp only at hr⊢
  obtain⟨j,hj,rfl⟩:=bC hr;rw[hget j hj];exact λq=>absurd q (MI rfl)
 ·unfold tot
  have:pT (gF name t) (jh t many.toNat)=0:=by
   have key:∀l:List Rep,(∀r∈l,pend (gF name t) r=0)->pT (gF name t) l=0:=by
    intro l
    induction l with
    |nil=>intro _;rfl
    |cons r l ih=>intro h;rw[pT,h r (aN ..),ih (λx hx=>h x (aD _ hx))]
   refine key _ (λr hr=>?_);obtain⟨j,hj,rfl⟩:=bC hr;have hj2:j<many.toNat:=La;rw[hget j hj,Ax (r0 _ aa) rfl,hP]
  simp only;rw[this];simp[gF,pA]
 ·obtain⟨j,hj,rfl⟩:=bC hr
  rw[hget j hj];rfl
end Go.Proofs.YtmccaifipoohfaaGreatDoor
