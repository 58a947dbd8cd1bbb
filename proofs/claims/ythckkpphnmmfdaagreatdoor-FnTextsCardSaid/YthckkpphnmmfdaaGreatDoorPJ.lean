import Derived.Test.YthckkpphnmmfdaaGreatDoorPH
import Derived.Test.YthckkpphnmmfdaaGreatDoorPD
import Derived.Test.YthckkpphnmmfdaaGreatDoorPB
import Derived.Test.YthckkpphnmmfdaaGreatDoorPC
import Derived.Test.YthckkpphnmmfdaaGreatDoorPE
import Derived.Test.YthckkpphnmmfdaaGreatDoorPF
namespace Go.Proofs.YthckkpphnmmfdaaGreatDoor
open Go.AM
set_option maxRecDepth 20000
def apA:List At->List Int->List Int
 | [],_=>[]
 | .k::a,[]=>apA a []
 | .k::a,c::t=>c::apA a t
 | .p c::a,t=>c::apA a t
 | .d::a,t=>apA a (t.drop 1)
theorem nW {a:List At}:∀ (n:Nat) (t:List Int),n<=t.length->apA (List.replicate n .k++a) t=t.take n++apA a (t.drop n)
 |0,t,_=>by simp
 |n+1,[],h=>by simp at h
 | n + 1, c :: t, h => by
   simp only [List.replicate_succ,List.cons_append,apA,List.take_succ_cons,List.drop_succ_cons];rw [nW n t (by simpa using h)]
theorem mz {a:List At} {t:List Int}:∀ Q:List Int,apA (Q.map At.p++a) t=Q++apA a t
 | []=>rfl
 |c::Q=>by simp only [List.map_cons,List.cons_append,apA,mz Q]
theorem nX {a:List At}:∀ (n:Nat) (t:List Int),apA (List.replicate n .d++a) t=apA a (t.drop n)
 |0,t=>by simp
 | n + 1, t => by
   simp only [List.replicate_succ,List.cons_append,apA];rw [nX n,List.drop_drop,Nat.add_comm]
theorem yI:∀ (l:List At) (P:List Int) (n:Nat) (t:List Int),apA (nA P n l) t=P++apA l (t.drop n)
 | [], P, n, t => by
   have:=nX (a:=[]) n t;simp only [List.append_nil] at this;rw [nA,mz,this]
 | .k :: l, P, n, t => by
   rw [nA,mz,nX]
   congr 1
   cases t.drop n with
   |nil=>simp only [apA];rw [yI l];simp
   |cons c t=>simp only [apA];rw [yI l];simp
 | .p c :: l, P, n, t => by
   rw [nA,yI l];simp [apA]
 | .d :: l, P, n, t => by
   rw [nA,yI l];simp [apA]
theorem F8 (l:List At) (t:List Int):apA (gG l) t=apA l t:=by
 unfold gG;rw [yI];simp
theorem wd:∀ {o:List Part},(∀ p∈o,am p)->∀ {t acc:List Int} {n:Nat},n+frs o<=t.length->(o.foldl (fB t) (acc,(n:Int))).1=acc++apA (aj o) (t.drop n)
 | [],_,t,acc,n,h=>by simp [aj,apA]
 | p :: o, ho, t, acc, n, h => by
   have hp:=ho p (List.mem_cons_self ..);have ho':=λq hq=>ho q (List.mem_cons_of_mem _ hq)
   have hb:=hp.bounds;simp only [frs] at h;rw [List.foldl_cons,aj];by_cases k1:p.kind=1
   ·have hz:psz p=p.n.toNat:=by unfold psz;simp [hb.2.2.2.2.2 (by omega)]
    rw [if_neg (by omega),hz] at h
    have e:fB t (acc,(n:Int)) p=(acc++(t.drop n).take p.n.toNat,((n+p.n.toNat:Nat):Int)):=by
     unfold fB;simp [k1];omega
    rw [e,wd ho' (by omega)];have ea:ats p=List.replicate (psz p) .k:=by unfold ats;rw [if_neg (by omega),if_neg (by omega)]
    rw [ea,hz,nW _ _ (by simp;omega),List.drop_drop,List.append_assoc]
   ·by_cases k2:p.kind=2
    ·rw [if_pos k2] at h
     have e:fB t (acc,(n:Int)) p=(acc++p.signs,(n:Int)):=by unfold fB;simp [k2]
     rw [e,wd ho' (by omega)];have ea:ats p=p.signs.map At.p:=by unfold ats;rw [if_pos k2]
     rw [ea,mz,List.append_assoc]
    ·have k3:p.kind=3:=by omega
     have hz:psz p=p.n.toNat:=by unfold psz;simp [hb.2.2.2.2.2 (by omega)]
     rw [if_neg (by omega),hz] at h
     have e:fB t (acc,(n:Int)) p=(acc,((n+p.n.toNat:Nat):Int)):=by
      unfold fB;simp [k3];omega
     rw [e,wd ho' (by omega)];have ea:ats p=List.replicate (psz p) .d:=by unfold ats;rw [if_neg (by omega),if_pos k3]
     rw [ea,hz,nX,List.drop_drop]
theorem th {o:List Part} {t:List Int} (h:dY o t):apply o t=(apA (aj o) t,true):=by
 have h1:=gJ h.1;have h2:=h.2.2;have:=wd h.1.1.1 (t:=t) (acc:=[]) (n:=0) (by omega);unfold apply;rw [if_pos h];unfold fC;simp only [Int.ofNat_zero,List.nil_append,List.drop_zero] at this;exact Prod.ext this rfl
theorem kg {o:List Part} (h:aX o):(frA (aj o):Int)=aL o:=by rw [<- hJ];exact gJ h
theorem ix {o:List Part} (h:aX o):(toA (aj o):Int)=cE o:=by rw [<- iT h.1.1];exact lM h
theorem yD {o:List Part} (h:∀ p∈o,am p) (h1:frs o<=200) (h2:tos o<=200):aX (normal o)/\aL (normal o)=frs o/\cE (normal o)=tos o:=by
 have hs:=kL h;have e1:frs (normal o)=frs o:=by rw [hJ,dS h,oJ,<- hJ]
 have e2:tos (normal o)=tos o:=by rw [vP hs,dS h,oI,<- iT h]
 have hp:=Fz hs (by omega) (by omega);have f2:=nK hp;have t2:=sa hp;exact ⟨⟨hp,by omega,by omega⟩,by omega,by omega⟩
structure CpOk (x y:List Part):Prop where
 ok:∀ p∈cmp x y,am p
 fr:frA (aj (cmp x y))=frA (aj x)
 to:toA (aj (cmp x y))=toA (aj y)
 ap:∀ t:List Int,frA (aj x)<=t.length->apA (aj (cmp x y)) t=apA (aj y) (apA (aj x) t)
theorem rA {p:Part} (k:p.kind=2) (n:Nat):ats (dO p n)=(p.signs.take n).map At.p:=by
 unfold dO ats;rw [if_pos k];simp [k]
theorem Bm:∀ (k:Nat) {x y:List Part},CInv x y->tsz x+tsz y<=k->CpOk x y
 | k, x, y, hi, hk => by
   have ax:=eY hi.px;have ay:=eY hi.py
   cases hs:fV x y with
   | none =>
     have hb:=hi.b;have hxt:=rj x;have hyf:=ie y
     have h0:nxt x=[]/\nxt y=[]:=by
      unfold fV at hs
      cases ex:nxt x with
      | nil =>
        refine ⟨rfl,?_⟩
        cases ey:nxt y with
        |nil=>rfl
        | cons q y' =>
          rw [ex,ey] at hs;have hq:=dw hi.py ey;have hqp:=cH ey;simp only at hs
          split at hs
          ·cases hs
          ·rename_i k2
           rw [ex] at hxt;rw [ey] at hyf;simp [tos,frs,k2] at hxt hyf;omega
      | cons p x' =>
        rw [ex] at hs;have hpp:=cH ex;simp only at hs
        split at hs
        ·cases hs
        ·rename_i k3
         cases ey:nxt y with
         | nil =>
           rw [ex] at hxt;rw [ey] at hyf;simp [tos,frs,k3] at hxt hyf;omega
         | cons q y' =>
           rw [ey] at hs;simp only at hs
           split at hs<;>cases hs
     rw [h0.1] at ax;rw [h0.2] at ay;have e:=zx hs;exact ⟨by rw [e];simp,by rw [e,<- ax],by rw [e,<- ay],λt ht=>by rw [e,<- ax,<- ay];rfl⟩
   | some r =>
     have hn:=hU hi hs;have hd:=hn.dec;have ih:=Bm (k - 1) hn.inv (by omega);have e:=zw hi hs
     have hok:∀ p∈cmp x y,am p:=by
      rw [e];intro p hp;exact (List.mem_append.1 hp).elim (hn.ok p) (ih.ok p)
     have hb:=hi.b;unfold fV at hs
     cases ex:nxt x with
     | nil =>
       rw [ex] at hs ax
       cases ey:nxt y with
       |nil=>rw [ey] at hs;simp at hs
       | cons q y' =>
         rw [ey] at hs ay;have hq:=(dw hi.py ey).1;simp only at hs
         split at hs
         ·rename_i k2
          cases hs
          have sq:=gr hq (n:=psz q) (Nat.le_refl _);have aq:=rA k2 (psz q);simp only [aj] at ax ay;refine ⟨hok,?_,?_,λt ht=>?_⟩
          ·rw [e,aM,bu,ih.fr,<- ax];simp only [aj,List.append_nil];rw [aq,kR];simp
          ·rw [e,aM,bO,ih.to,<- ay,sq];simp only [aj,List.append_nil,bO];omega
          ·rw [e,aM,<- ax,<- ay,sq]
           simp only [aj,List.append_nil,List.append_assoc,aq,mz];have:=ih.ap t (by simp [aj,frA]);rw [this];simp only [aj]
         ·cases hs
     | cons p x' =>
       rw [ex] at hs ax;have hp:=(dw hi.px ex).1;have hpp:=cH ex;simp only [aj] at ax;simp only at hs
       split at hs
       ·rename_i k3
        cases hs
        have sp:=gr hp (n:=psz p) (Nat.le_refl _);have ap:=il hp (by omega) (n:=psz p) (Nat.le_refl _);rw [if_pos k3] at ap;refine ⟨hok,?_,?_,λt ht=>?_⟩
        ·rw [e,aM,bu,ih.fr,<- ax,sp];simp only [aj,List.append_nil,bu];omega
        ·rw [e,aM,bO,ih.to];simp only [aj,List.append_nil,ap,nH];omega
        ·rw [<- ax,sp,List.append_assoc,bu,ap,pK] at ht
         rw [e,aM,<- ax,sp];simp only [aj,List.append_nil,List.append_assoc,ap,nX];have:=ih.ap (t.drop (psz p)) (by simp only [aj,List.length_drop];omega)
         simpa only [aj] using this
       ·rename_i k3
        cases ey:nxt y with
        |nil=>rw [ey] at hs;simp at hs
        | cons q y' =>
          rw [ey] at hs ay;have hq:=(dw hi.py ey).1;simp only [aj] at ay;simp only at hs
          split at hs
          ·rename_i k2
           cases hs
           have sq:=gr hq (n:=psz q) (Nat.le_refl _);have aq:=rA k2 (psz q);refine ⟨hok,?_,?_,λt ht=>?_⟩
           ·rw [e,aM,bu,ih.fr,<- ax];simp only [aj,List.append_nil];rw [aq,kR];simp
           ·rw [e,aM,bO,ih.to,<- ay,sq];simp only [aj,List.append_nil,bO];omega
           ·rw [<- ax] at ht
            rw [e,aM,<- ax,<- ay,sq];simp only [aj,List.append_nil,List.append_assoc,aq,mz];have:=ih.ap t (by simpa only [aj] using ht);rw [this];simp only [aj]
          ·rename_i k2
           cases hs
           generalize hm:min (psz p) (psz q)=m at ih e hok hn hd;have hm1:m<=psz p:=by omega
           have hm2:m<=psz q:=by omega
           have sp:=gr hp hm1;have sq:=gr hq hm2;have aq:=il hq k2 hm2;by_cases q1:q.kind=1
           ·rw [if_pos q1] at e
            rw [if_neg (by omega)] at aq;by_cases p2:p.kind=2
            ·have ap:=rA p2 m
             have hl:(p.signs.take m).length=m:=by
              have:=oB hp p2;simp;omega
             refine ⟨hok,?_,?_,λt ht=>?_⟩
             ·rw [e,aM,bu,ih.fr,<- ax,sp];simp only [aj,List.append_nil,bu];omega
             ·rw [e,aM,bO,ih.to,<- ay,sq];simp only [aj,List.append_nil,bO,ap,aq,pq,vR,hl];omega
             ·rw [<- ax,sp,List.append_assoc,bu,ap,kR] at ht
              rw [e,aM,<- ax,<- ay,sp,sq];simp only [aj,List.append_nil,List.append_assoc,ap,aq,mz];rw [nW _ _ (by simp only [List.length_append,hl];omega)];have h1:=List.take_left' (l₂:=apA (ats (bS p m)++aj x') t) hl;have h2:=List.drop_left' (l₂:=apA (ats (bS p m)++aj x') t) hl;rw [h1,h2];have:=ih.ap t (by simp only [aj];omega);rw [this];simp only [aj]
            ·have ap:=il hp p2 hm1
             rw [if_neg k3] at ap;refine ⟨hok,?_,?_,λt ht=>?_⟩
             ·rw [e,aM,bu,ih.fr,<- ax,sp];simp only [aj,List.append_nil,bu];omega
             ·rw [e,aM,bO,ih.to,<- ay,sq];simp only [aj,List.append_nil,bO,ap,aq];omega
             ·rw [<- ax,sp,List.append_assoc,bu,ap,sG] at ht
              rw [e,aM,<- ax,<- ay,sp,sq];simp only [aj,List.append_nil,List.append_assoc,ap,aq];rw [nW m t (by omega),nW m t (by omega),nW _ _ (by simp;omega)];have hl:(t.take m).length=m:=by simp;omega
              have h1:=List.take_left' (l₂:=apA (ats (bS p m)++aj x') (t.drop m)) hl;have h2:=List.drop_left' (l₂:=apA (ats (bS p m)++aj x') (t.drop m)) hl;rw [h1,h2];have:=ih.ap (t.drop m) (by simp only [aj,List.length_drop];omega);rw [this];simp only [aj]
           ·have q3:q.kind=3:=by have:=hq.bounds.1;omega
            rw [if_neg q1] at e;rw [if_pos q3] at aq;by_cases p1:p.kind=1
            ·rw [if_pos p1] at e
             have ap:=il hp (by omega) hm1;rw [if_neg k3] at ap;refine ⟨hok,?_,?_,λt ht=>?_⟩
             ·rw [e,aM,bu,ih.fr,<- ax,sp];simp only [aj,List.append_nil,bu,ap,aq,sG,pK];omega
             ·rw [e,aM,bO,ih.to,<- ay,sq];simp only [aj,List.append_nil,bO];omega
             ·rw [<- ax,sp,List.append_assoc,bu,ap,sG] at ht
              rw [e,aM,<- ax,<- ay,sp,sq];simp only [aj,List.append_nil,List.append_assoc,ap,aq,nX];rw [nW m t (by omega)];have hl:(t.take m).length=m:=by simp;omega
              have h2:=List.drop_left' (l₂:=apA (ats (bS p m)++aj x') (t.drop m)) hl;rw [h2];have:=ih.ap (t.drop m) (by simp only [aj,List.length_drop];omega);rw [this];simp only [aj]
            ·rw [if_neg p1] at e
             have p2:p.kind=2:=by have:=hp.bounds.1;omega
             have ap:=rA p2 m
             have hl:(p.signs.take m).length=m:=by
              have:=oB hp p2;simp;omega
             refine ⟨hok,?_,?_,λt ht=>?_⟩
             ·rw [e,aM,bu,ih.fr,<- ax,sp];simp only [aj,bu,ap,kR,frA];omega
             ·rw [e,aM,bO,ih.to,<- ay,sq];simp only [aj,bO,aq,nH,toA];omega
             ·rw [<- ax,sp,List.append_assoc,bu,ap,kR] at ht
              rw [e,aM,<- ax,<- ay,sp,sq];simp only [aj,List.nil_append,List.append_assoc,ap,aq,nX,mz];have h2:=List.drop_left' (l₂:=apA (ats (bS p m)++aj x') t) hl;rw [h2];have:=ih.ap t (by simp only [aj];omega);rw [this];simp only [aj]
termination_by k=>k
decreasing_by omega
theorem wZ {a b:List Part} (ha:aX a) (hb:aX b) (h:cE a=aL b) :
 (be a b).2=true /\ aZ (be a b).1 /\ aL (be a b).1=aL a /\ cE (be a b).1=cE b /\
 ∀ t:List Int,cT t->aL a=t.length->(apply (be a b).1 t).1=(apply b (apply a t).1).1:=by
 have hi:=xi ha hb h;have c:=Bm _ hi (Nat.le_refl _);have f1:=kg ha;have t1:=ix hb;have g1:=ha.2.1;have g2:=hb.2.2;have n:=yD c.ok (by rw [hJ,c.fr];omega) (by rw [iT c.ok,c.to];omega);have e:be a b=(normal (cmp a b),true):=by unfold be;rw [if_pos ⟨ha,hb,h⟩,if_pos n.1]
 have n1:=n.2.1;have n2:=n.2.2;rw [hJ,c.fr] at n1;rw [iT c.ok,c.to] at n2
 have hnn:aZ (normal (cmp a b)):=by
  have hx:=dS c.ok;refine ⟨n.1,?_⟩;unfold a8;rw [if_pos n.1,gX n.1.1.1,hx,gX c.ok];unfold gG;rw [u5]
 rw [e];refine ⟨rfl,hnn,by simp only;omega,by simp only;omega,λt ht hf=>?_⟩;have fa:dY a t:=⟨ha,ht,hf⟩;have ta:=eM fa;have fb:dY b (apply a t).1:=⟨hb,ta.1,by omega⟩;have fc:dY (normal (cmp a b)) t:=⟨n.1,ht,by omega⟩;rw [th fc,th fb,th fa];simp only;rw [dS c.ok,F8];exact c.ap t (by omega)
def cm:List At->Nat
 | []=>0
 | .p _::l=>cm l+1
 |_::l=>cm l
def eq:List At->Nat
 | []=>0
 | .d::l=>eq l+1
 |_::l=>eq l
theorem fA:∀ (a b:List At),cm (a++b)=cm a+cm b
 | [],b=>by simp [cm]
 | .p c::a,b=>by simp [cm,fA a b];omega
 | .k::a,b=>by simp [cm,fA a b]
 | .d::a,b=>by simp [cm,fA a b]
theorem gq:∀ (a b:List At),eq (a++b)=eq a+eq b
 | [],b=>by simp [eq]
 | .d::a,b=>by simp [eq,gq a b];omega
 | .k::a,b=>by simp [eq,gq a b]
 | .p c::a,b=>by simp [eq,gq a b]
theorem o6:∀ l:List Int,cm (l.map At.p)=l.length
 | []=>rfl
 |c::l=>by simp [cm,o6 l]
theorem ry:∀ l:List Int,eq (l.map At.p)=0
 | []=>rfl
 |c::l=>by simp [eq,ry l]
theorem xh:∀ n:Nat,cm (List.replicate n At.k)=0
 |0=>rfl
 |n+1=>by simp [List.replicate_succ,cm,xh n]
theorem o7:∀ n:Nat,cm (List.replicate n At.d)=0
 |0=>rfl
 |n+1=>by simp [List.replicate_succ,cm,o7 n]
theorem Cv:∀ n:Nat,eq (List.replicate n At.k)=0
 |0=>rfl
 |n+1=>by simp [List.replicate_succ,eq,Cv n]
theorem rz:∀ n:Nat,eq (List.replicate n At.d)=n
 |0=>rfl
 |n+1=>by simp [List.replicate_succ,eq,rz n]
theorem G4 {p:Part} (h:am p):(cm (ats p):Int)=fP p/\(eq (ats p):Int)=fD p:=by
 have hb:=h.bounds;unfold ats fP fD;by_cases k2:p.kind=2
 ·have:¬ p.kind=1:=by omega
  simp [k2,o6,ry]
 ·have hz:psz p=p.n.toNat:=by unfold psz;simp [hb.2.2.2.2.2 k2]
  by_cases k3:p.kind=3
  ·simp [k3,o7,rz,hz];omega
  ·have:p.kind=1:=by omega
   simp [this,xh,Cv]
theorem Bl:∀ {o:List Part},(∀ p∈o,am p)->(cm (aj o):Int)=bW fP o/\(eq (aj o):Int)=bW fD o
 | [],_=>by simp [aj,cm,eq,bW]
 | p :: o, h => by
   have h1:=G4 (h p (List.mem_cons_self ..));have h2:=Bl (o:=o) (λq hq=>h q (List.mem_cons_of_mem _ hq));simp only [aj,fA,gq,bW];omega
theorem rm {o:List Part}:idle o ↔ aX o/\cm (aj o)=0/\eq (aj o)=0:=by
 unfold idle yo sP
 constructor
 ·rintro ⟨h,h1,h2⟩
  rw [if_pos h] at h1 h2;have:=Bl h.1.1;exact ⟨h,by omega,by omega⟩
 ·rintro ⟨h,h1,h2⟩
  have:=Bl h.1.1;rw [if_pos h,if_pos h];exact ⟨h,by omega,by omega⟩
theorem vh:∀ (a:List At),cm a=0->eq a=0->frA a=toA a
 | [],_,_=>rfl
 | .k :: a, h1, h2 => by
   simp only [frA,toA];rw [vh a (by simpa [cm] using h1) (by simpa [eq] using h2)]
 | .p c::a,h1,_=>by simp [cm] at h1
 | .d::a,_,h2=>by simp [eq] at h2
theorem Je {o:List Part} (h:idle o):cE o=aL o:=by
 have h1:=rm.1 h;have:=vh _ h1.2.1 h1.2.2;have:=kg h1.1;have:=ix h1.1;omega
theorem sm:∀ (l:List At) (P:List Int) (n:Nat),cm (nA P n l)=P.length+cm l/\eq (nA P n l)=n+eq l
 | [],P,n=>by simp [nA,fA,gq,o6,ry,o7,rz,cm,eq]
 | .k :: l, P, n => by
   have:=sm l [] 0;simp [nA,fA,gq,o6,ry,o7,rz,cm,eq,this]
 | .p c :: l, P, n => by
   have:=sm l (P++[c]) n;simp [nA,cm,eq,this];omega
 | .d :: l, P, n => by
   have:=sm l P (n+1);simp [nA,cm,eq,this];omega
theorem re:∀ (a b:List At),cm b=0->eq b=0->cm (tA a b).2=0/\eq (tA a b).2=0
 | .p c::a,b,h1,h2=>by rw [Ii];simpa [cm,eq] using re a b h1 h2
 | [],.p c::b,h1,_=>by simp [cm] at h1
 | .k::a,.p c::b,h1,_=>by simp [cm] at h1
 | .d::a,.p c::b,h1,_=>by simp [cm] at h1
 | .k::a,.k::b,h1,h2=>by rw [tA];simpa [cm,eq] using re a b (by simpa [cm] using h1) (by simpa [eq] using h2)
 | .d::a,.k::b,h1,h2=>by rw [tA];exact re a b (by simpa [cm] using h1) (by simpa [eq] using h2)
 | .k::a,.d::b,_,h2=>by simp [eq] at h2
 | .d::a,.d::b,_,h2=>by simp [eq] at h2
 | [],[],_,_=>by simp [tA,cm,eq]
 | [],.k::b,_,_=>by simp [tA,cm,eq]
 | [],.d::b,_,h2=>by simp [eq] at h2
 | .k::a,[],_,_=>by simp [tA,cm,eq]
 | .d::a,[],_,_=>by simp [tA,cm,eq]
termination_by a b=>a.length+b.length
theorem qY {a b:List Part} (h:(ae a b).2.2=true) (hb:idle b):idle (ae a b).2.1:=by
 have o:=jP h;have h1:=rm.1 hb;have h2:=re (aj a) (aj b) h1.2.1 h1.2.2;have h3:=sm (tA (aj a) (aj b)).2 [] 0;refine rm.2 ⟨o.oky,?_,?_⟩
 ·rw [o.ay];unfold gG;simp at h3;omega
 ·rw [o.ay];unfold gG;simp at h3;omega
theorem Ik {r:Rep} (h:ba r) (h1:r.has=false) (h2:r.seq≠999999999):ba (df r):=by
 obtain ⟨g1,g2,g3,g4,g5,g6,g7,g8,g9⟩:=h;rw [h1] at g9;have hi:idle r.sent:=by simpa using g9
 have ht:=Je hi;have hb:=g6.1.2.2;have hk:=fq (n:=cE r.buf) (by have:=ix g6.1;omega) hb;refine ⟨g1,by simp only [df];omega,g3,g4,g6,hk.1,by simp only [df];omega,hk.2.1,?_⟩;simp only [df,if_true];omega
def Ring.zero:Ring:=⟨0,0,false,[]⟩
def Hub.zero:Hub:=⟨false,[],[],0⟩
def Wld.zero:Wld:=⟨Hub.zero,[],[],[],0⟩
def bC (room rev:Int):Ring:=⟨room,rev+1,false,[]⟩
open Classical in
noncomputable def eT (room rev:Int):Ring×Bool:=if bV (bC room rev) then (bC room rev,true) else (Ring.zero,false)
open Classical in
noncomputable def cV (r:Ring) (e:Entry):Ring:=
 if bV r/\bN e/\r.out=false then (if (r.list.length:Int)=r.cap then ⟨r.cap,r.next,true,[]⟩ else ⟨r.cap,r.next,r.out,r.list++[e]⟩) else r
open Classical in
noncomputable def cD (r:Ring) (n:Int):Ring×List Entry×Int:=
 if bV r/\1<=n then (if r.out=true then (r,[],9) else (⟨r.cap,r.next+(min n.toNat r.list.length:Nat),r.out,r.list.drop n.toNat⟩,r.list.take n.toNat,0)) else (r,[],1)
open Classical in
noncomputable def dB (r:Ring) (rev:Int):Ring×Bool:=if bV r then eT r.cap rev else (Ring.zero,false)
noncomputable def gi (d:Doc):List Doc->List Doc
 | []=>[d]
 |x::l=>open Classical in if sLt x.name d.name then x::gi d l else d::x::l
open Classical in
noncomputable def bE (h:Hub) (name:ByteArray) (t:List Int):Hub×Int:=
 if aH h/\aR (dZ name t) then
  (if h.shut=true then (Hub.zero,12) else if 0<=bY h.docs name then (Hub.zero,7) else if h.docs.length=5 then (Hub.zero,10) else (⟨h.shut,gi (dZ name t) h.docs,h.subs,h.last⟩,0))
 else (Hub.zero,1)
noncomputable def fG (name:ByteArray) (e:Entry) (s:Sub):Sub:=open Classical in if s.doc=name then ⟨s.id,s.doc,cV s.r e⟩ else s
noncomputable def dT (h:Hub) (name:ByteArray) (k:Nat) (d0 d:Doc):Hub:=
 ⟨h.shut,h.docs.set k d,if ab d>ab d0 then (match d.list.getLast? with|some e=>h.subs.map (fG name e)|none=>h.subs) else h.subs,h.last⟩
open Classical in
noncomputable def bd (h:Hub) (name:ByteArray) (client seq base:Int) (o:List Part):Hub×Int×Int:=
 if aH h then
  if h.shut=true then (Hub.zero,0,12) else
  match h.docs[(bY h.docs name).toNat]? with
  |some d0=>if 0<=bY h.docs name then
   (if (bf d0 client seq base o).2.2=0 then (dT h name (bY h.docs name).toNat d0 (bf d0 client seq base o).1,(bf d0 client seq base o).2.1,0) else (Hub.zero,0,(bf d0 client seq base o).2.2))
   else (Hub.zero,0,6)
  |none=>(Hub.zero,0,6)
 else (Hub.zero,0,1)
open Classical in
noncomputable def aO (h:Hub) (name:ByteArray) (room:Int):Hub×Int×Int:=
 if aH h/\(1<=room/\room<=6) then
  if h.shut=true then (Hub.zero,0,12) else
  match h.docs[(bY h.docs name).toNat]? with
  |some d=>if 0<=bY h.docs name then
   (if h.subs.length=6\/h.last=1000000000 then (Hub.zero,0,10) else (⟨h.shut,h.docs,h.subs++[⟨h.last+1,name,(eT room (ab d)).1⟩],h.last+1⟩,h.last+1,0))
   else (Hub.zero,0,6)
  |none=>(Hub.zero,0,6)
 else (Hub.zero,0,1)
open Classical in
noncomputable def cw (h:Hub) (id n:Int):Hub×List Entry×Int:=
 if aH h/\1<=n then
  match h.subs[(gb h.subs id).toNat]? with
  |some s=>if 0<=gb h.subs id then
   (if (cD s.r n).2.2=0 then (⟨h.shut,h.docs,h.subs.set (gb h.subs id).toNat ⟨s.id,s.doc,(cD s.r n).1⟩,h.last⟩,(cD s.r n).2.1,0) else (Hub.zero,[],(cD s.r n).2.2))
   else (Hub.zero,[],8)
  |none=>(Hub.zero,[],8)
 else (Hub.zero,[],1)
open Classical in
noncomputable def bm (h:Hub) (id:Int):Hub×List Int×Int×Int:=
 if aH h then
  match h.subs[(gb h.subs id).toNat]? with
  |some s=>if 0<=gb h.subs id then
   (match h.docs[(bY h.docs s.doc).toNat]? with
   |some d=>(⟨h.shut,h.docs,h.subs.set (gb h.subs id).toNat ⟨s.id,s.doc,(dB s.r (ab d)).1⟩,h.last⟩,bX d,ab d,0)
   |none=>(Hub.zero,[],0,8))
   else (Hub.zero,[],0,8)
  |none=>(Hub.zero,[],0,8)
 else (Hub.zero,[],0,1)
open Classical in
noncomputable def cN (h:Hub):Hub×Int:=if aH h then (if h.shut=true then (Hub.zero,12) else (⟨true,h.docs,h.subs,h.last⟩,0)) else (Hub.zero,1)
def cZ (code:Int):Answer:=⟨code,0,[],[]⟩
open Classical in
noncomputable def nt (h:Hub) (c:Call):Answer:=
 if h.shut=true then cZ 12 else
 match h.docs[(bY h.docs c.doc).toNat]? with
 |some d=>if 0<=bY h.docs c.doc then (if c.kind=4 then ⟨0,ab d,bX d,[]⟩ else ⟨(dQ d c.n).2,0,[],(dQ d c.n).1⟩) else cZ 6
 |none=>cZ 6
open Classical in
noncomputable def fDo (h:Hub) (c:Call):Hub×Answer:=
 if aH h/\bR c then
  if c.kind=1 then (if (bE h c.doc c.text).2=0 then ((bE h c.doc c.text).1,cZ 0) else (h,cZ (bE h c.doc c.text).2))
  else if c.kind=2 then (if (bd h c.doc c.client c.seq c.n c.o).2.2=0 then ((bd h c.doc c.client c.seq c.n c.o).1,⟨0,(bd h c.doc c.client c.seq c.n c.o).2.1,[],[]⟩) else (h,cZ (bd h c.doc c.client c.seq c.n c.o).2.2))
  else if c.kind=3\/c.kind=4 then (h,nt h c)
  else if c.kind=5 then (if (aO h c.doc c.n).2.2=0 then ((aO h c.doc c.n).1,⟨0,(aO h c.doc c.n).2.1,[],[]⟩) else (h,cZ (aO h c.doc c.n).2.2))
  else if c.kind=6 then (if (cw h c.client c.n).2.2=0 then ((cw h c.client c.n).1,⟨0,0,[],(cw h c.client c.n).2.1⟩) else (h,cZ (cw h c.client c.n).2.2))
  else if c.kind=7 then (if (bm h c.client).2.2.2=0 then ((bm h c.client).1,⟨0,(bm h c.client).2.2.1,(bm h c.client).2.1,[]⟩) else (h,cZ (bm h c.client).2.2.2))
  else (if (cN h).2=0 then ((cN h).1,cZ 0) else (h,cZ (cN h).2))
 else (h,cZ 1)
theorem gL {d:Doc} (h:aR d) (e:Entry):ab (aG d e)=ab d+1/\(aG d e).list.getLast? = some e:=by
 obtain ⟨h1,h2,h3,h4⟩:=aE h;unfold aG
 split
 ·refine ⟨?_,by simp⟩
  unfold ab;simp only [List.length_append,List.length_cons,List.length_nil];rw [Go.IntWalk.i64_in _ (by omega),Go.IntWalk.i64_in _ (by omega)];omega
 ·refine ⟨?_,?_⟩
  ·unfold ab
   simp only [List.length_append,List.length_cons,List.length_nil,List.length_drop];rw [Go.IntWalk.i64_in _ (by omega),Go.IntWalk.i64_in _ (by omega)];omega
  ·have hl:d.list.length=8:=by omega
   rw [List.getLast?_drop];rw [if_neg (by rw [List.length_append,List.length_singleton];omega)];simp
theorem mJ {α:Type} {R:α->α->Prop} (tr:∀ a b c,R a b->R b c->R a c):∀ {l:List α},(∀ i,∀ h:i<l.length,∀ h0:0<i,R (l[i - 1]'(by omega)) l[i])->l.Pairwise R
 | [],_=>.nil
 | [a],_=>by simp
 | a :: b :: l, h => by
   have ih:=mJ tr (l:=b::l) (λi hi h0=>by
    have:=h (i+1) (by simp at hi ⊢;omega) (by omega);obtain ⟨j,rfl⟩:∃ j,i=j+1:=⟨i - 1,by omega⟩
    simpa using this)
   have hab:R a b:=by have:=h 1 (by simp) (by omega);simpa using this
   refine List.pairwise_cons.2 ⟨λc hc=>?_,ih⟩;rcases List.mem_cons.1 hc with rfl|hc
   ·exact hab
   ·exact tr _ _ _ hab ((List.pairwise_cons.1 ih).1 c hc)
theorem pX {α:Type} {R:α->α->Prop} {l:List α} (h:l.Pairwise R):∀ i,∀ h:i<l.length,∀ h0:0<i,R (l[i - 1]'(by omega)) l[i]:=
 λi hi h0=>(List.pairwise_iff_getElem.1 h) (i - 1) i (by omega) hi (by omega)
def OR (R:Int) (s:Seen):Prop:=(1<=s.client/\s.client<=8)/\(1<=s.seq/\s.seq<=1000000000)/\(1<=s.rev/\s.rev<=R)
theorem p7 {d:Doc}:oy d ↔ (∀ s∈d.seen,OR (ab d) s)/\d.seen.Pairwise λa b=>a.client<b.client:=by
 constructor
 ·intro h
  refine ⟨λs hs=>?_,mJ (R:=λa b:Seen=>a.client<b.client) (λ_ _ _=>Int.lt_trans) λi hi h0=>(h i hi).2.2.2 h0⟩;obtain ⟨i,hi,rfl⟩:=List.getElem_of_mem hs;obtain ⟨h1,h2,h3,-⟩:=h i hi;exact ⟨h1,h2,h3⟩
 ·rintro ⟨h1,h2⟩ i hi
  obtain ⟨a,b,c⟩:=h1 _ (List.getElem_mem hi);exact ⟨a,b,c,λh0=>pX h2 i hi h0⟩
theorem lT {c s r:Int}:∀ {l:List Seen} {x:Seen},x∈bM c s r l->x=⟨c,s,r⟩\/x∈l
 | [],x,h=>by simp [bM] at h;exact .inl h
 | y :: l, x, h => by
   unfold bM at h
   split at h
   ·rcases List.mem_cons.1 h with h|h
    ·exact .inr (by simp [h])
    ·rcases lT h with h|h
     ·exact .inl h
     ·exact .inr (List.mem_cons_of_mem _ h)
   ·split at h
    ·rcases List.mem_cons.1 h with h|h
     ·exact .inl h
     ·exact .inr (List.mem_cons_of_mem _ h)
    ·rcases List.mem_cons.1 h with h|h
     ·exact .inl h
     ·exact .inr h
theorem r4 {c s r:Int}:∀ {l:List Seen},(l.Pairwise λa b=>a.client<b.client)->(bM c s r l).Pairwise λa b=>a.client<b.client
 | [],_=>by simp [bM]
 | y :: l, h => by
   obtain ⟨h1,h2⟩:=List.pairwise_cons.1 h;unfold bM
   split
   ·rename_i hc
    refine List.pairwise_cons.2 ⟨λx hx=>?_,r4 h2⟩;rcases lT hx with rfl|hx
    ·exact hc
    ·exact h1 x hx
   ·split
    ·rename_i hc
     exact List.pairwise_cons.2 ⟨λx hx=>by have:=h1 x hx;simp only;omega,h2⟩
    ·refine List.pairwise_cons.2 ⟨λx hx=>?_,h⟩
     rcases List.mem_cons.1 hx with rfl|hx
     ·simp only;omega
     ·have:=h1 x hx;simp only;omega
theorem Bg {d:Doc} (h:aR d) {e:Entry} (he:bN e) (hf:dY e.o (bX d)) (hr:ab d<999999000):aR (aG d e):=by
 have hh:=aE h;have hp:=(gL h e).1;obtain ⟨t1,t2⟩:=jM h;obtain ⟨g1,g2,g3,g4,g5,g6,g7⟩:=h
 have hap:(ao ((d.list++[e]).map Entry.o) d.text).isSome=true:=by
  rw [List.map_append,eu,t1];simp only [Option.bind_some,List.map_cons,List.map_nil,ao];rw [if_pos (et.2 hf)];rfl
 have hse:oy (aG d e):=by
  rw [p7,hp];obtain ⟨s1,s2⟩:=p7.1 g7;have e1:(aG d e).seen=bM e.client e.seq (ab d+1) d.seen:=by unfold aG;split<;>rfl
  rw [e1];refine ⟨λx hx=>?_,r4 s2⟩;rcases lT hx with rfl|hx
  ·exact ⟨he.1,he.2.1,by simp only;omega⟩
  ·obtain ⟨a,b,c⟩:=s1 x hx
   exact ⟨a,b,by omega⟩
 have hen:∀ x∈d.list++[e],bN x:=λx hx=>by
  rcases List.mem_append.1 hx with hx|hx
  ·exact g5 x hx
  ·simp at hx;subst hx;exact he
 unfold aG at hse ⊢
 split
 ·rename_i hl
  rw [if_pos hl] at hse;exact ⟨g1,g2,g3,by simp;omega,hen,hap,hse⟩
 ·rename_i hl
  rw [if_neg hl] at hse
  obtain ⟨x,l',hx⟩:∃ x l',d.list++[e]=x::l':=by
   cases hd:d.list++[e] with
   |nil=>simp at hd
   |cons x l'=>exact ⟨x,l',rfl⟩
  have hlen:l'.length=d.list.length:=by have:=congrArg List.length hx;simp at this;omega
  simp only [hx] at hse hap hen ⊢;simp only [List.getElem_cons_zero,List.drop_one,List.tail_cons] at hse ⊢;rw [List.map_cons,ao] at hap
  split at hap
  ·rename_i ha
   exact ⟨g1,by simp only;omega,(eM (et.1 ha)).1,by simp only;omega,λy hy=>hen y (List.mem_cons_of_mem _ hy),hap,hse⟩
  ·simp at hap
theorem xb (d:Doc) (e:Entry):(aG d e).name=d.name:=by unfold aG;split<;>rfl
theorem jR {d:Doc} {client seq base:Int} {o:List Part} (h:aR d) (hc:(bf d client seq base o).2.2=0) :
 aR (bf d client seq base o).1/\(bf d client seq base o).1.name=d.name/\((bf d client seq base o).1=d\/
  ∃ e,bN e/\e.client=client/\e.seq=seq/\(bf d client seq base o).1=aG d e/\dY e.o (bX d)/\ab d<999999000):=by
 unfold bf at hc ⊢
 split at hc
 ·rename_i hs
  rw [if_pos hs]
  split at hc
  ·rename_i h1
   rw [if_pos h1];exact ⟨h,rfl,.inl rfl⟩
  ·rename_i h1
   rw [if_neg h1]
   split at hc
   ·rename_i h2
    rw [if_pos h2]
    split at hc
    ·rename_i h3
     rw [if_pos h3]
     split at hc
     ·simp at hc
     ·rename_i h4
      rw [if_neg h4]
      have key:aZ (cW d base o).1/\dY (cW d base o).1 (bX d):=by
       unfold cW at h3 ⊢
       split at h3
       ·rename_i c1
        rw [if_pos c1]
        split at h3
        ·simp at h3
        ·rename_i c2
         rw [if_neg c2]
         split at h3
         ·simp at h3
         ·rename_i c3
          rw [if_neg c3]
          split at h3
          ·rename_i c4
           rw [if_pos c4]
           split at h3
           ·rename_i c5
            rw [if_pos c5];exact ⟨A6 c5,oY c1.1 c1.2 (by omega) (by omega) c4 c5⟩
           ·simp at h3
          ·simp at h3
       ·simp at h3
      have he:bN ⟨client,seq,(cW d base o).1⟩:=⟨hs.2.1,hs.2.2.1,key.1⟩;exact ⟨Bg h he key.2 (by omega),xb _ _,.inr ⟨_,he,rfl,rfl,rfl,key.2,by omega⟩⟩
    ·rename_i h3;exact absurd hc h3
   ·simp at hc
 ·simp at hc
theorem A3 {d:Doc} {client seq base:Int} {o:List Part} (h:aR d) (hc:(bf d client seq base o).2.2=0) :
 (bf d client seq base o).1=d\/∃ e,ab (bf d client seq base o).1=ab d+1/\(bf d client seq base o).1.list.getLast? = some e:=by
 obtain ⟨-,-,h1|⟨e,-,-,-,h2,-⟩⟩:=jR h hc
 ·exact .inl h1
 ·rw [h2];exact .inr ⟨e,gL h e⟩
def Pn (o:List Part):Nat:=cm (aj o)
theorem iE:∀ (a b:List At),frA a=frA b->cm (tA a b).1=cm a/\cm (tA a b).2=cm b
 | .p c :: a, b, h => by
   have:=iE a b (by simpa [frA] using h);rw [Ii];simp [cm,this]
 | [], .p c :: b, h => by
   have:=iE [] b (by simpa [frA] using h);rw [Ac rfl];simp only [cm,this.2];exact ⟨this.1,trivial⟩
 | .k :: a, .p c :: b, h => by
   have:=iE (.k::a) b (by simpa [frA] using h);rw [Ac rfl];simp only [cm,this.2];exact ⟨this.1,trivial⟩
 | .d :: a, .p c :: b, h => by
   have:=iE (.d::a) b (by simpa [frA] using h);rw [Ac rfl];simp only [cm,this.2];exact ⟨this.1,trivial⟩
 | .k :: a, .k :: b, h => by
   have:=iE a b (by simpa [frA] using h);rw [tA];simpa [cm] using this
 | .d :: a, .k :: b, h => by
   have:=iE a b (by simpa [frA] using h);rw [tA];simpa [cm] using this
 | .k :: a, .d :: b, h => by
   have:=iE a b (by simpa [frA] using h);rw [tA];simpa [cm] using this
 | .d :: a, .d :: b, h => by
   have:=iE a b (by simpa [frA] using h);rw [tA];simpa [cm] using this
 | [],[],_=>by simp [tA,cm]
 | [],.k::b,h=>by simp [frA] at h
 | [],.d::b,h=>by simp [frA] at h
 | .k::a,[],h=>by simp [frA] at h
 | .d::a,[],h=>by simp [frA] at h
termination_by a b=>a.length+b.length
theorem nP (l:List At):cm (gG l)=cm l:=by
 have:=(sm l [] 0).1;unfold gG;simpa using this
theorem vQ:∀ a:List At,toA a<=frA a+cm a
 | []=>by simp [toA]
 | .k::a=>by have:=vQ a;simp only [toA,frA,cm];omega
 | .p c::a=>by have:=vQ a;simp only [toA,frA,cm];omega
 | .d::a=>by have:=vQ a;simp only [toA,frA,cm];omega
theorem ri {o:List Part} (h:aX o):cE o<=aL o+Pn o:=by
 have h1:=kg h;have h2:=ix h;have:=vQ (aj o);unfold Pn;omega
theorem rb {a b:List Part} (h:(ae a b).2.2=true):Pn (ae a b).1=Pn a/\Pn (ae a b).2.1=Pn b:=by
 have o:=jP h;have f1:=kg o.oka;have f2:=kg o.okb;have ff:=o.from_;have:=iE (aj a) (aj b) (by omega);unfold Pn;rw [o.ax,o.ay,nP,nP];exact this
def nV:List Int->Nat
 | []=>0
 |x::t=>(if 0<=x then 1 else 0)+nV t
theorem vv:∀ (n:Nat) (t:List Int),nV (t.drop n)<=nV t
 |0,t=>by simp
 |n+1,[]=>by simp
 |n+1,x::t=>by have:=vv n t;simp only [List.drop_succ_cons,nV];omega
theorem mW:∀ (a:List At) (t:List Int),nV (apA a t)<=cm a+nV t
 | [],t=>by simp [apA,nV]
 | .k::a,[]=>by have:=mW a [];simpa [apA,cm] using this
 | .k::a,x::t=>by have:=mW a t;simp only [apA,cm,nV];omega
 | .p c::a,t=>by have:=mW a t;simp only [apA,cm,nV];split<;>omega
 | .d::a,t=>by have:=mW a (t.drop 1);have:=vv 1 t;simp only [apA,cm];omega
theorem jl:∀ (a:List At) (n:Nat),(∀ c,At.p c∈a->0<=c)->nV (apA a (List.replicate n (-1)))=cm a
 | [],n,_=>by simp [apA,nV,cm]
 | .k :: a, 0, h => by
   have:=jl a 0 (λc hc=>h c (List.mem_cons_of_mem _ hc))
   simpa [apA,cm] using this
 | .k :: a, n + 1, h => by
   have:=jl a n (λc hc=>h c (List.mem_cons_of_mem _ hc))
   simpa [List.replicate_succ,apA,cm,nV] using this
 | .p c :: a, n, h => by
   have:=jl a n (λc hc=>h c (List.mem_cons_of_mem _ hc));have h0:=h c (List.mem_cons_self ..);simp only [apA,cm,nV,this,if_pos h0];omega
 | .d :: a, n, h => by
   have:=jl a (n - 1) (λc hc=>h c (List.mem_cons_of_mem _ hc))
   simpa [apA,cm] using this
theorem zu:∀ n:Nat,nV (List.replicate n (-1))=0
 |0=>rfl
 |n+1=>by simp [List.replicate_succ,nV,zu n]
theorem JA {p:Part} (h:am p) {c:Int} (hc:At.p c∈ats p):0<=c:=by
 unfold ats at hc
 split at hc
 ·obtain ⟨x,hx,e⟩:=List.mem_map.1 hc
  cases e
  rcases h with ⟨h1,-,h2⟩|⟨-,-,-,h2⟩
  ·rw [h2] at hx;cases hx
  ·exact (h2 _ hx).1.1
 ·split at hc
  ·have:=(List.mem_replicate.1 hc).2;cases this
  ·have:=(List.mem_replicate.1 hc).2;cases this
theorem vB:∀ {o:List Part},(∀ p∈o,am p)->∀ c,At.p c∈aj o->0<=c
 | [],_,c,hc=>by cases hc
 | p :: o, h, c, hc => by
   unfold aj at hc;rcases List.mem_append.1 hc with hc|hc
   ·exact JA (h p (List.mem_cons_self ..)) hc
   ·exact vB (λq hq=>h q (List.mem_cons_of_mem _ hq)) c hc
theorem MT {a b:List Part} (ha:aX a) (hb:aX b) (h:cE a=aL b):Pn (be a b).1<=Pn a+Pn b:=by
 have hi:=xi ha hb h;have c:=Bm _ hi (Nat.le_refl _);have f1:=kg ha;have t1:=ix hb;have g1:=ha.2.1;have g2:=hb.2.2;have n:=yD c.ok (by rw [hJ,c.fr];omega) (by rw [iT c.ok,c.to];omega);have e:be a b=(normal (cmp a b),true):=by unfold be;rw [if_pos ⟨ha,hb,h⟩,if_pos n.1]
 rw [e];unfold Pn;simp only;rw [dS c.ok,nP];have k1:=jl (aj (cmp a b)) (frA (aj a)) (vB c.ok);have k2:=c.ap (List.replicate (frA (aj a)) (-1)) (by simp);have k3:=mW (aj b) (apA (aj a) (List.replicate (frA (aj a)) (-1)));have k4:=mW (aj a) (List.replicate (frA (aj a)) (-1));have k5:=zu (frA (aj a));rw [k2] at k1;omega
theorem wL {o:List Part} (h:idle o):Pn o=0:=(rm.1 h).2.1
theorem Dx {n:Int} (h0:0<=n) (h1:n<=200):Pn (bI n)=0:=wL (fq h0 h1).2.2.2
def io:List Entry->Nat
 | []=>0
 |e::l=>Pn e.o+io l
theorem jq:∀ (a b:List Entry),io (a++b)=io a+io b
 | [],b=>by simp [io]
 |e::a,b=>by simp only [List.cons_append,io,jq a b];omega
theorem zD {o:List Part} {t:List Int} (h:dY o t):(apply o t).1.length<=t.length+Pn o:=by
 have h1:=(eM h).2;have h2:=ri h.1;have h3:=h.2.2;omega
theorem Co:∀ (l:List Entry) (t u:List Int),ao (l.map Entry.o) t=some u->u.length<=t.length+io l
 | [],t,u,h=>by simp only [List.map_nil,ao,Option.some.injEq] at h;subst h;simp [io]
 | e :: l, t, u, h => by
   rw [List.map_cons,ao] at h
   split at h
   ·rename_i ha
    have h1:=Co l _ u h;have h2:=zD (et.1 ha);simp only [io];omega
   ·cases h
theorem CG {d:Doc} (h:aR d) {rev:Int} (h1:d.fr<=rev) (h2:rev<=ab d):(bT d rev).1.length<=d.text.length+io (d.list.take (rev - d.fr).toNat):=
 Co _ _ _ (dV h h1 h2).2.1
theorem Aa {d:Doc} (h:aR d) {rev:Int} (h1:d.fr<=rev) (hl:(rev - d.fr).toNat<d.list.length) :
 dY (d.list[(rev - d.fr).toNat]).o (bT d rev).1/\bT d (rev+1)=((apply (d.list[(rev - d.fr).toNat]).o (bT d rev).1).1,true):=by
 have hh:=aE h;obtain ⟨k1,k2,k3,k4⟩:=dV h h1 (by omega);obtain ⟨m1,m2,m3,m4⟩:=dV h (rev:=rev+1) (by omega) (by omega);have e:(rev+1 - d.fr).toNat=(rev - d.fr).toNat+1:=by omega
 rw [e,<- List.take_append_getElem hl,List.map_append,eu,k2] at m2;simp only [List.map_cons,List.map_nil,Option.bind_some,ao] at m2
 split at m2
 ·rename_i ha
  injection m2 with m2
  exact ⟨et.1 ha,Prod.ext m2.symm m1⟩
 ·cases m2
theorem ze {c s r x:Int}:∀ l:List Seen,(bM c s r l).find? (λy=>decide (y.client=x))=if x=c then some ⟨c,s,r⟩ else l.find? (λy=>decide (y.client=x))
 | [] => by
   by_cases h:x=c
   ·subst h;simp [bM]
   ·have:¬ c=x:=λe=>h e.symm
    simp [bM,h,this]
 | y :: l => by
   unfold bM;have ih:=ze (c:=c) (s:=s) (r:=r) (x:=x) l;by_cases h:x=c
   ·subst h
    by_cases h1:y.client<x
    ·have h2:¬ y.client=x:=by omega
     rw [if_pos h1,List.find?_cons_of_neg (by simpa using h2),ih,if_pos rfl,if_pos rfl]
    ·rw [if_neg h1,if_pos rfl]
     split<;>simp
   ·have hc:¬ c=x:=λe=>h e.symm
    rw [if_neg h] at ih ⊢;by_cases h1:y.client<c
    ·rw [if_pos h1,List.find?_cons,List.find?_cons,ih]
    ·rw [if_neg h1]
     split
     ·rename_i h2
      have h3:¬ y.client=x:=by omega
      rw [List.find?_cons_of_neg (by simpa using hc),List.find?_cons_of_neg (by simpa using h3)]
     ·rw [List.find?_cons_of_neg (by simpa using hc)]
theorem pw (d:Doc) (e:Entry) (x:Int):(aS (aG d e) x).1=if x=e.client then ⟨e.client,e.seq,ab d+1⟩ else (aS d x).1:=by
 have hs:(aG d e).seen=bM e.client e.seq (ab d+1) d.seen:=by unfold aG;split<;>rfl
 unfold aS;rw [hs,ze];by_cases h:x=e.client
 ·rw [if_pos h,if_pos h]
 ·rw [if_neg h,if_neg h]
def DIn (d:Doc):Prop:=∀ (j:Nat) (e:Entry),d.list[j]? = some e->e.seq<=(aS d e.client).1.seq/\(e.seq=(aS d e.client).1.seq->(aS d e.client).1.rev=d.fr+j+1)
theorem mK {d:Doc} (h:aR d) (e:Entry):∃ k:Nat,k <= 1 /\ (aG d e).fr=d.fr+k /\ (aG d e).list=(d.list++[e]).drop k /\ (k=0 -> (aG d e).text=d.text) /\
 (k=1->∃ h0:0<d.list.length,(aG d e).text=(apply (d.list[0]).o d.text).1):=by
 have hh:=aE h;unfold aG
 split
 ·exact ⟨0,by omega,by simp,by simp,λ_=>rfl,λh=>by omega⟩
 ·refine ⟨1,by omega,by simp,rfl,λh=>by omega,λ_=>⟨by omega,?_⟩⟩
  simp only;rw [List.getElem_append_left (by omega)]
theorem Iw {d:Doc} (h:aR d) (hi:DIn d) {e:Entry} (he:e.seq=(aS d e.client).1.seq+1):DIn (aG d e):=by
 obtain ⟨k,hk,h1,h2,-,-⟩:=mK h e;have hh:=aE h;intro j x hx;rw [h2,List.getElem?_drop] at hx;rw [pw,h1];by_cases c:k+j<d.list.length
 ·rw [List.getElem?_append_left c] at hx
  obtain ⟨a1,a2⟩:=hi _ x hx;by_cases q:x.client=e.client
  ·rw [if_pos q]
   rw [q] at a1;exact ⟨by simp only;omega,λe2=>by simp only at e2;omega⟩
  ·rw [if_neg q]
   exact ⟨a1,λe2=>by have:=a2 e2;omega⟩
 ·by_cases c2:k+j=d.list.length
  ·rw [c2,List.getElem?_append_right (Nat.le_refl _)] at hx
   simp at hx;subst hx;rw [if_pos rfl];exact ⟨Int.le_refl _,λ_=>by simp only;omega⟩
  ·rw [List.getElem?_append_right (by omega)] at hx
   have:(d.list++[e]).length<=k+j:=by rw [List.length_append,List.length_singleton];omega
   rw [List.getElem?_eq_none (by rw [List.length_singleton];omega)] at hx
   cases hx
theorem CZ {d:Doc} (h:aR d) {e:Entry} (hp:aR (aG d e)) {rev:Int} (h1:(aG d e).fr<=rev) (h2:rev<=ab d):bT (aG d e) rev=bT d rev:=by
 obtain ⟨k,hk,k1,k2,k3,k4⟩:=mK h e;have hh:=aE h;have hd:=(gL h e).1;rw [kz ⟨hp,h1,by omega⟩,kz ⟨h,by omega,h2⟩,k1,k2];obtain ⟨n,hn⟩:∃ n,(rev - d.fr).toNat=n:=⟨_,rfl⟩;have hnl:n<=d.list.length:=by omega
 rw [show (rev - (d.fr+(k:Int))).toNat=n - k by omega,hn];rcases Nat.eq_zero_or_pos k with hz|hz
 ·subst hz
  rw [k3 rfl,List.drop_zero,Nat.sub_zero,List.take_append_of_le_length hnl]
 ·have hk1:k=1:=by omega
  subst hk1;obtain ⟨h0,k5⟩:=k4 rfl;obtain ⟨m,rfl⟩:∃ m,n=m+1:=⟨n - 1,by omega⟩
  obtain ⟨y,L,hL⟩:∃ y L,d.list=y::L:=by
   cases hx:d.list with
   |nil=>rw [hx] at h0;simp at h0
   |cons y L=>exact ⟨y,L,rfl⟩
  have ht:=h.2.2.1;have hs:=h.2.2.2.2.2.1;have hy:(d.list[0])=y:=by simp [hL]
  rw [hy] at k5;rw [hL] at hnl hs ⊢;rw [k5];simp only [List.cons_append,List.drop_succ_cons,List.drop_zero,Nat.add_sub_cancel,List.take_succ_cons,List.map_cons];rw [List.take_append_of_le_length (by simpa using hnl)];rw [List.map_cons,ao] at hs
  have ha:(apply y.o d.text).2=true:=by
   by_cases q:(apply y.o d.text).2=true
   ·exact q
   ·rw [if_neg q] at hs;cases hs
  have ht2:=(eM (et.1 ha)).1;unfold fX;rw [if_pos ht2,if_pos ht,ao,if_pos ha]
theorem FO {d:Doc} (h:aR d) (e:Entry):(aG d e).text.length+io (aG d e).list<=d.text.length+io d.list+Pn e.o:=by
 obtain ⟨k,hk,k1,k2,k3,k4⟩:=mK h e;rcases Nat.eq_zero_or_pos k with hz|hz
 ·subst hz
  rw [k2,k3 rfl,List.drop_zero,jq];simp only [io];omega
 ·have hk1:k=1:=by omega
  subst hk1;obtain ⟨h0,k5⟩:=k4 rfl
  obtain ⟨y,L,hL⟩:∃ y L,d.list=y::L:=by
   cases hx:d.list with
   |nil=>rw [hx] at h0;simp at h0
   |cons y L=>exact ⟨y,L,rfl⟩
  have hy:(d.list[0])=y:=by simp [hL]
  have hs:=h.2.2.2.2.2.1;rw [hL,List.map_cons,ao] at hs
  have ha:(apply y.o d.text).2=true:=by
   by_cases q:(apply y.o d.text).2=true
   ·exact q
   ·rw [if_neg q] at hs;cases hs
  have:=zD (et.1 ha);rw [hy] at k5;rw [k2,k5,hL];simp only [List.cons_append,List.drop_succ_cons,List.drop_zero,io,jq];omega
theorem vW {d:Doc} (h:aR d):bT d d.fr=(d.text,true):=by
 have hh:=aE h;unfold bT;rw [if_pos ⟨h,by omega,by omega⟩];simp [fX,h.2.2.1,ao]
theorem ox {r:Rep} {s:Seen} (h:r.seq=s.seq) (h2:¬ (r.has=true/\s.rev<=r.rev)):eb r s:=by unfold eb;rw [if_pos h];exact h2
end Go.Proofs.YthckkpphnmmfdaaGreatDoor
