import Derived.Test.YtoldjebobgocpaaGreatPA
import Derived.Test.YtoldjebobgocpaaGreatPB
import Derived.Test.YtoldjebobgocpaaGreatPC
import Derived.Test.YtoldjebobgocpaaGreatNA
import Derived.Test.YtoldjebobgocpaaGreatMF
namespace Go.Proofs.YtoldjebobgocpaaGreat
set_option maxRecDepth 20000
inductive At where
 |k
 |p (c:Int)
 |d
def ats (p:Part):List At:=if p.kind=2 then p.signs.map At.p else if p.kind=3 then List.replicate (psz p) .d else List.replicate (psz p) .k
def aV:List Part->List At
 | []=>[]
 |p::l=>ats p++aV l
theorem gg:∀ (a b:List Part),aV (a++b)=aV a++aV b
 | [],b=>rfl
 |p::a,b=>by simp [aV,gg a b]
def frA:List At->Nat
 | []=>0
 | .p _::l=>frA l
 |_::l=>frA l+1
def toA:List At->Nat
 | []=>0
 | .d::l=>toA l
 |_::l=>toA l+1
theorem iK:∀ (a b:List At),frA (a++b)=frA a+frA b
 | [],b=>by simp [frA]
 | .p c::a,b=>by simp [frA,iK a b]
 | .k::a,b=>by simp [frA,iK a b];omega
 | .d::a,b=>by simp [frA,iK a b];omega
theorem gA:∀ (a b:List At),toA (a++b)=toA a+toA b
 | [],b=>by simp [toA]
 | .d::a,b=>by simp [toA,gA a b]
 | .k::a,b=>by simp [toA,gA a b];omega
 | .p c::a,b=>by simp [toA,gA a b];omega
theorem yu:∀ l:List Int,frA (l.map At.p)=0
 | []=>rfl
 |c::l=>by simp [frA,yu l]
theorem tg:∀ l:List Int,toA (l.map At.p)=l.length
 | []=>rfl
 |c::l=>by simp [toA,tg l]
theorem IM:∀ n:Nat,frA (List.replicate n At.k)=n
 |0=>rfl
 |n+1=>by simp [List.replicate_succ,frA,IM n]
theorem yv:∀ n:Nat,frA (List.replicate n At.d)=n
 |0=>rfl
 |n+1=>by simp [List.replicate_succ,frA,yv n]
theorem Bq:∀ n:Nat,toA (List.replicate n At.k)=n
 |0=>rfl
 |n+1=>by simp [List.replicate_succ,toA,Bq n]
theorem th:∀ n:Nat,toA (List.replicate n At.d)=0
 |0=>rfl
 |n+1=>by simp [List.replicate_succ,toA,th n]
theorem Du {p:Part} (h:ar p) (k:p.kind=2):psz p=p.signs.length:=by
 rw [gC k] at h;unfold psz;omega
theorem OY {p:Part}:frA (ats p)=if p.kind=2 then 0 else psz p:=by
 unfold ats
 split
 ·exact yu _
 ·split
  ·exact yv _
  ·exact IM _
theorem OX {p:Part} (h:ar p):toA (ats p)=if p.kind=3 then 0 else psz p:=by
 unfold ats;by_cases k:p.kind=2
 ·have:¬ p.kind=3:=by omega
  rw [if_pos k,if_neg this,tg,Du h k]
 ·rw [if_neg k]
  split
  ·exact th _
  ·exact Bq _
theorem pn:∀ (o:List Part),frs o=frA (aV o)
 | []=>rfl
 |p::o=>by simp only [frs,aV,iK,OY,pn o]
theorem qQ:∀ {o:List Part},(∀ p∈o,ar p)->tos o=toA (aV o)
 | [],_=>rfl
 | p :: o, h => by
   simp only [tos,aV,gA,OX (h p (List.mem_cons_self ..)),qQ (λq hq=>h q (List.mem_cons_of_mem _ hq))]
def nA:List Int->Nat->List At->List At
 |P,n,[]=>P.map At.p++List.replicate n .d
 |P,n,.k::l=>P.map At.p++(List.replicate n .d ++ .k::nA [] 0 l)
 |P,n,.p c::l=>nA (P++[c]) n l
 |P,n,.d::l=>nA P (n+1) l
def mA (l:List At):List At:=nA [] 0 l
theorem DC:∀ (l:List At) (P:List Int) (n:Nat),frA (nA P n l)=n+frA l
 | [],P,n=>by simp [nA,frA,iK,yu,yv]
 | .k::l,P,n=>by simp [nA,frA,iK,yu,yv,DC l]
 | .p c::l,P,n=>by simp [nA,frA,DC l]
 | .d::l,P,n=>by simp [nA,frA,DC l];omega
theorem DA:∀ (l:List At) (P:List Int) (n:Nat),toA (nA P n l)=P.length+toA l
 | [],P,n=>by simp [nA,toA,gA,tg,th]
 | .k::l,P,n=>by simp [nA,toA,gA,tg,th,DA l]
 | .p c::l,P,n=>by simp [nA,toA,DA l];omega
 | .d::l,P,n=>by simp [nA,toA,DA l]
theorem DB:∀ (Q P:List Int) (n:Nat) (l:List At),nA P n (Q.map At.p++l)=nA (P++Q) n l
 | [],P,n,l=>by simp
 |c::Q,P,n,l=>by simp [nA,DB Q]
theorem DD:∀ (m:Nat) (P:List Int) (n:Nat) (l:List At),nA P n (List.replicate m .d++l)=nA P (n+m) l
 |0,P,n,l=>by simp
 |m+1,P,n,l=>by simp [List.replicate_succ,nA,DD m];congr 1;omega
theorem LS:∀ (m:Nat) (l:List At),nA [] 0 (List.replicate m .k++l)=List.replicate m .k++nA [] 0 l
 |0,l=>by simp
 |m+1,l=>by simp [List.replicate_succ,nA,LS m]
def bA (s:List Part×List Int×Int):List At:=aV s.1++(s.2.1.map At.p++List.replicate s.2.2.toNat .d)
theorem AK {L:List Part} {P:List Int} {D:Int}:aV (aM L P D)=bA (L,P,D):=by
 unfold aM bA;rw [gg,gg]
 congr 1
 congr 1
 ·split
  ·rename_i h;simp [h,aV]
  ·simp [aV,ats]
 ·split
  ·simp [aV,ats,psz]
  ·have:D.toNat=0:=by omega
   simp [aV,this]
theorem nt:∀ (L:List Part) (_h:0<L.length) (p:Part),aV (L.set (L.length - 1) p)=aV L.dropLast++ats p
 | [q],h,p=>by simp [aV]
 | q :: r :: L, h, p => by
   have ih:=nt (r::L) (by simp) p;simp only [List.length_cons,Nat.add_sub_cancel] at ih ⊢;rw [List.set_cons_succ,aV,ih];simp [aV]
theorem uX:∀ (L:List Part) (h:0<L.length),aV L=aV L.dropLast++ats (L[L.length - 1]'(by omega))
 | [q],h=>by simp [aV]
 | q :: r :: L, h => by
   have ih:=uX (r::L) (by simp);simp only [List.length_cons,Nat.add_sub_cancel] at ih ⊢;rw [aV,ih];simp [aV]
theorem KC {L:List Part} {n:Int} (hn:0<n) (hL:∀ q∈L,0<=q.n) (hk:∀ q∈L,q.kind=1->q.signs=[]):aV (bW L n)=aV L++List.replicate n.toNat .k:=by
 unfold bW
 split
 ·rename_i h
  split
  ·rename_i k
   have h1:=hL _ (List.getElem_mem (show L.length - 1<L.length by omega));have h2:=hk _ (List.getElem_mem (show L.length - 1<L.length by omega)) k;rw [nt L h,uX L h,List.append_assoc]
   congr 1
   generalize L[L.length - 1]'(by omega)=q at h1 h2 k;obtain ⟨a,b,c⟩:=q;simp only at h1 h2 k;subst k h2;simp [ats,psz,List.replicate_append_replicate];omega
  ·rw [gg]
   simp [aV,ats,psz]
 ·rename_i h
  have:L=[]:=List.eq_nil_of_length_eq_zero (by omega);subst this;simp [aV,ats,psz]
theorem sd {L:List Part} {P:List Int} {D:Int} (h:∀ q∈L,q.kind=1->q.signs=[]):∀ q∈aM L P D,q.kind=1->q.signs=[]:=by
 intro q hq hk;unfold aM at hq;rcases List.mem_append.1 hq with hq|hq
 ·exact h q hq hk
 ·rcases List.mem_append.1 hq with hq|hq
  ·split at hq
   ·simp at hq
   ·simp at hq;subst hq;simp at hk
  ·split at hq
   ·simp at hq;subst hq;rfl
   ·simp at hq
theorem Ce {L:List Part} {n:Int} (h:∀ q∈L,q.kind=1->q.signs=[]):∀ q∈bW L n,q.kind=1->q.signs=[]:=by
 intro q hq hk;unfold bW at hq
 split at hq
 ·rename_i hl
  split at hq
  ·rename_i k
   rcases List.mem_or_eq_of_mem_set hq with hq|rfl
   ·exact h q hq hk
   ·exact (h (L[L.length - 1]'(by omega)) (List.getElem_mem _) k :)
  ·rcases List.mem_append.1 hq with hq|hq
   ·exact h q hq hk
   ·simp at hq;subst hq;rfl
 ·simp at hq;subst hq;rfl
theorem z9 {o:List Part} (ho:∀ p ∈ o,ar p):∀ (i:Nat),i <= o.length -> (∀ q ∈ (be (o.take i)).1,q.kind=1 -> q.signs=[]) /\ 0 <= (be (o.take i)).2.2 /\ (∀ q ∈ (be (o.take i)).1,0 <= q.n) /\
 ∀ l,mA (aV (o.take i)++l)=aV (be (o.take i)).1++nA (be (o.take i)).2.1 (be (o.take i)).2.2.toNat l
 |0,_=>by simp [be,aV,mA]
 | i + 1, hi => by
   obtain ⟨h1,h2,h3,h4⟩:=z9 ho i (by omega);have hlt:i<o.length:=by omega
   have hq:=(lz ho (i+1) hi);have hp:=(ho _ (List.getElem_mem hlt));have hb:=hp.bounds;refine ⟨?_,hq.d0,λq hq'=>(hq.q q hq').1,λl=>?_⟩
   ·rw [gL hlt]
    unfold dF
    split
    ·exact h1
    ·split
     ·exact h1
     ·split
      ·exact Ce (sd h1)
      ·exact h1
   ·rw [<- List.take_append_getElem hlt,gg,List.append_assoc,h4,List.take_append_getElem hlt,gL hlt]
    generalize be (o.take i)=s at h1 h2 h3;generalize o[i]=p at hp hb;obtain ⟨L,P,D⟩:=s;simp only at h1 h2 h3;simp only [aV,List.append_nil];unfold dF;by_cases k2:p.kind=2
    ·simp only [k2,if_true]
     rw [show ats p=p.signs.map At.p by unfold ats;rw [if_pos k2],DB]
    ·by_cases k3:p.kind=3
     ·have hs:=hb.2.2.2.2.2 k2
      have e:(D+p.n).toNat=D.toNat+p.n.toNat:=by omega
      simp only [k3,if_true];rw [show ats p=List.replicate (psz p) .d by unfold ats;rw [if_neg k2,if_pos k3],DD];simp [e,psz,hs]
     ·have k1:p.kind=1:=by omega
      have hs:=hb.2.2.2.2.2 k2;have e:ats p=List.replicate p.n.toNat .k:=by unfold ats;rw [if_neg k2,if_neg k3];simp [psz,hs]
      simp only [k2,k3,if_false];rw [e]
      split
      ·rename_i hn
       have hfl:∀ q∈aM L P D,0<=q.n:=by
        intro q hq';unfold aM at hq';rcases List.mem_append.1 hq' with hq' | hq'
        ·exact h3 q hq'
        ·rcases List.mem_append.1 hq' with hq' | hq'
         ·split at hq'
          ·simp at hq'
          ·simp at hq';subst hq';simp
         ·split at hq'
          ·simp at hq';subst hq';simp;omega
          ·simp at hq'
       simp only;rw [KC hn hfl (sd h1),AK];obtain ⟨m,hm⟩:∃ m,p.n.toNat=m+1:=⟨p.n.toNat - 1,by omega⟩;rw [hm];simp [bA,List.replicate_succ,nA,LS,List.append_assoc]
      ·have:p.n.toNat=0:=by omega
       simp [this]
theorem iF {o:List Part} (ho:∀ p∈o,ar p):aV (normal o)=mA (aV o):=by
 have h:=(z9 ho o.length (Nat.le_refl _)).2.2.2 [];rw [List.take_length,List.append_nil] at h;unfold normal;rw [AK,h];unfold bA;simp [nA]
theorem tX (l:List At):frA (mA l)=frA l:=by unfold mA;rw [DC];omega
theorem tW (l:List At):toA (mA l)=toA l:=by unfold mA;rw [DA];simp
def tA:List At->List At->List At×List At
 | .p c::a,b=>(.p c::(tA a b).1,.k::(tA a b).2)
 | [],.p c::b=>(.k::(tA [] b).1,.p c::(tA [] b).2)
 | .k::a,.p c::b=>(.k::(tA (.k::a) b).1,.p c::(tA (.k::a) b).2)
 | .d::a,.p c::b=>(.k::(tA (.d::a) b).1,.p c::(tA (.d::a) b).2)
 | .k::a,.k::b=>(.k::(tA a b).1,.k::(tA a b).2)
 | .k::a,.d::b=>((tA a b).1,.d::(tA a b).2)
 | .d::a,.k::b=>(.d::(tA a b).1,(tA a b).2)
 | .d::a,.d::b=>tA a b
 | [],_=>([],[])
 |_,[]=>([],[])
termination_by a b=>a.length+b.length
def noP:List At->Bool
 | .p _::_=>false
 |_=>true
theorem QW {c:Int} {a b:List At}:tA (.p c::a) b=(.p c::(tA a b).1,.k::(tA a b).2):=by rw [tA]
theorem JR {c:Int} {a b:List At} (h:noP a=true):tA a (.p c::b)=(.k::(tA a b).1,.p c::(tA a b).2):=by
 match a,h with
 | [],_=>rw [tA]
 | .k::a,_=>rw [tA]
 | .d::a,_=>rw [tA]
theorem LL {a b:List At}:∀ Q:List Int,tA (Q.map At.p++a) b=(Q.map At.p++(tA a b).1,List.replicate Q.length .k++(tA a b).2)
 | []=>by simp
 |c::Q=>by simp [QW,LL Q,List.replicate_succ]
theorem G6 {a b:List At} (h:noP a=true):∀ Q:List Int,tA a (Q.map At.p++b)=(List.replicate Q.length .k++(tA a b).1,Q.map At.p++(tA a b).2)
 | []=>by simp
 |c::Q=>by simp [JR h,G6 h Q,List.replicate_succ]
theorem LM {a b:List At}:∀ n:Nat,tA (List.replicate n .k++a) (List.replicate n .k++b)=(List.replicate n .k++(tA a b).1,List.replicate n .k++(tA a b).2)
 |0=>by simp
 |n+1=>by simp [List.replicate_succ,tA,LM n]
theorem LN {a b:List At}:∀ n:Nat,tA (List.replicate n .k++a) (List.replicate n .d++b)=((tA a b).1,List.replicate n .d++(tA a b).2)
 |0=>by simp
 |n+1=>by simp [List.replicate_succ,tA,LN n]
theorem LO {a b:List At}:∀ n:Nat,tA (List.replicate n .d++a) (List.replicate n .k++b)=(List.replicate n .d++(tA a b).1,(tA a b).2)
 |0=>by simp
 |n+1=>by simp [List.replicate_succ,tA,LO n]
theorem LP {a b:List At}:∀ n:Nat,tA (List.replicate n .d++a) (List.replicate n .d++b)=tA a b
 |0=>by simp
 |n+1=>by simp [List.replicate_succ,tA,LP n]
theorem gU:∀ {x:List Part},(∀ p∈x,ar p)->aV (nxt x)=aV x
 | [],_=>rfl
 | p :: l, h => by
   have ih:=gU (x:=l) (λq hq=>h q (List.mem_cons_of_mem _ hq));unfold nxt
   split
   ·rename_i hz
    rw [ih,aV]
    have:ats p=[]:=by
     have hp:=h p (List.mem_cons_self ..);unfold ats
     split
     ·rename_i k;rw [Du hp k] at hz;simp [List.eq_nil_of_length_eq_zero hz]
     ·split<;>simp [hz]
    simp [this]
   ·rfl
theorem rE {p:Part} (h:ar p) {n:Nat} (hn:n<=psz p):ats p=ats (fd p n)++ats (bn p n):=by
 have hb:=h.bounds;by_cases k2:p.kind=2
 ·unfold ats fd bn
  simp only [k2,if_true];rw [<- List.map_append,List.take_append_drop]
 ·have hs:=hb.2.2.2.2.2 k2
  have hz:psz p=p.n.toNat:=by simp [psz,hs]
  have e:p.n.toNat=n+(p.n - n).toNat:=by omega
  by_cases k3:p.kind=3
  ·unfold ats fd bn
   simp only [k3,if_true];simp [psz,hs];omega
  ·unfold ats fd bn
   simp only [k2,if_false,k3];simp [psz,hs];omega
theorem uW {p:Part} (h:ar p):ats (bn p (psz p))=[]:=by
 have h1:=rE h (Nat.le_refl (psz p));rw [dS h] at h1
 simpa using h1
theorem DZ {p:Part} (_h:ar p) (k:p.kind≠2):ats p=if p.kind=3 then List.replicate (psz p) .d else List.replicate (psz p) .k:=by unfold ats;rw [if_neg k]
theorem og {p:Part} (h:ar p) (k:p.kind≠2) {n:Nat} (hn:n<=psz p):ats (fd p n)=if p.kind=3 then List.replicate n .d else List.replicate n .k:=by
 have hs:=h.bounds.2.2.2.2.2 k;have:psz (fd p n)=n:=by unfold psz fd;rw [if_neg k];simp [hs]
 rw [DZ (nO h hn) (by simpa using k),this];simp
theorem Lj {p:Part} (h:ar p) (k:p.kind≠2) (hp:0<psz p) (l:List At):noP (ats p++l)=true:=by
 rw [DZ h k];obtain ⟨m,hm⟩:∃ m,psz p=m+1:=⟨psz p - 1,by omega⟩;rw [hm]
 split<;>simp [List.replicate_succ,noP]
theorem s5 {x y:List Part} (hi:TInv x y) (h:dr x y=none):nxt x=[]/\nxt y=[]:=by
 have hxt:=jJ x;have hyf:=jJ y;have hb:=hi.b;unfold dr at h
 cases ex:nxt x with
 | nil =>
   rw [ex] at h hxt
   cases ey:nxt y with
   |nil=>exact ⟨rfl,rfl⟩
   | cons q y' =>
     rw [ey] at hyf;have hp:=eh ey;simp only [ey] at h
     split at h
     ·cases h
     ·rename_i k
      simp [frs,k] at hxt hyf;omega
 | cons p x' =>
   rw [ex] at h hxt;have hp:=eh ex;simp only at h
   split at h
   ·cases h
   ·rename_i k
    cases ey:nxt y with
    | nil =>
      rw [ey] at hyf;simp [frs,k] at hxt hyf;omega
    | cons q y' =>
      simp only [ey] at h
      split at h<;>cases h
theorem F7:∀ (k:Nat) {x y:List Part},TInv x y->tsz x+tsz y<=k->(aV (xfK k x y).1,aV (xfK k x y).2)=tA (aV x) (aV y)
 | 0, x, y, hi, h => by
   have hn:dr x y=none:=by
    cases hs:dr x y with
    |none=>rfl
    |some r=>have:=(dE hi hs).dec;omega
   obtain ⟨e1,e2⟩:=s5 hi hn;rw [<- gU hi.px,<- gU hi.py,e1,e2];simp [xfK,aV,tA]
 | k + 1, x, y, hi, h => by
   rw [xfK]
   cases hs:dr x y with
   | none =>
     obtain ⟨e1,e2⟩:=s5 hi hs;rw [<- gU hi.px,<- gU hi.py,e1,e2];simp [aV,tA]
   | some r =>
     have hn:=dE hi hs;have hd:=hn.dec;have ih:=F7 k hn.inv (by omega);simp only [gg];rw [<- gU hi.px,<- gU hi.py];generalize xfK k r.2.1 r.2.2=Z at ih ⊢;unfold dr at hs
     cases ex:nxt x with
     | nil =>
       rw [ex] at hs
       cases ey:nxt y with
       |nil=>simp [ey] at hs
       | cons q y' =>
         have hq:=gv hi.py ey;simp only [ey] at hs
         split at hs
         ·rename_i kq
          cases hs
          simp only [aV,uW hq.1,List.nil_append] at ih;simp only [aV,dS hq.1,List.append_nil];rw [show ats q=q.signs.map At.p by unfold ats;rw [if_pos kq],G6 rfl,<- ih];simp [ats,psz]
         ·cases hs
     | cons p x' =>
       rw [ex] at hs;have hp:=gv hi.px ex;have hpp:=eh ex;simp only at hs
       split at hs
       ·rename_i kp
        cases hs
        simp only [aV,uW hp.1,List.nil_append] at ih;simp only [aV,dS hp.1,List.append_nil,gU hi.py];rw [show ats p=p.signs.map At.p by unfold ats;rw [if_pos kp],LL,<- ih];simp [ats,psz]
       ·rename_i kp
        cases ey:nxt y with
        |nil=>simp [ey] at hs
        | cons q y' =>
          have hq:=gv hi.py ey;have hqp:=eh ey;simp only [ey] at hs
          split at hs
          ·rename_i kq
           cases hs
           simp only [aV,uW hq.1,List.nil_append] at ih;simp only [aV,dS hq.1,List.append_nil];rw [show ats q=q.signs.map At.p by unfold ats;rw [if_pos kq],G6 (Lj hp.1 kp hpp _),<- ih];simp [ats,psz]
          ·rename_i kq
           cases hs
           have hn1:min (psz p) (psz q)<=psz p:=by omega
           have hn2:min (psz p) (psz q)<=psz q:=by omega
           simp only [aV] at ih ⊢;rw [rE hp.1 hn1,rE hq.1 hn2,og hp.1 kp hn1,og hq.1 kq hn2,List.append_assoc,List.append_assoc];have hb1:=hp.1.bounds.1;have hb2:=hq.1.bounds.1;generalize min (psz p) (psz q)=n at ih hn1 hn2 ⊢;by_cases k1:p.kind=3<;>by_cases k2:q.kind=3
           ·have e1:¬ p.kind=1:=by omega
            have e2:¬ q.kind=1:=by omega
            simp only [k1,k2,if_true,LP,<- ih];simp [aV]
           ·have e1:¬ p.kind=1:=by omega
            have e2:q.kind=1:=by omega
            simp only [k1,k2,if_true,if_false,LO,<- ih];simp [aV,e2,og hp.1 kp hn1,k1]
           ·have e1:p.kind=1:=by omega
            have e2:¬ q.kind=1:=by omega
            simp only [k1,k2,if_true,if_false,LN,<- ih];simp [aV,e1,og hq.1 kq hn2,k2]
           ·have e1:p.kind=1:=by omega
            have e2:q.kind=1:=by omega
            simp only [k1,k2,if_false,LM,<- ih];simp [aV,e1,e2,og hp.1 kp hn1,og hq.1 kq hn2]
theorem P2 {x y:List Part} (hi:TInv x y):(aV (xf x y).1,aV (xf x y).2)=tA (aV x) (aV y):=F7 _ hi (Nat.le_refl _)
theorem lO:∀ (a b:List At),frA a=frA b->frA (tA a b).1=toA b/\frA (tA a b).2=toA a/\toA (tA a b).1=toA (tA a b).2
 | .p c :: a, b, h => by
   have ih:=lO a b (by simpa [frA] using h);rw [QW];simp [frA,toA];omega
 | [], .p c :: b, h => by
   have ih:=lO [] b (by simpa [frA] using h);rw [JR rfl];simp [frA,toA] at ih ⊢;omega
 | .k :: a, .p c :: b, h => by
   have ih:=lO (.k::a) b (by simpa [frA] using h);rw [JR rfl];simp [frA,toA] at ih ⊢;omega
 | .d :: a, .p c :: b, h => by
   have ih:=lO (.d::a) b (by simpa [frA] using h);rw [JR rfl];simp [frA,toA] at ih ⊢;omega
 | .k :: a, .k :: b, h => by
   have ih:=lO a b (by simpa [frA] using h);rw [tA];simp [frA,toA];omega
 | .k :: a, .d :: b, h => by
   have ih:=lO a b (by simpa [frA] using h);rw [tA];simp [frA,toA];omega
 | .d :: a, .k :: b, h => by
   have ih:=lO a b (by simpa [frA] using h);rw [tA];simp [frA,toA];omega
 | .d :: a, .d :: b, h => by
   have ih:=lO a b (by simpa [frA] using h);rw [tA];simp [toA];omega
 | [],[],h=>by simp [tA,frA,toA]
 | [],.k::b,h=>by simp [frA] at h
 | [],.d::b,h=>by simp [frA] at h
 | .k::a,[],h=>by simp [frA] at h
 | .d::a,[],h=>by simp [frA] at h
termination_by a b=>a.length+b.length
theorem LK {x y:List Part} (hi:TInv x y):(∀ p∈(xf x y).1,ar p)/\∀ p∈(xf x y).2,ar p:=by
 have key:∀ (k:Nat) {x y:List Part},TInv x y->(∀ p∈(xfK k x y).1,ar p)/\∀ p∈(xfK k x y).2,ar p:=by
  intro k
  induction k with
  |zero=>intro x y hi;simp [xfK]
  | succ k ih =>
    intro x y hi;rw [xfK]
    cases hs:dr x y with
    |none=>simp
    | some r =>
      have hn:=dE hi hs;have h2:=ih hn.inv;simp only [List.mem_append];exact ⟨λp hp=>hp.elim (hn.okx p) (h2.1 p),λp hp=>hp.elim (hn.oky p) (h2.2 p)⟩
 exact key _ hi
structure TrOk (a b:List Part):Prop where
 oka:bR a
 okb:bR b
 from_:bH a=bH b
 okx:bR (aE a b).1
 oky:bR (aE a b).2.1
 fx:bH (aE a b).1=kt b
 fy:bH (aE a b).2.1=kt a
 to:kt (aE a b).1=kt (aE a b).2.1
 ax:aV (aE a b).1=mA (tA (aV a) (aV b)).1
 ay:aV (aE a b).2.1=mA (tA (aV a) (aV b)).2
theorem vP {a b:List Part} (h:(aE a b).2.2=true):TrOk a b:=by
 unfold aE at h
 split at h
 ·rename_i h1
  split at h
  ·rename_i h2
   have e:aE a b=(normal (xf a b).1,normal (xf a b).2,true):=by unfold aE;rw [if_pos h1,if_pos h2]
   have hi:=sM h1.1 h1.2.1 h1.2.2;have hat:=P2 hi;have hk:=LK hi;have e1:aV (xf a b).1=(tA (aV a) (aV b)).1:=by rw [<- hat]
   have e2:aV (xf a b).2=(tA (aV a) (aV b)).2:=by rw [<- hat]
   have l:=lO (aV a) (aV b) (by rw [<- pn,<- pn];exact hi.b);have n1:=iF hk.1;have n2:=iF hk.2;have f1:=lE h2.1;have f2:=lE h2.2;have t1:=qP h2.1;have t2:=qP h2.2;have t3:=qP h1.1;have t4:=qP h1.2.1;rw [pn,n1,tX,e1,l.1] at f1;rw [pn,n2,tX,e2,l.2.1] at f2;rw [qQ h2.1.1.1,n1,tW,e1] at t1;rw [qQ h2.2.1.1,n2,tW,e2] at t2;rw [qQ h1.1.1.1] at t3;rw [qQ h1.2.1.1.1] at t4;rw [e1] at n1;rw [e2] at n2;refine ⟨h1.1,h1.2.1,h1.2.2,?_,?_,?_,?_,?_,?_,?_⟩<;>rw [e]
   ·exact h2.1
   ·exact h2.2
   ·simp only;omega
   ·simp only;omega
   ·simp only;have:=l.2.2;omega
   ·exact n1
   ·exact n2
  ·simp at h
 ·simp at h
open Go.AM
noncomputable def jw:List (List Part)->List Part->Option (List Part)
 | [],v=>some v
 |a::l,v=>if (aE a v).2.2=true then jw l (aE a v).2.1 else none
open Classical in
noncomputable def gR (l:List (List Part)) (b:List Part):List Part×Bool:=
 if bR b then match jw l (ca b) with
  |some v=>(v,true)
  |none=>([],false)
 else ([],false)
structure Shp (q:Part):Prop where
 k:q.kind=1\/q.kind=2\/q.kind=3
 n:0<=q.n
 put:q.kind=2->q.n=0/\ed q.signs
 run:q.kind≠2->q.signs=[]
 pos:0<psz q
theorem wc {L:List Part} {P:List Int} {D:Int} (hL:∀ q∈L,Shp q) (hP:ed P):∀ q∈aM L P D,Shp q:=by
 intro q hq;unfold aM at hq;rcases List.mem_append.1 hq with hq|hq
 ·exact hL q hq
 ·rcases List.mem_append.1 hq with hq|hq
  ·split at hq
   ·simp at hq
   ·rename_i h
    simp at hq;subst hq;have:0<P.length:=List.length_pos_iff.2 h;exact ⟨.inr (.inl rfl),by simp,λ_=>⟨rfl,hP⟩,λh=>absurd rfl h,by simpa [psz] using this⟩
  ·split at hq
   ·rename_i h
    simp at hq;subst hq;exact ⟨.inr (.inr rfl),by simp only;omega,λh=>by simp at h,λ_=>rfl,by simp [psz];omega⟩
   ·simp at hq
theorem He {L:List Part} {n:Int} (hL:∀ q∈L,Shp q) (hn:0<n):∀ q∈bW L n,Shp q:=by
 intro q hq;have one:Shp ⟨1,n,[]⟩:=⟨.inl rfl,by simp only;omega,λh=>by simp at h,λ_=>rfl,by simp [psz];omega⟩;unfold bW at hq
 split at hq
 ·rename_i hl
  split at hq
  ·rename_i k
   rcases List.mem_or_eq_of_mem_set hq with hq|rfl
   ·exact hL q hq
   ·have h:=hL (L[L.length - 1]'(by omega)) (List.getElem_mem _)
    have h1:=h.n;have h2:=h.run (by omega);exact ⟨.inl rfl,by simp only;omega,λh=>by simp at h,λ_=>h2,by simp [psz];omega⟩
  ·rcases List.mem_append.1 hq with hq|hq
   ·exact hL q hq
   ·simp at hq;subst hq;exact one
 ·simp at hq;subst hq;exact one
theorem wH {o:List Part} (ho:∀ p∈o,ar p):∀ (i:Nat),i<=o.length->(∀ q∈(be (o.take i)).1,Shp q)/\ed (be (o.take i)).2.1
 |0,_=>by simp [be,ed]
 | i + 1, hi => by
   obtain ⟨h1,h2⟩:=wH ho i (by omega);have hlt:i<o.length:=by omega
   have hp:=ho _ (List.getElem_mem hlt);rw [gL hlt];generalize be (o.take i)=s at h1 h2;generalize o[i]=p at hp;obtain ⟨L,P,D⟩:=s;simp only at h1 h2;unfold dF
   split
   ·rename_i k
    rw [gC k] at hp;refine ⟨h1,λn hn=>?_⟩;rcases List.mem_append.1 hn with hn|hn
    ·exact h2 n hn
    ·exact hp.2.2 n hn
   ·split
    ·exact ⟨h1,h2⟩
    ·split
     ·rename_i hn
      exact ⟨He (wc h1 h2) hn,by simp [ed]⟩
     ·exact ⟨h1,h2⟩
theorem tU {o:List Part} (ho:∀ p∈o,ar p):∀ q∈normal o,Shp q:=by
 have h:=wH ho o.length (Nat.le_refl _);rw [List.take_length] at h;exact wc h.1 h.2
theorem Dg:∀ {L:List Part},(∀ q∈L,Shp q)->tos L=toA (aV L)
 | [],_=>rfl
 | p :: L, h => by
   have hp:=h p (List.mem_cons_self ..);simp only [tos,aV,gA,Dg (λq hq=>h q (List.mem_cons_of_mem _ hq))]
   congr 1
   unfold ats;by_cases k:p.kind=2
   ·have k3:¬ p.kind=3:=by omega
    have:=(hp.put k).1;rw [if_pos k,if_neg k3,tg];simp [psz,this]
   ·rw [if_neg k]
    split
    ·exact (th _).symm
    ·exact (Bq _).symm
theorem KX {L:List Part} {q:Part} (h:q∈L) (k:q.kind≠2):psz q<=frs L:=by
 induction L with
 |nil=>simp at h
 | cons p L ih =>
   simp only [frs];rcases List.mem_cons.1 h with rfl|h
   ·rw [if_neg k];omega
   ·have:=ih h;omega
theorem JP {L:List Part} {q:Part} (h:q∈L) (k:q.kind≠3):psz q<=tos L:=by
 induction L with
 |nil=>simp at h
 | cons p L ih =>
   simp only [tos];rcases List.mem_cons.1 h with rfl|h
   ·rw [if_neg k];omega
   ·have:=ih h;omega
theorem Df:∀ {L:List Part},(∀ q∈L,Shp q)->L.length<=tsz L
 | [],_=>by simp [tsz]
 | p :: L, h => by
   have:=Df (λq hq=>h q (List.mem_cons_of_mem _ hq));have:=(h p (List.mem_cons_self ..)).pos;simp only [tsz,List.length_cons];omega
theorem NM {L:List Part} (h:∀ q∈L,Shp q) (h1:frs L<=200) (h2:tos L<=200):dj L:=by
 have hl:=Df h;have ht:=Bo L;refine ⟨λq hq=>?_,by omega⟩;have hs:=h q hq;have hn:=hs.n;by_cases k:q.kind=2
 ·have h3:=JP hq (by omega)
  have h4:=hs.put k;exact .inr ⟨k,h4.1,by unfold psz at h3;omega,h4.2⟩
 ·have h3:=KX hq k
  have h4:=hs.run k;have hk:=hs.k;exact .inl ⟨by omega,⟨hn,by unfold psz at h3;omega⟩,h4⟩
theorem tQ {o:List Part} (h:dj o):(frs o:Int)=bH o:=by
 rw [yt h.1,gB (λp hp=>OS (h.1 p hp)),jS];unfold bH cP;rw [if_pos h]
theorem zR {o:List Part} (h:dj o):(tos o:Int)=kt o:=by
 rw [xA h.1,gB (λp hp=>OR (h.1 p hp)),jS];unfold kt cP;rw [if_pos h]
theorem q6 {o:List Part} (h:bR o):bR (normal o)/\bH (normal o)=bH o/\kt (normal o)=kt o:=by
 have hs:=tU h.1.1;have e1:frs (normal o)=frs o:=by rw [pn,iF h.1.1,tX,<- pn]
 have e2:tos (normal o)=tos o:=by rw [Dg hs,iF h.1.1,tW,<- qQ h.1.1]
 have f:=lE h;have t:=qP h;have hp:=NM hs (by have:=h.2.1;omega) (by have:=h.2.2;omega);have f2:=tQ hp;have t2:=zR hp;have:=h.2;exact ⟨⟨hp,by omega,by omega⟩,by omega,by omega⟩
theorem Ey {o:List Part} (h:bR o):bR (ca o)/\bH (ca o)=bH o/\kt (ca o)=kt o:=by
 have:ca o=normal o:=by unfold ca;rw [if_pos h]
 rw [this];exact q6 h
def bk (c s r:Int):List Seen->List Seen
 | []=>[⟨c,s,r⟩]
 |x::l=>if x.client<c then x::bk c s r l else if x.client=c then ⟨c,s,r⟩::l else ⟨c,s,r⟩::x::l
noncomputable def bc (d:Doc) (e:Entry):Doc:=
 if d.list.length<8 then ⟨d.name,d.fr,d.text,d.list++[e],bk e.client e.seq (ac d+1) d.seen⟩
 else ⟨d.name,d.fr+1,(apply ((d.list++[e])[0]'(by simp)).o d.text).1,(d.list++[e]).drop 1,bk e.client e.seq (ac d+1) d.seen⟩
open Classical in
noncomputable def cG (d:Doc) (base:Int) (o:List Part):List Part×Int:=
 if aN d/\bR o then
  if ac d<base then ([],2) else if base<d.fr then ([],3) else
  if bH o=(d5 d base).1.length then
   if (gR ((d.list.drop (base - d.fr).toNat).map Entry.o) o).2=true then ((gR ((d.list.drop (base - d.fr).toNat).map Entry.o) o).1,0) else ([],5)
  else ([],1)
 else ([],1)
def zs (d:Doc) (client seq:Int) (o:List Part):Prop:=aN d/\(1<=client/\client<=8)/\(1<=seq/\seq<=1000000000)/\bR o
open Classical in
noncomputable def bD (d:Doc) (client seq base:Int) (o:List Part):Doc×Int×Int:=
 if zs d client seq o then
  if (cm d client).1.seq=seq then (d,(cm d client).1.rev,0)
  else if (cm d client).1.seq+1=seq then
   if (cG d base o).2=0 then
    if 999999000<=ac d then (Doc.zero,0,5) else (bc d ⟨client,seq,(cG d base o).1⟩,ac d+1,0)
   else (Doc.zero,0,(cG d base o).2)
  else (Doc.zero,0,4)
 else (Doc.zero,0,1)
open Classical in
noncomputable def fS (d:Doc) (rev:Int):List Entry×Int:=
 if aN d then if ac d<rev then ([],2) else if rev<d.fr then ([],3) else (d.list.drop (rev - d.fr).toNat,0) else ([],1)
theorem tP:∀ (l:List (List Part)) (t u:List Int) (v v':List Part),aA l t=some u->jw l v=some v'->bR v->bH v=t.length->bR v'/\bH v'=u.length
 | [], t, u, v, v', h1, h2, h3, h4 => by
   simp only [aA,Option.some.injEq] at h1;simp only [jw,Option.some.injEq] at h2;subst h1 h2;exact ⟨h3,h4⟩
 | a :: l, t, u, v, v', h1, h2, h3, h4 => by
   rw [aA] at h1;rw [jw] at h2
   split at h1
   ·rename_i ha
    split at h2
    ·rename_i ht
     have k:=vP ht;have hl:=(jO (jR.1 ha)).2;exact tP l _ u _ v' h1 h2 k.oky (by rw [k.fy];omega)
    ·cases h2
   ·cases h1
theorem gh:∀ (l m:List (List Part)) (t:List Int),aA (l++m) t=(aA l t).bind (aA m)
 | [],m,t=>by simp [aA]
 | o :: l, m, t => by
   rw [List.cons_append,aA,aA]
   split
   ·exact gh l m _
   ·simp
theorem lJ:∀ (l:List (List Part)) (t u:List Int),cO t->aA l t=some u->cO u
 | [],t,u,h,e=>by simp only [aA,Option.some.injEq] at e;exact e ▸ h
 | o :: l, t, u, h, e => by
   rw [aA] at e
   split at e
   ·rename_i ha
    exact lJ l _ u (jO (jR.1 ha)).1 e
   ·cases e
theorem mH {d:Doc} (h:aN d) {rev:Int} (h1:d.fr <= rev) (h2:rev <= ac d):(d5 d rev).2=true /\ aA ((d.list.take (rev - d.fr).toNat).map Entry.o) d.text=some (d5 d rev).1 /\ cO (d5 d rev).1 /\
 aA ((d.list.drop (rev - d.fr).toNat).map Entry.o) (d5 d rev).1=aA (d.list.map Entry.o) d.text:=by
 have hs:=h.2.2.2.2.2.1;have ht:=h.2.2.1;have e:d.list.map Entry.o=(d.list.take (rev - d.fr).toNat).map Entry.o++(d.list.drop (rev - d.fr).toNat).map Entry.o:=by rw [<- List.map_append,List.take_append_drop]
 have e2:d5 d rev=dy ((d.list.take (rev - d.fr).toNat).map Entry.o) d.text:=by unfold d5;rw [if_pos ⟨h,h1,h2⟩]
 rw [e,gh] at hs
 cases hx:aA ((d.list.take (rev - d.fr).toNat).map Entry.o) d.text with
 |none=>rw [hx] at hs;simp at hs
 | some u =>
   have e3:dy ((d.list.take (rev - d.fr).toNat).map Entry.o) d.text=(u,true):=by unfold dy;rw [if_pos ht,hx]
   rw [e2,e3];refine ⟨rfl,rfl,lJ _ _ _ ht hx,?_⟩
   conv=>rhs;rw [e,gh,hx]
   rfl
theorem oO {d:Doc} (h:aN d):aA (d.list.map Entry.o) d.text=some (cY d)/\cO (cY d):=by
 have hh:=aX h;have h0:d.fr<=ac d:=by omega
 obtain ⟨h1,h2,h3,h4⟩:=mH h h0 (by omega);have e:(ac d - d.fr).toNat=d.list.length:=by omega
 rw [e,List.take_length] at h2;exact ⟨h2,h3⟩
theorem qi {d:Doc} {base:Int} {o:List Part} (hd:aN d) (ho:bR o) (h1:d.fr<=base) (h2:base<=ac d) (hf:bH o=(d5 d base).1.length)
 (hp:(gR ((d.list.drop (base - d.fr).toNat).map Entry.o) o).2=true):jg (gR ((d.list.drop (base - d.fr).toNat).map Entry.o) o).1 (cY d):=by
 obtain ⟨k1,k2,k3,k4⟩:=mH hd h1 h2;obtain ⟨m1,m2⟩:=oO hd;rw [m1] at k4;unfold gR at hp ⊢;rw [if_pos ho] at hp ⊢
 cases hx:jw ((d.list.drop (base - d.fr).toNat).map Entry.o) (ca o) with
 |none=>rw [hx] at hp;simp at hp
 | some v =>
   have hn:=Ey ho;have:=tP _ _ _ _ _ k4 hx hn.1 (by rw [hn.2.1,hf]);exact ⟨this.1,m2,this.2⟩
set_option maxHeartbeats 1600000
theorem Hk (l:List Seen):∀ a∈l,∀ d∈a.row,isV d=true:=by
 intro a _ d hd;simp [Seen.row] at hd;rcases hd with rfl|rfl|rfl<;>rfl
theorem gq (l:List Entry) (hl:nL aS l<=2 ^ 30):ai Tryz.prog 296 [.c (.s (l.map Entry.row))] (.one (.c (.s (l.map Entry.row)) 3)):=by
 refine pci ae Tryz.func296 (λw0 base=>?_);have hle:=aB hl;simp;refine ag eok (λx:Nat×Hd=>x.1<=l.length) (λx=>⟨22,0,[(8,.v (.int .i64 x.1)),(7,.v (.int .i64 l.length)),(6,.ro (l.map Entry.row)),(3,.sl 5000 x.2 3 0 x.1)],[(5000,.rows x.2 3 ((l.take x.1).map Entry.row) true)]⟩) (λx=>l.length - x.1) (0,none) (by simp) (by simp) (λx hx=>Ent.refl ?_);obtain ⟨i,H⟩:=x;simp only at hx ⊢;by_cases hlt:i<l.length
 ·have hm:=dO hl hlt
  unfold aS at hm;simp [hlt,Entry.row];intro b5;refine aa.pure (uO l[i].o hm) (by simp) ?_;simp;intro H1;have e1:min i l.length=i:=by omega
  simp [e1];intro b6;refine ⟨by omega,λH2=>Ent.refl ⟨i+1,by omega,by omega,H2,?_⟩⟩;simp;exact ⟨ah (by omega),da (f:=Entry.row) hlt⟩
 ·have e:l.length=i:=by omega
  simp [hlt];rw [List.take_of_length_le (by simp;omega)];simp [cut,e]
theorem ud (e:Entry) (hl:aS e<=2 ^ 30):ai Tryz.prog 381 [.agg e.row] (.one (.agg e.res)):=by
 refine pci ae Tryz.func381 (λw0 base=>?_);unfold aS at hl;simp [Entry.row];intro b1 b2;refine drw eok mix [0,1,2,3,4,5] [6,7,8] (.c 6 6 1 62 (.c 6 7 20 42 (.c 6 8 42 0 (.l 6 0) .s) .s) .s) ?_;simp
 try intros
 refine aa.pure (re e.o (by omega)) (by simp) ?_;simp
 try intros
 simp [Entry.res]
theorem ep (l:List Entry) (hl:nL aS l<=2 ^ 30):ai Tryz.prog 339 [.c (.s (l.map Entry.row))] (.one (.c (.s (l.map Entry.row)) 3)):=by
 refine pci ae Tryz.func339 (λw0 base=>?_);have hle:=aB hl;simp;intro b6;refine ag eok (λx:Nat×Hd=>x.1<=l.length) (λx=>⟨20,0,[(9,.v (.int .i64 x.1)),(8,.v (.int .i64 l.length)),(7,.ro (l.map Entry.row)),(3,.sl 96 x.2 3 0 x.1)],[(96,.rows x.2 3 ((l.take x.1).map Entry.row) true)]⟩) (λx=>l.length - x.1) (0,some (b6,0,0)) (by simp) (by simp) (λx hx=>Ent.refl ?_);obtain ⟨i,H⟩:=x;simp only at hx ⊢;by_cases hlt:i<l.length
 ·have hm:=dO hl hlt
  simp [hlt,Entry.row];intro b5;refine aa.pure (ud l[i] hm) (by simp [Entry.row]) ?_;simp [Entry.res];intro H1;have e1:min i l.length=i:=by omega
  simp [e1];intro b7;refine ⟨by omega,λH2=>Ent.refl ⟨i+1,by omega,by omega,H2,?_⟩⟩;simp;exact ⟨ah (by omega),da (f:=Entry.row) hlt⟩
 ·have e:l.length=i:=by omega
  simp [hlt];rw [List.take_of_length_le (by simp;omega)];simp [cut,e]
theorem rC (d:Doc) (hl:cq d<=2 ^ 30):ai Tryz.prog 211 [.agg d.row] (.one (.agg d.res)):=by
 refine pci ae Tryz.func211 (λw0 base=>?_);obtain ⟨n1,n2,n3,n4⟩:=co hl;simp [Doc.row];intro b1 b2;refine drw eok mix [0,1,2,3,4,5,7,8,10,11] [6,9,12,13,14] (.c 10 6 16 1007 (.c 10 9 4 1003 (.c 10 12 1 1002 (.c 10 13 320 682 (.c 10 14 682 0 (.l 10 0) .s) .s) .s) .s) .s) ?_;simp
 try intros
 refine aa.pure (fT d.text (by omega)) (by simp) ?_;simp
 try intros
 refine aa.pure (gq d.list n1) (by simp) ?_;simp
 try intros
 refine ⟨Hk d.seen,by omega,λH=>?_⟩;simp [Doc.res]
theorem nW (d:Doc) (hl:cq d<=2 ^ 30):ai Tryz.prog 261 [.agg d.row] (.one (.agg d.res)):=by
 refine pci ae Tryz.func261 (λw0 base=>?_);obtain ⟨n1,n2,n3,n4⟩:=co hl;simp [Doc.row];intro b1 b2;have h8:d.text.length*8<=140737488355328:=by omega
 have h24:d.seen.length*24<=140737488355328:=by omega
 refine drw eok mix [0,1,2,3,5,6,8,9,12,13] [4,7,10,11,14,15,16] (.c 10 4 0 1023 (.c 10 7 16 1007 (.c 10 10 4 1003 (.c 10 11 0 1003 (.c 10 14 1 1002 (.c 10 15 320 682 (.c 10 16 682 0 (.l 10 0) .s) .s) .s) .s) (.c 10 11 0 1007 (.c 10 10 4 1003 (.c 10 14 1 1002 (.c 10 15 320 682 (.c 10 16 682 0 (.l 10 0) .s) .s) .s) .s) .s)) (.c 10 11 0 1023 (.c 10 7 16 1007 (.c 10 10 4 1003 (.c 10 14 1 1002 (.c 10 15 320 682 (.c 10 16 682 0 (.l 10 0) .s) .s) .s) .s) .s) .s)) (.c 10 11 0 1023 (.c 10 4 0 1023 (.c 10 7 16 1007 (.c 10 10 4 1003 (.c 10 14 1 1002 (.c 10 15 320 682 (.c 10 16 682 0 (.l 10 0) .s) .s) .s) .s) .s) .s) .s)) ?_;simp
 try intros
 repeat' first
  |(refine aa.pure (ep d.list n1) (by simp) ?_;simp [h24];try intros)
  |(rw [Trc];refine ⟨?_,?_⟩<;>(try simp [h8,h24])<;>try intros)
 all_goals
  simp [Doc.res];exact Hk d.seen
noncomputable def iu:List (List Part)->List Part->Option (List (List Part)×List Part)
 | [],v=>some ([],v)
 |a::l,v=>if (aE a v).2.2=true then (iu l (aE a v).2.1).map (λr=>((aE a v).1::r.1,r.2)) else none
theorem Dy:∀ (l:List (List Part)) (v:List Part),(iu l v).map Prod.snd=jw l v
 | [],v=>rfl
 | a :: l, v => by
   rw [iu,jw]
   split
   ·rw [<- Dy l,Option.map_map];rfl
   ·rfl
open Classical in
noncomputable def ft (l:List (List Part)) (b:List Part):List (List Part)×List Part×Bool:=
 if bR b then match iu l (ca b) with
  |some r=>(r.1,r.2,true)
  |none=>([],[],false)
 else ([],[],false)
theorem uy (l:List (List Part)) (b:List Part):(ft l b).2=gR l b:=by
 unfold ft gR
 split
 ·rw [<- Dy]
  cases iu l (ca b)<;>rfl
 ·rfl
theorem tN {l:List (List Part)} {i:Nat} {v:List Part} (h:i<l.length):iu (l.drop i) v=if (aE l[i] v).2.2=true then (iu (l.drop (i+1)) (aE l[i] v).2.1).map (λr=>((aE l[i] v).1::r.1,r.2)) else none:=by
 rw [List.drop_eq_getElem_cons h,iu]
theorem ww {l:List (List Part)} {i:Nat} {v:List Part} (h:l.length<=i):iu (l.drop i) v=some ([],v):=by
 rw [List.drop_eq_nil_of_le h,iu]
theorem Ax (l:List (List Part)) (b:List Part) (hl:l.length<=2 ^ 30) (hs:∀ o∈l,nL aH o<=2 ^ 40) (hb:nL aH b<=2 ^ 40):ai Tryz.prog 402 [.c (.s (l.map eZ)),.c (.s (b.map Part.row))]
 (.tup [.c (.s ((ft l b).1.map eZ)) 1,.c (.s ((ft l b).2.1.map Part.row)) 3,.c (.v (.bool (ft l b).2.2)) 1]):=by
 refine pci ae Tryz.func402 (λw0 base=>?_);simp;refine aa.pure (eE b hb) (by simp) ?_;by_cases c1:bR b
 rotate_left
 ·have e:ft l b=([],[],false):=by unfold ft;rw [if_neg c1]
  simp [ab c1,e]
 have e:ft l b=match iu l (ca b) with
  |some r=>(r.1,r.2,true)
  |none=>([],[],false):=by unfold ft;rw [if_pos c1]
 simp [c1];refine aa.pure (p8 b hb) (by simp) ?_;simp;intro H0
 refine ag eok (λx:(Nat×List (List Part)×List Part×Nat)×Hd×Hd=>(x.1.2.2.2=288\/x.1.2.2.2=449)/\(x.1.1<=l.length/\x.1.2.1.length=x.1.1)/\nL aH x.1.2.2.1<=2 ^ 40/\iu l (ca b)=(iu (l.drop x.1.1) x.1.2.2.1).map (λr=>(x.1.2.1++r.1,r.2)))
  (λx=>⟨42,0,[(21,.v (.int .i64 x.1.1)),(20,.v (.int .i64 l.length)),(19,.ro (l.map eZ)),(8,.sl x.1.2.2.2 x.2.2 3 0 x.1.2.2.1.length),(7,.sl 5000 x.2.1 1 0 x.1.2.1.length)],
   [(5000,.rows x.2.1 1 (x.1.2.1.map eZ) true),(x.1.2.2.2,.rows x.2.2 3 (x.1.2.2.1.map Part.row) true)]⟩) (λx=>l.length - x.1.1) ((0,[],ca b,288),none,H0) ⟨.inl rfl,by simp,by have:=pR b;simp only;omega,by simp⟩ (by simp) (λx hx=>Ent.refl ?_)
 obtain ⟨⟨i,L,v,kk⟩,H1,H2⟩:=x;obtain ⟨hk,⟨hi,hLl⟩,hv,hp⟩:=hx;simp only at hk hi hLl hv hp ⊢;have k5:¬ kk=5000:=by omega
 have k5':¬ 5000=kk:=by omega
 by_cases hlt:i<l.length
 ·rw [tN hlt] at hp
  have hn:=md l[i] v;simp [hlt];refine aa.pure (sF l[i] v (hs _ (List.getElem_mem hlt)) hv) (by simp [k5]) ?_;generalize aE l[i] v=Q at hp hn ⊢;obtain ⟨x,y,ok⟩:=Q;simp only at hp hn ⊢;simp;intro G1 G2
  cases ok with
  | false =>
    simp at hp;rw [hp] at e;simp [e]
  | true =>
    simp only [if_true] at hp;simp;intro b6;refine ⟨by omega,λH=>Ent.refl ⟨i+1,L++[x],y,449,⟨.inr rfl,⟨by omega,by simp;omega⟩,by omega,?_⟩,by omega,H,G2,?_⟩⟩
    ·rw [hp]
     cases iu (l.drop (i+1)) y<;>simp
    ·simp
     exact ah (by omega)
 ·rw [ww (by omega)] at hp
  simp only [Option.map_some,List.append_nil] at hp;rw [hp] at e;simp [hlt,e,k5]
theorem DS (l:List (List Part)) (b:List Part):nL aH (gR l b).1<=2 ^ 20:=by
 have key:∀ (l:List (List Part)) (v u:List Part),nL aH v<=2 ^ 20->jw l v=some u->nL aH u<=2 ^ 20:=by
  intro l
  induction l with
  |nil=>intro v u h1 h2;simp only [jw,Option.some.injEq] at h2;exact h2 ▸ h1
  | cons a l ih =>
    intro v u h1 h2;rw [jw] at h2
    split at h2
    ·exact ih _ u (by have:=md a v;omega) h2
    ·cases h2
 unfold gR
 split
 ·cases h:jw l (ca b) with
  |none=>simp [nL,bV]
  |some v=>exact key l _ v (pR b) h
 ·simp [nL,bV]
theorem Co (l:List (List Part)) (b:List Part) (hl:l.length<=2 ^ 30) (hs:∀ o∈l,nL aH o<=2 ^ 40) (hb:nL aH b<=2 ^ 40):ai Tryz.prog 376 [.c (.s (l.map eZ)),.c (.s (b.map Part.row))]
 (.tup [.c (.s ((gR l b).1.map Part.row)) 3,.c (.v (.bool (gR l b).2)) 1]):=by
 refine pci ae Tryz.func376 (λw0 base=>?_);simp;refine aa.pure (Ax l b hl hs hb) (by simp) ?_;rw [<- uy];generalize ft l b=Q;obtain ⟨x,y,ok⟩:=Q;simp
theorem zu (l:List (List Part)) (b:List Part) (hl:l.length<=2 ^ 30) (hs:∀ o∈l,nL aH o<=2 ^ 40) (hb:nL aH b<=2 ^ 40):ai Tryz.prog 411 [.c (.s (l.map eZ)),.c (.s (b.map Part.row))]
 (.tup [.c (.s ((ft l b).1.map eZ)) 1,.c (.s ((ft l b).2.1.map Part.row)) 3,.c (.v (.bool (ft l b).2.2)) 1]):=by
 refine pci ae Tryz.func411 (λw0 base=>?_);simp;refine aa.pure (eA b hb) (by simp) ?_;by_cases c1:bR b
 rotate_left
 ·have e:ft l b=([],[],false):=by unfold ft;rw [if_neg c1]
  simp [ab c1,e]
 have e:ft l b=match iu l (ca b) with
  |some r=>(r.1,r.2,true)
  |none=>([],[],false):=by unfold ft;rw [if_pos c1]
 simp [c1];intro b9;refine aa.pure (pI b hb) (by simp) ?_;simp;intro H0
 refine ag eok (λx:(Nat×List (List Part)×List Part×Nat)×Hd×Hd=>(x.1.2.2.2=304\/x.1.2.2.2=465)/\(x.1.1<=l.length/\x.1.2.1.length=x.1.1)/\nL aH x.1.2.2.1<=2 ^ 40/\iu l (ca b)=(iu (l.drop x.1.1) x.1.2.2.1).map (λr=>(x.1.2.1++r.1,r.2)))
  (λx=>⟨43,0,[(22,.v (.int .i64 x.1.1)),(21,.v (.int .i64 l.length)),(20,.ro (l.map eZ)),(8,.sl x.1.2.2.2 x.2.2 3 0 x.1.2.2.1.length),(7,.sl 272 x.2.1 1 0 x.1.2.1.length)],
   [(272,.rows x.2.1 1 (x.1.2.1.map eZ) true),(x.1.2.2.2,.rows x.2.2 3 (x.1.2.2.1.map Part.row) true)]⟩) (λx=>l.length - x.1.1) ((0,[],ca b,304),some (b9,0,0),H0) ⟨.inl rfl,by simp,by have:=pR b;simp only;omega,by simp⟩ (by simp) (λx hx=>Ent.refl ?_)
 obtain ⟨⟨i,L,v,kk⟩,H1,H2⟩:=x;obtain ⟨hk,⟨hi,hLl⟩,hv,hp⟩:=hx;simp only at hk hi hLl hv hp ⊢;have k5:¬ kk=272:=by omega
 have k5':¬ 272=kk:=by omega
 by_cases hlt:i<l.length
 ·rw [tN hlt] at hp
  have hn:=md l[i] v;simp [hlt];refine aa.pure (sC l[i] v (hs _ (List.getElem_mem hlt)) hv) (by simp [k5]) ?_;generalize aE l[i] v=Q at hp hn ⊢;obtain ⟨x,y,ok⟩:=Q;simp only at hp hn ⊢;simp;intro G1 G2
  cases ok with
  | false =>
    simp at hp;rw [hp] at e;simp [e]
  | true =>
    simp only [if_true] at hp;simp;intro b6;refine ⟨by omega,λH=>Ent.refl ⟨i+1,L++[x],y,465,⟨.inr rfl,⟨by omega,by simp;omega⟩,by omega,?_⟩,by omega,H,G2,?_⟩⟩
    ·rw [hp]
     cases iu (l.drop (i+1)) y<;>simp
    ·simp
     exact ah (by omega)
 ·rw [ww (by omega)] at hp
  simp only [Option.map_some,List.append_nil] at hp;rw [hp] at e;simp [hlt,e,k5]
theorem Bw (l:List (List Part)) (b:List Part) (hl:l.length<=2 ^ 30) (hs:∀ o∈l,nL aH o<=2 ^ 40) (hb:nL aH b<=2 ^ 40):ai Tryz.prog 405 [.c (.s (l.map eZ)),.c (.s (b.map Part.row))]
 (.tup [.c (.s ((gR l b).1.map Part.row)) 3,.c (.v (.bool (gR l b).2)) 1]):=by
 refine pci ae Tryz.func405 (λw0 base=>?_);simp;refine aa.pure (zu l b hl hs hb) (by simp) ?_;rw [<- uy];generalize ft l b=Q;obtain ⟨x,y,ok⟩:=Q;simp
noncomputable def yW (d:Doc) (rev:Int):Int:=if ac d<rev then 2 else if rev<d.fr then 3 else 0
theorem A3 (d:Doc) (rev:Int):ai Tryz.prog 334 [.agg d.row,.c (vi rev)] (.one (.c (vi (yW d rev)) 1)):=by
 refine pci ae Tryz.func334 (λw0 base=>?_);simp [Doc.row];intro b;refine aa.pure (bu d) (by simp [Doc.row]) ?_;unfold yW;by_cases c1:ac d<rev
 ·simp [c1]
 ·by_cases c2:rev<d.fr
  ·simp [c1,c2]
  ·simp [c1,c2]
open Classical in
noncomputable def je (d:Doc) (rev:Int):List (List Part)×Bool:=if aN d/\d.fr<=rev/\rev<=ac d then ((d.list.drop (rev - d.fr).toNat).map Entry.o,true) else ([],false)
theorem kB {d:Doc} {rev:Int} (h:¬ (aN d/\d.fr<=rev/\rev<=ac d)):je d rev=([],false):=by unfold je;rw [if_neg h]
theorem jI {d:Doc} {rev:Int} (h:aN d/\d.fr<=rev/\rev<=ac d):je d rev=((d.list.drop (rev - d.fr).toNat).map Entry.o,true):=by unfold je;rw [if_pos h]
theorem tl {α:Type} {f:α->Nat}:∀ (l:List α) (k:Nat),bV f (l.drop k)<=bV f l
 | [],k=>by simp
 |a::l,0=>by simp
 |a::l,k+1=>by have:=tl (f:=f) l k;simp only [List.drop_succ_cons,bV];omega
theorem pU {α:Type} {f:α->Nat} {l:List α} {k B:Nat} (h:nL f l<=B):nL f (l.drop k)<=B:=by
 have:=tl (f:=f) l k;unfold nL at *;simp only [List.length_drop];omega
theorem iQ {l:List Entry} {k:Nat} (_h:k<=l.length):cut (l.map Entry.row) k (l.length - k)=(l.drop k).map Entry.row:=by
 unfold cut
 split
 ·rename_i h1
  rw [h1.1];simp
 ·rw [<- List.map_drop,List.take_of_length_le (by simp)]
theorem uo (d:Doc) (hl:cq d<=2 ^ 30) (rev:Int):ai Tryz.prog 375 [.agg d.row,.c (vi rev)] (.tup [.c (.s ((je d rev).1.map eZ)) 1,.c (.v (.bool (je d rev).2)) 1]):=by
 refine pci ae Tryz.func375 (λw0 base=>?_);obtain ⟨n1,n2,n3,n4⟩:=co hl;simp [Doc.row];intro b2;refine am.quiet eok mix (by kernel_rfl) ?_;simp;refine ⟨_,_,fN d hl,by simp [Doc.row],?_⟩;by_cases c1:aN d
 rotate_left
 ·have e:=kB (d:=d) (rev:=rev) (λh=>c1 h.1)
  simp [ab c1,e]
 simp [c1];refine ⟨_,_,bu d,by simp [Doc.row],?_⟩;simp;refine ⟨_,_,aR rev d.fr (ac d),by simp,?_⟩;by_cases c2:d.fr<=rev/\rev<=ac d
 rotate_left
 ·have e:=kB (d:=d) (rev:=rev) (λh=>c2 h.2)
  simp [ab c2,e]
 have e:=jI ⟨c1,c2⟩;have hh:=aX c1;obtain ⟨k,hk⟩:∃ k:Nat,rev - d.fr=k:=⟨(rev - d.fr).toNat,by omega⟩;have hkl:k<=d.list.length:=by omega
 have ew:Go.IntKind.i64.wrap (rev - d.fr)=(k:Int):=by rw [Go.IntWalk.i64_in _ (by omega)];omega
 rw [hk] at e;simp only [Int.toNat_natCast] at e;simp [c2,ew,hkl,iQ hkl];refine aa.pure (xR (d.list.drop k) (pU n1)) (by simp) ?_;simp [e];intro row h;have:=List.mem_of_mem_drop h;simp at this;obtain ⟨x,-,rfl⟩:=this;rfl
theorem tB (d:Doc) (hl:cq d<=2 ^ 30) (rev:Int):ai Tryz.prog 404 [.agg d.row,.c (vi rev)] (.tup [.c (.s ((je d rev).1.map eZ)) 1,.c (.v (.bool (je d rev).2)) 1]):=by
 refine pci ae Tryz.func404 (λw0 base=>?_);obtain ⟨n1,n2,n3,n4⟩:=co hl;simp [Doc.row];intro b2;refine am.quiet eok mix (by kernel_rfl) ?_;simp;refine ⟨_,_,fH d hl,by simp [Doc.row],?_⟩;by_cases c1:aN d
 rotate_left
 ·have e:=kB (d:=d) (rev:=rev) (λh=>c1 h.1)
  simp [ab c1,e]
 simp [c1];refine ⟨_,_,aO d,by simp [Doc.row],?_⟩;simp;refine ⟨_,_,ba rev d.fr (ac d),by simp,?_⟩;by_cases c2:d.fr<=rev/\rev<=ac d
 rotate_left
 ·have e:=kB (d:=d) (rev:=rev) (λh=>c2 h.2)
  simp [ab c2,e]
 have e:=jI ⟨c1,c2⟩;have hh:=aX c1;obtain ⟨k,hk⟩:∃ k:Nat,rev - d.fr=k:=⟨(rev - d.fr).toNat,by omega⟩;have hkl:k<=d.list.length:=by omega
 have ew:Go.IntKind.i64.wrap (rev - d.fr)=(k:Int):=by rw [Go.IntWalk.i64_in _ (by omega)];omega
 rw [hk] at e;simp only [Int.toNat_natCast] at e;simp [c2,ew,hkl,iQ hkl];intro b21;obtain ⟨l,hl'⟩:∃ l,d.list.drop k=l:=⟨_,rfl⟩;have hn:nL aS l<=2 ^ 30:=hl' ▸ pU n1;have hll:d.list.length - k=l.length:=by rw [<- hl'];simp
 have hle:=aB hn;rw [hl'] at e;simp only [<- List.map_drop,hl',hll];refine ag eok (λx:Nat×Hd=>x.1<=l.length) (λx=>⟨42,0,[(30,.v (.int .i64 x.1)),(29,.v (.int .i64 l.length)),(28,.ro (l.map Entry.row)),(6,.sl 336 x.2 1 0 x.1)],[(336,.rows x.2 1 (((l.take x.1).map Entry.o).map eZ) true)]⟩) (λx=>l.length - x.1) (0,some (b21,0,0)) (by simp) (by simp) (λx hx=>Ent.refl ?_);obtain ⟨i,H⟩:=x;simp only at hx ⊢;by_cases hlt:i<l.length
 ·have hm:=dO hn hlt
  unfold aS at hm;simp [hlt,Entry.row];intro b5;refine aa.pure (re l[i].o hm) (by simp) ?_;simp;intro H1 b;have e1:i=min i l.length:=by omega
  refine ⟨e1,by omega,λH2=>Ent.refl ⟨i+1,by omega,by omega,H2,?_⟩⟩;simp;exact ⟨ah (by omega),da (f:=λe:Entry=>eZ e.o) hlt⟩
 ·have e2:l.length=i:=by omega
  simp [hlt,e];have e1:i<=min i l.length:=by omega
  refine ⟨e1,?_,?_⟩
  ·intro row hr
   have:=List.mem_of_mem_take hr;simp at this;obtain ⟨x,-,rfl⟩:=this;rfl
  ·rw [List.take_of_length_le (by simp;omega)]
   simp [cut,e2]
theorem uF (l:List Entry) (k:Nat):∀ row∈List.drop k (List.map Entry.row l),row.length=3:=by
 intro row h;have:=List.mem_of_mem_drop h;simp at this;obtain ⟨x,-,rfl⟩:=this;rfl
open Classical in
theorem xb {d:Doc} {rev:Int} (h:¬ aN d):fS d rev=([],1):=by unfold fS;rw [if_neg h]
theorem uB {d:Doc} {rev:Int} (h:aN d):fS d rev=if ac d<rev then ([],2) else if rev<d.fr then ([],3) else (d.list.drop (rev - d.fr).toNat,0):=by unfold fS;rw [if_pos h]
theorem Ay (d:Doc) (hl:cq d<=2 ^ 30) (rev:Int):ai Tryz.prog 248 [.agg d.row,.c (vi rev)] (.tup [.c (.s ((fS d rev).1.map Entry.row)) 3,.c (vi (fS d rev).2) 1]):=by
 refine pci ae Tryz.func248 (λw0 base=>?_);obtain ⟨n1,n2,n3,n4⟩:=co hl;simp [Doc.row];intro b2;refine aa.pure (fN d hl) (by simp [Doc.row]) ?_;by_cases c1:aN d
 rotate_left
 ·simp [ab c1,xb c1]
 have e:=uB (rev:=rev) c1;simp [c1];refine aa.pure (A3 d rev) (by simp [Doc.row]) ?_;unfold yW;by_cases c2:ac d<rev
 ·simp [c2,e]
 by_cases c3:rev<d.fr
 ·simp [c2,c3,e]
 have hh:=aX c1;obtain ⟨k,hk⟩:∃ k:Nat,rev - d.fr=k:=⟨(rev - d.fr).toNat,by omega⟩;have hkl:k<=d.list.length:=by omega
 have ew:Go.IntKind.i64.wrap (rev - d.fr)=(k:Int):=by rw [Go.IntWalk.i64_in _ (by omega)];omega
 simp only [c2,c3,if_false,hk,Int.toNat_natCast] at e;simp [c2,c3,ew,hkl,iQ hkl];refine aa.pure (gq (d.list.drop k) (pU n1)) (by simp) ?_;simp [e];exact uF _ _
theorem zx (d:Doc) (hl:cq d<=2 ^ 30) (rev:Int):ai Tryz.prog 343 [.agg d.row,.c (vi rev)] (.tup [.c (.s ((fS d rev).1.map Entry.row)) 3,.c (vi (fS d rev).2) 1]):=by
 refine pci ae Tryz.func343 (λw0 base=>?_);obtain ⟨n1,n2,n3,n4⟩:=co hl;simp [Doc.row];intro b2;refine aa.pure (fH d hl) (by simp [Doc.row]) ?_;by_cases c1:aN d
 rotate_left
 ·simp [ab c1,xb c1]
 have e:=uB (rev:=rev) c1;simp [c1];refine aa.pure (aO d) (by simp [Doc.row]) ?_;by_cases c2:ac d<rev
 ·simp [c2,e]
 by_cases c3:rev<d.fr
 ·simp [c2,c3,e]
 have hh:=aX c1;obtain ⟨k,hk⟩:∃ k:Nat,rev - d.fr=k:=⟨(rev - d.fr).toNat,by omega⟩;have hkl:k<=d.list.length:=by omega
 have ew:Go.IntKind.i64.wrap (rev - d.fr)=(k:Int):=by rw [Go.IntWalk.i64_in _ (by omega)];omega
 simp only [c2,c3,if_false,hk,Int.toNat_natCast] at e;simp [c2,c3,ew,hkl,iQ hkl];refine aa.pure (ep (d.list.drop k) (pU n1)) (by simp) ?_;simp [e];exact uF _ _
theorem jW (d:Doc) (hl:cq d<=2 ^ 30):ai Tryz.prog 324 [.agg d.row] (.one (.c (.s ((cY d).map ak)) 1)):=by
 refine pci ae Tryz.func324 (λw0 base=>?_);simp [Doc.row];intro b2;refine drw eok mix [0,1] [2,3,4,5,6,7,8] (.c 2 2 1 2 (.c 2 3 2 0 (.c 2 4 0 0 (.c 2 5 0 0 (.c 2 6 0 0 (.c 2 7 0 0 (.c 2 8 0 0 (.l 2 0) .s) .s) .s) .s) .s) .s) .s) ?_;simp
 try intros
 refine aa.pure (aO d) (by simp [Doc.row]) ?_;simp
 try intros
 refine aa.pure (lR d hl (ac d)) (by simp [Doc.row]) ?_;simp
 try intros
 simp [cY]
theorem m7 (d:Doc) (hl:cq d<=2 ^ 30):ai Tryz.prog 149 [.agg d.row] (.one (.c (.s ((cY d).map ak)) 1)):=by
 refine pci ae Tryz.func149 (λw0 base=>?_);simp [Doc.row];intro b2;refine drw eok mix [0,1] [2,3,4,5,6,7,8] (.c 2 2 1 2 (.c 2 3 2 0 (.c 2 4 0 0 (.c 2 5 0 0 (.c 2 6 0 0 (.c 2 7 0 0 (.c 2 8 0 0 (.l 2 0) .s) .s) .s) .s) .s) .s) .s) ?_;simp
 try intros
 refine aa.pure (bu d) (by simp [Doc.row]) ?_;simp
 try intros
 refine aa.pure (p6 d hl (ac d)) (by simp [Doc.row]) ?_;simp
 try intros
 simp [cY]
theorem mg {d:Doc} {base:Int} {o:List Part} (h:¬ (aN d/\bR o)):cG d base o=([],1):=by unfold cG;rw [if_neg h]
theorem sf {d:Doc} {base:Int} {o:List Part} (h:aN d/\bR o):cG d base o=if ac d<base then ([],2) else if base<d.fr then ([],3) else
 if bH o=(d5 d base).1.length then
  if (gR ((d.list.drop (base - d.fr).toNat).map Entry.o) o).2=true then ((gR ((d.list.drop (base - d.fr).toNat).map Entry.o) o).1,0) else ([],5)
 else ([],1):=by unfold cG;rw [if_pos h]
theorem yi (d:Doc) (hl:cq d<=2 ^ 30) (base:Int) (o:List Part) (ho:nL aH o<=2 ^ 40):ai Tryz.prog 332 [.agg d.row,.c (vi base),.c (.s (o.map Part.row))] (.tup [.c (.s ((cG d base o).1.map Part.row)) 3,.c (vi (cG d base o).2) 1]):=by
 refine pci ae Tryz.func332 (λw0 bs=>?_);obtain ⟨n1,n2,n3,n4⟩:=co hl;simp [Doc.row];intro b3;refine aa.pure (fN d hl) (by simp [Doc.row]) ?_;by_cases c1:aN d
 rotate_left
 ·simp [ab c1,mg (d:=d) (base:=base) (o:=o) (λh=>c1 h.1)]
 simp [c1];refine aa.pure (eE o ho) (by simp) ?_;by_cases c2:bR o
 rotate_left
 ·simp [ab c2,mg (d:=d) (base:=base) (o:=o) (λh=>c2 h.2)]
 have e:=sf (base:=base) ⟨c1,c2⟩;simp [c2];refine aa.pure (A3 d base) (by simp [Doc.row]) ?_;unfold yW;by_cases c3:ac d<base
 ·simp [c3,e]
 by_cases c4:base<d.fr
 ·simp [c3,c4,e]
 have hh:=aX c1;have c5:aN d/\d.fr<=base/\base<=ac d:=⟨c1,by omega,by omega⟩;have hops:=jI c5;simp only [c3,c4,if_false] at e;simp [c3,c4];refine aa.pure (p6 d hl base) (by simp [Doc.row]) ?_;generalize d5 d base=T at e ⊢;obtain ⟨t,ok⟩:=T;simp only at e ⊢;simp;intro H1;refine aa.pure (im o ho) (by simp) ?_;by_cases c6:bH o=t.length
 rotate_left
 ·simp only [c6,if_false] at e
  simp [c6,e]
 simp only [c6,if_true] at e;simp [c6];refine aa.pure (uo d hl base) (by simp [Doc.row]) ?_;rw [hops];generalize hL:(d.list.drop (base - d.fr).toNat)=L at e ⊢;have hL1:L.length<=d.list.length:=by rw [<- hL];simp
 have hle:=aB n1
 have hs:∀ q∈L.map Entry.o,nL aH q<=2 ^ 40:=λq hq=>by
  have:=od n1 (l:=L) (λe he=>by rw [<- hL] at he;exact List.mem_of_mem_drop he) hq;omega
 simp;intro H2;refine aa.pure (Co (L.map Entry.o) o (by simp;omega) hs ho) (by simp) ?_;generalize gR (L.map Entry.o) o=P at e ⊢;obtain ⟨v,ok2⟩:=P;simp only at e ⊢
 cases ok2 with
 |false=>simp at e;simp [e]
 |true=>simp at e;simp [e]
theorem pH (d:Doc) (hl:cq d<=2 ^ 30) (base:Int) (o:List Part) (ho:nL aH o<=2 ^ 40):ai Tryz.prog 383 [.agg d.row,.c (vi base),.c (.s (o.map Part.row))] (.tup [.c (.s ((cG d base o).1.map Part.row)) 3,.c (vi (cG d base o).2) 1]):=by
 refine pci ae Tryz.func383 (λw0 bs=>?_);obtain ⟨n1,n2,n3,n4⟩:=co hl;simp [Doc.row];intro b3;refine aa.pure (fH d hl) (by simp [Doc.row]) ?_;by_cases c1:aN d
 rotate_left
 ·simp [ab c1,mg (d:=d) (base:=base) (o:=o) (λh=>c1 h.1)]
 simp [c1];refine aa.pure (eA o ho) (by simp) ?_;by_cases c2:bR o
 rotate_left
 ·simp [ab c2,mg (d:=d) (base:=base) (o:=o) (λh=>c2 h.2)]
 have e:=sf (base:=base) ⟨c1,c2⟩;simp [c2];refine aa.pure (aO d) (by simp [Doc.row]) ?_;by_cases c3:ac d<base
 ·simp [c3,e]
 by_cases c4:base<d.fr
 ·simp [c3,c4,e]
 have hh:=aX c1;have c5:aN d/\d.fr<=base/\base<=ac d:=⟨c1,by omega,by omega⟩;have hops:=jI c5;have hfit:=qi (o:=o) c1 c2 c5.2.1 c5.2.2;simp only [c3,c4,if_false] at e;simp [c3,c4];refine aa.pure (lR d hl base) (by simp [Doc.row]) ?_;generalize d5 d base=T at e hfit ⊢;obtain ⟨t,ok⟩:=T;simp only at e hfit ⊢;simp;intro H1;refine aa.pure (hU o ho) (by simp) ?_;by_cases c6:bH o=t.length
 rotate_left
 ·simp only [c6,if_false] at e
  simp [c6,e]
 simp only [c6,if_true,true_implies] at e hfit;simp [c6];refine aa.pure (tB d hl base) (by simp [Doc.row]) ?_;rw [hops];generalize hL:(d.list.drop (base - d.fr).toNat)=L at e hfit ⊢;have hL1:L.length<=d.list.length:=by rw [<- hL];simp
 have hle:=aB n1
 have hs:∀ q∈L.map Entry.o,nL aH q<=2 ^ 40:=λq hq=>by
  have:=od n1 (l:=L) (λe he=>by rw [<- hL] at he;exact List.mem_of_mem_drop he) hq;omega
 have hpn:=DS (L.map Entry.o) o;simp;intro H2;refine aa.pure (Bw (L.map Entry.o) o (by simp;omega) hs ho) (by simp) ?_;generalize gR (L.map Entry.o) o=P at e hfit hpn ⊢;obtain ⟨v,ok2⟩:=P;simp only at e hfit hpn ⊢
 cases ok2 with
 |false=>simp at e;simp [e]
 | true =>
   have hf:=hfit rfl;have ht:=hf.2.1.1;simp at e;simp [e];intro H3;refine aa.pure (jW d hl) (by simp [Doc.row]) ?_;simp;intro H4;refine aa.pure (fI v (cY d) (by omega) (by omega)) (by simp) ?_;have ha:=jR.2 hf;generalize apply v (cY d)=A at ha ⊢;obtain ⟨u,ok3⟩:=A;simp only at ha;subst ha;simp
end Go.Proofs.YtoldjebobgocpaaGreat
