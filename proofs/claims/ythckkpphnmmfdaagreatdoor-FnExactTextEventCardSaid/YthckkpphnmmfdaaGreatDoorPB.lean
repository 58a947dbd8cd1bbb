import Derived.Test.YthckkpphnmmfdaaGreatDoorPA
import Derived.Test.YthckkpphnmmfdaaGreatDoorNA
import Derived.Test.YthckkpphnmmfdaaGreatDoorMF
import Derived.Lib.AppendZerosOnto
import Derived.Lib.Overlaps
import Derived.Laws.IdiomCopy
import Derived.Laws.Externs
import Derived.Test.YthckkpphnmmfdaaGreatDoorMH
import Derived.Shelf.RegionOpenPlain
import Derived.Test.YthckkpphnmmfdaaGreatDoorMG
namespace Go.Proofs.YthckkpphnmmfdaaGreatDoor
set_option maxRecDepth 20000
inductive At where
 |k
 |p (c:Int)
 |d
def ats (p:Part):List At:=if p.kind=2 then p.signs.map At.p else if p.kind=3 then List.replicate (psz p) .d else List.replicate (psz p) .k
def aT:List Part->List At
 | []=>[]
 |p::l=>ats p++aT l
theorem cU:∀ (a b:List Part),aT (a++b)=aT a++aT b
 | [],b=>rfl
 |p::a,b=>by simp [aT,cU a b]
def frA:List At->Nat
 | []=>0
 | .p _::l=>frA l
 |_::l=>frA l+1
def toA:List At->Nat
 | []=>0
 | .d::l=>toA l
 |_::l=>toA l+1
theorem db:∀ (a b:List At),frA (a++b)=frA a+frA b
 | [],b=>by simp [frA]
 | .p c::a,b=>by simp [frA,db a b]
 | .k::a,b=>by simp [frA,db a b];omega
 | .d::a,b=>by simp [frA,db a b];omega
theorem cB:∀ (a b:List At),toA (a++b)=toA a+toA b
 | [],b=>by simp [toA]
 | .d::a,b=>by simp [toA,cB a b]
 | .k::a,b=>by simp [toA,cB a b];omega
 | .p c::a,b=>by simp [toA,cB a b];omega
theorem m5:∀ l:List Int,frA (l.map At.p)=0
 | []=>rfl
 |c::l=>by simp [frA,m5 l]
theorem jG:∀ l:List Int,toA (l.map At.p)=l.length
 | []=>rfl
 |c::l=>by simp [toA,jG l]
theorem uW:∀ n:Nat,frA (List.replicate n At.k)=n
 |0=>rfl
 |n+1=>by simp [List.replicate_succ,frA,uW n]
theorem m6:∀ n:Nat,frA (List.replicate n At.d)=n
 |0=>rfl
 |n+1=>by simp [List.replicate_succ,frA,m6 n]
theorem pm:∀ n:Nat,toA (List.replicate n At.k)=n
 |0=>rfl
 |n+1=>by simp [List.replicate_succ,toA,pm n]
theorem jH:∀ n:Nat,toA (List.replicate n At.d)=0
 |0=>rfl
 |n+1=>by simp [List.replicate_succ,toA,jH n]
theorem wi {p:Part} (h:aw p) (k:p.kind=2):psz p=p.signs.length:=by
 rw [dG k] at h;unfold psz;omega
theorem AB {p:Part}:frA (ats p)=if p.kind=2 then 0 else psz p:=by
 unfold ats
 split
 ·exact m5 _
 ·split
  ·exact m6 _
  ·exact uW _
theorem AA {p:Part} (h:aw p):toA (ats p)=if p.kind=3 then 0 else psz p:=by
 unfold ats;by_cases k:p.kind=2
 ·have:¬ p.kind=3:=by omega
  rw [if_pos k,if_neg this,jG,wi h k]
 ·rw [if_neg k]
  split
  ·exact jH _
  ·exact pm _
theorem pX:∀ (o:List Part),frs o=frA (aT o)
 | []=>rfl
 |p::o=>by simp only [frs,aT,db,AB,pX o]
theorem sS:∀ {o:List Part},(∀ p∈o,aw p)->tos o=toA (aT o)
 | [],_=>rfl
 | p :: o, h => by
   simp only [tos,aT,cB,AA (h p (List.mem_cons_self ..)),sS (λq hq=>h q (List.mem_cons_of_mem _ hq))]
def nA:List Int->Nat->List At->List At
 |P,n,[]=>P.map At.p++List.replicate n .d
 |P,n,.k::l=>P.map At.p++(List.replicate n .d ++ .k::nA [] 0 l)
 |P,n,.p c::l=>nA (P++[c]) n l
 |P,n,.d::l=>nA P (n+1) l
def gw (l:List At):List At:=nA [] 0 l
theorem qK:∀ (l:List At) (P:List Int) (n:Nat),frA (nA P n l)=n+frA l
 | [],P,n=>by simp [nA,frA,db,m5,m6]
 | .k::l,P,n=>by simp [nA,frA,db,m5,m6,qK l]
 | .p c::l,P,n=>by simp [nA,frA,qK l]
 | .d::l,P,n=>by simp [nA,frA,qK l];omega
theorem qG:∀ (l:List At) (P:List Int) (n:Nat),toA (nA P n l)=P.length+toA l
 | [],P,n=>by simp [nA,toA,cB,jG,jH]
 | .k::l,P,n=>by simp [nA,toA,cB,jG,jH,qG l]
 | .p c::l,P,n=>by simp [nA,toA,qG l];omega
 | .d::l,P,n=>by simp [nA,toA,qG l]
theorem qI:∀ (Q P:List Int) (n:Nat) (l:List At),nA P n (Q.map At.p++l)=nA (P++Q) n l
 | [],P,n,l=>by simp
 |c::Q,P,n,l=>by simp [nA,qI Q]
theorem qM:∀ (m:Nat) (P:List Int) (n:Nat) (l:List At),nA P n (List.replicate m .d++l)=nA P (n+m) l
 |0,P,n,l=>by simp
 |m+1,P,n,l=>by simp [List.replicate_succ,nA,qM m];congr 1;omega
theorem xY:∀ (m:Nat) (l:List At),nA [] 0 (List.replicate m .k++l)=List.replicate m .k++nA [] 0 l
 |0,l=>by simp
 |m+1,l=>by simp [List.replicate_succ,nA,xY m]
def bA (s:List Part×List Int×Int):List At:=aT s.1++(s.2.1.map At.p++List.replicate s.2.2.toNat .d)
theorem oI {L:List Part} {P:List Int} {D:Int}:aT (ar L P D)=bA (L,P,D):=by
 unfold ar bA;rw [cU,cU]
 congr 1
 congr 1
 ·split
  ·rename_i h;simp [h,aT]
  ·simp [aT,ats]
 ·split
  ·simp [aT,ats,psz]
  ·have:D.toNat=0:=by omega
   simp [aT,this]
theorem fp:∀ (L:List Part) (_h:0<L.length) (p:Part),aT (L.set (L.length - 1) p)=aT L.dropLast++ats p
 | [q],h,p=>by simp [aT]
 | q :: r :: L, h, p => by
   have ih:=fp (r::L) (by simp) p;simp only [List.length_cons,Nat.add_sub_cancel] at ih ⊢;rw [List.set_cons_succ,aT,ih];simp [aT]
theorem kH:∀ (L:List Part) (h:0<L.length),aT L=aT L.dropLast++ats (L[L.length - 1]'(by omega))
 | [q],h=>by simp [aT]
 | q :: r :: L, h => by
   have ih:=kH (r::L) (by simp);simp only [List.length_cons,Nat.add_sub_cancel] at ih ⊢;rw [aT,ih];simp [aT]
theorem w5 {L:List Part} {n:Int} (hn:0<n) (hL:∀ q∈L,0<=q.n) (hk:∀ q∈L,q.kind=1->q.signs=[]):aT (a8 L n)=aT L++List.replicate n.toNat .k:=by
 unfold a8
 split
 ·rename_i h
  split
  ·rename_i k
   have h1:=hL _ (List.getElem_mem (show L.length - 1<L.length by omega));have h2:=hk _ (List.getElem_mem (show L.length - 1<L.length by omega)) k;rw [fp L h,kH L h,List.append_assoc]
   congr 1
   generalize L[L.length - 1]'(by omega)=q at h1 h2 k;obtain ⟨a,b,c⟩:=q;simp only at h1 h2 k;subst k h2;simp [ats,psz,List.replicate_append_replicate];omega
  ·rw [cU]
   simp [aT,ats,psz]
 ·rename_i h
  have:L=[]:=List.eq_nil_of_length_eq_zero (by omega);subst this;simp [aT,ats,psz]
theorem iR {L:List Part} {P:List Int} {D:Int} (h:∀ q∈L,q.kind=1->q.signs=[]):∀ q∈ar L P D,q.kind=1->q.signs=[]:=by
 intro q hq hk;unfold ar at hq;rcases List.mem_append.1 hq with hq|hq
 ·exact h q hq hk
 ·rcases List.mem_append.1 hq with hq|hq
  ·split at hq
   ·simp at hq
   ·simp at hq;subst hq;simp at hk
  ·split at hq
   ·simp at hq;subst hq;rfl
   ·simp at hq
theorem pQ {L:List Part} {n:Int} (h:∀ q∈L,q.kind=1->q.signs=[]):∀ q∈a8 L n,q.kind=1->q.signs=[]:=by
 intro q hq hk;unfold a8 at hq
 split at hq
 ·rename_i hl
  split at hq
  ·rename_i k
   rcases List.mem_or_eq_of_mem_set hq with hq|rfl
   ·exact h q hq hk
   ·exact (h (L[L.length - 1]'(by omega)) (List.getElem_mem _) k :)
  ·rcases List.mem_append.1 hq with hq|hq
   ·exact h q hq hk
   ·simp at hq;subst hq;rfl
 ·simp at hq;subst hq;rfl
theorem n3 {o:List Part} (ho:∀ p ∈ o,aw p):∀ (i:Nat),i <= o.length -> (∀ q ∈ (aF (o.take i)).1,q.kind=1 -> q.signs=[]) /\ 0 <= (aF (o.take i)).2.2 /\ (∀ q ∈ (aF (o.take i)).1,0 <= q.n) /\
 ∀ l,gw (aT (o.take i)++l)=aT (aF (o.take i)).1++nA (aF (o.take i)).2.1 (aF (o.take i)).2.2.toNat l
 |0,_=>by simp [aF,aT,gw]
 | i + 1, hi => by
   obtain ⟨h1,h2,h3,h4⟩:=n3 ho i (by omega);have hlt:i<o.length:=by omega
   have hq:=(fc ho (i+1) hi);have hp:=(ho _ (List.getElem_mem hlt));have hb:=hp.bounds;refine ⟨?_,hq.d0,λq hq'=>(hq.q q hq').1,λl=>?_⟩
   ·rw [cK hlt]
    unfold bW
    split
    ·exact h1
    ·split
     ·exact h1
     ·split
      ·exact pQ (iR h1)
      ·exact h1
   ·rw [<- List.take_append_getElem hlt,cU,List.append_assoc,h4,List.take_append_getElem hlt,cK hlt]
    generalize aF (o.take i)=s at h1 h2 h3;generalize o[i]=p at hp hb;obtain ⟨L,P,D⟩:=s;simp only at h1 h2 h3;simp only [aT,List.append_nil];unfold bW;by_cases k2:p.kind=2
    ·simp only [k2,if_true]
     rw [show ats p=p.signs.map At.p by unfold ats;rw [if_pos k2],qI]
    ·by_cases k3:p.kind=3
     ·have hs:=hb.2.2.2.2.2 k2
      have e:(D+p.n).toNat=D.toNat+p.n.toNat:=by omega
      simp only [k3,if_true];rw [show ats p=List.replicate (psz p) .d by unfold ats;rw [if_neg k2,if_pos k3],qM];simp [e,psz,hs]
     ·have k1:p.kind=1:=by omega
      have hs:=hb.2.2.2.2.2 k2;have e:ats p=List.replicate p.n.toNat .k:=by unfold ats;rw [if_neg k2,if_neg k3];simp [psz,hs]
      simp only [k2,k3,if_false];rw [e]
      split
      ·rename_i hn
       have hfl:∀ q∈ar L P D,0<=q.n:=by
        intro q hq';unfold ar at hq';rcases List.mem_append.1 hq' with hq' | hq'
        ·exact h3 q hq'
        ·rcases List.mem_append.1 hq' with hq' | hq'
         ·split at hq'
          ·simp at hq'
          ·simp at hq';subst hq';simp
         ·split at hq'
          ·simp at hq';subst hq';simp;omega
          ·simp at hq'
       simp only;rw [w5 hn hfl (iR h1),oI];obtain ⟨m,hm⟩:∃ m,p.n.toNat=m+1:=⟨p.n.toNat - 1,by omega⟩;rw [hm];simp [bA,List.replicate_succ,nA,xY,List.append_assoc]
      ·have:p.n.toNat=0:=by omega
       simp [this]
theorem fB {o:List Part} (ho:∀ p∈o,aw p):aT (normal o)=gw (aT o):=by
 have h:=(n3 ho o.length (Nat.le_refl _)).2.2.2 [];rw [List.take_length,List.append_nil] at h;unfold normal;rw [oI,h];unfold bA;simp [nA]
theorem uj (l:List At):frA (gw l)=frA l:=by unfold gw;rw [qK];omega
theorem ui (l:List At):toA (gw l)=toA l:=by unfold gw;rw [qG];simp
open Go.AM
structure Shp (q:Part):Prop where
 k:q.kind=1\/q.kind=2\/q.kind=3
 n:0<=q.n
 put:q.kind=2->q.n=0/\bj q.signs
 run:q.kind≠2->q.signs=[]
 pos:0<psz q
theorem lG {L:List Part} {P:List Int} {D:Int} (hL:∀ q∈L,Shp q) (hP:bj P):∀ q∈ar L P D,Shp q:=by
 intro q hq;unfold ar at hq;rcases List.mem_append.1 hq with hq|hq
 ·exact hL q hq
 ·rcases List.mem_append.1 hq with hq|hq
  ·split at hq
   ·simp at hq
   ·rename_i h
    simp at hq;subst hq;have:0<P.length:=List.length_pos_iff.2 h;exact ⟨.inr (.inl rfl),by simp,λ_=>⟨rfl,hP⟩,λh=>absurd rfl h,by simpa [psz] using this⟩
  ·split at hq
   ·rename_i h
    simp at hq;subst hq;exact ⟨.inr (.inr rfl),by simp only;omega,λh=>by simp at h,λ_=>rfl,by simp [psz];omega⟩
   ·simp at hq
theorem tK {L:List Part} {n:Int} (hL:∀ q∈L,Shp q) (hn:0<n):∀ q∈a8 L n,Shp q:=by
 intro q hq;have one:Shp ⟨1,n,[]⟩:=⟨.inl rfl,by simp only;omega,λh=>by simp at h,λ_=>rfl,by simp [psz];omega⟩;unfold a8 at hq
 split at hq
 ·rename_i hl
  split at hq
  ·rename_i k
   rcases List.mem_or_eq_of_mem_set hq with hq|rfl
   ·exact hL q hq
   ·have h:=hL (L[L.length - 1]'(by omega)) (List.getElem_mem _)
    have h1:=h.n;have h2:=h.run (by omega);exact ⟨.inl rfl,by simp only;omega,λh=>by simp at h,λ_=>h2,by simp [psz];omega⟩
  ·rcases List.mem_append.1 hq with hq|hq
   ·exact hL q hq
   ·simp at hq;subst hq;exact one
 ·simp at hq;subst hq;exact one
theorem lW {o:List Part} (ho:∀ p∈o,aw p):∀ (i:Nat),i<=o.length->(∀ q∈(aF (o.take i)).1,Shp q)/\bj (aF (o.take i)).2.1
 |0,_=>by simp [aF,bj]
 | i + 1, hi => by
   obtain ⟨h1,h2⟩:=lW ho i (by omega);have hlt:i<o.length:=by omega
   have hp:=ho _ (List.getElem_mem hlt);rw [cK hlt];generalize aF (o.take i)=s at h1 h2;generalize o[i]=p at hp;obtain ⟨L,P,D⟩:=s;simp only at h1 h2;unfold bW
   split
   ·rename_i k
    rw [dG k] at hp;refine ⟨h1,λn hn=>?_⟩;rcases List.mem_append.1 hn with hn|hn
    ·exact h2 n hn
    ·exact hp.2.2 n hn
   ·split
    ·exact ⟨h1,h2⟩
    ·split
     ·rename_i hn
      exact ⟨tK (lG h1 h2) hn,by simp [bj]⟩
     ·exact ⟨h1,h2⟩
theorem f6 {o:List Part} (ho:∀ p∈o,aw p):∀ q∈normal o,Shp q:=by
 have h:=lW ho o.length (Nat.le_refl _);rw [List.take_length] at h;exact lG h.1 h.2
theorem qs:∀ {L:List Part},(∀ q∈L,Shp q)->tos L=toA (aT L)
 | [],_=>rfl
 | p :: L, h => by
   have hp:=h p (List.mem_cons_self ..);simp only [tos,aT,cB,qs (λq hq=>h q (List.mem_cons_of_mem _ hq))]
   congr 1
   unfold ats;by_cases k:p.kind=2
   ·have k3:¬ p.kind=3:=by omega
    have:=(hp.put k).1;rw [if_pos k,if_neg k3,jG];simp [psz,this]
   ·rw [if_neg k]
    split
    ·exact (jH _).symm
    ·exact (pm _).symm
theorem xh {L:List Part} {q:Part} (h:q∈L) (k:q.kind≠2):psz q<=frs L:=by
 induction L with
 |nil=>simp at h
 | cons p L ih =>
   simp only [frs];rcases List.mem_cons.1 h with rfl|h
   ·rw [if_neg k];omega
   ·have:=ih h;omega
theorem vY {L:List Part} {q:Part} (h:q∈L) (k:q.kind≠3):psz q<=tos L:=by
 induction L with
 |nil=>simp at h
 | cons p L ih =>
   simp only [tos];rcases List.mem_cons.1 h with rfl|h
   ·rw [if_neg k];omega
   ·have:=ih h;omega
theorem qr:∀ {L:List Part},(∀ q∈L,Shp q)->L.length<=tsz L
 | [],_=>by simp [tsz]
 | p :: L, h => by
   have:=qr (λq hq=>h q (List.mem_cons_of_mem _ hq));have:=(h p (List.mem_cons_self ..)).pos;simp only [tsz,List.length_cons];omega
theorem zl {L:List Part} (h:∀ q∈L,Shp q) (h1:frs L<=200) (h2:tos L<=200):bC L:=by
 have hl:=qr h;have ht:=sR L;refine ⟨λq hq=>?_,by omega⟩;have hs:=h q hq;have hn:=hs.n;by_cases k:q.kind=2
 ·have h3:=vY hq (by omega)
  have h4:=hs.put k;exact .inr ⟨k,h4.1,by unfold psz at h3;omega,h4.2⟩
 ·have h3:=xh hq k
  have h4:=hs.run k;have hk:=hs.k;exact .inl ⟨by omega,⟨hn,by unfold psz at h3;omega⟩,h4⟩
theorem px {o:List Part} (h:bC o):(frs o:Int)=cp o:=by
 rw [m4 h.1,cC (λp hp=>Ax (h.1 p hp)),dD];unfold cp aR;rw [if_pos h]
theorem tX {o:List Part} (h:bC o):(tos o:Int)=ib o:=by
 rw [ms h.1,cC (λp hp=>Aw (h.1 p hp)),dD];unfold ib aR;rw [if_pos h]
theorem lT {o:List Part} (h:b7 o):b7 (normal o)/\cp (normal o)=cp o/\ib (normal o)=ib o:=by
 have hs:=f6 h.1.1;have e1:frs (normal o)=frs o:=by rw [pX,fB h.1.1,uj,<- pX]
 have e2:tos (normal o)=tos o:=by rw [qs hs,fB h.1.1,ui,<- sS h.1.1]
 have f:=uV h;have t:=yB h;have hp:=zl hs (by have:=h.2.1;omega) (by have:=h.2.2;omega);have f2:=px hp;have t2:=tX hp;have:=h.2;exact ⟨⟨hp,by omega,by omega⟩,by omega,by omega⟩
set_option maxHeartbeats 1600000
end Go.Proofs.YthckkpphnmmfdaaGreatDoor
namespace Go.AM
open Go.RowKit
structure Placed (w w':World) (ob:Option Nat) (nb no nC n sz:Nat) (us:List Value):Prop where
 at_:∃ cs T,w'.heap[nb]? = some (.cells cs T (0,0))/\no+nC*sz<=cs.size/\∀ j,j<n*sz->cs.getD (no+j) undef=us.getD j undef
 le:n<=nC
 cap:nC<=maxLen
 size:w.heap.size<=w'.heap.size
 same:Same w w'
 blk:w.heap.size<=nb\/ob=some nb
 frame:∀ c,c<w.heap.size->c≠nb->w'.heap[c]? = w.heap[c]?
theorem Rep.place {w0:World} {base:Bs} {st:ASt} {a:Act} {w w':World} (hR:Rep w0 base st a w) {h':AH} {E':Nat->Nat->Prop} (H':HRel base h' w E') (tr:Tr st.h.M w h'.M w) {k:Nat} {ob:Option Nat} (hob:(h'.get k).blk=ob)
 {nb no nC sz:Nat} {us:List Value} {rows:List (List CD)} (own:Bool) (hp:Placed w w' ob nb no nC rows.length sz us) (hsz:0<sz) (hrl:∀ row∈rows,row.length=sz) (F:Nat->Nat->Nat->Prop)
 (hr:∀ i j row d,rows[i]? = some row->row[j]? = some d->Rd w own (F i j) (us.getD (i*sz+j) undef) d) (hF:∀ i j c,F i j c->¬ h'.M c)
 (hown:own=true->∀ i j c,F i j c->¬ base.G c/\∀ q,q≠k->¬ E' q c) (hinj:own=true->∀ i j i' j' c,F i j c->F i' j' c->i=i'/\j=j') :
 Moved w0 base st a w ((k,.rows (some (nb,no,nC)) sz rows own)::h') w':=by
 obtain ⟨cs,T,hb,hfit,hcs⟩:=hp.at_
 have hnb:∀ c,c<w.heap.size->c=nb->(h'.get k).blk=some c:=by
  intro c hc e;subst e;rcases hp.blk with h|h
  ·omega
  ·rw [hob];exact h
 have hfr:∀ c,c<w.heap.size->(¬ h'.M c\/∃ j,j≠k/\(h'.get j).blk=some c)->w'.heap[c]? = w.heap[c]?:=by
  intro c hc h;refine hp.frame c hc (λe=>?_);have hk:=hnb c hc e;rcases h with h|⟨j,hne,hj⟩
  ·exact h ⟨k,hk⟩
  ·exact hne (H'.inj _ _ _ hj hk)
 have t:Tr h'.M w (AH.M ((k,.rows (some (nb,no,nC)) sz rows own)::h')) w':=Tr.upd H' hp.size (λc hc hM=>hfr c hc (.inl hM)) (λc hc=>by
  simp [AObj.blk] at hc;subst hc;rcases hp.blk with h|h
  ·exact .inl h
  ·exact .inr (by rw [hob];exact h))
 have lt:∀ i j,i<rows.length->j<sz->i*sz+j<rows.length*sz:=by
  intro i j hi hj;have:=Nat.mul_le_mul_right sz (show i+1<=rows.length by omega);have e:(i+1)*sz=i*sz+sz:=Nat.succ_mul i sz;omega
 refine (hR.move H' tr ⟨rfl,rfl,rfl⟩).move (H'.upd (Ek:=λc=>own=true/\c<w.heap.size/\∃ i j,F i j c) hp.size hfr (λc hc=>?_)
  ⟨cs,T,λi j c=>c<w.heap.size/\F i j c,hb,hp.le,hp.cap,hsz,hfit,hrl,?_,?_,?_⟩ ?_) t hp.same
 ·simp [AObj.blk] at hc
  subst hc;rcases hp.blk with h|h
  ·exact ⟨hR.newer h,.inl h⟩
  ·have hk:(h'.get k).blk=some nb:=by rw [hob];exact h
   exact ⟨H'.low k _ hk,.inr hk⟩
 ·rintro i j c ⟨hlt,hc⟩
  exact ⟨λho=>⟨ho,hlt,i,j,hc⟩,λhM=>hF i j c hc (t.mono c hlt hM)⟩
 ·rintro ho i j i' j' c ⟨-,hc⟩ ⟨-,hc'⟩
  exact hinj ho i j i' j' c hc hc'
 ·intro i j row d hi hj
  have h1:i<rows.length:=(List.getElem?_eq_some_iff.1 hi).1;have h2:j<sz:=by rw [<- hrl _ (List.mem_of_getElem? hi)];exact (List.getElem?_eq_some_iff.1 hj).1
  rw [hcs _ (lt i j h1 h2)];exact (hr i j row d hi hj).map (λc hc hl=>hfr c hl (.inl (hF i j c hc))) (λc hc hl=>⟨hl,hc⟩)
 ·rintro c ⟨ho,hlt,i,j,hc⟩
  obtain ⟨h1,h2⟩:=hown ho i j c hc;exact ⟨h1,Nat.lt_of_lt_of_le hlt hp.size,h2,λhM=>hF i j c hc (t.mono c hlt hM)⟩
end Go.AM
namespace Go.Proofs.YthckkpphnmmfdaaGreatDoor
open Go.AM Go.RowKit
set_option maxRecDepth 100000
set_option maxHeartbeats 4000000
set_option linter.unusedVariables false
set_option linter.unusedSimpArgs false
open Go.AM
set_option maxRecDepth 20000
set_option maxHeartbeats 3200000
theorem da {α:Type} {f:α->Nat} (a b:List α):nL f (a++b)=nL f a+nL f b:=by
 unfold nL;rw [cI,List.length_append];omega
def Answer.zero:Answer:=⟨0,0,[],[]⟩
set_option maxHeartbeats 6400000
set_option maxHeartbeats 1600000
end Go.Proofs.YthckkpphnmmfdaaGreatDoor
namespace Go.AM
open Go.RowKit
def hJ (w:World) (S:Nat->Prop) (v:Value):VD->Prop
 | .c d=>Rd w false S v d
 | .agg ds=>∃ xs:Array Value,v=.agg xs/\xs.size=ds.length/\∀ j d,ds[j]? = some d->Rd w false S (xs.getD j undef) d
def D0 (P:Program) (T:TypeId) (bs:List (List CD)) (f:Nat) (args:List VD) (R:RR->Prop):Prop:=
 pf P f /\ ∀ (w:World) (b:Nat) (u:Value) (i h:Int) (xs:Array Value),0 <= i -> i <= bs.length ->
  w.heap[b]? = some (.cells #[u,.int .i64 i,.int .i64 h] T (0,0)) -> Rd w false (λc => c ≠ b) u (.s bs) ->
  xs.size=args.length+1 -> xs.getD 0 undef=.pointer (some ⟨b,0,none⟩) -> (∀ j vd,args[j]? = some vd -> hJ w (λc => c ≠ b) (xs.getD (j+1) undef) vd) ->
  Calls P f xs w λe w' => ∃ (v:Value) (rr:RR) (i' h':Int),e=.returned v /\ R rr /\ 0 <= i' /\ i' <= bs.length /\ w'.heap[b]? = some (.cells #[u,.int .i64 i',.int .i64 h'] T (0,0)) /\
   BelowF (λc=>c<w.heap.size/\c≠b) w w'/\pa w' (λc=>w.heap.size<=c/\c<w'.heap.size) v rr
def en (u:Value) (n:Nat) (i h:Int):List AV:=[.cv u n,.v (.int .i64 i),.v (.int .i64 h)]
def np (T:TypeId) (b:Nat) (u:Value) (n:Nat) (h:AH):Prop:=∃ i h2,h.get 0=.vars b T (en u n i h2)/\0<=i/\i<=(n:Int)
def vf (T:TypeId) (b:Nat) (u:Value) (n:Nat) (h:AH) (R:RR->Prop) (l:List AV):Prop:=
 ∃ rr,R rr/\match rr with
 | .one r => match l with
   | [x]=>gV h x r (np T b u n)
   |_=>False
 | .tup rs=>l.length≠1/\eI h l rs (np T b u n)
def ns (E:Env) (T:TypeId) (b:Nat) (u:Value) (n:Nat) (rs:List ResultVar) (R:RR->Prop):Exit->ASt->Prop
 | .normal,st=>bu E st rs (vf T b u n st.h R)
 | .ret,st=>bu E st rs (vf T b u n st.h R)
 |_,_=>False
theorem hJ.rel {w:World} {M:Nat->Prop} {v:Value} {d:VD} (h:hJ w (λb=>¬ M b) v d):VRel w M d.toAV v:=by
 cases d with
 |c d=>exact cr h
 | agg ds =>
   obtain ⟨xs,rfl,hs,hr⟩:=h;refine .agg _ _ (by simp [hs]) (λi av hi=>?_);simp only [List.getElem?_map,Option.map_eq_some_iff] at hi;obtain ⟨d,hd,rfl⟩:=hi;exact cr (hr i d hd)
theorem Rd.slice_len {w:World} {x:Bool} {S:Nat->Prop} {u:Value} {rows:List (List CD)} (h:Rd w x S u (.s rows)):∃ a c,u=.slice a rows.length c:=by
 cases h with
 |empty a cap=>exact ⟨a,cap,rfl⟩
 |slice b off cap=>exact ⟨_,cap,rfl⟩
theorem D0.intro {P : Program} {Ty : Nat → Option TI} (hT : ∀ t ti, Ty t = some ti → TIok P t ti) {f : Nat} {fn : Func} {c : Code} (hf : P.funcs[f]? = some fn) (hname : (fn.name == "runtime.NumGoroutine") = false) (hb : fn.body = some c)
 {n:Nat} {rs:List ResultVar} (hnt:fn.ntmps=n) (hrs:fn.results=⟨rs⟩) {T:TypeId} {bs:List (List CD)} {args:List VD} {R:RR->Prop} (hn:args.length+1<=n)
 (h:∀ w0 base b u i h,0<=i->i<=(bs.length:Int)->Rd w0 false base u (.s bs)->bS ⟨P,Ty,w0,⟨base,base,false,λ_=>True⟩⟩ c (ns ⟨P,Ty,w0,⟨base,base,false,λ_=>True⟩⟩ T b u bs.length rs R)
  { n:=n,kb:=0,t:=(0,.p 0 b 0)::eo 1 args,h:=[(0,.vars b T (en u bs.length i h))] }):D0 P T bs f args R:=by
 subst hnt;have hrs':fn.results.toList=rs:=by rw [hrs]
 subst hrs';refine ⟨⟨fn,hf,hname,by rw [hb];rfl⟩,λw b u i hh xs hi0 hi1 hcell hu hs hx0 hx=>calls_of_wp hf hb ?_⟩
 let F:Nat->Prop:=λc=>c<w.heap.size/\c≠b
 let bs0:Bs:=⟨F,F,false,λ_=>True⟩
 have hE:EOk ⟨P,Ty,w,bs0⟩:=⟨hT,λw' hb=>trivial⟩;have hget:∀ k,AH.get [(0,.vars b T (en u bs.length i hh))] k=if k=0 then .vars b T (en u bs.length i hh) else .dead:=λk=>by rw [an];rfl
 have hblk:∀ k c,(AH.get [(0,.vars b T (en u bs.length i hh))] k).blk=some c->k=0/\c=b:=by
  intro k c hk;rw [hget] at hk
  split at hk
  ·rename_i h0;simp [AObj.blk] at hk;exact ⟨h0,hk.symm⟩
  ·simp [AObj.blk] at hk
 have hM:∀ c,AH.M [(0,.vars b T (en u bs.length i hh))] c->c=b:=λc ⟨k,hk⟩=>(hblk k c hk).2
 obtain ⟨ua,uc,hlen⟩:=hu.slice_len
 have hR:Rep w bs0 { n:=fn.ntmps,kb:=0,t:=(0,.p 0 b 0)::eo 1 args,h:=[(0,.vars b T (en u bs.length i hh))] } { tmps:=xs++Array.replicate (fn.ntmps - xs.size) undef,defers:=[] } w:=by
  refine ⟨rfl,by simp;omega,λq=>?_,⟨λ_ _=>False,λk=>?_,λk k' c hk hk'=>(hblk k c hk).1.trans (hblk k' c hk').1.symm,λk c hk=>?_,λk c hc=>hc.elim,λk k' c hc=>hc.elim,λk c hc=>hc.elim⟩,BelowF.refl _ _,λc hc=>hc.elim (λh=>h.1) (λh=>h.1)⟩
  ·show VRel w _ (al ((0,.p 0 b 0)::eo 1 args) q) _
   have e:∀ q,q<xs.size->(xs++Array.replicate (fn.ntmps - xs.size) undef).getD q undef=xs.getD q undef:=λq hq=>by
    simp only [Array.getD_eq_getD_getElem?];rw [Array.getElem?_append_left hq]
   unfold al
   split
   ·rename_i h0
    subst h0;rw [e 0 (by omega),hx0];exact .p _ _ _
   ·rename_i h0
    rw [fq]
    split
    ·split
     ·rename_i v hv
      have hlt:q - 1<args.length:=(List.getElem?_eq_some_iff.1 hv).1;rw [e q (by omega)];have:=hx (q - 1) v hv;rw [show q - 1+1=q by omega] at this;refine hJ.rel ?_;have mono:∀ v d,Rd w false (λc=>c≠b) v d->Rd w false (λc=>¬ AH.M [(0,.vars b T (en u bs.length i hh))] c) v d:=λv d h=>h.map (λ_ _ _=>rfl) (λc hc _ hm=>hc (hM c hm))
      cases v with
      |c d=>exact mono _ _ this
      | agg ds =>
        obtain ⟨ys,h1,h2,h3⟩:=this;exact ⟨ys,h1,h2,λj d hd=>mono _ _ (h3 j d hd)⟩
     ·exact .any _
    ·exact .any _
  ·rw [hget]
   split
   ·refine ⟨_,hcell,rfl,λj av hj=>?_⟩
    match j,hj with
    |0,hj=>cases hj;exact .cv _ _ ⟨ua,uc,hlen⟩
    |1,hj=>cases hj;exact .v _ rfl
    |2,hj=>cases hj;exact .v _ rfl
    |j+3,hj=>cases hj
   ·trivial
  ·obtain ⟨-,rfl⟩:=hblk k c hk
   exact ⟨λh=>h.2 rfl,λh=>h.2 rfl⟩
 have hu0:Rd w false F u (.s bs):=hu.map (λ_ _ _=>rfl) (λc hc hl=>⟨hl,hc⟩);refine wp_mono (aJ hE c _ _ _ w hR (h w F b u i hh hi0 hi1 hu0)) ?_
 rintro e a' w' ⟨st',hq,hR'⟩
 have key:bu ⟨P,Ty,w,bs0⟩ st' fn.results.toList (vf T b u bs.length st'.h R) -> a'.defers=[] /\ ∃ v,(results fn a'.tmps).run P w'=.ok v w' /\ ∃ (v':Value) (rr:RR) (i' h':Int),Ending.returned v=.returned v' /\ R rr /\ 0 <= i' /\ i' <= bs.length /\ w'.heap[b]? = some (.cells #[u,.int .i64 i',.int .i64 h'] T (0,0)) /\
  BelowF (λc=>c<w.heap.size/\c≠b) w w'/\pa w' (λc=>w.heap.size<=c/\c<w'.heap.size) v' rr:=by
  intro hq;obtain ⟨vs,l,h1,h2,h3,rr,hRR,h4⟩:=bJ hE hR' fn.results.toList hq;obtain ⟨Es,hH⟩:=hR'.heap;refine ⟨hR'.dfr,if vs.length=1 then vs.getD 0 undef else .tuple vs.toArray,?_,?_⟩
  ·have h1':(fn.results.toList.mapM (dg a'.tmps)).run P w'=.ok vs w':=h1
   rw [c7,Array.mapM_eq_mapM_toList];simp only [Sem.run_bind,Sem.run_map,h1',Result.andThen_ok,Sem.run_pure]
   cases vs with
   |nil=>simp
   |cons v vs=>cases vs<;>simp
  ·have low:∀ {h' E' S},Outs bs0 st'.h w' Es h' E' S->np T b u bs.length h'->∀ c,S c->w.heap.size<=c/\c<w'.heap.size:=by
    rintro h' E' S O ⟨i',h2,hg,-⟩ c hc
    obtain ⟨g1,g2,g3⟩:=O.own c hc;have hcb:c≠b:=λhe=>g3 ⟨0,by rw [hg,he];rfl⟩
    rcases g1 with ⟨k,hk⟩|⟨k,hk⟩
    ·exact ⟨Nat.le_of_not_lt (λhlt=>(hH.elow k c hk).1 ⟨hlt,hcb⟩),(hH.elow k c hk).2⟩
    ·exact ⟨Nat.le_of_not_lt (λhlt=>(hH.low k c hk).1 ⟨hlt,hcb⟩),hH.lt hk⟩
   have cell:∀ {h' E' S},Outs bs0 st'.h w' Es h' E' S->np T b u bs.length h'->∃ (i' h':Int),0<=i'/\i'<=(bs.length:Int)/\w'.heap[b]? = some (.cells #[u,.int .i64 i',.int .i64 h'] T (0,0)):=by
    rintro h' E' S O ⟨i',h2,hg,k1,k2⟩
    have ho:=O.rel.obj 0;rw [hg] at ho;obtain ⟨cs,g1,g2,g3⟩:=ho;refine ⟨i',h2,k1,k2,?_⟩;rw [g1];have c0:=g3 0 _ rfl;have c1:=g3 1 _ rfl;have c2:=g3 2 _ rfl;have hs3:cs.size=3:=g2;have e0:cs.getD 0 undef=u:=by generalize cs.getD 0 undef=y at c0;cases c0;rfl
    have e1:cs.getD 1 undef=.int .i64 i':=by generalize cs.getD 1 undef=y at c1;cases c1;rfl
    have e2:cs.getD 2 undef=.int .i64 h2:=by generalize cs.getD 2 undef=y at c2;cases c2;rfl
    have:cs = #[u,.int .i64 i',.int .i64 h2]:=by
     refine Array.ext (by simp [hs3]) (λj h1 h2'=>?_);simp only [Array.getD_eq_getD_getElem?] at e0 e1 e2;rcases j with _|_|_|j
     ·rw [Array.getElem?_eq_getElem h1] at e0;exact e0
     ·rw [Array.getElem?_eq_getElem h1] at e1;exact e1
     ·rw [Array.getElem?_eq_getElem h1] at e2;exact e2
     ·omega
    rw [this]
   have hbel:BelowF (λc=>c<w.heap.size/\c≠b) w w':=hR'.below
   cases rr with
   | one r =>
     simp only at h4
     split at h4
     ·rename_i x
      obtain ⟨h',E',S,hk,hr,O⟩:=d5 hH (h3 0 x rfl) h4;obtain ⟨i',h'',g1,g2,g3⟩:=cell O hk;refine ⟨_,.one r,i',h'',rfl,hRR,g1,g2,g3,hbel,?_⟩;rw [if_pos (by simpa using h2)];exact fM.mono hr (λc hc=>low O hk c hc)
     ·exact h4.elim
   | tup rs =>
     obtain ⟨hne,h4⟩:=h4;obtain ⟨h',E',S,G,hk,hl,hF,hd,hr,O⟩:=dx l rs hH h3 h4;obtain ⟨i',h'',g1,g2,g3⟩:=cell O hk;refine ⟨_,.tup rs,i',h'',rfl,hRR,g1,g2,g3,hbel,?_⟩;rw [if_neg (by omega)];exact ⟨vs.toArray,G,rfl,by simp;omega,λj c hc=>low O hk c (hF j c hc),hd,λj t hj=>by simpa using hr j t hj⟩
 cases e with
 |normal=>exact key hq
 |ret=>exact key hq
 |_=>exact hq.elim
theorem kN {base:Bs} {h:AH} {w:World} {E:Nat->Nat->Prop} (H:HRel base h w E) {S:Nat->Prop} (hS:∀ c,¬ h.M c->S c) (hSr:∀ k b o C sz rows own,h.get k=.rows (some (b,o,C)) sz rows own->S b)
 {x:AV} {u:Value} {R:Value->CD->Prop} (hR:∀ u d,R u d->Rd w false S u d) (hv:VRel w h.M x u) {d:CD} (hk:aIn R h x d):Rd w false S u d:=by
 unfold aIn at hk
 split at hk
 ·cases hv;exact hR _ _ hk
 ·rename_i k Hd sz len
  split at hk
  ·rename_i H' sz' rows own hget
   obtain ⟨rfl,rfl,rfl,rfl⟩:=hk
   cases hv with
   | ml _ _ _ _ _ hx =>
     rcases hx with ⟨hp,hx⟩|⟨h0,-,a,c,rfl⟩
     ·have ho:=H.obj k
      rw [hget] at ho
      cases Hd with
      | none =>
        obtain ⟨⟨a,rfl⟩,h0⟩:=hx;rw [List.eq_nil_of_length_eq_zero h0];exact .empty _ _ (by intro h;cases h)
      | some q =>
        obtain ⟨b,o,C⟩:=q;obtain ⟨S0,hrd,hS0⟩:=cJ ho ⟨k,by rw [hget];rfl⟩ hx (show 0+rows.length<=rows.length by omega);have:=hrd.weaken.map (S':=S) (λ_ _ _=>rfl) (λc hc _=>(hS0 c hc).elim (λe=>e ▸ hSr _ _ _ _ _ _ _ hget) (λh=>hS c h.2))
        simpa [cf] using this
     ·rw [List.eq_nil_of_length_eq_zero h0]
      exact .empty _ _ (by intro h;cases h)
  ·exact hk.elim
 ·subst hk;cases hv with|v u hp=>exact .plain hp
 ·subst hk;cases hv;exact .empty _ _ (by intro h;cases h)
 ·subst hk;cases hv with|ro rows x hr=>exact hr.map (λ_ _ _=>rfl) (λc hc _=>hS c hc)
 ·rename_i k Hd sz off len
  split at hk
  ·rename_i H' sz' rows own hget
   obtain ⟨rfl,rfl,hlen,rfl⟩:=hk
   cases hv with
   | sl _ _ _ _ _ _ hx =>
     have ho:=H.obj k;rw [hget] at ho
     cases Hd with
     | none =>
       obtain ⟨⟨a,rfl⟩,rfl⟩:=hx;rw [show rows=[] from ho,show cut ([]:List (List CD)) off 0=[] from by simp [cf]];exact .empty _ _ (by intro h;cases h)
     | some q =>
       obtain ⟨b,o,C⟩:=q;obtain ⟨S0,hrd,hS0⟩:=cJ ho ⟨k,by rw [hget];rfl⟩ hx hlen;exact hrd.weaken.map (λ_ _ _=>rfl) (λc hc _=>(hS0 c hc).elim (λe=>e ▸ hSr _ _ _ _ _ _ _ hget) (λh=>hS c h.2))
  ·rename_i H' sz' rows hget
   obtain ⟨rfl,rfl,rfl,rfl,rfl⟩:=hk
   cases hv with
   | sl _ _ _ _ _ _ hx =>
     have ho:=H.obj k;rw [hget] at ho;exact (ho.2.2 _ hx).map (λ_ _ _=>rfl) (λc hc _=>hS c hc)
  ·exact hk.elim
 ·exact hk.elim
theorem i7 {base:Bs} {h:AH} {w:World} {E:Nat->Nat->Prop} (H:HRel base h w E) {S:Nat->Prop} (hS:∀ c,¬ h.M c->S c) (hSr:∀ k b o C sz rows own,h.get k=.rows (some (b,o,C)) sz rows own->S b)
 {R:Value->CD->Prop} (hR:∀ u d,R u d->Rd w false S u d):∀ (l:List AV) (ds:List CD) {us:Nat->Value} (_:∀ i av,l[i]? = some av->VRel w h.M av (us i)) (_:ln R h l ds),
 l.length=ds.length/\∀ i d,ds[i]? = some d->Rd w false S (us i) d
 | [],[],us,hv,hk=>⟨rfl,λi d hd=>by simp at hd⟩
 | a :: l, d :: ds, us, hv, hk => by
   obtain ⟨h1,h2⟩:=i7 H hS hSr hR l ds (us:=λi=>us (i+1)) (λi av hi=>hv (i+1) av (by simpa using hi)) hk.2;refine ⟨by simp [h1],λi d' hd=>?_⟩
   cases i with
   |zero=>simp at hd;subst hd;exact kN H hS hSr hR (hv 0 a rfl) hk.1
   |succ i=>exact h2 i d' (by simpa using hd)
 | [],_::_,us,hv,hk=>hk.elim
 |_::_,[],us,hv,hk=>hk.elim
theorem sf {E:Env} {T:TypeId} {b:Nat} {u:Value} {n:Nat} {rs:List ResultVar} {R:RR->Prop} {st:ASt}:ns E T b u n rs R .normal st=bu E st rs (vf T b u n st.h R):=(rfl)
theorem se {E:Env} {T:TypeId} {b:Nat} {u:Value} {n:Nat} {rs:List ResultVar} {R:RR->Prop} {st:ASt}:ns E T b u n rs R .ret st=bu E st rs (vf T b u n st.h R):=(rfl)
attribute [simp ↓] sf se
attribute [simp] en
end Go.AM
