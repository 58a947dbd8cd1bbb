import Derived.Test.YthckkpphnmmfdaaGreatDoorPA
import Derived.Test.YthckkpphnmmfdaaGreatDoorNA
import Derived.Test.YthckkpphnmmfdaaGreatDoorMF
import Derived.Lib.AppendZerosOnto
import Derived.Lib.Overlaps
import Derived.Laws.IdiomCopy
import Derived.Laws.Externs
import Derived.Test.YthckkpphnmmfdaaGreatDoorMH
import Derived.Shelf.RegionOpenPlain
import Derived.Test.YthckkpphnmmfdaaGreatDoorMG
namespace Go.Proofs.YthckkpphnmmfdaaGreatDoor
set_option maxRecDepth 20000
inductive At where
 |k
 |p (c:Int)
 |d
def ats (p:Part):List At:=if p.kind=2 then p.signs.map At.p else if p.kind=3 then List.replicate (psz p) .d else List.replicate (psz p) .k
def aH:List Part->List At
 | []=>[]
 |p::l=>ats p++aH l
theorem cq:∀ (a b:List Part),aH (a++b)=aH a++aH b
 | [],b=>rfl
 |p::a,b=>by simp [aH,cq a b]
def frA:List At->Nat
 | []=>0
 | .p _::l=>frA l
 |_::l=>frA l+1
def toA:List At->Nat
 | []=>0
 | .d::l=>toA l
 |_::l=>toA l+1
theorem cE:∀ (a b:List At),frA (a++b)=frA a+frA b
 | [],b=>by simp [frA]
 | .p c::a,b=>by simp [frA,cE a b]
 | .k::a,b=>by simp [frA,cE a b];omega
 | .d::a,b=>by simp [frA,cE a b];omega
theorem b9:∀ (a b:List At),toA (a++b)=toA a+toA b
 | [],b=>by simp [toA]
 | .d::a,b=>by simp [toA,b9 a b]
 | .k::a,b=>by simp [toA,b9 a b];omega
 | .p c::a,b=>by simp [toA,b9 a b];omega
theorem kC:∀ l:List Int,frA (l.map At.p)=0
 | []=>rfl
 |c::l=>by simp [frA,kC l]
theorem gU:∀ l:List Int,toA (l.map At.p)=l.length
 | []=>rfl
 |c::l=>by simp [toA,gU l]
theorem rY:∀ n:Nat,frA (List.replicate n At.k)=n
 |0=>rfl
 |n+1=>by simp [List.replicate_succ,frA,rY n]
theorem kD:∀ n:Nat,frA (List.replicate n At.d)=n
 |0=>rfl
 |n+1=>by simp [List.replicate_succ,frA,kD n]
theorem mz:∀ n:Nat,toA (List.replicate n At.k)=n
 |0=>rfl
 |n+1=>by simp [List.replicate_succ,toA,mz n]
theorem gV:∀ n:Nat,toA (List.replicate n At.d)=0
 |0=>rfl
 |n+1=>by simp [List.replicate_succ,toA,gV n]
theorem tn {p:Part} (h:aq p) (k:p.kind=2):psz p=p.signs.length:=by
 rw [cX k] at h;unfold psz;omega
theorem xN {p:Part}:frA (ats p)=if p.kind=2 then 0 else psz p:=by
 unfold ats
 split
 ·exact kC _
 ·split
  ·exact kD _
  ·exact rY _
theorem xM {p:Part} (h:aq p):toA (ats p)=if p.kind=3 then 0 else psz p:=by
 unfold ats;by_cases k:p.kind=2
 ·have:¬ p.kind=3:=by omega
  rw [if_pos k,if_neg this,gU,tn h k]
 ·rw [if_neg k]
  split
  ·exact gV _
  ·exact mz _
theorem m7:∀ (o:List Part),frs o=frA (aH o)
 | []=>rfl
 |p::o=>by simp only [frs,aH,cE,xN,m7 o]
theorem p3:∀ {o:List Part},(∀ p∈o,aq p)->tos o=toA (aH o)
 | [],_=>rfl
 | p :: o, h => by
   simp only [tos,aH,b9,xM (h p (List.mem_cons_self ..)),p3 (λq hq=>h q (List.mem_cons_of_mem _ hq))]
def nA:List Int->Nat->List At->List At
 |P,n,[]=>P.map At.p++List.replicate n .d
 |P,n,.k::l=>P.map At.p++(List.replicate n .d ++ .k::nA [] 0 l)
 |P,n,.p c::l=>nA (P++[c]) n l
 |P,n,.d::l=>nA P (n+1) l
def fe (l:List At):List At:=nA [] 0 l
theorem n9:∀ (l:List At) (P:List Int) (n:Nat),frA (nA P n l)=n+frA l
 | [],P,n=>by simp [nA,frA,cE,kC,kD]
 | .k::l,P,n=>by simp [nA,frA,cE,kC,kD,n9 l]
 | .p c::l,P,n=>by simp [nA,frA,n9 l]
 | .d::l,P,n=>by simp [nA,frA,n9 l];omega
theorem nZ:∀ (l:List At) (P:List Int) (n:Nat),toA (nA P n l)=P.length+toA l
 | [],P,n=>by simp [nA,toA,b9,gU,gV]
 | .k::l,P,n=>by simp [nA,toA,b9,gU,gV,nZ l]
 | .p c::l,P,n=>by simp [nA,toA,nZ l];omega
 | .d::l,P,n=>by simp [nA,toA,nZ l]
theorem n7:∀ (Q P:List Int) (n:Nat) (l:List At),nA P n (Q.map At.p++l)=nA (P++Q) n l
 | [],P,n,l=>by simp
 |c::Q,P,n,l=>by simp [nA,n7 Q]
theorem oa:∀ (m:Nat) (P:List Int) (n:Nat) (l:List At),nA P n (List.replicate m .d++l)=nA P (n+m) l
 |0,P,n,l=>by simp
 |m+1,P,n,l=>by simp [List.replicate_succ,nA,oa m];congr 1;omega
theorem uX:∀ (m:Nat) (l:List At),nA [] 0 (List.replicate m .k++l)=List.replicate m .k++nA [] 0 l
 |0,l=>by simp
 |m+1,l=>by simp [List.replicate_succ,nA,uX m]
def bA (s:List Part×List Int×Int):List At:=aH s.1++(s.2.1.map At.p++List.replicate s.2.2.toNat .d)
theorem lZ {L:List Part} {P:List Int} {D:Int}:aH (ao L P D)=bA (L,P,D):=by
 unfold ao bA;rw [cq,cq]
 congr 1
 congr 1
 ·split
  ·rename_i h;simp [h,aH]
  ·simp [aH,ats]
 ·split
  ·simp [aH,ats,psz]
  ·have:D.toNat=0:=by omega
   simp [aH,this]
theorem es:∀ (L:List Part) (_h:0<L.length) (p:Part),aH (L.set (L.length - 1) p)=aH L.dropLast++ats p
 | [q],h,p=>by simp [aH]
 | q :: r :: L, h, p => by
   have ih:=es (r::L) (by simp) p;simp only [List.length_cons,Nat.add_sub_cancel] at ih ⊢;rw [List.set_cons_succ,aH,ih];simp [aH]
theorem iC:∀ (L:List Part) (h:0<L.length),aH L=aH L.dropLast++ats (L[L.length - 1]'(by omega))
 | [q],h=>by simp [aH]
 | q :: r :: L, h => by
   have ih:=iC (r::L) (by simp);simp only [List.length_cons,Nat.add_sub_cancel] at ih ⊢;rw [aH,ih];simp [aH]
theorem tX {L:List Part} {n:Int} (hn:0<n) (hL:∀ q∈L,0<=q.n) (hk:∀ q∈L,q.kind=1->q.signs=[]):aH (aZ L n)=aH L++List.replicate n.toNat .k:=by
 unfold aZ
 split
 ·rename_i h
  split
  ·rename_i k
   have h1:=hL _ (List.getElem_mem (show L.length - 1<L.length by omega));have h2:=hk _ (List.getElem_mem (show L.length - 1<L.length by omega)) k;rw [es L h,iC L h,List.append_assoc]
   congr 1
   generalize L[L.length - 1]'(by omega)=q at h1 h2 k;obtain ⟨a,b,c⟩:=q;simp only at h1 h2 k;subst k h2;simp [ats,psz,List.replicate_append_replicate];omega
  ·rw [cq]
   simp [aH,ats,psz]
 ·rename_i h
  have:L=[]:=List.eq_nil_of_length_eq_zero (by omega);subst this;simp [aH,ats,psz]
theorem gm {L:List Part} {P:List Int} {D:Int} (h:∀ q∈L,q.kind=1->q.signs=[]):∀ q∈ao L P D,q.kind=1->q.signs=[]:=by
 intro q hq hk;unfold ao at hq;rcases List.mem_append.1 hq with hq|hq
 ·exact h q hq hk
 ·rcases List.mem_append.1 hq with hq|hq
  ·split at hq
   ·simp at hq
   ·simp at hq;subst hq;simp at hk
  ·split at hq
   ·simp at hq;subst hq;rfl
   ·simp at hq
theorem mT {L:List Part} {n:Int} (h:∀ q∈L,q.kind=1->q.signs=[]):∀ q∈aZ L n,q.kind=1->q.signs=[]:=by
 intro q hq hk;unfold aZ at hq
 split at hq
 ·rename_i hl
  split at hq
  ·rename_i k
   rcases List.mem_or_eq_of_mem_set hq with hq|rfl
   ·exact h q hq hk
   ·exact (h (L[L.length - 1]'(by omega)) (List.getElem_mem _) k :)
  ·rcases List.mem_append.1 hq with hq|hq
   ·exact h q hq hk
   ·simp at hq;subst hq;rfl
 ·simp at hq;subst hq;rfl
theorem lE {o:List Part} (ho:∀ p ∈ o,aq p):∀ (i:Nat),i <= o.length -> (∀ q ∈ (az (o.take i)).1,q.kind=1 -> q.signs=[]) /\ 0 <= (az (o.take i)).2.2 /\ (∀ q ∈ (az (o.take i)).1,0 <= q.n) /\
 ∀ l,fe (aH (o.take i)++l)=aH (az (o.take i)).1++nA (az (o.take i)).2.1 (az (o.take i)).2.2.toNat l
 |0,_=>by simp [az,aH,fe]
 | i + 1, hi => by
   obtain ⟨h1,h2,h3,h4⟩:=lE ho i (by omega);have hlt:i<o.length:=by omega
   have hq:=(ff ho (i+1) hi);have hp:=(ho _ (List.getElem_mem hlt));have hb:=hp.bounds;refine ⟨?_,hq.d0,λq hq'=>(hq.q q hq').1,λl=>?_⟩
   ·rw [cC hlt]
    unfold bJ
    split
    ·exact h1
    ·split
     ·exact h1
     ·split
      ·exact mT (gm h1)
      ·exact h1
   ·rw [<- List.take_append_getElem hlt,cq,List.append_assoc,h4,List.take_append_getElem hlt,cC hlt]
    generalize az (o.take i)=s at h1 h2 h3;generalize o[i]=p at hp hb;obtain ⟨L,P,D⟩:=s;simp only at h1 h2 h3;simp only [aH,List.append_nil];unfold bJ;by_cases k2:p.kind=2
    ·simp only [k2,if_true]
     rw [show ats p=p.signs.map At.p by unfold ats;rw [if_pos k2],n7]
    ·by_cases k3:p.kind=3
     ·have hs:=hb.2.2.2.2.2 k2
      have e:(D+p.n).toNat=D.toNat+p.n.toNat:=by omega
      simp only [k3,if_true];rw [show ats p=List.replicate (psz p) .d by unfold ats;rw [if_neg k2,if_pos k3],oa];simp [e,psz,hs]
     ·have k1:p.kind=1:=by omega
      have hs:=hb.2.2.2.2.2 k2;have e:ats p=List.replicate p.n.toNat .k:=by unfold ats;rw [if_neg k2,if_neg k3];simp [psz,hs]
      simp only [k2,k3,if_false];rw [e]
      split
      ·rename_i hn
       have hfl:∀ q∈ao L P D,0<=q.n:=by
        intro q hq';unfold ao at hq';rcases List.mem_append.1 hq' with hq' | hq'
        ·exact h3 q hq'
        ·rcases List.mem_append.1 hq' with hq' | hq'
         ·split at hq'
          ·simp at hq'
          ·simp at hq';subst hq';simp
         ·split at hq'
          ·simp at hq';subst hq';simp;omega
          ·simp at hq'
       simp only;rw [tX hn hfl (gm h1),lZ];obtain ⟨m,hm⟩:∃ m,p.n.toNat=m+1:=⟨p.n.toNat - 1,by omega⟩;rw [hm];simp [bA,List.replicate_succ,nA,uX,List.append_assoc]
      ·have:p.n.toNat=0:=by omega
       simp [this]
theorem eB {o:List Part} (ho:∀ p∈o,aq p):aH (normal o)=fe (aH o):=by
 have h:=(lE ho o.length (Nat.le_refl _)).2.2.2 [];rw [List.take_length,List.append_nil] at h;unfold normal;rw [lZ,h];unfold bA;simp [nA]
theorem rj (l:List At):frA (fe l)=frA l:=by unfold fe;rw [n9];omega
theorem ri (l:List At):toA (fe l)=toA l:=by unfold fe;rw [nZ];simp
open Go.AM
structure Shp (q:Part):Prop where
 k:q.kind=1\/q.kind=2\/q.kind=3
 n:0<=q.n
 put:q.kind=2->q.n=0/\bn q.signs
 run:q.kind≠2->q.signs=[]
 pos:0<psz q
theorem jq {L:List Part} {P:List Int} {D:Int} (hL:∀ q∈L,Shp q) (hP:bn P):∀ q∈ao L P D,Shp q:=by
 intro q hq;unfold ao at hq;rcases List.mem_append.1 hq with hq|hq
 ·exact hL q hq
 ·rcases List.mem_append.1 hq with hq|hq
  ·split at hq
   ·simp at hq
   ·rename_i h
    simp at hq;subst hq;have:0<P.length:=List.length_pos_iff.2 h;exact ⟨.inr (.inl rfl),by simp,λ_=>⟨rfl,hP⟩,λh=>absurd rfl h,by simpa [psz] using this⟩
  ·split at hq
   ·rename_i h
    simp at hq;subst hq;exact ⟨.inr (.inr rfl),by simp only;omega,λh=>by simp at h,λ_=>rfl,by simp [psz];omega⟩
   ·simp at hq
theorem qO {L:List Part} {n:Int} (hL:∀ q∈L,Shp q) (hn:0<n):∀ q∈aZ L n,Shp q:=by
 intro q hq;have one:Shp ⟨1,n,[]⟩:=⟨.inl rfl,by simp only;omega,λh=>by simp at h,λ_=>rfl,by simp [psz];omega⟩;unfold aZ at hq
 split at hq
 ·rename_i hl
  split at hq
  ·rename_i k
   rcases List.mem_or_eq_of_mem_set hq with hq|rfl
   ·exact hL q hq
   ·have h:=hL (L[L.length - 1]'(by omega)) (List.getElem_mem _)
    have h1:=h.n;have h2:=h.run (by omega);exact ⟨.inl rfl,by simp only;omega,λh=>by simp at h,λ_=>h2,by simp [psz];omega⟩
  ·rcases List.mem_append.1 hq with hq|hq
   ·exact hL q hq
   ·simp at hq;subst hq;exact one
 ·simp at hq;subst hq;exact one
theorem jB {o:List Part} (ho:∀ p∈o,aq p):∀ (i:Nat),i<=o.length->(∀ q∈(az (o.take i)).1,Shp q)/\bn (az (o.take i)).2.1
 |0,_=>by simp [az,bn]
 | i + 1, hi => by
   obtain ⟨h1,h2⟩:=jB ho i (by omega);have hlt:i<o.length:=by omega
   have hp:=ho _ (List.getElem_mem hlt);rw [cC hlt];generalize az (o.take i)=s at h1 h2;generalize o[i]=p at hp;obtain ⟨L,P,D⟩:=s;simp only at h1 h2;unfold bJ
   split
   ·rename_i k
    rw [cX k] at hp;refine ⟨h1,λn hn=>?_⟩;rcases List.mem_append.1 hn with hn|hn
    ·exact h2 n hn
    ·exact hp.2.2 n hn
   ·split
    ·exact ⟨h1,h2⟩
    ·split
     ·rename_i hn
      exact ⟨qO (jq h1 h2) hn,by simp [bn]⟩
     ·exact ⟨h1,h2⟩
theorem eQ {o:List Part} (ho:∀ p∈o,aq p):∀ q∈normal o,Shp q:=by
 have h:=jB ho o.length (Nat.le_refl _);rw [List.take_length] at h;exact jq h.1 h.2
theorem nJ:∀ {L:List Part},(∀ q∈L,Shp q)->tos L=toA (aH L)
 | [],_=>rfl
 | p :: L, h => by
   have hp:=h p (List.mem_cons_self ..);simp only [tos,aH,b9,nJ (λq hq=>h q (List.mem_cons_of_mem _ hq))]
   congr 1
   unfold ats;by_cases k:p.kind=2
   ·have k3:¬ p.kind=3:=by omega
    have:=(hp.put k).1;rw [if_pos k,if_neg k3,gU];simp [psz,this]
   ·rw [if_neg k]
    split
    ·exact (gV _).symm
    ·exact (mz _).symm
theorem uj {L:List Part} {q:Part} (h:q∈L) (k:q.kind≠2):psz q<=frs L:=by
 induction L with
 |nil=>simp at h
 | cons p L ih =>
   simp only [frs];rcases List.mem_cons.1 h with rfl|h
   ·rw [if_neg k];omega
   ·have:=ih h;omega
theorem s7 {L:List Part} {q:Part} (h:q∈L) (k:q.kind≠3):psz q<=tos L:=by
 induction L with
 |nil=>simp at h
 | cons p L ih =>
   simp only [tos];rcases List.mem_cons.1 h with rfl|h
   ·rw [if_neg k];omega
   ·have:=ih h;omega
theorem nI:∀ {L:List Part},(∀ q∈L,Shp q)->L.length<=tsz L
 | [],_=>by simp [tsz]
 | p :: L, h => by
   have:=nI (λq hq=>h q (List.mem_cons_of_mem _ hq));have:=(h p (List.mem_cons_self ..)).pos;simp only [tsz,List.length_cons];omega
theorem wv {L:List Part} (h:∀ q∈L,Shp q) (h1:frs L<=200) (h2:tos L<=200):aT L:=by
 have hl:=nI h;have ht:=p0 L;refine ⟨λq hq=>?_,by omega⟩;have hs:=h q hq;have hn:=hs.n;by_cases k:q.kind=2
 ·have h3:=s7 hq (by omega)
  have h4:=hs.put k;exact .inr ⟨k,h4.1,by unfold psz at h3;omega,h4.2⟩
 ·have h3:=uj hq k
  have h4:=hs.run k;have hk:=hs.k;exact .inl ⟨by omega,⟨hn,by unfold psz at h3;omega⟩,h4⟩
theorem mG {o:List Part} (h:aT o):(frs o:Int)=cb o:=by
 rw [kB h.1,ca (λp hp=>xJ (h.1 p hp)),cU];unfold cb aK;rw [if_pos h]
theorem q6 {o:List Part} (h:aT o):(tos o:Int)=gC o:=by
 rw [jX h.1,ca (λp hp=>xI (h.1 p hp)),cU];unfold gC aK;rw [if_pos h]
theorem jA {o:List Part} (h:cg o):cg (normal o)/\cb (normal o)=cb o/\gC (normal o)=gC o:=by
 have hs:=eQ h.1.1;have e1:frs (normal o)=frs o:=by rw [m7,eB h.1.1,rj,<- m7]
 have e2:tos (normal o)=tos o:=by rw [nJ hs,eB h.1.1,ri,<- p3 h.1.1]
 have f:=rX h;have t:=vH h;have hp:=wv hs (by have:=h.2.1;omega) (by have:=h.2.2;omega);have f2:=mG hp;have t2:=q6 hp;have:=h.2;exact ⟨⟨hp,by omega,by omega⟩,by omega,by omega⟩
set_option maxHeartbeats 1600000
end Go.Proofs.YthckkpphnmmfdaaGreatDoor
namespace Go.AM
open Go.RowKit
structure Placed (w w':World) (ob:Option Nat) (nb no nC n sz:Nat) (us:List Value):Prop where
 at_:∃ cs T,w'.heap[nb]? = some (.cells cs T (0,0))/\no+nC*sz<=cs.size/\∀ j,j<n*sz->cs.getD (no+j) undef=us.getD j undef
 le:n<=nC
 cap:nC<=maxLen
 size:w.heap.size<=w'.heap.size
 same:Same w w'
 blk:w.heap.size<=nb\/ob=some nb
 frame:∀ c,c<w.heap.size->c≠nb->w'.heap[c]? = w.heap[c]?
theorem Rep.place {w0:World} {base:Bs} {st:ASt} {a:Act} {w w':World} (hR:Rep w0 base st a w) {h':AH} {E':Nat->Nat->Prop} (H':HRel base h' w E') (tr:Tr st.h.M w h'.M w) {k:Nat} {ob:Option Nat} (hob:(h'.get k).blk=ob)
 {nb no nC sz:Nat} {us:List Value} {rows:List (List CD)} (own:Bool) (hp:Placed w w' ob nb no nC rows.length sz us) (hsz:0<sz) (hrl:∀ row∈rows,row.length=sz) (F:Nat->Nat->Nat->Prop)
 (hr:∀ i j row d,rows[i]? = some row->row[j]? = some d->Rd w own (F i j) (us.getD (i*sz+j) undef) d) (hF:∀ i j c,F i j c->¬ h'.M c)
 (hown:own=true->∀ i j c,F i j c->¬ base.G c/\∀ q,q≠k->¬ E' q c) (hinj:own=true->∀ i j i' j' c,F i j c->F i' j' c->i=i'/\j=j') :
 Moved w0 base st a w ((k,.rows (some (nb,no,nC)) sz rows own)::h') w':=by
 obtain ⟨cs,T,hb,hfit,hcs⟩:=hp.at_
 have hnb:∀ c,c<w.heap.size->c=nb->(h'.get k).blk=some c:=by
  intro c hc e;subst e;rcases hp.blk with h|h
  ·omega
  ·rw [hob];exact h
 have hfr:∀ c,c<w.heap.size->(¬ h'.M c\/∃ j,j≠k/\(h'.get j).blk=some c)->w'.heap[c]? = w.heap[c]?:=by
  intro c hc h;refine hp.frame c hc (λe=>?_);have hk:=hnb c hc e;rcases h with h|⟨j,hne,hj⟩
  ·exact h ⟨k,hk⟩
  ·exact hne (H'.inj _ _ _ hj hk)
 have t:Tr h'.M w (AH.M ((k,.rows (some (nb,no,nC)) sz rows own)::h')) w':=Tr.upd H' hp.size (λc hc hM=>hfr c hc (.inl hM)) (λc hc=>by
  simp [AObj.blk] at hc;subst hc;rcases hp.blk with h|h
  ·exact .inl h
  ·exact .inr (by rw [hob];exact h))
 have lt:∀ i j,i<rows.length->j<sz->i*sz+j<rows.length*sz:=by
  intro i j hi hj;have:=Nat.mul_le_mul_right sz (show i+1<=rows.length by omega);have e:(i+1)*sz=i*sz+sz:=Nat.succ_mul i sz;omega
 refine (hR.move H' tr ⟨rfl,rfl,rfl⟩).move (H'.upd (Ek:=λc=>own=true/\c<w.heap.size/\∃ i j,F i j c) hp.size hfr (λc hc=>?_)
  ⟨cs,T,λi j c=>c<w.heap.size/\F i j c,hb,hp.le,hp.cap,hsz,hfit,hrl,?_,?_,?_⟩ ?_) t hp.same
 ·simp [AObj.blk] at hc
  subst hc;rcases hp.blk with h|h
  ·exact ⟨hR.newer h,.inl h⟩
  ·have hk:(h'.get k).blk=some nb:=by rw [hob];exact h
   exact ⟨H'.low k _ hk,.inr hk⟩
 ·rintro i j c ⟨hlt,hc⟩
  exact ⟨λho=>⟨ho,hlt,i,j,hc⟩,λhM=>hF i j c hc (t.mono c hlt hM)⟩
 ·rintro ho i j i' j' c ⟨-,hc⟩ ⟨-,hc'⟩
  exact hinj ho i j i' j' c hc hc'
 ·intro i j row d hi hj
  have h1:i<rows.length:=(List.getElem?_eq_some_iff.1 hi).1;have h2:j<sz:=by rw [<- hrl _ (List.mem_of_getElem? hi)];exact (List.getElem?_eq_some_iff.1 hj).1
  rw [hcs _ (lt i j h1 h2)];exact (hr i j row d hi hj).map (λc hc hl=>hfr c hl (.inl (hF i j c hc))) (λc hc hl=>⟨hl,hc⟩)
 ·rintro c ⟨ho,hlt,i,j,hc⟩
  obtain ⟨h1,h2⟩:=hown ho i j c hc;exact ⟨h1,Nat.lt_of_lt_of_le hlt hp.size,h2,λhM=>hF i j c hc (t.mono c hlt hM)⟩
end Go.AM
namespace Go.Proofs.YthckkpphnmmfdaaGreatDoor
open Go.AM Go.RowKit
set_option maxRecDepth 100000
set_option maxHeartbeats 4000000
set_option linter.unusedVariables false
set_option linter.unusedSimpArgs false
open Go.AM
set_option maxRecDepth 20000
set_option maxHeartbeats 3200000
def ag (k:Int):Prop:=1<=k/\k<=5
def aM (c:Call):Prop := (1 <= c.kind /\ c.kind <= 8) /\ c.doc.size <= 8 /\ aT c.o /\ cT c.text /\ (¬ ag c.kind -> c.doc=⟨#[]⟩) /\ (c.kind ≠ 1 -> c.text=[]) /\
 (c.kind≠2->c.o=[]/\c.seq=0)/\(¬ (c.kind=2\/c.kind=6\/c.kind=7)->c.client=0)/\(¬ (c.kind=2\/c.kind=3\/c.kind=5\/c.kind=6)->c.n=0)
open Classical in
noncomputable def ac (c:Call):Call:=⟨c.kind,if ag c.kind then c.doc else ⟨#[]⟩,if c.kind=2\/c.kind=6\/c.kind=7 then c.client else 0,if c.kind=2 then c.seq else 0,
 if c.kind=2\/c.kind=3\/c.kind=5\/c.kind=6 then c.n else 0,if c.kind=2 then c.o else [],if c.kind=1 then c.text else []⟩
theorem l9 {c:Call}:aM c ↔ (1<=c.kind/\c.kind<=8)/\c.doc.size<=8/\aT c.o/\cT c.text/\c=ac c:=by
 obtain ⟨kind,doc,client,seq,n,o,text⟩:=c;unfold aM ac ag;simp only [Call.mk.injEq,true_and]
 constructor
 ·rintro ⟨h1,h2,h3,h4,h5,h6,h7,h8,h9⟩
  refine ⟨h1,h2,h3,h4,?_,?_,?_,?_,?_,?_⟩<;>split<;>simp_all
 ·rintro ⟨h1,h2,h3,h4,h5,h6,h7,h8,h9,h10⟩
  refine ⟨h1,h2,h3,h4,?_,?_,?_,?_,?_⟩
  ·intro h;rw [if_neg h] at h5;exact h5
  ·intro h;rw [if_neg h] at h10;exact h10
  ·intro h;rw [if_neg h] at h7 h9;exact ⟨h9,h7⟩
  ·intro h;rw [if_neg h] at h6;exact h6
  ·intro h;rw [if_neg h] at h8;exact h8
def Answer.zero:Answer:=⟨0,0,[],[]⟩
set_option maxHeartbeats 6400000
theorem aj (k:Int):ak Tryz.prog 43 [.c (vi k)] (.one (.c (vb (ag k)) 1)):=by
 refine pci al Tryz.func43 (λw0 base=>?_);simp;refine aa.pure (bb k 1 5) (by simp) ?_;simp [ag]
theorem df (k:Int):ak Tryz.prog 31 [.c (vi k)] (.one (.c (vb (ag k)) 1)):=by
 refine pci al Tryz.func31 (λw0 base=>?_);simp;refine aa.pure (co k 1 5) (by simp) ?_;simp [ag]
theorem gX (k:Int):ak Tryz.prog 74 [.c (vi k)] (.one (.c (vb (1<=k/\k<=8)) 1)):=by
 refine pci al Tryz.func74 (λw0 base=>?_);simp;refine aa.pure (co k 1 8) (by simp) ?_;simp
theorem ae (a b:Call) (ha:bK a<=2 ^ 40):ak Tryz.prog 84 [.agg a.row,.agg b.row] (.one (.c (vb (a=b)) 1)):=by
 refine pci al Tryz.func84 (λw0 base=>?_);obtain ⟨a0,a1,a2,a3,a4,a5,a6⟩:=a;obtain ⟨c0,c1,c2,c3,c4,c5,c6⟩:=b;unfold bK at ha;simp only at ha;simp [Call.row];intro b1 b2;by_cases h0:a0=c0
 rotate_left
 ·simp [h0]
 subst h0;by_cases h1:a1=c1
 rotate_left
 ·simp [h1]
 subst h1;by_cases h2:a2=c2
 rotate_left
 ·simp [h2]
 subst h2;by_cases h3:a3=c3
 rotate_left
 ·simp [h3]
 subst h3;by_cases h4:a4=c4
 rotate_left
 ·simp [h4]
 subst h4;simp;refine aa.pure (kr a5 c5 (by omega)) (by simp) ?_;by_cases h5:a5=c5
 rotate_left
 ·simp [h5]
 subst h5;simp;refine aa.pure (jp a6 c6 (by omega)) (by simp) ?_;by_cases h6:a6=c6
 ·simp [h6]
 ·simp [h6]
theorem kw (c:Call) (hl:bK c<=2 ^ 36):ak Tryz.prog 41 [.agg c.row] (.one (.c (vb (aM c)) 1)):=by
 refine pci al Tryz.func41 (λw0 base=>?_);have hu:=@l9 c;have hx:∀ p:Prop,(aM c->p)->¬ p->dc (aM c)=false:=λp h1 h2=>aL (λh=>h2 (h1 h))
 have hl0:=hl;unfold bK at hl;simp [Call.row];intro b1;refine drw eok mix [0,1] [2,3,4,5,6,7,8,9,10,11,12,13,14,15,16,17,18,19,20,21,22,23,24,25] (.c 2 2 1 2 (.c 2 3 0 2 (.c 2 4 0 2 (.c 2 5 0 2 (.c 2 6 0 2 (.c 2 7 0 2 (.c 2 8 0 2 (.c 2 9 0 2 (.c 2 10 0 2 (.c 2 11 0 2 (.c 2 12 0 2 (.c 2 13 0 2 (.c 2 14 0 2 (.c 2 15 0 2 (.c 2 16 0 2 (.c 2 17 0 2 (.c 2 18 0 2 (.c 2 19 0 2 (.c 2 20 0 2 (.c 2 21 0 2 (.c 2 22 0 2 (.c 2 23 0 2 (.c 2 24 0 2 (.c 2 25 2 0 (.l 2 0) .s) .s) .s) .s) .s) (.c 2 21 0 2 (.c 2 20 0 2 (.c 2 22 0 2 (.c 2 23 0 2 (.c 2 24 0 2 (.c 2 25 2 0 (.l 2 0) .s) .s) .s) .s) (.c 2 22 0 2 (.c 2 20 0 2 (.c 2 23 0 2 (.c 2 24 0 2 (.c 2 25 2 0 (.l 2 0) .s) .s) .s) .s) .s)) .s)) .s) .s) .s) .s) .s) .s) .s) .s) .s) .s) .s) .s) .s) .s) .s) .s) .s) .s) ?_;simp;refine aa.pure (bb c.kind 1 8) (by simp) ?_;by_cases s1:1<=c.kind/\c.kind<=8
 rotate_left
 ·simp [aL s1]
  rw [Trc];refine ⟨?_,?_⟩
  ·simp [hx _ (λh=>h.1) s1]
  ·simp
   rw [Trc];refine ⟨?_,?_⟩
   ·simp [hx _ (λh=>h.1) s1]
   ·simp [hx _ (λh=>h.1) s1]
 simp [s1];by_cases s2:c.doc.size<=8
 rotate_left
 ·have s2':¬ (c.doc.size:Int)<=8:=by omega
  simp [s2'];rw [Trc];refine ⟨?_,?_⟩
  ·simp [hx _ (λh=>h.2.1) s2]
  ·simp
   rw [Trc];refine ⟨?_,?_⟩
   ·simp [hx _ (λh=>h.2.1) s2]
   ·simp [hx _ (λh=>h.2.1) s2]
 have s2':(c.doc.size:Int)<=8:=by omega
 simp [s2'];refine aa.pure (dv c.o (by omega)) (by simp) ?_;by_cases s3:aT c.o
 rotate_left
 ·simp [aL s3]
  rw [Trc];refine ⟨?_,?_⟩
  ·simp [hx _ (λh=>h.2.2.1) s3]
  ·simp
   rw [Trc];refine ⟨?_,?_⟩
   ·simp [hx _ (λh=>h.2.2.1) s3]
   ·simp [hx _ (λh=>h.2.2.1) s3]
 simp [s3];refine aa.pure (kl c.text (by omega)) (by simp) ?_;by_cases s4:cT c.text
 rotate_left
 ·simp [aL s4]
  rw [Trc];refine ⟨?_,?_⟩
  ·simp [hx _ (λh=>h.2.2.2.1) s4]
  ·simp
   rw [Trc];refine ⟨?_,?_⟩
   ·simp [hx _ (λh=>h.2.2.2.1) s4]
   ·simp [hx _ (λh=>h.2.2.2.1) s4]
 have fin:∀ u,ac c=u->vb (c=u)=vb (aM c):=λu h=>by
  subst h;unfold vb
  congr 3
  apply propext
  exact ⟨λh=>hu.2 ⟨s1,s2,s3,s4,h⟩,λh=>(hu.1 h).2.2.2.2⟩
 simp [s4];rw [Trc];refine ⟨?_,?_⟩
 ·simp
  refine inl al Tryz.func85 20000 (λw1 F=>?_);simp;intro g1 g2 g3;by_cases k1:c.kind=1
  ·have h:ag 1:=by unfold ag;omega
   have hu:ac c=⟨1,c.doc,0,0,0,[],c.text⟩:=by simp [ac,k1,h]
   simp [k1];refine aa.pure (aj 1) (by simp) ?_;simp [h];refine aa.pure (ae c ⟨1,c.doc,0,0,0,[],c.text⟩ (by omega)) (by simp [Call.row,k1]) ?_;rw [fin _ hu];simp
  by_cases k2:c.kind=2
  ·have h:ag 2:=by unfold ag;omega
   have hu:ac c=⟨2,c.doc,c.client,c.seq,c.n,c.o,[]⟩:=by simp [ac,k2,h]
   simp [k2];refine aa.pure (aj 2) (by simp) ?_;simp [h];refine drw eok mix [0,1,2,3,4,5,6,7,8,10,12,14] [9,11,13,15] (.c 12 9 3080 1015 (.c 12 11 772 243 (.c 12 13 194 49 (.c 12 15 49 0 (.l 12 0) .s) .s) .s) .s) ?_;simp
   try intros
   refine aa.pure (ae c ⟨2,c.doc,c.client,c.seq,c.n,c.o,[]⟩ (by omega)) (by simp [Call.row,k2]) ?_;rw [fin _ hu];simp
  by_cases k3:c.kind=3
  ·have h:ag 3:=by unfold ag;omega
   have hu:ac c=⟨3,c.doc,0,0,c.n,[],[]⟩:=by simp [ac,k3,h]
   simp [k3];refine aa.pure (aj 3) (by simp) ?_;simp [h];refine aa.pure (ae c ⟨3,c.doc,0,0,c.n,[],[]⟩ (by omega)) (by simp [Call.row,k3]) ?_;rw [fin _ hu];simp
  by_cases k4:c.kind=4
  ·have h:ag 4:=by unfold ag;omega
   have hu:ac c=⟨4,c.doc,0,0,0,[],[]⟩:=by simp [ac,k4,h]
   simp [k4];refine aa.pure (aj 4) (by simp) ?_;simp [h];refine aa.pure (ae c ⟨4,c.doc,0,0,0,[],[]⟩ (by omega)) (by simp [Call.row,k4]) ?_;rw [fin _ hu];simp
  by_cases k5:c.kind=5
  ·have h:ag 5:=by unfold ag;omega
   have hu:ac c=⟨5,c.doc,0,0,c.n,[],[]⟩:=by simp [ac,k5,h]
   simp [k5];refine aa.pure (aj 5) (by simp) ?_;simp [h];refine aa.pure (ae c ⟨5,c.doc,0,0,c.n,[],[]⟩ (by omega)) (by simp [Call.row,k5]) ?_;rw [fin _ hu];simp
  by_cases k6:c.kind=6
  ·have h:¬ ag 6:=by unfold ag;omega
   have hu:ac c=⟨6,⟨#[]⟩,c.client,0,c.n,[],[]⟩:=by simp [ac,k6,h]
   simp [k6];refine aa.pure (aj 6) (by simp) ?_;simp [aL h];refine drw eok mix [0,1,2,3,4,6] [5,7] (.c 6 5 50 13 (.c 6 7 13 0 (.l 6 0) .s) .s) ?_;simp
   try intros
   refine aa.pure (ae c ⟨6,⟨#[]⟩,c.client,0,c.n,[],[]⟩ (by omega)) (by simp [Call.row,k6]) ?_;rw [fin _ hu];simp
  by_cases k7:c.kind=7
  ·have h:¬ ag 7:=by unfold ag;omega
   have hu:ac c=⟨7,⟨#[]⟩,c.client,0,0,[],[]⟩:=by simp [ac,k7,h]
   simp [k7];refine aa.pure (aj 7) (by simp) ?_;simp [aL h];refine aa.pure (ae c ⟨7,⟨#[]⟩,c.client,0,0,[],[]⟩ (by omega)) (by simp [Call.row,k7]) ?_;rw [fin _ hu];simp
  have k8:c.kind=8:=by omega
  have h:¬ ag 8:=by unfold ag;omega
  have hu:ac c=⟨8,⟨#[]⟩,0,0,0,[],[]⟩:=by simp [ac,k8,h]
  simp [k8];refine aa.pure (aj 8) (by simp) ?_;simp [aL h];refine aa.pure (ae c ⟨8,⟨#[]⟩,0,0,0,[],[]⟩ (by omega)) (by simp [Call.row,k8]) ?_;rw [fin _ hu];simp
 ·simp
  rw [Trc];refine ⟨?_,?_⟩
  ·simp
   refine inl al Tryz.func85 20000 (λw1 F=>?_);simp;intro g1 g2 g3;by_cases k1:c.kind=1
   ·have h:ag 1:=by unfold ag;omega
    have hu:ac c=⟨1,c.doc,0,0,0,[],c.text⟩:=by simp [ac,k1,h]
    simp [k1];refine aa.pure (aj 1) (by simp) ?_;simp [h];refine aa.pure (ae c ⟨1,c.doc,0,0,0,[],c.text⟩ (by omega)) (by simp [Call.row,k1]) ?_;rw [fin _ hu];simp
   by_cases k2:c.kind=2
   ·have h:ag 2:=by unfold ag;omega
    have hu:ac c=⟨2,c.doc,c.client,c.seq,c.n,c.o,[]⟩:=by simp [ac,k2,h]
    simp [k2];refine aa.pure (aj 2) (by simp) ?_;simp [h];refine drw eok mix [0,1,2,3,4,5,6,7,8,10,12,14] [9,11,13,15] (.c 12 9 3080 1015 (.c 12 11 772 243 (.c 12 13 194 49 (.c 12 15 49 0 (.l 12 0) .s) .s) .s) .s) ?_;simp
    try intros
    refine aa.pure (ae c ⟨2,c.doc,c.client,c.seq,c.n,c.o,[]⟩ (by omega)) (by simp [Call.row,k2]) ?_;rw [fin _ hu];simp
   by_cases k3:c.kind=3
   ·have h:ag 3:=by unfold ag;omega
    have hu:ac c=⟨3,c.doc,0,0,c.n,[],[]⟩:=by simp [ac,k3,h]
    simp [k3];refine aa.pure (aj 3) (by simp) ?_;simp [h];refine aa.pure (ae c ⟨3,c.doc,0,0,c.n,[],[]⟩ (by omega)) (by simp [Call.row,k3]) ?_;rw [fin _ hu];simp
   by_cases k4:c.kind=4
   ·have h:ag 4:=by unfold ag;omega
    have hu:ac c=⟨4,c.doc,0,0,0,[],[]⟩:=by simp [ac,k4,h]
    simp [k4];refine aa.pure (aj 4) (by simp) ?_;simp [h];refine aa.pure (ae c ⟨4,c.doc,0,0,0,[],[]⟩ (by omega)) (by simp [Call.row,k4]) ?_;rw [fin _ hu];simp
   by_cases k5:c.kind=5
   ·have h:ag 5:=by unfold ag;omega
    have hu:ac c=⟨5,c.doc,0,0,c.n,[],[]⟩:=by simp [ac,k5,h]
    simp [k5];refine aa.pure (aj 5) (by simp) ?_;simp [h];refine aa.pure (ae c ⟨5,c.doc,0,0,c.n,[],[]⟩ (by omega)) (by simp [Call.row,k5]) ?_;rw [fin _ hu];simp
   by_cases k6:c.kind=6
   ·have h:¬ ag 6:=by unfold ag;omega
    have hu:ac c=⟨6,⟨#[]⟩,c.client,0,c.n,[],[]⟩:=by simp [ac,k6,h]
    simp [k6];refine aa.pure (aj 6) (by simp) ?_;simp [aL h];refine drw eok mix [0,1,2,3,4,6] [5,7] (.c 6 5 50 13 (.c 6 7 13 0 (.l 6 0) .s) .s) ?_;simp
    try intros
    refine aa.pure (ae c ⟨6,⟨#[]⟩,c.client,0,c.n,[],[]⟩ (by omega)) (by simp [Call.row,k6]) ?_;rw [fin _ hu];simp
   by_cases k7:c.kind=7
   ·have h:¬ ag 7:=by unfold ag;omega
    have hu:ac c=⟨7,⟨#[]⟩,c.client,0,0,[],[]⟩:=by simp [ac,k7,h]
    simp [k7];refine aa.pure (aj 7) (by simp) ?_;simp [aL h];refine aa.pure (ae c ⟨7,⟨#[]⟩,c.client,0,0,[],[]⟩ (by omega)) (by simp [Call.row,k7]) ?_;rw [fin _ hu];simp
   have k8:c.kind=8:=by omega
   have h:¬ ag 8:=by unfold ag;omega
   have hu:ac c=⟨8,⟨#[]⟩,0,0,0,[],[]⟩:=by simp [ac,k8,h]
   simp [k8];refine aa.pure (aj 8) (by simp) ?_;simp [aL h];refine aa.pure (ae c ⟨8,⟨#[]⟩,0,0,0,[],[]⟩ (by omega)) (by simp [Call.row,k8]) ?_;rw [fin _ hu];simp
  ·simp
   refine inl al Tryz.func85 20000 (λw1 F=>?_);simp;intro g1 g2 g3;by_cases k1:c.kind=1
   ·have h:ag 1:=by unfold ag;omega
    have hu:ac c=⟨1,c.doc,0,0,0,[],c.text⟩:=by simp [ac,k1,h]
    simp [k1];refine aa.pure (aj 1) (by simp) ?_;simp [h];refine aa.pure (ae c ⟨1,c.doc,0,0,0,[],c.text⟩ (by omega)) (by simp [Call.row,k1]) ?_;rw [fin _ hu];simp
   by_cases k2:c.kind=2
   ·have h:ag 2:=by unfold ag;omega
    have hu:ac c=⟨2,c.doc,c.client,c.seq,c.n,c.o,[]⟩:=by simp [ac,k2,h]
    simp [k2];refine aa.pure (aj 2) (by simp) ?_;simp [h];refine drw eok mix [0,1,2,3,4,5,6,7,8,10,12,14] [9,11,13,15] (.c 12 9 3080 1015 (.c 12 11 772 243 (.c 12 13 194 49 (.c 12 15 49 0 (.l 12 0) .s) .s) .s) .s) ?_;simp
    try intros
    refine aa.pure (ae c ⟨2,c.doc,c.client,c.seq,c.n,c.o,[]⟩ (by omega)) (by simp [Call.row,k2]) ?_;rw [fin _ hu];simp
   by_cases k3:c.kind=3
   ·have h:ag 3:=by unfold ag;omega
    have hu:ac c=⟨3,c.doc,0,0,c.n,[],[]⟩:=by simp [ac,k3,h]
    simp [k3];refine aa.pure (aj 3) (by simp) ?_;simp [h];refine aa.pure (ae c ⟨3,c.doc,0,0,c.n,[],[]⟩ (by omega)) (by simp [Call.row,k3]) ?_;rw [fin _ hu];simp
   by_cases k4:c.kind=4
   ·have h:ag 4:=by unfold ag;omega
    have hu:ac c=⟨4,c.doc,0,0,0,[],[]⟩:=by simp [ac,k4,h]
    simp [k4];refine aa.pure (aj 4) (by simp) ?_;simp [h];refine aa.pure (ae c ⟨4,c.doc,0,0,0,[],[]⟩ (by omega)) (by simp [Call.row,k4]) ?_;rw [fin _ hu];simp
   by_cases k5:c.kind=5
   ·have h:ag 5:=by unfold ag;omega
    have hu:ac c=⟨5,c.doc,0,0,c.n,[],[]⟩:=by simp [ac,k5,h]
    simp [k5];refine aa.pure (aj 5) (by simp) ?_;simp [h];refine aa.pure (ae c ⟨5,c.doc,0,0,c.n,[],[]⟩ (by omega)) (by simp [Call.row,k5]) ?_;rw [fin _ hu];simp
   by_cases k6:c.kind=6
   ·have h:¬ ag 6:=by unfold ag;omega
    have hu:ac c=⟨6,⟨#[]⟩,c.client,0,c.n,[],[]⟩:=by simp [ac,k6,h]
    simp [k6];refine aa.pure (aj 6) (by simp) ?_;simp [aL h];refine drw eok mix [0,1,2,3,4,6] [5,7] (.c 6 5 50 13 (.c 6 7 13 0 (.l 6 0) .s) .s) ?_;simp
    try intros
    refine aa.pure (ae c ⟨6,⟨#[]⟩,c.client,0,c.n,[],[]⟩ (by omega)) (by simp [Call.row,k6]) ?_;rw [fin _ hu];simp
   by_cases k7:c.kind=7
   ·have h:¬ ag 7:=by unfold ag;omega
    have hu:ac c=⟨7,⟨#[]⟩,c.client,0,0,[],[]⟩:=by simp [ac,k7,h]
    simp [k7];refine aa.pure (aj 7) (by simp) ?_;simp [aL h];refine aa.pure (ae c ⟨7,⟨#[]⟩,c.client,0,0,[],[]⟩ (by omega)) (by simp [Call.row,k7]) ?_;rw [fin _ hu];simp
   have k8:c.kind=8:=by omega
   have h:¬ ag 8:=by unfold ag;omega
   have hu:ac c=⟨8,⟨#[]⟩,0,0,0,[],[]⟩:=by simp [ac,k8,h]
   simp [k8];refine aa.pure (aj 8) (by simp) ?_;simp [aL h];refine aa.pure (ae c ⟨8,⟨#[]⟩,0,0,0,[],[]⟩ (by omega)) (by simp [Call.row,k8]) ?_;rw [fin _ hu];simp
theorem j6 (c:Call) (hl:bK c<=2 ^ 36):ak Tryz.prog 28 [.agg c.row] (.one (.c (vb (aM c)) 1)):=by
 refine pci al Tryz.func28 (λw0 base=>?_);have hx:∀ p:Prop,(aM c->p)->¬ p->dc (aM c)=false:=λp h1 h2=>aL (λh=>h2 (h1 h))
 unfold bK at hl;simp [Call.row];intro b1;refine aa.pure (gX c.kind) (by simp) ?_;by_cases s1:1<=c.kind/\c.kind<=8
 rotate_left
 ·simp [aL s1,hx _ (λh=>h.1) s1]
 simp [s1];by_cases s2:c.doc.size<=8
 rotate_left
 ·have s2':8<(c.doc.size:Int):=by omega
  simp [s2',hx _ (λh=>h.2.1) s2]
 have s2':¬ 8<(c.doc.size:Int):=by omega
 simp [s2'];refine aa.pure (dr c.o (by omega)) (by simp) ?_;by_cases s3:aT c.o
 rotate_left
 ·simp [aL s3,hx _ (λh=>h.2.2.1) s3]
 simp [s3];refine aa.pure (jY c.text (by omega)) (by simp) ?_;by_cases s4:cT c.text
 rotate_left
 ·simp [aL s4,hx _ (λh=>h.2.2.2.1) s4]
 simp [s4];refine aa.pure (df c.kind) (by simp) ?_
 clear hx
 obtain ⟨kind,doc,client,seq,n,o,text⟩:=c;simp only at s1 s2 s3 s4 s2' ⊢
 have ho:(0<o.length) = ¬ o=[]:=by
  apply propext
  cases o<;>simp
 have ht:(0<text.length) = ¬ text=[]:=by
  apply propext
  cases text<;>simp
 have hk:kind=1\/kind=2\/kind=3\/kind=4\/kind=5\/kind=6\/kind=7\/kind=8:=by omega
 unfold vb;rcases hk with rfl|rfl|rfl|rfl|rfl|rfl|rfl|rfl
 ·have hd:ag 1:=by unfold ag;omega
  have e:dc (aM ⟨1,doc,client,seq,n,o,text⟩)=dc (o=[]/\seq=0/\client=0/\n=0):=by
   congr 1;apply propext;unfold aM
   constructor
   ·rintro ⟨-,-,-,-,g1,g2,g3,g4,g5⟩;simp_all
   ·intro g;refine ⟨s1,s2,s3,s4,?_,?_,?_,?_,?_⟩<;>simp_all
  rw [e];simp [hd,ho];by_cases e0:o=[]<;>by_cases e1:seq=0<;>by_cases e2:client=0<;>by_cases e3:n=0<;>simp [e0,e1,e2,e3,ho]
 ·have hd:ag 2:=by unfold ag;omega
  have e:dc (aM ⟨2,doc,client,seq,n,o,text⟩)=dc (text=[]):=by
   congr 1;apply propext;unfold aM
   constructor
   ·rintro ⟨-,-,-,-,g1,g2,g3,g4,g5⟩;simp_all
   ·intro g;refine ⟨s1,s2,s3,s4,?_,?_,?_,?_,?_⟩<;>simp_all
  rw [e];simp [hd,ht];by_cases e0:text=[]<;>simp [e0,ht]
 ·have hd:ag 3:=by unfold ag;omega
  have e:dc (aM ⟨3,doc,client,seq,n,o,text⟩)=dc (text=[]/\o=[]/\seq=0/\client=0):=by
   congr 1;apply propext;unfold aM
   constructor
   ·rintro ⟨-,-,-,-,g1,g2,g3,g4,g5⟩;simp_all
   ·intro g;refine ⟨s1,s2,s3,s4,?_,?_,?_,?_,?_⟩<;>simp_all
  rw [e];simp [hd,ht];by_cases e0:text=[]<;>by_cases e1:o=[]<;>by_cases e2:seq=0<;>by_cases e3:client=0<;>simp [e0,e1,e2,e3,ho,ht]
 ·have hd:ag 4:=by unfold ag;omega
  have e:dc (aM ⟨4,doc,client,seq,n,o,text⟩)=dc (text=[]/\o=[]/\seq=0/\client=0/\n=0):=by
   congr 1;apply propext;unfold aM
   constructor
   ·rintro ⟨-,-,-,-,g1,g2,g3,g4,g5⟩;simp_all
   ·intro g;refine ⟨s1,s2,s3,s4,?_,?_,?_,?_,?_⟩<;>simp_all
  rw [e];simp [hd,ht];by_cases e0:text=[]<;>by_cases e1:o=[]<;>by_cases e2:seq=0<;>by_cases e3:client=0<;>by_cases e4:n=0<;>simp [e0,e1,e2,e3,e4,ho,ht]
 ·have hd:ag 5:=by unfold ag;omega
  have e:dc (aM ⟨5,doc,client,seq,n,o,text⟩)=dc (text=[]/\o=[]/\seq=0/\client=0):=by
   congr 1;apply propext;unfold aM
   constructor
   ·rintro ⟨-,-,-,-,g1,g2,g3,g4,g5⟩;simp_all
   ·intro g;refine ⟨s1,s2,s3,s4,?_,?_,?_,?_,?_⟩<;>simp_all
  rw [e];simp [hd,ht];by_cases e0:text=[]<;>by_cases e1:o=[]<;>by_cases e2:seq=0<;>by_cases e3:client=0<;>simp [e0,e1,e2,e3,ho,ht]
 ·have hd:¬ ag 6:=by unfold ag;omega
  have e:dc (aM ⟨6,doc,client,seq,n,o,text⟩)=dc (doc=⟨#[]⟩/\text=[]/\o=[]/\seq=0):=by
   congr 1;apply propext;unfold aM
   constructor
   ·rintro ⟨-,-,-,-,g1,g2,g3,g4,g5⟩;simp_all
   ·intro g;refine ⟨s1,s2,s3,s4,?_,?_,?_,?_,?_⟩<;>simp_all
  rw [e];simp [aL hd];by_cases e0:doc=⟨#[]⟩<;>by_cases e1:text=[]<;>by_cases e2:o=[]<;>by_cases e3:seq=0<;>simp [e0,e1,e2,e3,ho,ht]
 ·have hd:¬ ag 7:=by unfold ag;omega
  have e:dc (aM ⟨7,doc,client,seq,n,o,text⟩)=dc (doc=⟨#[]⟩/\text=[]/\o=[]/\seq=0/\n=0):=by
   congr 1;apply propext;unfold aM
   constructor
   ·rintro ⟨-,-,-,-,g1,g2,g3,g4,g5⟩;simp_all
   ·intro g;refine ⟨s1,s2,s3,s4,?_,?_,?_,?_,?_⟩<;>simp_all
  rw [e];simp [aL hd];by_cases e0:doc=⟨#[]⟩<;>by_cases e1:text=[]<;>by_cases e2:o=[]<;>by_cases e3:seq=0<;>by_cases e4:n=0<;>simp [e0,e1,e2,e3,e4,ho,ht]
 ·have hd:¬ ag 8:=by unfold ag;omega
  have e:dc (aM ⟨8,doc,client,seq,n,o,text⟩)=dc (doc=⟨#[]⟩/\text=[]/\o=[]/\seq=0/\client=0/\n=0):=by
   congr 1;apply propext;unfold aM
   constructor
   ·rintro ⟨-,-,-,-,g1,g2,g3,g4,g5⟩;simp_all
   ·intro g;refine ⟨s1,s2,s3,s4,?_,?_,?_,?_,?_⟩<;>simp_all
  rw [e];simp [aL hd];by_cases e0:doc=⟨#[]⟩<;>by_cases e1:text=[]<;>by_cases e2:o=[]<;>by_cases e3:seq=0<;>by_cases e4:client=0<;>by_cases e5:n=0<;>simp [e0,e1,e2,e3,e4,e5,ho,ht]
set_option maxHeartbeats 1600000
end Go.Proofs.YthckkpphnmmfdaaGreatDoor
namespace Go.AM
open Go.RowKit
def fG (w:World) (S:Nat->Prop) (v:Value):VD->Prop
 | .c d=>Rd w false S v d
 | .agg ds=>∃ xs:Array Value,v=.agg xs/\xs.size=ds.length/\∀ j d,ds[j]? = some d->Rd w false S (xs.getD j undef) d
def Bn (P:Program) (T:TypeId) (bs:List (List CD)) (f:Nat) (args:List VD) (R:RR->Prop):Prop:=
 mq P f /\ ∀ (w:World) (b:Nat) (u:Value) (i h:Int) (xs:Array Value),0 <= i -> i <= bs.length ->
  w.heap[b]? = some (.cells #[u,.int .i64 i,.int .i64 h] T (0,0)) -> Rd w false (λc => c ≠ b) u (.s bs) ->
  xs.size=args.length+1 -> xs.getD 0 undef=.pointer (some ⟨b,0,none⟩) -> (∀ j vd,args[j]? = some vd -> fG w (λc => c ≠ b) (xs.getD (j+1) undef) vd) ->
  Calls P f xs w λe w' => ∃ (v:Value) (rr:RR) (i' h':Int),e=.returned v /\ R rr /\ 0 <= i' /\ i' <= bs.length /\ w'.heap[b]? = some (.cells #[u,.int .i64 i',.int .i64 h'] T (0,0)) /\
   BelowF (λc=>c<w.heap.size/\c≠b) w w'/\nD w' (λc=>w.heap.size<=c/\c<w'.heap.size) v rr
def dC (u:Value) (n:Nat) (i h:Int):List AV:=[.cv u n,.v (.int .i64 i),.v (.int .i64 h)]
def kO (T:TypeId) (b:Nat) (u:Value) (n:Nat) (h:AH):Prop:=∃ i h2,h.get 0=.vars b T (dC u n i h2)/\0<=i/\i<=(n:Int)
def sf (T:TypeId) (b:Nat) (u:Value) (n:Nat) (h:AH) (R:RR->Prop) (l:List AV):Prop:=
 ∃ rr,R rr/\match rr with
 | .one r => match l with
   | [x]=>fA h x r (kO T b u n)
   |_=>False
 | .tup rs=>l.length≠1/\dS h l rs (kO T b u n)
def kQ (E:Env) (T:TypeId) (b:Nat) (u:Value) (n:Nat) (rs:List ResultVar) (R:RR->Prop):Exit->ASt->Prop
 | .normal,st=>bf E st rs (sf T b u n st.h R)
 | .ret,st=>bf E st rs (sf T b u n st.h R)
 |_,_=>False
theorem fG.rel {w:World} {M:Nat->Prop} {v:Value} {d:VD} (h:fG w (λb=>¬ M b) v d):VRel w M d.toAV v:=by
 cases d with
 |c d=>exact bU h
 | agg ds =>
   obtain ⟨xs,rfl,hs,hr⟩:=h;refine .agg _ _ (by simp [hs]) (λi av hi=>?_);simp only [List.getElem?_map,Option.map_eq_some_iff] at hi;obtain ⟨d,hd,rfl⟩:=hi;exact bU (hr i d hd)
theorem Rd.slice_len {w:World} {x:Bool} {S:Nat->Prop} {u:Value} {rows:List (List CD)} (h:Rd w x S u (.s rows)):∃ a c,u=.slice a rows.length c:=by
 cases h with
 |empty a cap=>exact ⟨a,cap,rfl⟩
 |slice b off cap=>exact ⟨_,cap,rfl⟩
theorem Bn.intro {P : Program} {Ty : Nat → Option TI} (hT : ∀ t ti, Ty t = some ti → TIok P t ti) {f : Nat} {fn : Func} {c : Code} (hf : P.funcs[f]? = some fn) (hname : (fn.name == "runtime.NumGoroutine") = false) (hb : fn.body = some c)
 {n:Nat} {rs:List ResultVar} (hnt:fn.ntmps=n) (hrs:fn.results=⟨rs⟩) {T:TypeId} {bs:List (List CD)} {args:List VD} {R:RR->Prop} (hn:args.length+1<=n)
 (h:∀ w0 base b u i h,0<=i->i<=(bs.length:Int)->Rd w0 false base u (.s bs)->bz ⟨P,Ty,w0,⟨base,base,false,λ_=>True⟩⟩ c (kQ ⟨P,Ty,w0,⟨base,base,false,λ_=>True⟩⟩ T b u bs.length rs R)
  { n:=n,kb:=0,t:=(0,.p 0 b 0)::dD 1 args,h:=[(0,.vars b T (dC u bs.length i h))] }):Bn P T bs f args R:=by
 subst hnt;have hrs':fn.results.toList=rs:=by rw [hrs]
 subst hrs';refine ⟨⟨fn,hf,hname,by rw [hb];rfl⟩,λw b u i hh xs hi0 hi1 hcell hu hs hx0 hx=>calls_of_wp hf hb ?_⟩
 let F:Nat->Prop:=λc=>c<w.heap.size/\c≠b
 let bs0:Bs:=⟨F,F,false,λ_=>True⟩
 have hE:EOk ⟨P,Ty,w,bs0⟩:=⟨hT,λw' hb=>trivial⟩;have hget:∀ k,AH.get [(0,.vars b T (dC u bs.length i hh))] k=if k=0 then .vars b T (dC u bs.length i hh) else .dead:=λk=>by rw [an];rfl
 have hblk:∀ k c,(AH.get [(0,.vars b T (dC u bs.length i hh))] k).blk=some c->k=0/\c=b:=by
  intro k c hk;rw [hget] at hk
  split at hk
  ·rename_i h0;simp [AObj.blk] at hk;exact ⟨h0,hk.symm⟩
  ·simp [AObj.blk] at hk
 have hM:∀ c,AH.M [(0,.vars b T (dC u bs.length i hh))] c->c=b:=λc ⟨k,hk⟩=>(hblk k c hk).2
 obtain ⟨ua,uc,hlen⟩:=hu.slice_len
 have hR:Rep w bs0 { n:=fn.ntmps,kb:=0,t:=(0,.p 0 b 0)::dD 1 args,h:=[(0,.vars b T (dC u bs.length i hh))] } { tmps:=xs++Array.replicate (fn.ntmps - xs.size) undef,defers:=[] } w:=by
  refine ⟨rfl,by simp;omega,λq=>?_,⟨λ_ _=>False,λk=>?_,λk k' c hk hk'=>(hblk k c hk).1.trans (hblk k' c hk').1.symm,λk c hk=>?_,λk c hc=>hc.elim,λk k' c hc=>hc.elim,λk c hc=>hc.elim⟩,BelowF.refl _ _,λc hc=>hc.elim (λh=>h.1) (λh=>h.1)⟩
  ·show VRel w _ (ah ((0,.p 0 b 0)::dD 1 args) q) _
   have e:∀ q,q<xs.size->(xs++Array.replicate (fn.ntmps - xs.size) undef).getD q undef=xs.getD q undef:=λq hq=>by
    simp only [Array.getD_eq_getD_getElem?];rw [Array.getElem?_append_left hq]
   unfold ah
   split
   ·rename_i h0
    subst h0;rw [e 0 (by omega),hx0];exact .p _ _ _
   ·rename_i h0
    rw [et]
    split
    ·split
     ·rename_i v hv
      have hlt:q - 1<args.length:=(List.getElem?_eq_some_iff.1 hv).1;rw [e q (by omega)];have:=hx (q - 1) v hv;rw [show q - 1+1=q by omega] at this;refine fG.rel ?_;have mono:∀ v d,Rd w false (λc=>c≠b) v d->Rd w false (λc=>¬ AH.M [(0,.vars b T (dC u bs.length i hh))] c) v d:=λv d h=>h.map (λ_ _ _=>rfl) (λc hc _ hm=>hc (hM c hm))
      cases v with
      |c d=>exact mono _ _ this
      | agg ds =>
        obtain ⟨ys,h1,h2,h3⟩:=this;exact ⟨ys,h1,h2,λj d hd=>mono _ _ (h3 j d hd)⟩
     ·exact .any _
    ·exact .any _
  ·rw [hget]
   split
   ·refine ⟨_,hcell,rfl,λj av hj=>?_⟩
    match j,hj with
    |0,hj=>cases hj;exact .cv _ _ ⟨ua,uc,hlen⟩
    |1,hj=>cases hj;exact .v _ rfl
    |2,hj=>cases hj;exact .v _ rfl
    |j+3,hj=>cases hj
   ·trivial
  ·obtain ⟨-,rfl⟩:=hblk k c hk
   exact ⟨λh=>h.2 rfl,λh=>h.2 rfl⟩
 have hu0:Rd w false F u (.s bs):=hu.map (λ_ _ _=>rfl) (λc hc hl=>⟨hl,hc⟩);refine wp_mono (aB hE c _ _ _ w hR (h w F b u i hh hi0 hi1 hu0)) ?_
 rintro e a' w' ⟨st',hq,hR'⟩
 have key:bf ⟨P,Ty,w,bs0⟩ st' fn.results.toList (sf T b u bs.length st'.h R) -> a'.defers=[] /\ ∃ v,(results fn a'.tmps).run P w'=.ok v w' /\ ∃ (v':Value) (rr:RR) (i' h':Int),Ending.returned v=.returned v' /\ R rr /\ 0 <= i' /\ i' <= bs.length /\ w'.heap[b]? = some (.cells #[u,.int .i64 i',.int .i64 h'] T (0,0)) /\
  BelowF (λc=>c<w.heap.size/\c≠b) w w'/\nD w' (λc=>w.heap.size<=c/\c<w'.heap.size) v' rr:=by
  intro hq;obtain ⟨vs,l,h1,h2,h3,rr,hRR,h4⟩:=bm hE hR' fn.results.toList hq;obtain ⟨Es,hH⟩:=hR'.heap;refine ⟨hR'.dfr,if vs.length=1 then vs.getD 0 undef else .tuple vs.toArray,?_,?_⟩
  ·have h1':(fn.results.toList.mapM (cG a'.tmps)).run P w'=.ok vs w':=h1
   rw [cA,Array.mapM_eq_mapM_toList];simp only [Sem.run_bind,Sem.run_map,h1',Result.andThen_ok,Sem.run_pure]
   cases vs with
   |nil=>simp
   |cons v vs=>cases vs<;>simp
  ·have low:∀ {h' E' S},Outs bs0 st'.h w' Es h' E' S->kO T b u bs.length h'->∀ c,S c->w.heap.size<=c/\c<w'.heap.size:=by
    rintro h' E' S O ⟨i',h2,hg,-⟩ c hc
    obtain ⟨g1,g2,g3⟩:=O.own c hc;have hcb:c≠b:=λhe=>g3 ⟨0,by rw [hg,he];rfl⟩
    rcases g1 with ⟨k,hk⟩|⟨k,hk⟩
    ·exact ⟨Nat.le_of_not_lt (λhlt=>(hH.elow k c hk).1 ⟨hlt,hcb⟩),(hH.elow k c hk).2⟩
    ·exact ⟨Nat.le_of_not_lt (λhlt=>(hH.low k c hk).1 ⟨hlt,hcb⟩),hH.lt hk⟩
   have cell:∀ {h' E' S},Outs bs0 st'.h w' Es h' E' S->kO T b u bs.length h'->∃ (i' h':Int),0<=i'/\i'<=(bs.length:Int)/\w'.heap[b]? = some (.cells #[u,.int .i64 i',.int .i64 h'] T (0,0)):=by
    rintro h' E' S O ⟨i',h2,hg,k1,k2⟩
    have ho:=O.rel.obj 0;rw [hg] at ho;obtain ⟨cs,g1,g2,g3⟩:=ho;refine ⟨i',h2,k1,k2,?_⟩;rw [g1];have c0:=g3 0 _ rfl;have c1:=g3 1 _ rfl;have c2:=g3 2 _ rfl;have hs3:cs.size=3:=g2;have e0:cs.getD 0 undef=u:=by generalize cs.getD 0 undef=y at c0;cases c0;rfl
    have e1:cs.getD 1 undef=.int .i64 i':=by generalize cs.getD 1 undef=y at c1;cases c1;rfl
    have e2:cs.getD 2 undef=.int .i64 h2:=by generalize cs.getD 2 undef=y at c2;cases c2;rfl
    have:cs = #[u,.int .i64 i',.int .i64 h2]:=by
     refine Array.ext (by simp [hs3]) (λj h1 h2'=>?_);simp only [Array.getD_eq_getD_getElem?] at e0 e1 e2;rcases j with _|_|_|j
     ·rw [Array.getElem?_eq_getElem h1] at e0;exact e0
     ·rw [Array.getElem?_eq_getElem h1] at e1;exact e1
     ·rw [Array.getElem?_eq_getElem h1] at e2;exact e2
     ·omega
    rw [this]
   have hbel:BelowF (λc=>c<w.heap.size/\c≠b) w w':=hR'.below
   cases rr with
   | one r =>
     simp only at h4
     split at h4
     ·rename_i x
      obtain ⟨h',E',S,hk,hr,O⟩:=dn hH (h3 0 x rfl) h4;obtain ⟨i',h'',g1,g2,g3⟩:=cell O hk;refine ⟨_,.one r,i',h'',rfl,hRR,g1,g2,g3,hbel,?_⟩;rw [if_pos (by simpa using h2)];exact fX.mono hr (λc hc=>low O hk c hc)
     ·exact h4.elim
   | tup rs =>
     obtain ⟨hne,h4⟩:=h4;obtain ⟨h',E',S,G,hk,hl,hF,hd,hr,O⟩:=cR l rs hH h3 h4;obtain ⟨i',h'',g1,g2,g3⟩:=cell O hk;refine ⟨_,.tup rs,i',h'',rfl,hRR,g1,g2,g3,hbel,?_⟩;rw [if_neg (by omega)];exact ⟨vs.toArray,G,rfl,by simp;omega,λj c hc=>low O hk c (hF j c hc),hd,λj t hj=>by simpa using hr j t hj⟩
 cases e with
 |normal=>exact key hq
 |ret=>exact key hq
 |_=>exact hq.elim
theorem iI {base:Bs} {h:AH} {w:World} {E:Nat->Nat->Prop} (H:HRel base h w E) {S:Nat->Prop} (hS:∀ c,¬ h.M c->S c) (hSr:∀ k b o C sz rows own,h.get k=.rows (some (b,o,C)) sz rows own->S b)
 {x:AV} {u:Value} {R:Value->CD->Prop} (hR:∀ u d,R u d->Rd w false S u d) (hv:VRel w h.M x u) {d:CD} (hk:aIn R h x d):Rd w false S u d:=by
 unfold aIn at hk
 split at hk
 ·cases hv;exact hR _ _ hk
 ·rename_i k Hd sz len
  split at hk
  ·rename_i H' sz' rows own hget
   obtain ⟨rfl,rfl,rfl,rfl⟩:=hk
   cases hv with
   | ml _ _ _ _ _ hx =>
     rcases hx with ⟨hp,hx⟩|⟨h0,-,a,c,rfl⟩
     ·have ho:=H.obj k
      rw [hget] at ho
      cases Hd with
      | none =>
        obtain ⟨⟨a,rfl⟩,h0⟩:=hx;rw [List.eq_nil_of_length_eq_zero h0];exact .empty _ _ (by intro h;cases h)
      | some q =>
        obtain ⟨b,o,C⟩:=q;obtain ⟨S0,hrd,hS0⟩:=cz ho ⟨k,by rw [hget];rfl⟩ hx (show 0+rows.length<=rows.length by omega);have:=hrd.weaken.map (S':=S) (λ_ _ _=>rfl) (λc hc _=>(hS0 c hc).elim (λe=>e ▸ hSr _ _ _ _ _ _ _ hget) (λh=>hS c h.2))
        simpa [cc] using this
     ·rw [List.eq_nil_of_length_eq_zero h0]
      exact .empty _ _ (by intro h;cases h)
  ·exact hk.elim
 ·subst hk;cases hv with|v u hp=>exact .plain hp
 ·subst hk;cases hv;exact .empty _ _ (by intro h;cases h)
 ·subst hk;cases hv with|ro rows x hr=>exact hr.map (λ_ _ _=>rfl) (λc hc _=>hS c hc)
 ·rename_i k Hd sz off len
  split at hk
  ·rename_i H' sz' rows own hget
   obtain ⟨rfl,rfl,hlen,rfl⟩:=hk
   cases hv with
   | sl _ _ _ _ _ _ hx =>
     have ho:=H.obj k;rw [hget] at ho
     cases Hd with
     | none =>
       obtain ⟨⟨a,rfl⟩,rfl⟩:=hx;rw [show rows=[] from ho,show cut ([]:List (List CD)) off 0=[] from by simp [cc]];exact .empty _ _ (by intro h;cases h)
     | some q =>
       obtain ⟨b,o,C⟩:=q;obtain ⟨S0,hrd,hS0⟩:=cz ho ⟨k,by rw [hget];rfl⟩ hx hlen;exact hrd.weaken.map (λ_ _ _=>rfl) (λc hc _=>(hS0 c hc).elim (λe=>e ▸ hSr _ _ _ _ _ _ _ hget) (λh=>hS c h.2))
  ·rename_i H' sz' rows hget
   obtain ⟨rfl,rfl,rfl,rfl,rfl⟩:=hk
   cases hv with
   | sl _ _ _ _ _ _ hx =>
     have ho:=H.obj k;rw [hget] at ho;exact (ho.2.2 _ hx).map (λ_ _ _=>rfl) (λc hc _=>hS c hc)
  ·exact hk.elim
 ·exact hk.elim
theorem gw {base:Bs} {h:AH} {w:World} {E:Nat->Nat->Prop} (H:HRel base h w E) {S:Nat->Prop} (hS:∀ c,¬ h.M c->S c) (hSr:∀ k b o C sz rows own,h.get k=.rows (some (b,o,C)) sz rows own->S b)
 {R:Value->CD->Prop} (hR:∀ u d,R u d->Rd w false S u d):∀ (l:List AV) (ds:List CD) {us:Nat->Value} (_:∀ i av,l[i]? = some av->VRel w h.M av (us i)) (_:jc R h l ds),
 l.length=ds.length/\∀ i d,ds[i]? = some d->Rd w false S (us i) d
 | [],[],us,hv,hk=>⟨rfl,λi d hd=>by simp at hd⟩
 | a :: l, d :: ds, us, hv, hk => by
   obtain ⟨h1,h2⟩:=gw H hS hSr hR l ds (us:=λi=>us (i+1)) (λi av hi=>hv (i+1) av (by simpa using hi)) hk.2;refine ⟨by simp [h1],λi d' hd=>?_⟩
   cases i with
   |zero=>simp at hd;subst hd;exact iI H hS hSr hR (hv 0 a rfl) hk.1
   |succ i=>exact h2 i d' (by simpa using hd)
 | [],_::_,us,hv,hk=>hk.elim
 |_::_,[],us,hv,hk=>hk.elim
theorem px {E:Env} {T:TypeId} {b:Nat} {u:Value} {n:Nat} {rs:List ResultVar} {R:RR->Prop} {st:ASt}:kQ E T b u n rs R .normal st=bf E st rs (sf T b u n st.h R):=(rfl)
theorem pw {E:Env} {T:TypeId} {b:Nat} {u:Value} {n:Nat} {rs:List ResultVar} {R:RR->Prop} {st:ASt}:kQ E T b u n rs R .ret st=bf E st rs (sf T b u n st.h R):=(rfl)
attribute [simp ↓] px pw
attribute [simp] dC
end Go.AM
