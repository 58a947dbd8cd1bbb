import Derived.Test.YthckkpphnmmfdaaGreatDoorPA
import Derived.Test.YthckkpphnmmfdaaGreatDoorNA
import Derived.Test.YthckkpphnmmfdaaGreatDoorMF
import Derived.Lib.AppendZerosOnto
import Derived.Lib.Overlaps
import Derived.Laws.IdiomCopy
import Derived.Laws.Externs
import Derived.Test.YthckkpphnmmfdaaGreatDoorMH
import Derived.Shelf.RegionOpenPlain
import Derived.Test.YthckkpphnmmfdaaGreatDoorMG
namespace Go.Proofs.YthckkpphnmmfdaaGreatDoor
open Go.AM
set_option maxRecDepth 20000
set_option maxHeartbeats 1600000
theorem bo {p:Prop} (h:¬ p):dc p=false:=by rw [bT];exact h
def vo (s:ByteArray) (i:Nat):Prop:=∀ h:i<s.size,97<=s[i].toNat/\s[i].toNat<=122
def Doc.zero:Doc:=⟨⟨#[]⟩,0,[],[],[]⟩
def Net.zero:Net:=⟨Doc.zero,[]⟩
theorem nH (s:ByteArray) (hl:s.size<=2 ^ 40):az Tryz.prog 44 [.c (.v (.string s))] (.one (.c (vb (df s)) 1)):=by
 refine pci aq Tryz.func44 (λw0 base=>?_);simp;refine aV.intro eok (λi:Nat=>i<=s.size/\∀ j,j<i->vo s j) (λi=>⟨23,0,[(3,.v (.int .i64 i)),(0,.v (.string s))],[]⟩) (λi=>s.size - i) 0 (by simp) (by simp) (λi hi=>?_);by_cases hlt:i<s.size
 ·simp [hlt]
  by_cases h1:(s[i].toNat:Int)<97
  ·have hno:¬ df s:=λh=>by have:=(h.2 i hlt).1;omega
   simp [h1,bo hno]
  ·by_cases h2:122<(s[i].toNat:Int)
   ·have hno:¬ df s:=λh=>by have:=(h.2 i hlt).2;omega
    simp [h1,h2,hlt,bo hno]
   ·simp [h1,h2,hlt]
    refine ⟨i+1,⟨by omega,λj hj=>?_⟩,by omega,aB (by omega)⟩;by_cases hji:j=i
    ·subst hji;exact λ_=>by omega
    ·exact hi.2 j (by omega)
 ·simp [hlt]
  refine aa.pure (bN s.size 1 8) (by simp) ?_;have hsz:(1<=(s.size:Int)/\(s.size:Int)<=8) ↔ (1<=s.size/\s.size<=8):=by omega
  by_cases h3:1<=s.size/\s.size<=8
  ·have hy:df s:=⟨h3,λj hj=>hi.2 j (by omega) hj⟩
   have h4:=hsz.2 h3;simp [h4,hy]
  ·have hno:¬ df s:=λh=>h3 h.1
   have h4:¬ (1<=(s.size:Int)/\(s.size:Int)<=8):=λh=>h3 (hsz.1 h)
   simp [bo h4,bo hno]
theorem nd (s:ByteArray) (hl:s.size<=2 ^ 40):az Tryz.prog 32 [.c (.v (.string s))] (.one (.c (vb (df s)) 1)):=by
 refine pci aq Tryz.func32 (λw0 base=>?_);simp;refine aV.intro eok (λi:Nat=>i<=s.size/\∀ j,j<i->vo s j) (λi=>⟨23,0,[(3,.v (.int .i64 i)),(0,.v (.string s))],[]⟩) (λi=>s.size - i) 0 (by simp) (by simp) (λi hi=>?_);by_cases hlt:i<s.size
 ·simp [hlt]
  by_cases h1:(s[i].toNat:Int)<97
  ·have hno:¬ df s:=λh=>by have:=(h.2 i hlt).1;omega
   simp [h1,bo hno]
  ·by_cases h2:122<(s[i].toNat:Int)
   ·have hno:¬ df s:=λh=>by have:=(h.2 i hlt).2;omega
    simp [h1,h2,hlt,bo hno]
   ·simp [h1,h2,hlt]
    refine ⟨i+1,⟨by omega,λj hj=>?_⟩,by omega,aB (by omega)⟩;by_cases hji:j=i
    ·subst hji;exact λ_=>by omega
    ·exact hi.2 j (by omega)
 ·simp [hlt]
  refine aa.pure (dh s.size 1 8) (by simp) ?_;have hsz:(1<=(s.size:Int)/\(s.size:Int)<=8) ↔ (1<=s.size/\s.size<=8):=by omega
  by_cases h3:1<=s.size/\s.size<=8
  ·have hy:df s:=⟨h3,λj hj=>hi.2 j (by omega) hj⟩
   have h4:=hsz.2 h3;simp [h4,hy]
  ·have hno:¬ df s:=λh=>h3 h.1
   have h4:¬ (1<=(s.size:Int)/\(s.size:Int)<=8):=λh=>h3 (hsz.1 h)
   simp [bo h4,bo hno]
inductive At where
 |k
 |p (c:Int)
 |d
def ats (p:Part):List At:=if p.kind=2 then p.signs.map At.p else if p.kind=3 then List.replicate (psz p) .d else List.replicate (psz p) .k
def bm:List Part->List At
 | []=>[]
 |p::l=>ats p++bm l
theorem dj:∀ (a b:List Part),bm (a++b)=bm a++bm b
 | [],b=>rfl
 |p::a,b=>by simp [bm,dj a b]
def frA:List At->Nat
 | []=>0
 | .p _::l=>frA l
 |_::l=>frA l+1
def toA:List At->Nat
 | []=>0
 | .d::l=>toA l
 |_::l=>toA l+1
theorem du:∀ (a b:List At),frA (a++b)=frA a+frA b
 | [],b=>by simp [frA]
 | .p c::a,b=>by simp [frA,du a b]
 | .k::a,b=>by simp [frA,du a b];omega
 | .d::a,b=>by simp [frA,du a b];omega
theorem cR:∀ (a b:List At),toA (a++b)=toA a+toA b
 | [],b=>by simp [toA]
 | .d::a,b=>by simp [toA,cR a b]
 | .k::a,b=>by simp [toA,cR a b];omega
 | .p c::a,b=>by simp [toA,cR a b];omega
theorem nM:∀ l:List Int,frA (l.map At.p)=0
 | []=>rfl
 |c::l=>by simp [frA,nM l]
theorem jY:∀ l:List Int,toA (l.map At.p)=l.length
 | []=>rfl
 |c::l=>by simp [toA,jY l]
theorem v1:∀ n:Nat,frA (List.replicate n At.k)=n
 |0=>rfl
 |n+1=>by simp [List.replicate_succ,frA,v1 n]
theorem nN:∀ n:Nat,frA (List.replicate n At.d)=n
 |0=>rfl
 |n+1=>by simp [List.replicate_succ,frA,nN n]
theorem qc:∀ n:Nat,toA (List.replicate n At.k)=n
 |0=>rfl
 |n+1=>by simp [List.replicate_succ,toA,qc n]
theorem jZ:∀ n:Nat,toA (List.replicate n At.d)=0
 |0=>rfl
 |n+1=>by simp [List.replicate_succ,toA,jZ n]
theorem xq {p:Part} (h:aH p) (k:p.kind=2):psz p=p.signs.length:=by
 rw [dZ k] at h;unfold psz;omega
theorem BD {p:Part}:frA (ats p)=if p.kind=2 then 0 else psz p:=by
 unfold ats
 split
 ·exact nM _
 ·split
  ·exact nN _
  ·exact v1 _
theorem BC {p:Part} (h:aH p):toA (ats p)=if p.kind=3 then 0 else psz p:=by
 unfold ats;by_cases k:p.kind=2
 ·have:¬ p.kind=3:=by omega
  rw [if_pos k,if_neg this,jY,xq h k]
 ·rw [if_neg k]
  split
  ·exact jZ _
  ·exact qc _
theorem qV:∀ (o:List Part),frs o=frA (bm o)
 | []=>rfl
 |p::o=>by simp only [frs,bm,du,BD,qV o]
theorem t6:∀ {o:List Part},(∀ p∈o,aH p)->tos o=toA (bm o)
 | [],_=>rfl
 | p :: o, h => by
   simp only [tos,bm,cR,BC (h p (List.mem_cons_self ..)),t6 (λq hq=>h q (List.mem_cons_of_mem _ hq))]
def nA:List Int->Nat->List At->List At
 |P,n,[]=>P.map At.p++List.replicate n .d
 |P,n,.k::l=>P.map At.p++(List.replicate n .d ++ .k::nA [] 0 l)
 |P,n,.p c::l=>nA (P++[c]) n l
 |P,n,.d::l=>nA P (n+1) l
def gV (l:List At):List At:=nA [] 0 l
theorem rR:∀ (l:List At) (P:List Int) (n:Nat),frA (nA P n l)=n+frA l
 | [],P,n=>by simp [nA,frA,du,nM,nN]
 | .k::l,P,n=>by simp [nA,frA,du,nM,nN,rR l]
 | .p c::l,P,n=>by simp [nA,frA,rR l]
 | .d::l,P,n=>by simp [nA,frA,rR l];omega
theorem rO:∀ (l:List At) (P:List Int) (n:Nat),toA (nA P n l)=P.length+toA l
 | [],P,n=>by simp [nA,toA,cR,jY,jZ]
 | .k::l,P,n=>by simp [nA,toA,cR,jY,jZ,rO l]
 | .p c::l,P,n=>by simp [nA,toA,rO l];omega
 | .d::l,P,n=>by simp [nA,toA,rO l]
theorem rP:∀ (Q P:List Int) (n:Nat) (l:List At),nA P n (Q.map At.p++l)=nA (P++Q) n l
 | [],P,n,l=>by simp
 |c::Q,P,n,l=>by simp [nA,rP Q]
theorem rS:∀ (m:Nat) (P:List Int) (n:Nat) (l:List At),nA P n (List.replicate m .d++l)=nA P (n+m) l
 |0,P,n,l=>by simp
 |m+1,P,n,l=>by simp [List.replicate_succ,nA,rS m];congr 1;omega
theorem yY:∀ (m:Nat) (l:List At),nA [] 0 (List.replicate m .k++l)=List.replicate m .k++nA [] 0 l
 |0,l=>by simp
 |m+1,l=>by simp [List.replicate_succ,nA,yY m]
def bA (s:List Part×List Int×Int):List At:=bm s.1++(s.2.1.map At.p++List.replicate s.2.2.toNat .d)
theorem pu {L:List Part} {P:List Int} {D:Int}:bm (aG L P D)=bA (L,P,D):=by
 unfold aG bA;rw [dj,dj]
 congr 1
 congr 1
 ·split
  ·rename_i h;simp [h,bm]
  ·simp [bm,ats]
 ·split
  ·simp [bm,ats,psz]
  ·have:D.toNat=0:=by omega
   simp [bm,this]
theorem fV:∀ (L:List Part) (_h:0<L.length) (p:Part),bm (L.set (L.length - 1) p)=bm L.dropLast++ats p
 | [q],h,p=>by simp [bm]
 | q :: r :: L, h, p => by
   have ih:=fV (r::L) (by simp) p;simp only [List.length_cons,Nat.add_sub_cancel] at ih ⊢;rw [List.set_cons_succ,bm,ih];simp [bm]
theorem lj:∀ (L:List Part) (h:0<L.length),bm L=bm L.dropLast++ats (L[L.length - 1]'(by omega))
 | [q],h=>by simp [bm]
 | q :: r :: L, h => by
   have ih:=lj (r::L) (by simp);simp only [List.length_cons,Nat.add_sub_cancel] at ih ⊢;rw [bm,ih];simp [bm]
theorem x6 {L:List Part} {n:Int} (hn:0<n) (hL:∀ q∈L,0<=q.n) (hk:∀ q∈L,q.kind=1->q.signs=[]):bm (bz L n)=bm L++List.replicate n.toNat .k:=by
 unfold bz
 split
 ·rename_i h
  split
  ·rename_i k
   have h1:=hL _ (List.getElem_mem (show L.length - 1<L.length by omega));have h2:=hk _ (List.getElem_mem (show L.length - 1<L.length by omega)) k;rw [fV L h,lj L h,List.append_assoc]
   congr 1
   generalize L[L.length - 1]'(by omega)=q at h1 h2 k;obtain ⟨a,b,c⟩:=q;simp only at h1 h2 k;subst k h2;simp [ats,psz,List.replicate_append_replicate];omega
  ·rw [dj]
   simp [bm,ats,psz]
 ·rename_i h
  have:L=[]:=List.eq_nil_of_length_eq_zero (by omega);subst this;simp [bm,ats,psz]
theorem jn {L:List Part} {P:List Int} {D:Int} (h:∀ q∈L,q.kind=1->q.signs=[]):∀ q∈aG L P D,q.kind=1->q.signs=[]:=by
 intro q hq hk;unfold aG at hq;rcases List.mem_append.1 hq with hq|hq
 ·exact h q hq hk
 ·rcases List.mem_append.1 hq with hq|hq
  ·split at hq
   ·simp at hq
   ·simp at hq;subst hq;simp at hk
  ·split at hq
   ·simp at hq;subst hq;rfl
   ·simp at hq
theorem qJ {L:List Part} {n:Int} (h:∀ q∈L,q.kind=1->q.signs=[]):∀ q∈bz L n,q.kind=1->q.signs=[]:=by
 intro q hq hk;unfold bz at hq
 split at hq
 ·rename_i hl
  split at hq
  ·rename_i k
   rcases List.mem_or_eq_of_mem_set hq with hq|rfl
   ·exact h q hq hk
   ·exact (h (L[L.length - 1]'(by omega)) (List.getElem_mem _) k :)
  ·rcases List.mem_append.1 hq with hq|hq
   ·exact h q hq hk
   ·simp at hq;subst hq;rfl
 ·simp at hq;subst hq;rfl
theorem oR {o:List Part} (ho:∀ p ∈ o,aH p):∀ (i:Nat),i <= o.length -> (∀ q ∈ (aT (o.take i)).1,q.kind=1 -> q.signs=[]) /\ 0 <= (aT (o.take i)).2.2 /\ (∀ q ∈ (aT (o.take i)).1,0 <= q.n) /\
 ∀ l,gV (bm (o.take i)++l)=bm (aT (o.take i)).1++nA (aT (o.take i)).2.1 (aT (o.take i)).2.2.toNat l
 |0,_=>by simp [aT,bm,gV]
 | i + 1, hi => by
   obtain ⟨h1,h2,h3,h4⟩:=oR ho i (by omega);have hlt:i<o.length:=by omega
   have hq:=(fL ho (i+1) hi);have hp:=(ho _ (List.getElem_mem hlt));have hb:=hp.bounds;refine ⟨?_,hq.d0,λq hq'=>(hq.q q hq').1,λl=>?_⟩
   ·rw [cX hlt]
    unfold co
    split
    ·exact h1
    ·split
     ·exact h1
     ·split
      ·exact qJ (jn h1)
      ·exact h1
   ·rw [<- List.take_append_getElem hlt,dj,List.append_assoc,h4,List.take_append_getElem hlt,cX hlt]
    generalize aT (o.take i)=s at h1 h2 h3;generalize o[i]=p at hp hb;obtain ⟨L,P,D⟩:=s;simp only at h1 h2 h3;simp only [bm,List.append_nil];unfold co;by_cases k2:p.kind=2
    ·simp only [k2,if_true]
     rw [show ats p=p.signs.map At.p by unfold ats;rw [if_pos k2],rP]
    ·by_cases k3:p.kind=3
     ·have hs:=hb.2.2.2.2.2 k2
      have e:(D+p.n).toNat=D.toNat+p.n.toNat:=by omega
      simp only [k3,if_true];rw [show ats p=List.replicate (psz p) .d by unfold ats;rw [if_neg k2,if_pos k3],rS];simp [e,psz,hs]
     ·have k1:p.kind=1:=by omega
      have hs:=hb.2.2.2.2.2 k2;have e:ats p=List.replicate p.n.toNat .k:=by unfold ats;rw [if_neg k2,if_neg k3];simp [psz,hs]
      simp only [k2,k3,if_false];rw [e]
      split
      ·rename_i hn
       have hfl:∀ q∈aG L P D,0<=q.n:=by
        intro q hq';unfold aG at hq';rcases List.mem_append.1 hq' with hq' | hq'
        ·exact h3 q hq'
        ·rcases List.mem_append.1 hq' with hq' | hq'
         ·split at hq'
          ·simp at hq'
          ·simp at hq';subst hq';simp
         ·split at hq'
          ·simp at hq';subst hq';simp;omega
          ·simp at hq'
       simp only;rw [x6 hn hfl (jn h1),pu];obtain ⟨m,hm⟩:∃ m,p.n.toNat=m+1:=⟨p.n.toNat - 1,by omega⟩;rw [hm];simp [bA,List.replicate_succ,nA,yY,List.append_assoc]
      ·have:p.n.toNat=0:=by omega
       simp [this]
theorem f7 {o:List Part} (ho:∀ p∈o,aH p):bm (normal o)=gV (bm o):=by
 have h:=(oR ho o.length (Nat.le_refl _)).2.2.2 [];rw [List.take_length,List.append_nil] at h;unfold normal;rw [pu,h];unfold bA;simp [nA]
theorem vn (l:List At):frA (gV l)=frA l:=by unfold gV;rw [rR];omega
theorem vm (l:List At):toA (gV l)=toA l:=by unfold gV;rw [rO];simp
structure Shp (q:Part):Prop where
 k:q.kind=1\/q.kind=2\/q.kind=3
 n:0<=q.n
 put:q.kind=2->q.n=0/\a8 q.signs
 run:q.kind≠2->q.signs=[]
 pos:0<psz q
theorem mi {L:List Part} {P:List Int} {D:Int} (hL:∀ q∈L,Shp q) (hP:a8 P):∀ q∈aG L P D,Shp q:=by
 intro q hq;unfold aG at hq;rcases List.mem_append.1 hq with hq|hq
 ·exact hL q hq
 ·rcases List.mem_append.1 hq with hq|hq
  ·split at hq
   ·simp at hq
   ·rename_i h
    simp at hq;subst hq;have:0<P.length:=List.length_pos_iff.2 h;exact ⟨.inr (.inl rfl),by simp,λ_=>⟨rfl,hP⟩,λh=>absurd rfl h,by simpa [psz] using this⟩
  ·split at hq
   ·rename_i h
    simp at hq;subst hq;exact ⟨.inr (.inr rfl),by simp only;omega,λh=>by simp at h,λ_=>rfl,by simp [psz];omega⟩
   ·simp at hq
theorem uS {L:List Part} {n:Int} (hL:∀ q∈L,Shp q) (hn:0<n):∀ q∈bz L n,Shp q:=by
 intro q hq;have one:Shp ⟨1,n,[]⟩:=⟨.inl rfl,by simp only;omega,λh=>by simp at h,λ_=>rfl,by simp [psz];omega⟩;unfold bz at hq
 split at hq
 ·rename_i hl
  split at hq
  ·rename_i k
   rcases List.mem_or_eq_of_mem_set hq with hq|rfl
   ·exact hL q hq
   ·have h:=hL (L[L.length - 1]'(by omega)) (List.getElem_mem _)
    have h1:=h.n;have h2:=h.run (by omega);exact ⟨.inl rfl,by simp only;omega,λh=>by simp at h,λ_=>h2,by simp [psz];omega⟩
  ·rcases List.mem_append.1 hq with hq|hq
   ·exact hL q hq
   ·simp at hq;subst hq;exact one
 ·simp at hq;subst hq;exact one
theorem mA {o:List Part} (ho:∀ p∈o,aH p):∀ (i:Nat),i<=o.length->(∀ q∈(aT (o.take i)).1,Shp q)/\a8 (aT (o.take i)).2.1
 |0,_=>by simp [aT,a8]
 | i + 1, hi => by
   obtain ⟨h1,h2⟩:=mA ho i (by omega);have hlt:i<o.length:=by omega
   have hp:=ho _ (List.getElem_mem hlt);rw [cX hlt];generalize aT (o.take i)=s at h1 h2;generalize o[i]=p at hp;obtain ⟨L,P,D⟩:=s;simp only at h1 h2;unfold co
   split
   ·rename_i k
    rw [dZ k] at hp;refine ⟨h1,λn hn=>?_⟩;rcases List.mem_append.1 hn with hn|hn
    ·exact h2 n hn
    ·exact hp.2.2 n hn
   ·split
    ·exact ⟨h1,h2⟩
    ·split
     ·rename_i hn
      exact ⟨uS (mi h1 h2) hn,by simp [a8]⟩
     ·exact ⟨h1,h2⟩
theorem gu {o:List Part} (ho:∀ p∈o,aH p):∀ q∈normal o,Shp q:=by
 have h:=mA ho o.length (Nat.le_refl _);rw [List.take_length] at h;exact mi h.1 h.2
theorem rA:∀ {L:List Part},(∀ q∈L,Shp q)->tos L=toA (bm L)
 | [],_=>rfl
 | p :: L, h => by
   have hp:=h p (List.mem_cons_self ..);simp only [tos,bm,cR,rA (λq hq=>h q (List.mem_cons_of_mem _ hq))]
   congr 1
   unfold ats;by_cases k:p.kind=2
   ·have k3:¬ p.kind=3:=by omega
    have:=(hp.put k).1;rw [if_pos k,if_neg k3,jY];simp [psz,this]
   ·rw [if_neg k]
    split
    ·exact (jZ _).symm
    ·exact (qc _).symm
theorem yi {L:List Part} {q:Part} (h:q∈L) (k:q.kind≠2):psz q<=frs L:=by
 induction L with
 |nil=>simp at h
 | cons p L ih =>
   simp only [frs];rcases List.mem_cons.1 h with rfl|h
   ·rw [if_neg k];omega
   ·have:=ih h;omega
theorem xd {L:List Part} {q:Part} (h:q∈L) (k:q.kind≠3):psz q<=tos L:=by
 induction L with
 |nil=>simp at h
 | cons p L ih =>
   simp only [tos];rcases List.mem_cons.1 h with rfl|h
   ·rw [if_neg k];omega
   ·have:=ih h;omega
theorem rz:∀ {L:List Part},(∀ q∈L,Shp q)->L.length<=tsz L
 | [],_=>by simp [tsz]
 | p :: L, h => by
   have:=rz (λq hq=>h q (List.mem_cons_of_mem _ hq));have:=(h p (List.mem_cons_self ..)).pos;simp only [tsz,List.length_cons];omega
theorem Aq {L:List Part} (h:∀ q∈L,Shp q) (h1:frs L<=200) (h2:tos L<=200):bu L:=by
 have hl:=rz h;have ht:=tZ L;refine ⟨λq hq=>?_,by omega⟩;have hs:=h q hq;have hn:=hs.n;by_cases k:q.kind=2
 ·have h3:=xd hq (by omega)
  have h4:=hs.put k;exact .inr ⟨k,h4.1,by unfold psz at h3;omega,h4.2⟩
 ·have h3:=yi hq k
  have h4:=hs.run k;have hk:=hs.k;exact .inl ⟨by omega,⟨hn,by unfold psz at h3;omega⟩,h4⟩
theorem qn {o:List Part} (h:bu o):(frs o:Int)=cK o:=by
 rw [nK h.1,cS (λp hp=>Bz (h.1 p hp)),dX];unfold cK bk;rw [if_pos h]
theorem u5 {o:List Part} (h:bu o):(tos o:Int)=iG o:=by
 rw [m3 h.1,cS (λp hp=>By (h.1 p hp)),dX];unfold iG bk;rw [if_pos h]
theorem mw {o:List Part} (h:cr o):cr (normal o)/\cK (normal o)=cK o/\iG (normal o)=iG o:=by
 have hs:=gu h.1.1;have e1:frs (normal o)=frs o:=by rw [qV,f7 h.1.1,vn,<- qV]
 have e2:tos (normal o)=tos o:=by rw [rA hs,f7 h.1.1,vm,<- t6 h.1.1]
 have f:=vZ h;have t:=zC h;have hp:=Aq hs (by have:=h.2.1;omega) (by have:=h.2.2;omega);have f2:=qn hp;have t2:=u5 hp;have:=h.2;exact ⟨⟨hp,by omega,by omega⟩,by omega,by omega⟩
end Go.Proofs.YthckkpphnmmfdaaGreatDoor
namespace Go.AM
open Go.RowKit
structure Placed (w w':World) (ob:Option Nat) (nb no nC n sz:Nat) (us:List Value):Prop where
 at_:∃ cs T,w'.heap[nb]? = some (.cells cs T (0,0))/\no+nC*sz<=cs.size/\∀ j,j<n*sz->cs.getD (no+j) undef=us.getD j undef
 le:n<=nC
 cap:nC<=maxLen
 size:w.heap.size<=w'.heap.size
 same:Same w w'
 blk:w.heap.size<=nb\/ob=some nb
 frame:∀ c,c<w.heap.size->c≠nb->w'.heap[c]? = w.heap[c]?
theorem Rep.place {w0:World} {base:Bs} {st:ASt} {a:Act} {w w':World} (hR:Rep w0 base st a w) {h':AH} {E':Nat->Nat->Prop} (H':HRel base h' w E') (tr:Tr st.h.M w h'.M w) {k:Nat} {ob:Option Nat} (hob:(h'.get k).blk=ob)
 {nb no nC sz:Nat} {us:List Value} {rows:List (List CD)} (own:Bool) (hp:Placed w w' ob nb no nC rows.length sz us) (hsz:0<sz) (hrl:∀ row∈rows,row.length=sz) (F:Nat->Nat->Nat->Prop)
 (hr:∀ i j row d,rows[i]? = some row->row[j]? = some d->Rd w own (F i j) (us.getD (i*sz+j) undef) d) (hF:∀ i j c,F i j c->¬ h'.M c)
 (hown:own=true->∀ i j c,F i j c->¬ base.G c/\∀ q,q≠k->¬ E' q c) (hinj:own=true->∀ i j i' j' c,F i j c->F i' j' c->i=i'/\j=j') :
 Moved w0 base st a w ((k,.rows (some (nb,no,nC)) sz rows own)::h') w':=by
 obtain ⟨cs,T,hb,hfit,hcs⟩:=hp.at_
 have hnb:∀ c,c<w.heap.size->c=nb->(h'.get k).blk=some c:=by
  intro c hc e;subst e;rcases hp.blk with h|h
  ·omega
  ·rw [hob];exact h
 have hfr:∀ c,c<w.heap.size->(¬ h'.M c\/∃ j,j≠k/\(h'.get j).blk=some c)->w'.heap[c]? = w.heap[c]?:=by
  intro c hc h;refine hp.frame c hc (λe=>?_);have hk:=hnb c hc e;rcases h with h|⟨j,hne,hj⟩
  ·exact h ⟨k,hk⟩
  ·exact hne (H'.inj _ _ _ hj hk)
 have t:Tr h'.M w (AH.M ((k,.rows (some (nb,no,nC)) sz rows own)::h')) w':=Tr.upd H' hp.size (λc hc hM=>hfr c hc (.inl hM)) (λc hc=>by
  simp [AObj.blk] at hc;subst hc;rcases hp.blk with h|h
  ·exact .inl h
  ·exact .inr (by rw [hob];exact h))
 have lt:∀ i j,i<rows.length->j<sz->i*sz+j<rows.length*sz:=by
  intro i j hi hj;have:=Nat.mul_le_mul_right sz (show i+1<=rows.length by omega);have e:(i+1)*sz=i*sz+sz:=Nat.succ_mul i sz;omega
 refine (hR.move H' tr ⟨rfl,rfl,rfl⟩).move (H'.upd (Ek:=λc=>own=true/\c<w.heap.size/\∃ i j,F i j c) hp.size hfr (λc hc=>?_)
  ⟨cs,T,λi j c=>c<w.heap.size/\F i j c,hb,hp.le,hp.cap,hsz,hfit,hrl,?_,?_,?_⟩ ?_) t hp.same
 ·simp [AObj.blk] at hc
  subst hc;rcases hp.blk with h|h
  ·exact ⟨hR.newer h,.inl h⟩
  ·have hk:(h'.get k).blk=some nb:=by rw [hob];exact h
   exact ⟨H'.low k _ hk,.inr hk⟩
 ·rintro i j c ⟨hlt,hc⟩
  exact ⟨λho=>⟨ho,hlt,i,j,hc⟩,λhM=>hF i j c hc (t.mono c hlt hM)⟩
 ·rintro ho i j i' j' c ⟨-,hc⟩ ⟨-,hc'⟩
  exact hinj ho i j i' j' c hc hc'
 ·intro i j row d hi hj
  have h1:i<rows.length:=(List.getElem?_eq_some_iff.1 hi).1;have h2:j<sz:=by rw [<- hrl _ (List.mem_of_getElem? hi)];exact (List.getElem?_eq_some_iff.1 hj).1
  rw [hcs _ (lt i j h1 h2)];exact (hr i j row d hi hj).map (λc hc hl=>hfr c hl (.inl (hF i j c hc))) (λc hc hl=>⟨hl,hc⟩)
 ·rintro c ⟨ho,hlt,i,j,hc⟩
  obtain ⟨h1,h2⟩:=hown ho i j c hc;exact ⟨h1,Nat.lt_of_lt_of_le hlt hp.size,h2,λhM=>hF i j c hc (t.mono c hlt hM)⟩
end Go.AM
namespace Go.Proofs.YthckkpphnmmfdaaGreatDoor
open Go.AM Go.RowKit
set_option maxRecDepth 100000
set_option maxHeartbeats 4000000
set_option linter.unusedVariables false
set_option linter.unusedSimpArgs false
open Go.AM
set_option maxRecDepth 20000
set_option maxHeartbeats 3200000
theorem dt {α:Type} {f:α->Nat} (a b:List α):nL f (a++b)=nL f a+nL f b:=by
 unfold nL;rw [cV,List.length_append];omega
def ag (k:Int):Prop:=1<=k/\k<=5
def bp (c:Call):Prop := (1 <= c.kind /\ c.kind <= 8) /\ c.doc.size <= 8 /\ bu c.o /\ dV c.text /\ (¬ ag c.kind -> c.doc=⟨#[]⟩) /\ (c.kind ≠ 1 -> c.text=[]) /\
 (c.kind≠2->c.o=[]/\c.seq=0)/\(¬ (c.kind=2\/c.kind=6\/c.kind=7)->c.client=0)/\(¬ (c.kind=2\/c.kind=3\/c.kind=5\/c.kind=6)->c.n=0)
open Classical in
noncomputable def ak (c:Call):Call:=⟨c.kind,if ag c.kind then c.doc else ⟨#[]⟩,if c.kind=2\/c.kind=6\/c.kind=7 then c.client else 0,if c.kind=2 then c.seq else 0,
 if c.kind=2\/c.kind=3\/c.kind=5\/c.kind=6 then c.n else 0,if c.kind=2 then c.o else [],if c.kind=1 then c.text else []⟩
theorem pM {c:Call}:bp c ↔ (1<=c.kind/\c.kind<=8)/\c.doc.size<=8/\bu c.o/\dV c.text/\c=ak c:=by
 obtain ⟨kind,doc,client,seq,n,o,text⟩:=c;unfold bp ak ag;simp only [Call.mk.injEq,true_and]
 constructor
 ·rintro ⟨h1,h2,h3,h4,h5,h6,h7,h8,h9⟩
  refine ⟨h1,h2,h3,h4,?_,?_,?_,?_,?_,?_⟩<;>split<;>simp_all
 ·rintro ⟨h1,h2,h3,h4,h5,h6,h7,h8,h9,h10⟩
  refine ⟨h1,h2,h3,h4,?_,?_,?_,?_,?_⟩
  ·intro h;rw [if_neg h] at h5;exact h5
  ·intro h;rw [if_neg h] at h10;exact h10
  ·intro h;rw [if_neg h] at h7 h9;exact ⟨h9,h7⟩
  ·intro h;rw [if_neg h] at h6;exact h6
  ·intro h;rw [if_neg h] at h8;exact h8
def Answer.zero:Answer:=⟨0,0,[],[]⟩
set_option maxHeartbeats 6400000
theorem au (k:Int):az Tryz.prog 43 [.c (vi k)] (.one (.c (vb (ag k)) 1)):=by
 refine pci aq Tryz.func43 (λw0 base=>?_);simp;refine aa.pure (bN k 1 5) (by simp) ?_;simp [ag]
theorem dD (k:Int):az Tryz.prog 31 [.c (vi k)] (.one (.c (vb (ag k)) 1)):=by
 refine pci aq Tryz.func31 (λw0 base=>?_);simp;refine aa.pure (dh k 1 5) (by simp) ?_;simp [ag]
theorem j9 (k:Int):az Tryz.prog 74 [.c (vi k)] (.one (.c (vb (1<=k/\k<=8)) 1)):=by
 refine pci aq Tryz.func74 (λw0 base=>?_);simp;refine aa.pure (dh k 1 8) (by simp) ?_;simp
theorem ao (a b:Call) (ha:bS a<=2 ^ 40):az Tryz.prog 84 [.agg a.row,.agg b.row] (.one (.c (vb (a=b)) 1)):=by
 refine pci aq Tryz.func84 (λw0 base=>?_);obtain ⟨a0,a1,a2,a3,a4,a5,a6⟩:=a;obtain ⟨c0,c1,c2,c3,c4,c5,c6⟩:=b;unfold bS at ha;simp only at ha;simp [Call.row];intro b1 b2;by_cases h0:a0=c0
 rotate_left
 ·simp [h0]
 subst h0;by_cases h1:a1=c1
 rotate_left
 ·simp [h1]
 subst h1;by_cases h2:a2=c2
 rotate_left
 ·simp [h2]
 subst h2;by_cases h3:a3=c3
 rotate_left
 ·simp [h3]
 subst h3;by_cases h4:a4=c4
 rotate_left
 ·simp [h4]
 subst h4;simp;refine aa.pure (nF a5 c5 (by omega)) (by simp) ?_;by_cases h5:a5=c5
 rotate_left
 ·simp [h5]
 subst h5;simp;refine aa.pure (mg a6 c6 (by omega)) (by simp) ?_;by_cases h6:a6=c6
 ·simp [h6]
 ·simp [h6]
theorem nI (c:Call) (hl:bS c<=2 ^ 36):az Tryz.prog 41 [.agg c.row] (.one (.c (vb (bp c)) 1)):=by
 refine pci aq Tryz.func41 (λw0 base=>?_);have hu:=@pM c;have hx:∀ p:Prop,(bp c->p)->¬ p->dc (bp c)=false:=λp h1 h2=>bo (λh=>h2 (h1 h))
 have hl0:=hl;unfold bS at hl;simp [Call.row];intro b1;refine drw eok mix [0,1] [2,3,4,5,6,7,8,9,10,11,12,13,14,15,16,17,18,19,20,21,22,23,24,25] (.c 2 2 1 2 (.c 2 3 0 2 (.c 2 4 0 2 (.c 2 5 0 2 (.c 2 6 0 2 (.c 2 7 0 2 (.c 2 8 0 2 (.c 2 9 0 2 (.c 2 10 0 2 (.c 2 11 0 2 (.c 2 12 0 2 (.c 2 13 0 2 (.c 2 14 0 2 (.c 2 15 0 2 (.c 2 16 0 2 (.c 2 17 0 2 (.c 2 18 0 2 (.c 2 19 0 2 (.c 2 20 0 2 (.c 2 21 0 2 (.c 2 22 0 2 (.c 2 23 0 2 (.c 2 24 0 2 (.c 2 25 2 0 (.l 2 0) .s) .s) .s) .s) .s) (.c 2 21 0 2 (.c 2 20 0 2 (.c 2 22 0 2 (.c 2 23 0 2 (.c 2 24 0 2 (.c 2 25 2 0 (.l 2 0) .s) .s) .s) .s) (.c 2 22 0 2 (.c 2 20 0 2 (.c 2 23 0 2 (.c 2 24 0 2 (.c 2 25 2 0 (.l 2 0) .s) .s) .s) .s) .s)) .s)) .s) .s) .s) .s) .s) .s) .s) .s) .s) .s) .s) .s) .s) .s) .s) .s) .s) .s) ?_;simp;refine aa.pure (bN c.kind 1 8) (by simp) ?_;by_cases s1:1<=c.kind/\c.kind<=8
 rotate_left
 ·simp [bo s1]
  rw [Trc];refine ⟨?_,?_⟩
  ·simp [hx _ (λh=>h.1) s1]
  ·simp
   rw [Trc];refine ⟨?_,?_⟩
   ·simp [hx _ (λh=>h.1) s1]
   ·simp [hx _ (λh=>h.1) s1]
 simp [s1];by_cases s2:c.doc.size<=8
 rotate_left
 ·have s2':¬ (c.doc.size:Int)<=8:=by omega
  simp [s2'];rw [Trc];refine ⟨?_,?_⟩
  ·simp [hx _ (λh=>h.2.1) s2]
  ·simp
   rw [Trc];refine ⟨?_,?_⟩
   ·simp [hx _ (λh=>h.2.1) s2]
   ·simp [hx _ (λh=>h.2.1) s2]
 have s2':(c.doc.size:Int)<=8:=by omega
 simp [s2'];refine aa.pure (es c.o (by omega)) (by simp) ?_;by_cases s3:bu c.o
 rotate_left
 ·simp [bo s3]
  rw [Trc];refine ⟨?_,?_⟩
  ·simp [hx _ (λh=>h.2.2.1) s3]
  ·simp
   rw [Trc];refine ⟨?_,?_⟩
   ·simp [hx _ (λh=>h.2.2.1) s3]
   ·simp [hx _ (λh=>h.2.2.1) s3]
 simp [s3];refine aa.pure (nz c.text (by omega)) (by simp) ?_;by_cases s4:dV c.text
 rotate_left
 ·simp [bo s4]
  rw [Trc];refine ⟨?_,?_⟩
  ·simp [hx _ (λh=>h.2.2.2.1) s4]
  ·simp
   rw [Trc];refine ⟨?_,?_⟩
   ·simp [hx _ (λh=>h.2.2.2.1) s4]
   ·simp [hx _ (λh=>h.2.2.2.1) s4]
 have fin:∀ u,ak c=u->vb (c=u)=vb (bp c):=λu h=>by
  subst h;unfold vb
  congr 3
  apply propext
  exact ⟨λh=>hu.2 ⟨s1,s2,s3,s4,h⟩,λh=>(hu.1 h).2.2.2.2⟩
 simp [s4];rw [Trc];refine ⟨?_,?_⟩
 ·simp
  refine inl aq Tryz.func85 20000 (λw1 F=>?_);simp;intro g1 g2 g3;by_cases k1:c.kind=1
  ·have h:ag 1:=by unfold ag;omega
   have hu:ak c=⟨1,c.doc,0,0,0,[],c.text⟩:=by simp [ak,k1,h]
   simp [k1];refine aa.pure (au 1) (by simp) ?_;simp [h];refine aa.pure (ao c ⟨1,c.doc,0,0,0,[],c.text⟩ (by omega)) (by simp [Call.row,k1]) ?_;rw [fin _ hu];simp
  by_cases k2:c.kind=2
  ·have h:ag 2:=by unfold ag;omega
   have hu:ak c=⟨2,c.doc,c.client,c.seq,c.n,c.o,[]⟩:=by simp [ak,k2,h]
   simp [k2];refine aa.pure (au 2) (by simp) ?_;simp [h];refine drw eok mix [0,1,2,3,4,5,6,7,8,10,12,14] [9,11,13,15] (.c 12 9 3080 1015 (.c 12 11 772 243 (.c 12 13 194 49 (.c 12 15 49 0 (.l 12 0) .s) .s) .s) .s) ?_;simp
   try intros
   refine aa.pure (ao c ⟨2,c.doc,c.client,c.seq,c.n,c.o,[]⟩ (by omega)) (by simp [Call.row,k2]) ?_;rw [fin _ hu];simp
  by_cases k3:c.kind=3
  ·have h:ag 3:=by unfold ag;omega
   have hu:ak c=⟨3,c.doc,0,0,c.n,[],[]⟩:=by simp [ak,k3,h]
   simp [k3];refine aa.pure (au 3) (by simp) ?_;simp [h];refine aa.pure (ao c ⟨3,c.doc,0,0,c.n,[],[]⟩ (by omega)) (by simp [Call.row,k3]) ?_;rw [fin _ hu];simp
  by_cases k4:c.kind=4
  ·have h:ag 4:=by unfold ag;omega
   have hu:ak c=⟨4,c.doc,0,0,0,[],[]⟩:=by simp [ak,k4,h]
   simp [k4];refine aa.pure (au 4) (by simp) ?_;simp [h];refine aa.pure (ao c ⟨4,c.doc,0,0,0,[],[]⟩ (by omega)) (by simp [Call.row,k4]) ?_;rw [fin _ hu];simp
  by_cases k5:c.kind=5
  ·have h:ag 5:=by unfold ag;omega
   have hu:ak c=⟨5,c.doc,0,0,c.n,[],[]⟩:=by simp [ak,k5,h]
   simp [k5];refine aa.pure (au 5) (by simp) ?_;simp [h];refine aa.pure (ao c ⟨5,c.doc,0,0,c.n,[],[]⟩ (by omega)) (by simp [Call.row,k5]) ?_;rw [fin _ hu];simp
  by_cases k6:c.kind=6
  ·have h:¬ ag 6:=by unfold ag;omega
   have hu:ak c=⟨6,⟨#[]⟩,c.client,0,c.n,[],[]⟩:=by simp [ak,k6,h]
   simp [k6];refine aa.pure (au 6) (by simp) ?_;simp [bo h];refine drw eok mix [0,1,2,3,4,6] [5,7] (.c 6 5 50 13 (.c 6 7 13 0 (.l 6 0) .s) .s) ?_;simp
   try intros
   refine aa.pure (ao c ⟨6,⟨#[]⟩,c.client,0,c.n,[],[]⟩ (by omega)) (by simp [Call.row,k6]) ?_;rw [fin _ hu];simp
  by_cases k7:c.kind=7
  ·have h:¬ ag 7:=by unfold ag;omega
   have hu:ak c=⟨7,⟨#[]⟩,c.client,0,0,[],[]⟩:=by simp [ak,k7,h]
   simp [k7];refine aa.pure (au 7) (by simp) ?_;simp [bo h];refine aa.pure (ao c ⟨7,⟨#[]⟩,c.client,0,0,[],[]⟩ (by omega)) (by simp [Call.row,k7]) ?_;rw [fin _ hu];simp
  have k8:c.kind=8:=by omega
  have h:¬ ag 8:=by unfold ag;omega
  have hu:ak c=⟨8,⟨#[]⟩,0,0,0,[],[]⟩:=by simp [ak,k8,h]
  simp [k8];refine aa.pure (au 8) (by simp) ?_;simp [bo h];refine aa.pure (ao c ⟨8,⟨#[]⟩,0,0,0,[],[]⟩ (by omega)) (by simp [Call.row,k8]) ?_;rw [fin _ hu];simp
 ·simp
  rw [Trc];refine ⟨?_,?_⟩
  ·simp
   refine inl aq Tryz.func85 20000 (λw1 F=>?_);simp;intro g1 g2 g3;by_cases k1:c.kind=1
   ·have h:ag 1:=by unfold ag;omega
    have hu:ak c=⟨1,c.doc,0,0,0,[],c.text⟩:=by simp [ak,k1,h]
    simp [k1];refine aa.pure (au 1) (by simp) ?_;simp [h];refine aa.pure (ao c ⟨1,c.doc,0,0,0,[],c.text⟩ (by omega)) (by simp [Call.row,k1]) ?_;rw [fin _ hu];simp
   by_cases k2:c.kind=2
   ·have h:ag 2:=by unfold ag;omega
    have hu:ak c=⟨2,c.doc,c.client,c.seq,c.n,c.o,[]⟩:=by simp [ak,k2,h]
    simp [k2];refine aa.pure (au 2) (by simp) ?_;simp [h];refine drw eok mix [0,1,2,3,4,5,6,7,8,10,12,14] [9,11,13,15] (.c 12 9 3080 1015 (.c 12 11 772 243 (.c 12 13 194 49 (.c 12 15 49 0 (.l 12 0) .s) .s) .s) .s) ?_;simp
    try intros
    refine aa.pure (ao c ⟨2,c.doc,c.client,c.seq,c.n,c.o,[]⟩ (by omega)) (by simp [Call.row,k2]) ?_;rw [fin _ hu];simp
   by_cases k3:c.kind=3
   ·have h:ag 3:=by unfold ag;omega
    have hu:ak c=⟨3,c.doc,0,0,c.n,[],[]⟩:=by simp [ak,k3,h]
    simp [k3];refine aa.pure (au 3) (by simp) ?_;simp [h];refine aa.pure (ao c ⟨3,c.doc,0,0,c.n,[],[]⟩ (by omega)) (by simp [Call.row,k3]) ?_;rw [fin _ hu];simp
   by_cases k4:c.kind=4
   ·have h:ag 4:=by unfold ag;omega
    have hu:ak c=⟨4,c.doc,0,0,0,[],[]⟩:=by simp [ak,k4,h]
    simp [k4];refine aa.pure (au 4) (by simp) ?_;simp [h];refine aa.pure (ao c ⟨4,c.doc,0,0,0,[],[]⟩ (by omega)) (by simp [Call.row,k4]) ?_;rw [fin _ hu];simp
   by_cases k5:c.kind=5
   ·have h:ag 5:=by unfold ag;omega
    have hu:ak c=⟨5,c.doc,0,0,c.n,[],[]⟩:=by simp [ak,k5,h]
    simp [k5];refine aa.pure (au 5) (by simp) ?_;simp [h];refine aa.pure (ao c ⟨5,c.doc,0,0,c.n,[],[]⟩ (by omega)) (by simp [Call.row,k5]) ?_;rw [fin _ hu];simp
   by_cases k6:c.kind=6
   ·have h:¬ ag 6:=by unfold ag;omega
    have hu:ak c=⟨6,⟨#[]⟩,c.client,0,c.n,[],[]⟩:=by simp [ak,k6,h]
    simp [k6];refine aa.pure (au 6) (by simp) ?_;simp [bo h];refine drw eok mix [0,1,2,3,4,6] [5,7] (.c 6 5 50 13 (.c 6 7 13 0 (.l 6 0) .s) .s) ?_;simp
    try intros
    refine aa.pure (ao c ⟨6,⟨#[]⟩,c.client,0,c.n,[],[]⟩ (by omega)) (by simp [Call.row,k6]) ?_;rw [fin _ hu];simp
   by_cases k7:c.kind=7
   ·have h:¬ ag 7:=by unfold ag;omega
    have hu:ak c=⟨7,⟨#[]⟩,c.client,0,0,[],[]⟩:=by simp [ak,k7,h]
    simp [k7];refine aa.pure (au 7) (by simp) ?_;simp [bo h];refine aa.pure (ao c ⟨7,⟨#[]⟩,c.client,0,0,[],[]⟩ (by omega)) (by simp [Call.row,k7]) ?_;rw [fin _ hu];simp
   have k8:c.kind=8:=by omega
   have h:¬ ag 8:=by unfold ag;omega
   have hu:ak c=⟨8,⟨#[]⟩,0,0,0,[],[]⟩:=by simp [ak,k8,h]
   simp [k8];refine aa.pure (au 8) (by simp) ?_;simp [bo h];refine aa.pure (ao c ⟨8,⟨#[]⟩,0,0,0,[],[]⟩ (by omega)) (by simp [Call.row,k8]) ?_;rw [fin _ hu];simp
  ·simp
   refine inl aq Tryz.func85 20000 (λw1 F=>?_);simp;intro g1 g2 g3;by_cases k1:c.kind=1
   ·have h:ag 1:=by unfold ag;omega
    have hu:ak c=⟨1,c.doc,0,0,0,[],c.text⟩:=by simp [ak,k1,h]
    simp [k1];refine aa.pure (au 1) (by simp) ?_;simp [h];refine aa.pure (ao c ⟨1,c.doc,0,0,0,[],c.text⟩ (by omega)) (by simp [Call.row,k1]) ?_;rw [fin _ hu];simp
   by_cases k2:c.kind=2
   ·have h:ag 2:=by unfold ag;omega
    have hu:ak c=⟨2,c.doc,c.client,c.seq,c.n,c.o,[]⟩:=by simp [ak,k2,h]
    simp [k2];refine aa.pure (au 2) (by simp) ?_;simp [h];refine drw eok mix [0,1,2,3,4,5,6,7,8,10,12,14] [9,11,13,15] (.c 12 9 3080 1015 (.c 12 11 772 243 (.c 12 13 194 49 (.c 12 15 49 0 (.l 12 0) .s) .s) .s) .s) ?_;simp
    try intros
    refine aa.pure (ao c ⟨2,c.doc,c.client,c.seq,c.n,c.o,[]⟩ (by omega)) (by simp [Call.row,k2]) ?_;rw [fin _ hu];simp
   by_cases k3:c.kind=3
   ·have h:ag 3:=by unfold ag;omega
    have hu:ak c=⟨3,c.doc,0,0,c.n,[],[]⟩:=by simp [ak,k3,h]
    simp [k3];refine aa.pure (au 3) (by simp) ?_;simp [h];refine aa.pure (ao c ⟨3,c.doc,0,0,c.n,[],[]⟩ (by omega)) (by simp [Call.row,k3]) ?_;rw [fin _ hu];simp
   by_cases k4:c.kind=4
   ·have h:ag 4:=by unfold ag;omega
    have hu:ak c=⟨4,c.doc,0,0,0,[],[]⟩:=by simp [ak,k4,h]
    simp [k4];refine aa.pure (au 4) (by simp) ?_;simp [h];refine aa.pure (ao c ⟨4,c.doc,0,0,0,[],[]⟩ (by omega)) (by simp [Call.row,k4]) ?_;rw [fin _ hu];simp
   by_cases k5:c.kind=5
   ·have h:ag 5:=by unfold ag;omega
    have hu:ak c=⟨5,c.doc,0,0,c.n,[],[]⟩:=by simp [ak,k5,h]
    simp [k5];refine aa.pure (au 5) (by simp) ?_;simp [h];refine aa.pure (ao c ⟨5,c.doc,0,0,c.n,[],[]⟩ (by omega)) (by simp [Call.row,k5]) ?_;rw [fin _ hu];simp
   by_cases k6:c.kind=6
   ·have h:¬ ag 6:=by unfold ag;omega
    have hu:ak c=⟨6,⟨#[]⟩,c.client,0,c.n,[],[]⟩:=by simp [ak,k6,h]
    simp [k6];refine aa.pure (au 6) (by simp) ?_;simp [bo h];refine drw eok mix [0,1,2,3,4,6] [5,7] (.c 6 5 50 13 (.c 6 7 13 0 (.l 6 0) .s) .s) ?_;simp
    try intros
    refine aa.pure (ao c ⟨6,⟨#[]⟩,c.client,0,c.n,[],[]⟩ (by omega)) (by simp [Call.row,k6]) ?_;rw [fin _ hu];simp
   by_cases k7:c.kind=7
   ·have h:¬ ag 7:=by unfold ag;omega
    have hu:ak c=⟨7,⟨#[]⟩,c.client,0,0,[],[]⟩:=by simp [ak,k7,h]
    simp [k7];refine aa.pure (au 7) (by simp) ?_;simp [bo h];refine aa.pure (ao c ⟨7,⟨#[]⟩,c.client,0,0,[],[]⟩ (by omega)) (by simp [Call.row,k7]) ?_;rw [fin _ hu];simp
   have k8:c.kind=8:=by omega
   have h:¬ ag 8:=by unfold ag;omega
   have hu:ak c=⟨8,⟨#[]⟩,0,0,0,[],[]⟩:=by simp [ak,k8,h]
   simp [k8];refine aa.pure (au 8) (by simp) ?_;simp [bo h];refine aa.pure (ao c ⟨8,⟨#[]⟩,0,0,0,[],[]⟩ (by omega)) (by simp [Call.row,k8]) ?_;rw [fin _ hu];simp
theorem ng (c:Call) (hl:bS c<=2 ^ 36):az Tryz.prog 28 [.agg c.row] (.one (.c (vb (bp c)) 1)):=by
 refine pci aq Tryz.func28 (λw0 base=>?_);have hx:∀ p:Prop,(bp c->p)->¬ p->dc (bp c)=false:=λp h1 h2=>bo (λh=>h2 (h1 h))
 unfold bS at hl;simp [Call.row];intro b1;refine aa.pure (j9 c.kind) (by simp) ?_;by_cases s1:1<=c.kind/\c.kind<=8
 rotate_left
 ·simp [bo s1,hx _ (λh=>h.1) s1]
 simp [s1];by_cases s2:c.doc.size<=8
 rotate_left
 ·have s2':8<(c.doc.size:Int):=by omega
  simp [s2',hx _ (λh=>h.2.1) s2]
 have s2':¬ 8<(c.doc.size:Int):=by omega
 simp [s2'];refine aa.pure (eq c.o (by omega)) (by simp) ?_;by_cases s3:bu c.o
 rotate_left
 ·simp [bo s3,hx _ (λh=>h.2.2.1) s3]
 simp [s3];refine aa.pure (m8 c.text (by omega)) (by simp) ?_;by_cases s4:dV c.text
 rotate_left
 ·simp [bo s4,hx _ (λh=>h.2.2.2.1) s4]
 simp [s4];refine aa.pure (dD c.kind) (by simp) ?_
 clear hx
 obtain ⟨kind,doc,client,seq,n,o,text⟩:=c;simp only at s1 s2 s3 s4 s2' ⊢
 have ho:(0<o.length) = ¬ o=[]:=by
  apply propext
  cases o<;>simp
 have ht:(0<text.length) = ¬ text=[]:=by
  apply propext
  cases text<;>simp
 have hk:kind=1\/kind=2\/kind=3\/kind=4\/kind=5\/kind=6\/kind=7\/kind=8:=by omega
 unfold vb;rcases hk with rfl|rfl|rfl|rfl|rfl|rfl|rfl|rfl
 ·have hd:ag 1:=by unfold ag;omega
  have e:dc (bp ⟨1,doc,client,seq,n,o,text⟩)=dc (o=[]/\seq=0/\client=0/\n=0):=by
   congr 1;apply propext;unfold bp
   constructor
   ·rintro ⟨-,-,-,-,g1,g2,g3,g4,g5⟩;simp_all
   ·intro g;refine ⟨s1,s2,s3,s4,?_,?_,?_,?_,?_⟩<;>simp_all
  rw [e];simp [hd,ho];by_cases e0:o=[]<;>by_cases e1:seq=0<;>by_cases e2:client=0<;>by_cases e3:n=0<;>simp [e0,e1,e2,e3,ho]
 ·have hd:ag 2:=by unfold ag;omega
  have e:dc (bp ⟨2,doc,client,seq,n,o,text⟩)=dc (text=[]):=by
   congr 1;apply propext;unfold bp
   constructor
   ·rintro ⟨-,-,-,-,g1,g2,g3,g4,g5⟩;simp_all
   ·intro g;refine ⟨s1,s2,s3,s4,?_,?_,?_,?_,?_⟩<;>simp_all
  rw [e];simp [hd,ht];by_cases e0:text=[]<;>simp [e0,ht]
 ·have hd:ag 3:=by unfold ag;omega
  have e:dc (bp ⟨3,doc,client,seq,n,o,text⟩)=dc (text=[]/\o=[]/\seq=0/\client=0):=by
   congr 1;apply propext;unfold bp
   constructor
   ·rintro ⟨-,-,-,-,g1,g2,g3,g4,g5⟩;simp_all
   ·intro g;refine ⟨s1,s2,s3,s4,?_,?_,?_,?_,?_⟩<;>simp_all
  rw [e];simp [hd,ht];by_cases e0:text=[]<;>by_cases e1:o=[]<;>by_cases e2:seq=0<;>by_cases e3:client=0<;>simp [e0,e1,e2,e3,ho,ht]
 ·have hd:ag 4:=by unfold ag;omega
  have e:dc (bp ⟨4,doc,client,seq,n,o,text⟩)=dc (text=[]/\o=[]/\seq=0/\client=0/\n=0):=by
   congr 1;apply propext;unfold bp
   constructor
   ·rintro ⟨-,-,-,-,g1,g2,g3,g4,g5⟩;simp_all
   ·intro g;refine ⟨s1,s2,s3,s4,?_,?_,?_,?_,?_⟩<;>simp_all
  rw [e];simp [hd,ht];by_cases e0:text=[]<;>by_cases e1:o=[]<;>by_cases e2:seq=0<;>by_cases e3:client=0<;>by_cases e4:n=0<;>simp [e0,e1,e2,e3,e4,ho,ht]
 ·have hd:ag 5:=by unfold ag;omega
  have e:dc (bp ⟨5,doc,client,seq,n,o,text⟩)=dc (text=[]/\o=[]/\seq=0/\client=0):=by
   congr 1;apply propext;unfold bp
   constructor
   ·rintro ⟨-,-,-,-,g1,g2,g3,g4,g5⟩;simp_all
   ·intro g;refine ⟨s1,s2,s3,s4,?_,?_,?_,?_,?_⟩<;>simp_all
  rw [e];simp [hd,ht];by_cases e0:text=[]<;>by_cases e1:o=[]<;>by_cases e2:seq=0<;>by_cases e3:client=0<;>simp [e0,e1,e2,e3,ho,ht]
 ·have hd:¬ ag 6:=by unfold ag;omega
  have e:dc (bp ⟨6,doc,client,seq,n,o,text⟩)=dc (doc=⟨#[]⟩/\text=[]/\o=[]/\seq=0):=by
   congr 1;apply propext;unfold bp
   constructor
   ·rintro ⟨-,-,-,-,g1,g2,g3,g4,g5⟩;simp_all
   ·intro g;refine ⟨s1,s2,s3,s4,?_,?_,?_,?_,?_⟩<;>simp_all
  rw [e];simp [bo hd];by_cases e0:doc=⟨#[]⟩<;>by_cases e1:text=[]<;>by_cases e2:o=[]<;>by_cases e3:seq=0<;>simp [e0,e1,e2,e3,ho,ht]
 ·have hd:¬ ag 7:=by unfold ag;omega
  have e:dc (bp ⟨7,doc,client,seq,n,o,text⟩)=dc (doc=⟨#[]⟩/\text=[]/\o=[]/\seq=0/\n=0):=by
   congr 1;apply propext;unfold bp
   constructor
   ·rintro ⟨-,-,-,-,g1,g2,g3,g4,g5⟩;simp_all
   ·intro g;refine ⟨s1,s2,s3,s4,?_,?_,?_,?_,?_⟩<;>simp_all
  rw [e];simp [bo hd];by_cases e0:doc=⟨#[]⟩<;>by_cases e1:text=[]<;>by_cases e2:o=[]<;>by_cases e3:seq=0<;>by_cases e4:n=0<;>simp [e0,e1,e2,e3,e4,ho,ht]
 ·have hd:¬ ag 8:=by unfold ag;omega
  have e:dc (bp ⟨8,doc,client,seq,n,o,text⟩)=dc (doc=⟨#[]⟩/\text=[]/\o=[]/\seq=0/\client=0/\n=0):=by
   congr 1;apply propext;unfold bp
   constructor
   ·rintro ⟨-,-,-,-,g1,g2,g3,g4,g5⟩;simp_all
   ·intro g;refine ⟨s1,s2,s3,s4,?_,?_,?_,?_,?_⟩<;>simp_all
  rw [e];simp [bo hd];by_cases e0:doc=⟨#[]⟩<;>by_cases e1:text=[]<;>by_cases e2:o=[]<;>by_cases e3:seq=0<;>by_cases e4:client=0<;>by_cases e5:n=0<;>simp [e0,e1,e2,e3,e4,e5,ho,ht]
set_option maxHeartbeats 1600000
end Go.Proofs.YthckkpphnmmfdaaGreatDoor
namespace Go.AM
open Go.RowKit
def iz (w:World) (S:Nat->Prop) (v:Value):VD->Prop
 | .c d=>Rd w false S v d
 | .agg ds=>∃ xs:Array Value,v=.agg xs/\xs.size=ds.length/\∀ j d,ds[j]? = some d->Rd w false S (xs.getD j undef) d
def EY (P:Program) (T:TypeId) (bs:List (List CD)) (f:Nat) (args:List VD) (R:RR->Prop):Prop:=
 p6 P f /\ ∀ (w:World) (b:Nat) (u:Value) (i h:Int) (xs:Array Value),0 <= i -> i <= bs.length ->
  w.heap[b]? = some (.cells #[u,.int .i64 i,.int .i64 h] T (0,0)) -> Rd w false (λc => c ≠ b) u (.s bs) ->
  xs.size=args.length+1 -> xs.getD 0 undef=.pointer (some ⟨b,0,none⟩) -> (∀ j vd,args[j]? = some vd -> iz w (λc => c ≠ b) (xs.getD (j+1) undef) vd) ->
  Calls P f xs w λe w' => ∃ (v:Value) (rr:RR) (i' h':Int),e=.returned v /\ R rr /\ 0 <= i' /\ i' <= bs.length /\ w'.heap[b]? = some (.cells #[u,.int .i64 i',.int .i64 h'] T (0,0)) /\
   BelowF (λc=>c<w.heap.size/\c≠b) w w'/\pZ w' (λc=>w.heap.size<=c/\c<w'.heap.size) v rr
def eJ (u:Value) (n:Nat) (i h:Int):List AV:=[.cv u n,.v (.int .i64 i),.v (.int .i64 h)]
def nZ (T:TypeId) (b:Nat) (u:Value) (n:Nat) (h:AH):Prop:=∃ i h2,h.get 0=.vars b T (eJ u n i h2)/\0<=i/\i<=(n:Int)
def wm (T:TypeId) (b:Nat) (u:Value) (n:Nat) (h:AH) (R:RR->Prop) (l:List AV):Prop:=
 ∃ rr,R rr/\match rr with
 | .one r => match l with
   | [x]=>iu h x r (nZ T b u n)
   |_=>False
 | .tup rs=>l.length≠1/\fi h l rs (nZ T b u n)
def n9 (E:Env) (T:TypeId) (b:Nat) (u:Value) (n:Nat) (rs:List ResultVar) (R:RR->Prop):Exit->ASt->Prop
 | .normal,st=>bR E st rs (wm T b u n st.h R)
 | .ret,st=>bR E st rs (wm T b u n st.h R)
 |_,_=>False
theorem iz.rel {w:World} {M:Nat->Prop} {v:Value} {d:VD} (h:iz w (λb=>¬ M b) v d):VRel w M d.toAV v:=by
 cases d with
 |c d=>exact cM h
 | agg ds =>
   obtain ⟨xs,rfl,hs,hr⟩:=h;refine .agg _ _ (by simp [hs]) (λi av hi=>?_);simp only [List.getElem?_map,Option.map_eq_some_iff] at hi;obtain ⟨d,hd,rfl⟩:=hi;exact cM (hr i d hd)
theorem Rd.slice_len {w:World} {x:Bool} {S:Nat->Prop} {u:Value} {rows:List (List CD)} (h:Rd w x S u (.s rows)):∃ a c,u=.slice a rows.length c:=by
 cases h with
 |empty a cap=>exact ⟨a,cap,rfl⟩
 |slice b off cap=>exact ⟨_,cap,rfl⟩
theorem EY.intro {P : Program} {Ty : Nat → Option TI} (hT : ∀ t ti, Ty t = some ti → TIok P t ti) {f : Nat} {fn : Func} {c : Code} (hf : P.funcs[f]? = some fn) (hname : (fn.name == "runtime.NumGoroutine") = false) (hb : fn.body = some c)
 {n:Nat} {rs:List ResultVar} (hnt:fn.ntmps=n) (hrs:fn.results=⟨rs⟩) {T:TypeId} {bs:List (List CD)} {args:List VD} {R:RR->Prop} (hn:args.length+1<=n)
 (h:∀ w0 base b u i h,0<=i->i<=(bs.length:Int)->Rd w0 false base u (.s bs)->ci ⟨P,Ty,w0,⟨base,base,false,λ_=>True⟩⟩ c (n9 ⟨P,Ty,w0,⟨base,base,false,λ_=>True⟩⟩ T b u bs.length rs R)
  { n:=n,kb:=0,t:=(0,.p 0 b 0)::eK 1 args,h:=[(0,.vars b T (eJ u bs.length i h))] }):EY P T bs f args R:=by
 subst hnt;have hrs':fn.results.toList=rs:=by rw [hrs]
 subst hrs';refine ⟨⟨fn,hf,hname,by rw [hb];rfl⟩,λw b u i hh xs hi0 hi1 hcell hu hs hx0 hx=>calls_of_wp hf hb ?_⟩
 let F:Nat->Prop:=λc=>c<w.heap.size/\c≠b
 let bs0:Bs:=⟨F,F,false,λ_=>True⟩
 have hE:EOk ⟨P,Ty,w,bs0⟩:=⟨hT,λw' hb=>trivial⟩;have hget:∀ k,AH.get [(0,.vars b T (eJ u bs.length i hh))] k=if k=0 then .vars b T (eJ u bs.length i hh) else .dead:=λk=>by rw [ax];rfl
 have hblk:∀ k c,(AH.get [(0,.vars b T (eJ u bs.length i hh))] k).blk=some c->k=0/\c=b:=by
  intro k c hk;rw [hget] at hk
  split at hk
  ·rename_i h0;simp [AObj.blk] at hk;exact ⟨h0,hk.symm⟩
  ·simp [AObj.blk] at hk
 have hM:∀ c,AH.M [(0,.vars b T (eJ u bs.length i hh))] c->c=b:=λc ⟨k,hk⟩=>(hblk k c hk).2
 obtain ⟨ua,uc,hlen⟩:=hu.slice_len
 have hR:Rep w bs0 { n:=fn.ntmps,kb:=0,t:=(0,.p 0 b 0)::eK 1 args,h:=[(0,.vars b T (eJ u bs.length i hh))] } { tmps:=xs++Array.replicate (fn.ntmps - xs.size) undef,defers:=[] } w:=by
  refine ⟨rfl,by simp;omega,λq=>?_,⟨λ_ _=>False,λk=>?_,λk k' c hk hk'=>(hblk k c hk).1.trans (hblk k' c hk').1.symm,λk c hk=>?_,λk c hc=>hc.elim,λk k' c hc=>hc.elim,λk c hc=>hc.elim⟩,BelowF.refl _ _,λc hc=>hc.elim (λh=>h.1) (λh=>h.1)⟩
  ·show VRel w _ (ap ((0,.p 0 b 0)::eK 1 args) q) _
   have e:∀ q,q<xs.size->(xs++Array.replicate (fn.ntmps - xs.size) undef).getD q undef=xs.getD q undef:=λq hq=>by
    simp only [Array.getD_eq_getD_getElem?];rw [Array.getElem?_append_left hq]
   unfold ap
   split
   ·rename_i h0
    subst h0;rw [e 0 (by omega),hx0];exact .p _ _ _
   ·rename_i h0
    rw [fW]
    split
    ·split
     ·rename_i v hv
      have hlt:q - 1<args.length:=(List.getElem?_eq_some_iff.1 hv).1;rw [e q (by omega)];have:=hx (q - 1) v hv;rw [show q - 1+1=q by omega] at this;refine iz.rel ?_;have mono:∀ v d,Rd w false (λc=>c≠b) v d->Rd w false (λc=>¬ AH.M [(0,.vars b T (eJ u bs.length i hh))] c) v d:=λv d h=>h.map (λ_ _ _=>rfl) (λc hc _ hm=>hc (hM c hm))
      cases v with
      |c d=>exact mono _ _ this
      | agg ds =>
        obtain ⟨ys,h1,h2,h3⟩:=this;exact ⟨ys,h1,h2,λj d hd=>mono _ _ (h3 j d hd)⟩
     ·exact .any _
    ·exact .any _
  ·rw [hget]
   split
   ·refine ⟨_,hcell,rfl,λj av hj=>?_⟩
    match j,hj with
    |0,hj=>cases hj;exact .cv _ _ ⟨ua,uc,hlen⟩
    |1,hj=>cases hj;exact .v _ rfl
    |2,hj=>cases hj;exact .v _ rfl
    |j+3,hj=>cases hj
   ·trivial
  ·obtain ⟨-,rfl⟩:=hblk k c hk
   exact ⟨λh=>h.2 rfl,λh=>h.2 rfl⟩
 have hu0:Rd w false F u (.s bs):=hu.map (λ_ _ _=>rfl) (λc hc hl=>⟨hl,hc⟩);refine wp_mono (bc hE c _ _ _ w hR (h w F b u i hh hi0 hi1 hu0)) ?_
 rintro e a' w' ⟨st',hq,hR'⟩
 have key:bR ⟨P,Ty,w,bs0⟩ st' fn.results.toList (wm T b u bs.length st'.h R) -> a'.defers=[] /\ ∃ v,(results fn a'.tmps).run P w'=.ok v w' /\ ∃ (v':Value) (rr:RR) (i' h':Int),Ending.returned v=.returned v' /\ R rr /\ 0 <= i' /\ i' <= bs.length /\ w'.heap[b]? = some (.cells #[u,.int .i64 i',.int .i64 h'] T (0,0)) /\
  BelowF (λc=>c<w.heap.size/\c≠b) w w'/\pZ w' (λc=>w.heap.size<=c/\c<w'.heap.size) v' rr:=by
  intro hq;obtain ⟨vs,l,h1,h2,h3,rr,hRR,h4⟩:=ca hE hR' fn.results.toList hq;obtain ⟨Es,hH⟩:=hR'.heap;refine ⟨hR'.dfr,if vs.length=1 then vs.getD 0 undef else .tuple vs.toArray,?_,?_⟩
  ·have h1':(fn.results.toList.mapM (dx a'.tmps)).run P w'=.ok vs w':=h1
   rw [dq,Array.mapM_eq_mapM_toList];simp only [Sem.run_bind,Sem.run_map,h1',Result.andThen_ok,Sem.run_pure]
   cases vs with
   |nil=>simp
   |cons v vs=>cases vs<;>simp
  ·have low:∀ {h' E' S},Outs bs0 st'.h w' Es h' E' S->nZ T b u bs.length h'->∀ c,S c->w.heap.size<=c/\c<w'.heap.size:=by
    rintro h' E' S O ⟨i',h2,hg,-⟩ c hc
    obtain ⟨g1,g2,g3⟩:=O.own c hc;have hcb:c≠b:=λhe=>g3 ⟨0,by rw [hg,he];rfl⟩
    rcases g1 with ⟨k,hk⟩|⟨k,hk⟩
    ·exact ⟨Nat.le_of_not_lt (λhlt=>(hH.elow k c hk).1 ⟨hlt,hcb⟩),(hH.elow k c hk).2⟩
    ·exact ⟨Nat.le_of_not_lt (λhlt=>(hH.low k c hk).1 ⟨hlt,hcb⟩),hH.lt hk⟩
   have cell:∀ {h' E' S},Outs bs0 st'.h w' Es h' E' S->nZ T b u bs.length h'->∃ (i' h':Int),0<=i'/\i'<=(bs.length:Int)/\w'.heap[b]? = some (.cells #[u,.int .i64 i',.int .i64 h'] T (0,0)):=by
    rintro h' E' S O ⟨i',h2,hg,k1,k2⟩
    have ho:=O.rel.obj 0;rw [hg] at ho;obtain ⟨cs,g1,g2,g3⟩:=ho;refine ⟨i',h2,k1,k2,?_⟩;rw [g1];have c0:=g3 0 _ rfl;have c1:=g3 1 _ rfl;have c2:=g3 2 _ rfl;have hs3:cs.size=3:=g2;have e0:cs.getD 0 undef=u:=by generalize cs.getD 0 undef=y at c0;cases c0;rfl
    have e1:cs.getD 1 undef=.int .i64 i':=by generalize cs.getD 1 undef=y at c1;cases c1;rfl
    have e2:cs.getD 2 undef=.int .i64 h2:=by generalize cs.getD 2 undef=y at c2;cases c2;rfl
    have:cs = #[u,.int .i64 i',.int .i64 h2]:=by
     refine Array.ext (by simp [hs3]) (λj h1 h2'=>?_);simp only [Array.getD_eq_getD_getElem?] at e0 e1 e2;rcases j with _|_|_|j
     ·rw [Array.getElem?_eq_getElem h1] at e0;exact e0
     ·rw [Array.getElem?_eq_getElem h1] at e1;exact e1
     ·rw [Array.getElem?_eq_getElem h1] at e2;exact e2
     ·omega
    rw [this]
   have hbel:BelowF (λc=>c<w.heap.size/\c≠b) w w':=hR'.below
   cases rr with
   | one r =>
     simp only at h4
     split at h4
     ·rename_i x
      obtain ⟨h',E',S,hk,hr,O⟩:=en hH (h3 0 x rfl) h4;obtain ⟨i',h'',g1,g2,g3⟩:=cell O hk;refine ⟨_,.one r,i',h'',rfl,hRR,g1,g2,g3,hbel,?_⟩;rw [if_pos (by simpa using h2)];exact gh.mono hr (λc hc=>low O hk c hc)
     ·exact h4.elim
   | tup rs =>
     obtain ⟨hne,h4⟩:=h4;obtain ⟨h',E',S,G,hk,hl,hF,hd,hr,O⟩:=dQ l rs hH h3 h4;obtain ⟨i',h'',g1,g2,g3⟩:=cell O hk;refine ⟨_,.tup rs,i',h'',rfl,hRR,g1,g2,g3,hbel,?_⟩;rw [if_neg (by omega)];exact ⟨vs.toArray,G,rfl,by simp;omega,λj c hc=>low O hk c (hF j c hc),hd,λj t hj=>by simpa using hr j t hj⟩
 cases e with
 |normal=>exact key hq
 |ret=>exact key hq
 |_=>exact hq.elim
theorem ls {base:Bs} {h:AH} {w:World} {E:Nat->Nat->Prop} (H:HRel base h w E) {S:Nat->Prop} (hS:∀ c,¬ h.M c->S c) (hSr:∀ k b o C sz rows own,h.get k=.rows (some (b,o,C)) sz rows own->S b)
 {x:AV} {u:Value} {R:Value->CD->Prop} (hR:∀ u d,R u d->Rd w false S u d) (hv:VRel w h.M x u) {d:CD} (hk:aIn R h x d):Rd w false S u d:=by
 unfold aIn at hk
 split at hk
 ·cases hv;exact hR _ _ hk
 ·rename_i k Hd sz len
  split at hk
  ·rename_i H' sz' rows own hget
   obtain ⟨rfl,rfl,rfl,rfl⟩:=hk
   cases hv with
   | ml _ _ _ _ _ hx =>
     rcases hx with ⟨hp,hx⟩|⟨h0,-,a,c,rfl⟩
     ·have ho:=H.obj k
      rw [hget] at ho
      cases Hd with
      | none =>
        obtain ⟨⟨a,rfl⟩,h0⟩:=hx;rw [List.eq_nil_of_length_eq_zero h0];exact .empty _ _ (by intro h;cases h)
      | some q =>
        obtain ⟨b,o,C⟩:=q;obtain ⟨S0,hrd,hS0⟩:=cW ho ⟨k,by rw [hget];rfl⟩ hx (show 0+rows.length<=rows.length by omega);have:=hrd.weaken.map (S':=S) (λ_ _ _=>rfl) (λc hc _=>(hS0 c hc).elim (λe=>e ▸ hSr _ _ _ _ _ _ _ hget) (λh=>hS c h.2))
        simpa [cC] using this
     ·rw [List.eq_nil_of_length_eq_zero h0]
      exact .empty _ _ (by intro h;cases h)
  ·exact hk.elim
 ·subst hk;cases hv with|v u hp=>exact .plain hp
 ·subst hk;cases hv;exact .empty _ _ (by intro h;cases h)
 ·subst hk;cases hv with|ro rows x hr=>exact hr.map (λ_ _ _=>rfl) (λc hc _=>hS c hc)
 ·rename_i k Hd sz off len
  split at hk
  ·rename_i H' sz' rows own hget
   obtain ⟨rfl,rfl,hlen,rfl⟩:=hk
   cases hv with
   | sl _ _ _ _ _ _ hx =>
     have ho:=H.obj k;rw [hget] at ho
     cases Hd with
     | none =>
       obtain ⟨⟨a,rfl⟩,rfl⟩:=hx;rw [show rows=[] from ho,show cut ([]:List (List CD)) off 0=[] from by simp [cC]];exact .empty _ _ (by intro h;cases h)
     | some q =>
       obtain ⟨b,o,C⟩:=q;obtain ⟨S0,hrd,hS0⟩:=cW ho ⟨k,by rw [hget];rfl⟩ hx hlen;exact hrd.weaken.map (λ_ _ _=>rfl) (λc hc _=>(hS0 c hc).elim (λe=>e ▸ hSr _ _ _ _ _ _ _ hget) (λh=>hS c h.2))
  ·rename_i H' sz' rows hget
   obtain ⟨rfl,rfl,rfl,rfl,rfl⟩:=hk
   cases hv with
   | sl _ _ _ _ _ _ hx =>
     have ho:=H.obj k;rw [hget] at ho;exact (ho.2.2 _ hx).map (λ_ _ _=>rfl) (λc hc _=>hS c hc)
  ·exact hk.elim
 ·exact hk.elim
theorem jy {base:Bs} {h:AH} {w:World} {E:Nat->Nat->Prop} (H:HRel base h w E) {S:Nat->Prop} (hS:∀ c,¬ h.M c->S c) (hSr:∀ k b o C sz rows own,h.get k=.rows (some (b,o,C)) sz rows own->S b)
 {R:Value->CD->Prop} (hR:∀ u d,R u d->Rd w false S u d):∀ (l:List AV) (ds:List CD) {us:Nat->Value} (_:∀ i av,l[i]? = some av->VRel w h.M av (us i)) (_:lX R h l ds),
 l.length=ds.length/\∀ i d,ds[i]? = some d->Rd w false S (us i) d
 | [],[],us,hv,hk=>⟨rfl,λi d hd=>by simp at hd⟩
 | a :: l, d :: ds, us, hv, hk => by
   obtain ⟨h1,h2⟩:=jy H hS hSr hR l ds (us:=λi=>us (i+1)) (λi av hi=>hv (i+1) av (by simpa using hi)) hk.2;refine ⟨by simp [h1],λi d' hd=>?_⟩
   cases i with
   |zero=>simp at hd;subst hd;exact ls H hS hSr hR (hv 0 a rfl) hk.1
   |succ i=>exact h2 i d' (by simpa using hd)
 | [],_::_,us,hv,hk=>hk.elim
 |_::_,[],us,hv,hk=>hk.elim
theorem tp {E:Env} {T:TypeId} {b:Nat} {u:Value} {n:Nat} {rs:List ResultVar} {R:RR->Prop} {st:ASt}:n9 E T b u n rs R .normal st=bR E st rs (wm T b u n st.h R):=(rfl)
theorem to {E:Env} {T:TypeId} {b:Nat} {u:Value} {n:Nat} {rs:List ResultVar} {R:RR->Prop} {st:ASt}:n9 E T b u n rs R .ret st=bR E st rs (wm T b u n st.h R):=(rfl)
attribute [simp ↓] tp to
attribute [simp] eJ
end Go.AM
