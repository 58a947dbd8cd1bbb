import Derived.Test.YtoldjebobgocpaaGreatPA
import Derived.Test.YtoldjebobgocpaaGreatPB
import Derived.Test.YtoldjebobgocpaaGreatPC
import Derived.Test.YtoldjebobgocpaaGreatNA
import Derived.Test.YtoldjebobgocpaaGreatMF
namespace Go.Proofs.YtoldjebobgocpaaGreat
set_option maxRecDepth 20000
inductive At where
 | k
 | p (c : Int)
 | d
def ats (p : Part) : List At:=if p.kind = 2 then p.signs.map At.p else if p.kind = 3 then List.replicate (psz p) .d else List.replicate (psz p) .k
def aU : List Part->List At
 | []=>[]
 | p :: l=>ats p ++ aU l
theorem fC : ∀ (a b : List Part),aU (a ++ b) = aU a ++ aU b
 | [],b=>rfl
 | p :: a,b=>by simp [aU,fC a b]
def frA : List At->Nat
 | []=>0
 | .p _ :: l=>frA l
 | _ :: l=>frA l + 1
def toA : List At->Nat
 | []=>0
 | .d :: l=>toA l
 | _ :: l=>toA l + 1
theorem hJ : ∀ (a b : List At),frA (a ++ b) = frA a + frA b
 | [],b=>by simp [frA]
 | .p c :: a,b=>by simp [frA,hJ a b]
 | .k :: a,b=>by simp [frA,hJ a b];omega
 | .d :: a,b=>by simp [frA,hJ a b];omega
theorem fW : ∀ (a b : List At),toA (a ++ b) = toA a + toA b
 | [],b=>by simp [toA]
 | .d :: a,b=>by simp [toA,fW a b]
 | .k :: a,b=>by simp [toA,fW a b];omega
 | .p c :: a,b=>by simp [toA,fW a b];omega
theorem wv : ∀ l : List Int,frA (l.map At.p) = 0
 | []=>rfl
 | c :: l=>by simp [frA,wv l]
theorem rJ : ∀ l : List Int,toA (l.map At.p) = l.length
 | []=>rfl
 | c :: l=>by simp [toA,rJ l]
theorem Gw : ∀ n : Nat,frA (List.replicate n At.k) = n
 | 0=>rfl
 | n + 1=>by simp [List.replicate_succ,frA,Gw n]
theorem ww : ∀ n : Nat,frA (List.replicate n At.d) = n
 | 0=>rfl
 | n + 1=>by simp [List.replicate_succ,frA,ww n]
theorem zr : ∀ n : Nat,toA (List.replicate n At.k) = n
 | 0=>rfl
 | n + 1=>by simp [List.replicate_succ,toA,zr n]
theorem rK : ∀ n : Nat,toA (List.replicate n At.d) = 0
 | 0=>rfl
 | n + 1=>by simp [List.replicate_succ,toA,rK n]
theorem BC {p : Part} (h : ao p) (k : p.kind = 2) : psz p = p.signs.length:=by
 rw [fZ k] at h;unfold psz;omega
theorem MP {p : Part} : frA (ats p) = if p.kind = 2 then 0 else psz p:=by
 unfold ats
 split
 ·exact wv _
 ·split
  ·exact ww _
  ·exact Gw _
theorem MO {p : Part} (h : ao p) : toA (ats p) = if p.kind = 3 then 0 else psz p:=by
 unfold ats;by_cases k : p.kind = 2
 ·have : ¬ p.kind = 3:=by omega
  rw [if_pos k,if_neg this,rJ,BC h k]
 ·rw [if_neg k]
  split
  ·exact rK _
  ·exact zr _
theorem of : ∀ (o : List Part),frs o = frA (aU o)
 | []=>rfl
 | p :: o=>by simp only [frs,aU,hJ,MP,of o]
theorem pz : ∀ {o : List Part},(∀ p∈o,ao p)->tos o = toA (aU o)
 | [],_=>rfl
 | p :: o,h=>by
   simp only [tos,aU,fW,MO (h p (List.mem_cons_self ..)),pz (λq hq=>h q (List.mem_cons_of_mem _ hq))]
def nA : List Int->Nat->List At->List At
 | P,n,[]=>P.map At.p ++ List.replicate n .d
 | P,n,.k :: l=>P.map At.p ++ (List.replicate n .d ++ .k :: nA [] 0 l)
 | P,n,.p c :: l=>nA (P ++ [c]) n l
 | P,n,.d :: l=>nA P (n + 1) l
def lP (l : List At) : List At:=nA [] 0 l
theorem BN : ∀ (l : List At) (P : List Int) (n : Nat),frA (nA P n l) = n + frA l
 | [],P,n=>by simp [nA,frA,hJ,wv,ww]
 | .k :: l,P,n=>by simp [nA,frA,hJ,wv,ww,BN l]
 | .p c :: l,P,n=>by simp [nA,frA,BN l]
 | .d :: l,P,n=>by simp [nA,frA,BN l];omega
theorem BK : ∀ (l : List At) (P : List Int) (n : Nat),toA (nA P n l) = P.length + toA l
 | [],P,n=>by simp [nA,toA,fW,rJ,rK]
 | .k :: l,P,n=>by simp [nA,toA,fW,rJ,rK,BK l]
 | .p c :: l,P,n=>by simp [nA,toA,BK l];omega
 | .d :: l,P,n=>by simp [nA,toA,BK l]
theorem BM : ∀ (Q P : List Int) (n : Nat) (l : List At),nA P n (Q.map At.p ++ l) = nA (P ++ Q) n l
 | [],P,n,l=>by simp
 | c :: Q,P,n,l=>by simp [nA,BM Q]
theorem BO : ∀ (m : Nat) (P : List Int) (n : Nat) (l : List At),nA P n (List.replicate m .d ++ l) = nA P (n + m) l
 | 0,P,n,l=>by simp
 | m + 1,P,n,l=>by simp [List.replicate_succ,nA,BO m];congr 1;omega
theorem JI : ∀ (m : Nat) (l : List At),nA [] 0 (List.replicate m .k ++ l) = List.replicate m .k ++ nA [] 0 l
 | 0,l=>by simp
 | m + 1,l=>by simp [List.replicate_succ,nA,JI m]
def bA (s : List Part × List Int × Int) : List At:=aU s.1 ++ (s.2.1.map At.p ++ List.replicate s.2.2.toNat .d)
theorem yI {L : List Part} {P : List Int} {D : Int} : aU (aJ L P D) = bA (L,P,D):=by
 unfold aJ bA;rw [fC,fC]
 congr 1
 congr 1
 ·split
  ·rename_i h;simp [h,aU]
  ·simp [aU,ats]
 ·split
  ·simp [aU,ats,psz]
  ·have : D.toNat = 0:=by omega
   simp [aU,this]
theorem mB : ∀ (L : List Part) (_h : 0 < L.length) (p : Part),aU (L.set (L.length - 1) p) = aU L.dropLast ++ ats p
 | [q],h,p=>by simp [aU]
 | q :: r :: L,h,p=>by
   have ih:=mB (r :: L) (by simp) p;simp only [List.length_cons,Nat.add_sub_cancel] at ih ⊢;rw [List.set_cons_succ,aU,ih];simp [aU]
theorem tw : ∀ (L : List Part) (h : 0 < L.length),aU L = aU L.dropLast ++ ats (L[L.length - 1]'(by omega))
 | [q],h=>by simp [aU]
 | q :: r :: L,h=>by
   have ih:=tw (r :: L) (by simp);simp only [List.length_cons,Nat.add_sub_cancel] at ih ⊢;rw [aU,ih];simp [aU]
theorem IH {L : List Part} {n : Int} (hn : 0 < n) (hL : ∀ q∈L,0<=q.n) (hk : ∀ q∈L,q.kind = 1->q.signs = []) : aU (bR L n) = aU L ++ List.replicate n.toNat .k:=by
 unfold bR
 split
 ·rename_i h
  split
  ·rename_i k
   have h1:=hL _ (List.getElem_mem (show L.length - 1 < L.length by omega));have h2:=hk _ (List.getElem_mem (show L.length - 1 < L.length by omega)) k;rw [mB L h,tw L h,List.append_assoc]
   congr 1
   generalize L[L.length - 1]'(by omega) = q at h1 h2 k;obtain ⟨a,b,c⟩:=q;simp only at h1 h2 k;subst k h2;simp [ats,psz,List.replicate_append_replicate];omega
  ·rw [fC]
   simp [aU,ats,psz]
 ·rename_i h
  have : L = []:=List.eq_nil_of_length_eq_zero (by omega);subst this;simp [aU,ats,psz]
theorem qM {L : List Part} {P : List Int} {D : Int} (h : ∀ q∈L,q.kind = 1->q.signs = []) : ∀ q∈aJ L P D,q.kind = 1->q.signs = []:=by
 intro q hq hk;unfold aJ at hq;rcases List.mem_append.1 hq with hq | hq
 ·exact h q hq hk
 ·rcases List.mem_append.1 hq with hq | hq
  ·split at hq
   ·simp at hq
   ·simp at hq;subst hq;simp at hk
  ·split at hq
   ·simp at hq;subst hq;rfl
   ·simp at hq
theorem Af {L : List Part} {n : Int} (h : ∀ q∈L,q.kind = 1->q.signs = []) : ∀ q∈bR L n,q.kind = 1->q.signs = []:=by
 intro q hq hk;unfold bR at hq
 split at hq
 ·rename_i hl
  split at hq
  ·rename_i k
   rcases List.mem_or_eq_of_mem_set hq with hq | rfl
   ·exact h q hq hk
   ·exact (h (L[L.length - 1]'(by omega)) (List.getElem_mem _) k :)
  ·rcases List.mem_append.1 hq with hq | hq
   ·exact h q hq hk
   ·simp at hq;subst hq;rfl
 ·simp at hq;subst hq;rfl
theorem ya {o : List Part} (ho : ∀ p ∈ o,ao p) : ∀ (i : Nat),i <= o.length -> (∀ q ∈ (a9 (o.take i)).1,q.kind = 1 -> q.signs = []) /\ 0 <= (a9 (o.take i)).2.2 /\ (∀ q ∈ (a9 (o.take i)).1,0 <= q.n) /\
 ∀ l,lP (aU (o.take i) ++ l) = aU (a9 (o.take i)).1 ++ nA (a9 (o.take i)).2.1 (a9 (o.take i)).2.2.toNat l
 | 0,_=>by simp [a9,aU,lP]
 | i + 1,hi=>by
   obtain ⟨h1,h2,h3,h4⟩:=ya ho i (by omega);have hlt : i < o.length:=by omega
   have hq:=(kG ho (i + 1) hi);have hp:=(ho _ (List.getElem_mem hlt));have hb:=hp.bounds;refine ⟨?_,hq.d0,λq hq'=>(hq.q q hq').1,λl=>?_⟩
   ·rw [ge hlt]
    unfold di
    split
    ·exact h1
    ·split
     ·exact h1
     ·split
      ·exact Af (qM h1)
      ·exact h1
   ·rw [<- List.take_append_getElem hlt,fC,List.append_assoc,h4,List.take_append_getElem hlt,ge hlt]
    generalize a9 (o.take i) = s at h1 h2 h3;generalize o[i] = p at hp hb;obtain ⟨L,P,D⟩:=s;simp only at h1 h2 h3;simp only [aU,List.append_nil];unfold di;by_cases k2 : p.kind = 2
    ·simp only [k2,if_true]
     rw [show ats p = p.signs.map At.p by unfold ats;rw [if_pos k2],BM]
    ·by_cases k3 : p.kind = 3
     ·have hs:=hb.2.2.2.2.2 k2
      have e : (D + p.n).toNat = D.toNat + p.n.toNat:=by omega
      simp only [k3,if_true];rw [show ats p = List.replicate (psz p) .d by unfold ats;rw [if_neg k2,if_pos k3],BO];simp [e,psz,hs]
     ·have k1 : p.kind = 1:=by omega
      have hs:=hb.2.2.2.2.2 k2;have e : ats p = List.replicate p.n.toNat .k:=by unfold ats;rw [if_neg k2,if_neg k3];simp [psz,hs]
      simp only [k2,k3,if_false];rw [e]
      split
      ·rename_i hn
       have hfl : ∀ q∈aJ L P D,0<=q.n:=by
        intro q hq';unfold aJ at hq';rcases List.mem_append.1 hq' with hq' | hq'
        ·exact h3 q hq'
        ·rcases List.mem_append.1 hq' with hq' | hq'
         ·split at hq'
          ·simp at hq'
          ·simp at hq';subst hq';simp
         ·split at hq'
          ·simp at hq';subst hq';simp;omega
          ·simp at hq'
       simp only;rw [IH hn hfl (qM h1),yI];obtain ⟨m,hm⟩ : ∃ m,p.n.toNat = m + 1:=⟨p.n.toNat - 1,by omega⟩;rw [hm];simp [bA,List.replicate_succ,nA,JI,List.append_assoc]
      ·have : p.n.toNat = 0:=by omega
       simp [this]
theorem gX {o : List Part} (ho : ∀ p∈o,ao p) : aU (normal o) = lP (aU o):=by
 have h:=(ya ho o.length (Nat.le_refl _)).2.2.2 [];rw [List.take_length,List.append_nil] at h;unfold normal;rw [yI,h];unfold bA;simp [nA]
theorem sr (l : List At) : frA (lP l) = frA l:=by unfold lP;rw [BN];omega
theorem so (l : List At) : toA (lP l) = toA l:=by unfold lP;rw [BK];simp
def tA : List At->List At->List At × List At
 | .p c :: a,b=>(.p c :: (tA a b).1,.k :: (tA a b).2)
 | [],.p c :: b=>(.k :: (tA [] b).1,.p c :: (tA [] b).2)
 | .k :: a,.p c :: b=>(.k :: (tA (.k :: a) b).1,.p c :: (tA (.k :: a) b).2)
 | .d :: a,.p c :: b=>(.k :: (tA (.d :: a) b).1,.p c :: (tA (.d :: a) b).2)
 | .k :: a,.k :: b=>(.k :: (tA a b).1,.k :: (tA a b).2)
 | .k :: a,.d :: b=>((tA a b).1,.d :: (tA a b).2)
 | .d :: a,.k :: b=>(.d :: (tA a b).1,(tA a b).2)
 | .d :: a,.d :: b=>tA a b
 | [],_=>([],[])
 | _,[]=>([],[])
termination_by a b=>a.length + b.length
def noP : List At->Bool
 | .p _ :: _=>false
 | _=>true
theorem OI {c : Int} {a b : List At} : tA (.p c :: a) b = (.p c :: (tA a b).1,.k :: (tA a b).2):=by rw [tA]
theorem HP {c : Int} {a b : List At} (h : noP a = true) : tA a (.p c :: b) = (.k :: (tA a b).1,.p c :: (tA a b).2):=by
 match a,h with
 | [],_=>rw [tA]
 | .k :: a,_=>rw [tA]
 | .d :: a,_=>rw [tA]
theorem JB {a b : List At} : ∀ Q : List Int,tA (Q.map At.p ++ a) b = (Q.map At.p ++ (tA a b).1,List.replicate Q.length .k ++ (tA a b).2)
 | []=>by simp
 | c :: Q=>by simp [OI,JB Q,List.replicate_succ]
theorem Fc {a b : List At} (h : noP a = true) : ∀ Q : List Int,tA a (Q.map At.p ++ b) = (List.replicate Q.length .k ++ (tA a b).1,Q.map At.p ++ (tA a b).2)
 | []=>by simp
 | c :: Q=>by simp [HP h,Fc h Q,List.replicate_succ]
theorem JC {a b : List At} : ∀ n : Nat,tA (List.replicate n .k ++ a) (List.replicate n .k ++ b) = (List.replicate n .k ++ (tA a b).1,List.replicate n .k ++ (tA a b).2)
 | 0=>by simp
 | n + 1=>by simp [List.replicate_succ,tA,JC n]
theorem JD {a b : List At} : ∀ n : Nat,tA (List.replicate n .k ++ a) (List.replicate n .d ++ b) = ((tA a b).1,List.replicate n .d ++ (tA a b).2)
 | 0=>by simp
 | n + 1=>by simp [List.replicate_succ,tA,JD n]
theorem JE {a b : List At} : ∀ n : Nat,tA (List.replicate n .d ++ a) (List.replicate n .k ++ b) = (List.replicate n .d ++ (tA a b).1,(tA a b).2)
 | 0=>by simp
 | n + 1=>by simp [List.replicate_succ,tA,JE n]
theorem JF {a b : List At} : ∀ n : Nat,tA (List.replicate n .d ++ a) (List.replicate n .d ++ b) = tA a b
 | 0=>by simp
 | n + 1=>by simp [List.replicate_succ,tA,JF n]
theorem gn : ∀ {x : List Part},(∀ p∈x,ao p)->aU (nxt x) = aU x
 | [],_=>rfl
 | p :: l,h=>by
   have ih:=gn (x:=l) (λq hq=>h q (List.mem_cons_of_mem _ hq));unfold nxt
   split
   ·rename_i hz
    rw [ih,aU]
    have : ats p = []:=by
     have hp:=h p (List.mem_cons_self ..);unfold ats
     split
     ·rename_i k;rw [BC hp k] at hz;simp [List.eq_nil_of_length_eq_zero hz]
     ·split<;>simp [hz]
    simp [this]
   ·rfl
theorem qb {p : Part} (h : ao p) {n : Nat} (hn : n<=psz p) : ats p = ats (eL p n) ++ ats (bk p n):=by
 have hb:=h.bounds;by_cases k2 : p.kind = 2
 ·unfold ats eL bk
  simp only [k2,if_true];rw [<- List.map_append,List.take_append_drop]
 ·have hs:=hb.2.2.2.2.2 k2
  have hz : psz p = p.n.toNat:=by simp [psz,hs]
  have e : p.n.toNat = n + (p.n - n).toNat:=by omega
  by_cases k3 : p.kind = 3
  ·unfold ats eL bk
   simp only [k3,if_true];simp [psz,hs];omega
  ·unfold ats eL bk
   simp only [k2,if_false,k3];simp [psz,hs];omega
theorem tv {p : Part} (h : ao p) : ats (bk p (psz p)) = []:=by
 have h1:=qb h (Nat.le_refl (psz p));rw [dC h] at h1
 simpa using h1
theorem Ca {p : Part} (_h : ao p) (k : p.kind≠2) : ats p = if p.kind = 3 then List.replicate (psz p) .d else List.replicate (psz p) .k:=by unfold ats;rw [if_neg k]
theorem nc {p : Part} (h : ao p) (k : p.kind≠2) {n : Nat} (hn : n<=psz p) : ats (eL p n) = if p.kind = 3 then List.replicate n .d else List.replicate n .k:=by
 have hs:=h.bounds.2.2.2.2.2 k;have : psz (eL p n) = n:=by unfold psz eL;rw [if_neg k];simp [hs]
 rw [Ca (mT h hn) (by simpa using k),this];simp
theorem I9 {p : Part} (h : ao p) (k : p.kind≠2) (hp : 0 < psz p) (l : List At) : noP (ats p ++ l) = true:=by
 rw [Ca h k];obtain ⟨m,hm⟩ : ∃ m,psz p = m + 1:=⟨psz p - 1,by omega⟩;rw [hm]
 split<;>simp [List.replicate_succ,noP]
theorem rE {x y : List Part} (hi : TInv x y) (h : cW x y = none) : nxt x = []/\nxt y = []:=by
 have hxt:=iW x;have hyf:=iW y;have hb:=hi.b;unfold cW at h
 cases ex : nxt x with
 | nil=>
   rw [ex] at h hxt
   cases ey : nxt y with
   | nil=>exact ⟨rfl,rfl⟩
   | cons q y'=>
     rw [ey] at hyf;have hp:=dS ey;simp only [ey] at h
     split at h
     ·cases h
     ·rename_i k
      simp [frs,k] at hxt hyf;omega
 | cons p x'=>
   rw [ex] at h hxt;have hp:=dS ex;simp only at h
   split at h
   ·cases h
   ·rename_i k
    cases ey : nxt y with
    | nil=>
      rw [ey] at hyf;simp [frs,k] at hxt hyf;omega
    | cons q y'=>
      simp only [ey] at h
      split at h<;>cases h
theorem Ec : ∀ (k : Nat) {x y : List Part},TInv x y->tsz x + tsz y<=k->(aU (xfK k x y).1,aU (xfK k x y).2) = tA (aU x) (aU y)
 | 0,x,y,hi,h=>by
   have hn : cW x y = none:=by
    cases hs : cW x y with
    | none=>rfl
    | some r=>have:=(dh hi hs).dec;omega
   obtain ⟨e1,e2⟩:=rE hi hn;rw [<- gn hi.px,<- gn hi.py,e1,e2];simp [xfK,aU,tA]
 | k + 1,x,y,hi,h=>by
   rw [xfK]
   cases hs : cW x y with
   | none=>
     obtain ⟨e1,e2⟩:=rE hi hs;rw [<- gn hi.px,<- gn hi.py,e1,e2];simp [aU,tA]
   | some r=>
     have hn:=dh hi hs;have hd:=hn.dec;have ih:=Ec k hn.inv (by omega);simp only [fC];rw [<- gn hi.px,<- gn hi.py];generalize xfK k r.2.1 r.2.2 = Z at ih ⊢;unfold cW at hs
     cases ex : nxt x with
     | nil=>
       rw [ex] at hs
       cases ey : nxt y with
       | nil=>simp [ey] at hs
       | cons q y'=>
         have hq:=fT hi.py ey;simp only [ey] at hs
         split at hs
         ·rename_i kq
          cases hs
          simp only [aU,tv hq.1,List.nil_append] at ih;simp only [aU,dC hq.1,List.append_nil];rw [show ats q = q.signs.map At.p by unfold ats;rw [if_pos kq],Fc rfl,<- ih];simp [ats,psz]
         ·cases hs
     | cons p x'=>
       rw [ex] at hs;have hp:=fT hi.px ex;have hpp:=dS ex;simp only at hs
       split at hs
       ·rename_i kp
        cases hs
        simp only [aU,tv hp.1,List.nil_append] at ih;simp only [aU,dC hp.1,List.append_nil,gn hi.py];rw [show ats p = p.signs.map At.p by unfold ats;rw [if_pos kp],JB,<- ih];simp [ats,psz]
       ·rename_i kp
        cases ey : nxt y with
        | nil=>simp [ey] at hs
        | cons q y'=>
          have hq:=fT hi.py ey;have hqp:=dS ey;simp only [ey] at hs
          split at hs
          ·rename_i kq
           cases hs
           simp only [aU,tv hq.1,List.nil_append] at ih;simp only [aU,dC hq.1,List.append_nil];rw [show ats q = q.signs.map At.p by unfold ats;rw [if_pos kq],Fc (I9 hp.1 kp hpp _),<- ih];simp [ats,psz]
          ·rename_i kq
           cases hs
           have hn1 : min (psz p) (psz q)<=psz p:=by omega
           have hn2 : min (psz p) (psz q)<=psz q:=by omega
           simp only [aU] at ih ⊢;rw [qb hp.1 hn1,qb hq.1 hn2,nc hp.1 kp hn1,nc hq.1 kq hn2,List.append_assoc,List.append_assoc];have hb1:=hp.1.bounds.1;have hb2:=hq.1.bounds.1;generalize min (psz p) (psz q) = n at ih hn1 hn2 ⊢;by_cases k1 : p.kind = 3<;>by_cases k2 : q.kind = 3
           ·have e1 : ¬ p.kind = 1:=by omega
            have e2 : ¬ q.kind = 1:=by omega
            simp only [k1,k2,if_true,JF,<- ih];simp [aU]
           ·have e1 : ¬ p.kind = 1:=by omega
            have e2 : q.kind = 1:=by omega
            simp only [k1,k2,if_true,if_false,JE,<- ih];simp [aU,e2,nc hp.1 kp hn1,k1]
           ·have e1 : p.kind = 1:=by omega
            have e2 : ¬ q.kind = 1:=by omega
            simp only [k1,k2,if_true,if_false,JD,<- ih];simp [aU,e1,nc hq.1 kq hn2,k2]
           ·have e1 : p.kind = 1:=by omega
            have e2 : q.kind = 1:=by omega
            simp only [k1,k2,if_false,JC,<- ih];simp [aU,e1,e2,nc hp.1 kp hn1,nc hq.1 kq hn2]
theorem NP {x y : List Part} (hi : TInv x y) : (aU (xf x y).1,aU (xf x y).2) = tA (aU x) (aU y):=Ec _ hi (Nat.le_refl _)
theorem kV : ∀ (a b : List At),frA a = frA b->frA (tA a b).1 = toA b/\frA (tA a b).2 = toA a/\toA (tA a b).1 = toA (tA a b).2
 | .p c :: a,b,h=>by
   have ih:=kV a b (by simpa [frA] using h);rw [OI];simp [frA,toA];omega
 | [],.p c :: b,h=>by
   have ih:=kV [] b (by simpa [frA] using h);rw [HP rfl];simp [frA,toA] at ih ⊢;omega
 | .k :: a,.p c :: b,h=>by
   have ih:=kV (.k :: a) b (by simpa [frA] using h);rw [HP rfl];simp [frA,toA] at ih ⊢;omega
 | .d :: a,.p c :: b,h=>by
   have ih:=kV (.d :: a) b (by simpa [frA] using h);rw [HP rfl];simp [frA,toA] at ih ⊢;omega
 | .k :: a,.k :: b,h=>by
   have ih:=kV a b (by simpa [frA] using h);rw [tA];simp [frA,toA];omega
 | .k :: a,.d :: b,h=>by
   have ih:=kV a b (by simpa [frA] using h);rw [tA];simp [frA,toA];omega
 | .d :: a,.k :: b,h=>by
   have ih:=kV a b (by simpa [frA] using h);rw [tA];simp [frA,toA];omega
 | .d :: a,.d :: b,h=>by
   have ih:=kV a b (by simpa [frA] using h);rw [tA];simp [toA];omega
 | [],[],h=>by simp [tA,frA,toA]
 | [],.k :: b,h=>by simp [frA] at h
 | [],.d :: b,h=>by simp [frA] at h
 | .k :: a,[],h=>by simp [frA] at h
 | .d :: a,[],h=>by simp [frA] at h
termination_by a b=>a.length + b.length
theorem JA {x y : List Part} (hi : TInv x y) : (∀ p∈(xf x y).1,ao p)/\∀ p∈(xf x y).2,ao p:=by
 have key : ∀ (k : Nat) {x y : List Part},TInv x y->(∀ p∈(xfK k x y).1,ao p)/\∀ p∈(xfK k x y).2,ao p:=by
  intro k
  induction k with
  | zero=>intro x y hi;simp [xfK]
  | succ k ih=>
    intro x y hi;rw [xfK]
    cases hs : cW x y with
    | none=>simp
    | some r=>
      have hn:=dh hi hs;have h2:=ih hn.inv;simp only [List.mem_append];exact ⟨λp hp=>hp.elim (hn.okx p) (h2.1 p),λp hp=>hp.elim (hn.oky p) (h2.2 p)⟩
 exact key _ hi
structure TrOk (a b : List Part) : Prop where
 oka : bN a
 okb : bN b
 from_ : br a = br b
 okx : bN (aC a b).1
 oky : bN (aC a b).2.1
 fx : br (aC a b).1 = jH b
 fy : br (aC a b).2.1 = jH a
 to : jH (aC a b).1 = jH (aC a b).2.1
 ax : aU (aC a b).1 = lP (tA (aU a) (aU b)).1
 ay : aU (aC a b).2.1 = lP (tA (aU a) (aU b)).2
theorem uk {a b : List Part} (h : (aC a b).2.2 = true) : TrOk a b:=by
 unfold aC at h
 split at h
 ·rename_i h1
  split at h
  ·rename_i h2
   have e : aC a b = (normal (xf a b).1,normal (xf a b).2,true):=by unfold aC;rw [if_pos h1,if_pos h2]
   have hi:=rk h1.1 h1.2.1 h1.2.2;have hat:=NP hi;have hk:=JA hi;have e1 : aU (xf a b).1 = (tA (aU a) (aU b)).1:=by rw [<- hat]
   have e2 : aU (xf a b).2 = (tA (aU a) (aU b)).2:=by rw [<- hat]
   have l:=kV (aU a) (aU b) (by rw [<- of,<- of];exact hi.b);have n1:=gX hk.1;have n2:=gX hk.2;have f1:=kL h2.1;have f2:=kL h2.2;have t1:=pw h2.1;have t2:=pw h2.2;have t3:=pw h1.1;have t4:=pw h1.2.1;rw [of,n1,sr,e1,l.1] at f1;rw [of,n2,sr,e2,l.2.1] at f2;rw [pz h2.1.1.1,n1,so,e1] at t1;rw [pz h2.2.1.1,n2,so,e2] at t2;rw [pz h1.1.1.1] at t3;rw [pz h1.2.1.1.1] at t4;rw [e1] at n1;rw [e2] at n2;refine ⟨h1.1,h1.2.1,h1.2.2,?_,?_,?_,?_,?_,?_,?_⟩<;>rw [e]
   ·exact h2.1
   ·exact h2.2
   ·simp only;omega
   ·simp only;omega
   ·simp only;have:=l.2.2;omega
   ·exact n1
   ·exact n2
  ·simp at h
 ·simp at h
open Go.AM
noncomputable def iL : List (List Part)->List Part->Option (List Part)
 | [],v=>some v
 | a :: l,v=>if (aC a v).2.2 = true then iL l (aC a v).2.1 else none
open Classical in
noncomputable def gl (l : List (List Part)) (b : List Part) : List Part × Bool:=
 if bN b then match iL l (bU b) with
  | some v=>(v,true)
  | none=>([],false)
 else ([],false)
structure Shp (q : Part) : Prop where
 k : q.kind = 1\/q.kind = 2\/q.kind = 3
 n : 0<=q.n
 put : q.kind = 2->q.n = 0/\dO q.signs
 run : q.kind≠2->q.signs = []
 pos : 0 < psz q
theorem uF {L : List Part} {P : List Int} {D : Int} (hL : ∀ q∈L,Shp q) (hP : dO P) : ∀ q∈aJ L P D,Shp q:=by
 intro q hq;unfold aJ at hq;rcases List.mem_append.1 hq with hq | hq
 ·exact hL q hq
 ·rcases List.mem_append.1 hq with hq | hq
  ·split at hq
   ·simp at hq
   ·rename_i h
    simp at hq;subst hq;have : 0 < P.length:=List.length_pos_iff.2 h;exact ⟨.inr (.inl rfl),by simp,λ_=>⟨rfl,hP⟩,λh=>absurd rfl h,by simpa [psz] using this⟩
  ·split at hq
   ·rename_i h
    simp at hq;subst hq;exact ⟨.inr (.inr rfl),by simp only;omega,λh=>by simp at h,λ_=>rfl,by simp [psz];omega⟩
   ·simp at hq
theorem Fi {L : List Part} {n : Int} (hL : ∀ q∈L,Shp q) (hn : 0 < n) : ∀ q∈bR L n,Shp q:=by
 intro q hq;have one : Shp ⟨1,n,[]⟩:=⟨.inl rfl,by simp only;omega,λh=>by simp at h,λ_=>rfl,by simp [psz];omega⟩;unfold bR at hq
 split at hq
 ·rename_i hl
  split at hq
  ·rename_i k
   rcases List.mem_or_eq_of_mem_set hq with hq | rfl
   ·exact hL q hq
   ·have h:=hL (L[L.length - 1]'(by omega)) (List.getElem_mem _)
    have h1:=h.n;have h2:=h.run (by omega);exact ⟨.inl rfl,by simp only;omega,λh=>by simp at h,λ_=>h2,by simp [psz];omega⟩
  ·rcases List.mem_append.1 hq with hq | hq
   ·exact hL q hq
   ·simp at hq;subst hq;exact one
 ·simp at hq;subst hq;exact one
theorem uV {o : List Part} (ho : ∀ p∈o,ao p) : ∀ (i : Nat),i<=o.length->(∀ q∈(a9 (o.take i)).1,Shp q)/\dO (a9 (o.take i)).2.1
 | 0,_=>by simp [a9,dO]
 | i + 1,hi=>by
   obtain ⟨h1,h2⟩:=uV ho i (by omega);have hlt : i < o.length:=by omega
   have hp:=ho _ (List.getElem_mem hlt);rw [ge hlt];generalize a9 (o.take i) = s at h1 h2;generalize o[i] = p at hp;obtain ⟨L,P,D⟩:=s;simp only at h1 h2;unfold di
   split
   ·rename_i k
    rw [fZ k] at hp;refine ⟨h1,λn hn=>?_⟩;rcases List.mem_append.1 hn with hn | hn
    ·exact h2 n hn
    ·exact hp.2.2 n hn
   ·split
    ·exact ⟨h1,h2⟩
    ·split
     ·rename_i hn
      exact ⟨Fi (uF h1 h2) hn,by simp [dO]⟩
     ·exact ⟨h1,h2⟩
theorem sk {o : List Part} (ho : ∀ p∈o,ao p) : ∀ q∈normal o,Shp q:=by
 have h:=uV ho o.length (Nat.le_refl _);rw [List.take_length] at h;exact uF h.1 h.2
theorem Bm : ∀ {L : List Part},(∀ q∈L,Shp q)->tos L = toA (aU L)
 | [],_=>rfl
 | p :: L,h=>by
   have hp:=h p (List.mem_cons_self ..);simp only [tos,aU,fW,Bm (λq hq=>h q (List.mem_cons_of_mem _ hq))]
   congr 1
   unfold ats;by_cases k : p.kind = 2
   ·have k3 : ¬ p.kind = 3:=by omega
    have:=(hp.put k).1;rw [if_pos k,if_neg k3,rJ];simp [psz,this]
   ·rw [if_neg k]
    split
    ·exact (rK _).symm
    ·exact (zr _).symm
theorem IU {L : List Part} {q : Part} (h : q∈L) (k : q.kind≠2) : psz q<=frs L:=by
 induction L with
 | nil=>simp at h
 | cons p L ih=>
   simp only [frs];rcases List.mem_cons.1 h with rfl | h
   ·rw [if_neg k];omega
   ·have:=ih h;omega
theorem HO {L : List Part} {q : Part} (h : q∈L) (k : q.kind≠3) : psz q<=tos L:=by
 induction L with
 | nil=>simp at h
 | cons p L ih=>
   simp only [tos];rcases List.mem_cons.1 h with rfl | h
   ·rw [if_neg k];omega
   ·have:=ih h;omega
theorem Bl : ∀ {L : List Part},(∀ q∈L,Shp q)->L.length<=tsz L
 | [],_=>by simp [tsz]
 | p :: L,h=>by
   have:=Bl (λq hq=>h q (List.mem_cons_of_mem _ hq));have:=(h p (List.mem_cons_self ..)).pos;simp only [tsz,List.length_cons];omega
theorem LC {L : List Part} (h : ∀ q∈L,Shp q) (h1 : frs L<=200) (h2 : tos L<=200) : cT L:=by
 have hl:=Bl h;have ht:=zp L;refine ⟨λq hq=>?_,by omega⟩;have hs:=h q hq;have hn:=hs.n;by_cases k : q.kind = 2
 ·have h3:=HO hq (by omega)
  have h4:=hs.put k;exact .inr ⟨k,h4.1,by unfold psz at h3;omega,h4.2⟩
 ·have h3:=IU hq k
  have h4:=hs.run k;have hk:=hs.k;exact .inl ⟨by omega,⟨hn,by unfold psz at h3;omega⟩,h4⟩
theorem sj {o : List Part} (h : cT o) : (frs o : Int) = br o:=by
 rw [wu h.1,fX (λp hp=>MK (h.1 p hp)),jg];unfold br cD;rw [if_pos h]
theorem xU {o : List Part} (h : cT o) : (tos o : Int) = jH o:=by
 rw [vD h.1,fX (λp hp=>MJ (h.1 p hp)),jg];unfold jH cD;rw [if_pos h]
theorem pI {o : List Part} (h : bN o) : bN (normal o)/\br (normal o) = br o/\jH (normal o) = jH o:=by
 have hs:=sk h.1.1;have e1 : frs (normal o) = frs o:=by rw [of,gX h.1.1,sr,<- of]
 have e2 : tos (normal o) = tos o:=by rw [Bm hs,gX h.1.1,so,<- pz h.1.1]
 have f:=kL h;have t:=pw h;have hp:=LC hs (by have:=h.2.1;omega) (by have:=h.2.2;omega);have f2:=sj hp;have t2:=xU hp;have:=h.2;exact ⟨⟨hp,by omega,by omega⟩,by omega,by omega⟩
theorem CG {o : List Part} (h : bN o) : bN (bU o)/\br (bU o) = br o/\jH (bU o) = jH o:=by
 have : bU o = normal o:=by unfold bU;rw [if_pos h]
 rw [this];exact pI h
def bg (c s r : Int) : List Seen->List Seen
 | []=>[⟨c,s,r⟩]
 | x :: l=>if x.client < c then x :: bg c s r l else if x.client = c then ⟨c,s,r⟩ :: l else ⟨c,s,r⟩ :: x :: l
noncomputable def a8 (d : Doc) (e : Entry) : Doc:=
 if d.list.length < 8 then ⟨d.name,d.fr,d.text,d.list ++ [e],bg e.client e.seq (ac d + 1) d.seen⟩
 else ⟨d.name,d.fr + 1,(apply ((d.list ++ [e])[0]'(by simp)).o d.text).1,(d.list ++ [e]).drop 1,bg e.client e.seq (ac d + 1) d.seen⟩
open Classical in
noncomputable def cG (d : Doc) (base : Int) (o : List Part) : List Part × Int:=
 if aL d/\bN o then
  if ac d < base then ([],2) else if base < d.fr then ([],3) else
  if br o = (dJ d base).1.length then
   if (gl ((d.list.drop (base - d.fr).toNat).map Entry.o) o).2 = true then ((gl ((d.list.drop (base - d.fr).toNat).map Entry.o) o).1,0) else ([],5)
  else ([],1)
 else ([],1)
def xA (d : Doc) (client seq : Int) (o : List Part) : Prop:=aL d/\(1<=client/\client<=8)/\(1<=seq/\seq<=1000000000)/\bN o
open Classical in
noncomputable def bI (d : Doc) (client seq base : Int) (o : List Part) : Doc × Int × Int:=
 if xA d client seq o then
  if (bZ d client).1.seq = seq then (d,(bZ d client).1.rev,0)
  else if (bZ d client).1.seq + 1 = seq then
   if (cG d base o).2 = 0 then
    if 999999000<=ac d then (Doc.zero,0,5) else (a8 d ⟨client,seq,(cG d base o).1⟩,ac d + 1,0)
   else (Doc.zero,0,(cG d base o).2)
  else (Doc.zero,0,4)
 else (Doc.zero,0,1)
open Classical in
noncomputable def f9 (d : Doc) (rev : Int) : List Entry × Int:=
 if aL d then if ac d < rev then ([],2) else if rev < d.fr then ([],3) else (d.list.drop (rev - d.fr).toNat,0) else ([],1)
theorem si : ∀ (l : List (List Part)) (t u : List Int) (v v' : List Part),az l t = some u->iL l v = some v'->bN v->br v = t.length->bN v'/\br v' = u.length
 | [],t,u,v,v',h1,h2,h3,h4=>by
   simp only [az,Option.some.injEq] at h1;simp only [iL,Option.some.injEq] at h2;subst h1 h2;exact ⟨h3,h4⟩
 | a :: l,t,u,v,v',h1,h2,h3,h4=>by
   rw [az] at h1;rw [iL] at h2
   split at h1
   ·rename_i ha
    split at h2
    ·rename_i ht
     have k:=uk ht;have hl:=(ja (jf.1 ha)).2;exact si l _ u _ v' h1 h2 k.oky (by rw [k.fy];omega)
    ·cases h2
   ·cases h1
theorem fE : ∀ (l m : List (List Part)) (t : List Int),az (l ++ m) t = (az l t).bind (az m)
 | [],m,t=>by simp [az]
 | o :: l,m,t=>by
   rw [List.cons_append,az,az]
   split
   ·exact fE l m _
   ·simp
theorem kP : ∀ (l : List (List Part)) (t u : List Int),cC t->az l t = some u->cC u
 | [],t,u,h,e=>by simp only [az,Option.some.injEq] at e;exact e ▸ h
 | o :: l,t,u,h,e=>by
   rw [az] at e
   split at e
   ·rename_i ha
    exact kP l _ u (ja (jf.1 ha)).1 e
   ·cases e
theorem lW {d : Doc} (h : aL d) {rev : Int} (h1 : d.fr <= rev) (h2 : rev <= ac d) : (dJ d rev).2 = true /\ az ((d.list.take (rev - d.fr).toNat).map Entry.o) d.text = some (dJ d rev).1 /\ cC (dJ d rev).1 /\
 az ((d.list.drop (rev - d.fr).toNat).map Entry.o) (dJ d rev).1 = az (d.list.map Entry.o) d.text:=by
 have hs:=h.2.2.2.2.2.1;have ht:=h.2.2.1;have e : d.list.map Entry.o = (d.list.take (rev - d.fr).toNat).map Entry.o ++ (d.list.drop (rev - d.fr).toNat).map Entry.o:=by rw [<- List.map_append,List.take_append_drop]
 have e2 : dJ d rev = cZ ((d.list.take (rev - d.fr).toNat).map Entry.o) d.text:=by unfold dJ;rw [if_pos ⟨h,h1,h2⟩]
 rw [e,fE] at hs
 cases hx : az ((d.list.take (rev - d.fr).toNat).map Entry.o) d.text with
 | none=>rw [hx] at hs;simp at hs
 | some u=>
   have e3 : cZ ((d.list.take (rev - d.fr).toNat).map Entry.o) d.text = (u,true):=by unfold cZ;rw [if_pos ht,hx]
   rw [e2,e3];refine ⟨rfl,rfl,kP _ _ _ ht hx,?_⟩
   conv=>rhs;rw [e,fE,hx]
   rfl
theorem nI {d : Doc} (h : aL d) : az (d.list.map Entry.o) d.text = some (cN d)/\cC (cN d):=by
 have hh:=aV h;have h0 : d.fr<=ac d:=by omega
 obtain ⟨h1,h2,h3,h4⟩:=lW h h0 (by omega);have e : (ac d - d.fr).toNat = d.list.length:=by omega
 rw [e,List.take_length] at h2;exact ⟨h2,h3⟩
theorem o7 {d : Doc} {base : Int} {o : List Part} (hd : aL d) (ho : bN o) (h1 : d.fr<=base) (h2 : base<=ac d) (hf : br o = (dJ d base).1.length)
 (hp : (gl ((d.list.drop (base - d.fr).toNat).map Entry.o) o).2 = true) : ix (gl ((d.list.drop (base - d.fr).toNat).map Entry.o) o).1 (cN d):=by
 obtain ⟨k1,k2,k3,k4⟩:=lW hd h1 h2;obtain ⟨m1,m2⟩:=nI hd;rw [m1] at k4;unfold gl at hp ⊢;rw [if_pos ho] at hp ⊢
 cases hx : iL ((d.list.drop (base - d.fr).toNat).map Entry.o) (bU o) with
 | none=>rw [hx] at hp;simp at hp
 | some v=>
   have hn:=CG ho;have:=si _ _ _ _ _ k4 hx hn.1 (by rw [hn.2.1,hf]);exact ⟨this.1,m2,this.2⟩
set_option maxHeartbeats 1600000
theorem Fn (l : List Seen) : ∀ a∈l,∀ d∈a.row,isV d = true:=by
 intro a _ d hd;simp [Seen.row] at hd;rcases hd with rfl | rfl | rfl<;>rfl
theorem fO (l : List Entry) (hl : nL aR l<=2 ^ 30) : aj Tryz.prog 296 [.c (.s (l.map Entry.row))] (.one (.c (.s (l.map Entry.row)) 3)):=by
 refine pci ae Tryz.func296 (λw0 base=>?_);have hle:=aA hl;simp;refine ag eok (λx : Nat × Hd=>x.1<=l.length) (λx=>⟨22,0,[(8,.v (.int .i64 x.1)),(7,.v (.int .i64 l.length)),(6,.ro (l.map Entry.row)),(3,.sl 5000 x.2 3 0 x.1)],[(5000,.rows x.2 3 ((l.take x.1).map Entry.row) true)]⟩) (λx=>l.length - x.1) (0,none) (by simp) (by simp) (λx hx=>Ent.refl ?_);obtain ⟨i,H⟩:=x;simp only at hx ⊢;by_cases hlt : i < l.length
 ·have hm:=dy hl hlt
  unfold aR at hm;simp [hlt,Entry.row];intro b5;refine aa.pure (tg l[i].o hm) (by simp) ?_;simp;intro H1;have e1 : min i l.length = i:=by omega
  simp [e1];intro b6;refine ⟨by omega,λH2=>Ent.refl ⟨i + 1,by omega,by omega,H2,?_⟩⟩;simp;exact ⟨ah (by omega),cQ (f:=Entry.row) hlt⟩
 ·have e : l.length = i:=by omega
  simp [hlt];rw [List.take_of_length_le (by simp;omega)];simp [cut,e]
theorem sE (e : Entry) (hl : aR e<=2 ^ 30) : aj Tryz.prog 381 [.agg e.row] (.one (.agg e.res)):=by
 refine pci ae Tryz.func381 (λw0 base=>?_);unfold aR at hl;simp [Entry.row];intro b1 b2;refine drw eok mix [0,1,2,3,4,5] [6,7,8] (.c 6 6 1 62 (.c 6 7 20 42 (.c 6 8 42 0 (.l 6 0) .s) .s) .s) ?_;simp
 try intros
 refine aa.pure (pO e.o (by omega)) (by simp) ?_;simp
 try intros
 simp [Entry.res]
theorem dW (l : List Entry) (hl : nL aR l<=2 ^ 30) : aj Tryz.prog 339 [.c (.s (l.map Entry.row))] (.one (.c (.s (l.map Entry.row)) 3)):=by
 refine pci ae Tryz.func339 (λw0 base=>?_);have hle:=aA hl;simp;intro b6;refine ag eok (λx : Nat × Hd=>x.1<=l.length) (λx=>⟨20,0,[(9,.v (.int .i64 x.1)),(8,.v (.int .i64 l.length)),(7,.ro (l.map Entry.row)),(3,.sl 96 x.2 3 0 x.1)],[(96,.rows x.2 3 ((l.take x.1).map Entry.row) true)]⟩) (λx=>l.length - x.1) (0,some (b6,0,0)) (by simp) (by simp) (λx hx=>Ent.refl ?_);obtain ⟨i,H⟩:=x;simp only at hx ⊢;by_cases hlt : i < l.length
 ·have hm:=dy hl hlt
  simp [hlt,Entry.row];intro b5;refine aa.pure (sE l[i] hm) (by simp [Entry.row]) ?_;simp [Entry.res];intro H1;have e1 : min i l.length = i:=by omega
  simp [e1];intro b7;refine ⟨by omega,λH2=>Ent.refl ⟨i + 1,by omega,by omega,H2,?_⟩⟩;simp;exact ⟨ah (by omega),cQ (f:=Entry.row) hlt⟩
 ·have e : l.length = i:=by omega
  simp [hlt];rw [List.take_of_length_le (by simp;omega)];simp [cut,e]
theorem qa (d : Doc) (hl : cq d<=2 ^ 30) : aj Tryz.prog 211 [.agg d.row] (.one (.agg d.res)):=by
 refine pci ae Tryz.func211 (λw0 base=>?_);obtain ⟨n1,n2,n3,n4⟩:=ca hl;simp [Doc.row];intro b1 b2;refine drw eok mix [0,1,2,3,4,5,7,8,10,11] [6,9,12,13,14] (.c 10 6 16 1007 (.c 10 9 4 1003 (.c 10 12 1 1002 (.c 10 13 320 682 (.c 10 14 682 0 (.l 10 0) .s) .s) .s) .s) .s) ?_;simp
 try intros
 refine aa.pure (fo d.text (by omega)) (by simp) ?_;simp
 try intros
 refine aa.pure (fO d.list n1) (by simp) ?_;simp
 try intros
 refine ⟨Fn d.seen,by omega,λH=>?_⟩;simp [Doc.res]
theorem mY (d : Doc) (hl : cq d<=2 ^ 30) : aj Tryz.prog 261 [.agg d.row] (.one (.agg d.res)):=by
 refine pci ae Tryz.func261 (λw0 base=>?_);obtain ⟨n1,n2,n3,n4⟩:=ca hl;simp [Doc.row];intro b1 b2;have h8 : d.text.length * 8<=140737488355328:=by omega
 have h24 : d.seen.length * 24<=140737488355328:=by omega
 refine drw eok mix [0,1,2,3,5,6,8,9,12,13] [4,7,10,11,14,15,16] (.c 10 4 0 1023 (.c 10 7 16 1007 (.c 10 10 4 1003 (.c 10 11 0 1003 (.c 10 14 1 1002 (.c 10 15 320 682 (.c 10 16 682 0 (.l 10 0) .s) .s) .s) .s) (.c 10 11 0 1007 (.c 10 10 4 1003 (.c 10 14 1 1002 (.c 10 15 320 682 (.c 10 16 682 0 (.l 10 0) .s) .s) .s) .s) .s)) (.c 10 11 0 1023 (.c 10 7 16 1007 (.c 10 10 4 1003 (.c 10 14 1 1002 (.c 10 15 320 682 (.c 10 16 682 0 (.l 10 0) .s) .s) .s) .s) .s) .s)) (.c 10 11 0 1023 (.c 10 4 0 1023 (.c 10 7 16 1007 (.c 10 10 4 1003 (.c 10 14 1 1002 (.c 10 15 320 682 (.c 10 16 682 0 (.l 10 0) .s) .s) .s) .s) .s) .s) .s)) ?_;simp
 try intros
 repeat' first
  | (refine aa.pure (dW d.list n1) (by simp) ?_;simp [h24];try intros)
  | (rw [Trc];refine ⟨?_,?_⟩<;>(try simp [h8,h24])<;>try intros)
 all_goals
  simp [Doc.res];exact Fn d.seen
noncomputable def gN : List (List Part)->List Part->Option (List (List Part) × List Part)
 | [],v=>some ([],v)
 | a :: l,v=>if (aC a v).2.2 = true then (gN l (aC a v).2.1).map (λr=>((aC a v).1 :: r.1,r.2)) else none
theorem BH : ∀ (l : List (List Part)) (v : List Part),(gN l v).map Prod.snd = iL l v
 | [],v=>rfl
 | a :: l,v=>by
   rw [gN,iL]
   split
   ·rw [<- BH l,Option.map_map];rfl
   ·rfl
open Classical in
noncomputable def eU (l : List (List Part)) (b : List Part) : List (List Part) × List Part × Bool:=
 if bN b then match gN l (bU b) with
  | some r=>(r.1,r.2,true)
  | none=>([],[],false)
 else ([],[],false)
theorem sW (l : List (List Part)) (b : List Part) : (eU l b).2 = gl l b:=by
 unfold eU gl
 split
 ·rw [<- BH]
  cases gN l (bU b)<;>rfl
 ·rfl
theorem se {l : List (List Part)} {i : Nat} {v : List Part} (h : i < l.length) : gN (l.drop i) v = if (aC l[i] v).2.2 = true then (gN (l.drop (i + 1)) (aC l[i] v).2.1).map (λr=>((aC l[i] v).1 :: r.1,r.2)) else none:=by
 rw [List.drop_eq_getElem_cons h,gN]
theorem uP {l : List (List Part)} {i : Nat} {v : List Part} (h : l.length<=i) : gN (l.drop i) v = some ([],v):=by
 rw [List.drop_eq_nil_of_le h,gN]
theorem yy (l : List (List Part)) (b : List Part) (hl : l.length<=2 ^ 30) (hs : ∀ o∈l,nL aF o<=2 ^ 40) (hb : nL aF b<=2 ^ 40) : aj Tryz.prog 402 [.c (.s (l.map eF)),.c (.s (b.map Part.row))]
 (.tup [.c (.s ((eU l b).1.map eF)) 1,.c (.s ((eU l b).2.1.map Part.row)) 3,.c (.v (.bool (eU l b).2.2)) 1]):=by
 refine pci ae Tryz.func402 (λw0 base=>?_);simp;refine aa.pure (d9 b hb) (by simp) ?_;by_cases c1 : bN b
 rotate_left
 ·have e : eU l b = ([],[],false):=by unfold eU;rw [if_neg c1]
  simp [ab c1,e]
 have e : eU l b = match gN l (bU b) with
  | some r=>(r.1,r.2,true)
  | none=>([],[],false):=by unfold eU;rw [if_pos c1]
 simp [c1];refine aa.pure (oV b hb) (by simp) ?_;simp;intro H0
 refine ag eok (λx : (Nat × List (List Part) × List Part × Nat) × Hd × Hd=>(x.1.2.2.2 = 288\/x.1.2.2.2 = 449)/\(x.1.1<=l.length/\x.1.2.1.length = x.1.1)/\nL aF x.1.2.2.1<=2 ^ 40/\gN l (bU b) = (gN (l.drop x.1.1) x.1.2.2.1).map (λr=>(x.1.2.1 ++ r.1,r.2)))
  (λx=>⟨42,0,[(21,.v (.int .i64 x.1.1)),(20,.v (.int .i64 l.length)),(19,.ro (l.map eF)),(8,.sl x.1.2.2.2 x.2.2 3 0 x.1.2.2.1.length),(7,.sl 5000 x.2.1 1 0 x.1.2.1.length)],
   [(5000,.rows x.2.1 1 (x.1.2.1.map eF) true),(x.1.2.2.2,.rows x.2.2 3 (x.1.2.2.1.map Part.row) true)]⟩) (λx=>l.length - x.1.1) ((0,[],bU b,288),none,H0) ⟨.inl rfl,by simp,by have:=oJ b;simp only;omega,by simp⟩ (by simp) (λx hx=>Ent.refl ?_)
 obtain ⟨⟨i,L,v,kk⟩,H1,H2⟩:=x;obtain ⟨hk,⟨hi,hLl⟩,hv,hp⟩:=hx;simp only at hk hi hLl hv hp ⊢;have k5 : ¬ kk = 5000:=by omega
 have k5' : ¬ 5000 = kk:=by omega
 by_cases hlt : i < l.length
 ·rw [se hlt] at hp
  have hn:=lw l[i] v;simp [hlt];refine aa.pure (rb l[i] v (hs _ (List.getElem_mem hlt)) hv) (by simp [k5]) ?_;generalize aC l[i] v = Q at hp hn ⊢;obtain ⟨x,y,ok⟩:=Q;simp only at hp hn ⊢;simp;intro G1 G2
  cases ok with
  | false=>
    simp at hp;rw [hp] at e;simp [e]
  | true=>
    simp only [if_true] at hp;simp;intro b6;refine ⟨by omega,λH=>Ent.refl ⟨i + 1,L ++ [x],y,449,⟨.inr rfl,⟨by omega,by simp;omega⟩,by omega,?_⟩,by omega,H,G2,?_⟩⟩
    ·rw [hp]
     cases gN (l.drop (i + 1)) y<;>simp
    ·simp
     exact ah (by omega)
 ·rw [uP (by omega)] at hp
  simp only [Option.map_some,List.append_nil] at hp;rw [hp] at e;simp [hlt,e,k5]
theorem B4 (l : List (List Part)) (b : List Part) : nL aF (gl l b).1<=2 ^ 20:=by
 have key : ∀ (l : List (List Part)) (v u : List Part),nL aF v<=2 ^ 20->iL l v = some u->nL aF u<=2 ^ 20:=by
  intro l
  induction l with
  | nil=>intro v u h1 h2;simp only [iL,Option.some.injEq] at h2;exact h2 ▸ h1
  | cons a l ih=>
    intro v u h1 h2;rw [iL] at h2
    split at h2
    ·exact ih _ u (by have:=lw a v;omega) h2
    ·cases h2
 unfold gl
 split
 ·cases h : iL l (bU b) with
  | none=>simp [nL,bQ]
  | some v=>exact key l _ v (oJ b) h
 ·simp [nL,bQ]
theorem AB (l : List (List Part)) (b : List Part) (hl : l.length<=2 ^ 30) (hs : ∀ o∈l,nL aF o<=2 ^ 40) (hb : nL aF b<=2 ^ 40) : aj Tryz.prog 376 [.c (.s (l.map eF)),.c (.s (b.map Part.row))]
 (.tup [.c (.s ((gl l b).1.map Part.row)) 3,.c (.v (.bool (gl l b).2)) 1]):=by
 refine pci ae Tryz.func376 (λw0 base=>?_);simp;refine aa.pure (yy l b hl hs hb) (by simp) ?_;rw [<- sW];generalize eU l b = Q;obtain ⟨x,y,ok⟩:=Q;simp
theorem xC (l : List (List Part)) (b : List Part) (hl : l.length<=2 ^ 30) (hs : ∀ o∈l,nL aF o<=2 ^ 40) (hb : nL aF b<=2 ^ 40) : aj Tryz.prog 411 [.c (.s (l.map eF)),.c (.s (b.map Part.row))]
 (.tup [.c (.s ((eU l b).1.map eF)) 1,.c (.s ((eU l b).2.1.map Part.row)) 3,.c (.v (.bool (eU l b).2.2)) 1]):=by
 refine pci ae Tryz.func411 (λw0 base=>?_);simp;refine aa.pure (d5 b hb) (by simp) ?_;by_cases c1 : bN b
 rotate_left
 ·have e : eU l b = ([],[],false):=by unfold eU;rw [if_neg c1]
  simp [ab c1,e]
 have e : eU l b = match gN l (bU b) with
  | some r=>(r.1,r.2,true)
  | none=>([],[],false):=by unfold eU;rw [if_pos c1]
 simp [c1];intro b9;refine aa.pure (oB b hb) (by simp) ?_;simp;intro H0
 refine ag eok (λx : (Nat × List (List Part) × List Part × Nat) × Hd × Hd=>(x.1.2.2.2 = 304\/x.1.2.2.2 = 465)/\(x.1.1<=l.length/\x.1.2.1.length = x.1.1)/\nL aF x.1.2.2.1<=2 ^ 40/\gN l (bU b) = (gN (l.drop x.1.1) x.1.2.2.1).map (λr=>(x.1.2.1 ++ r.1,r.2)))
  (λx=>⟨43,0,[(22,.v (.int .i64 x.1.1)),(21,.v (.int .i64 l.length)),(20,.ro (l.map eF)),(8,.sl x.1.2.2.2 x.2.2 3 0 x.1.2.2.1.length),(7,.sl 272 x.2.1 1 0 x.1.2.1.length)],
   [(272,.rows x.2.1 1 (x.1.2.1.map eF) true),(x.1.2.2.2,.rows x.2.2 3 (x.1.2.2.1.map Part.row) true)]⟩) (λx=>l.length - x.1.1) ((0,[],bU b,304),some (b9,0,0),H0) ⟨.inl rfl,by simp,by have:=oJ b;simp only;omega,by simp⟩ (by simp) (λx hx=>Ent.refl ?_)
 obtain ⟨⟨i,L,v,kk⟩,H1,H2⟩:=x;obtain ⟨hk,⟨hi,hLl⟩,hv,hp⟩:=hx;simp only at hk hi hLl hv hp ⊢;have k5 : ¬ kk = 272:=by omega
 have k5' : ¬ 272 = kk:=by omega
 by_cases hlt : i < l.length
 ·rw [se hlt] at hp
  have hn:=lw l[i] v;simp [hlt];refine aa.pure (q7 l[i] v (hs _ (List.getElem_mem hlt)) hv) (by simp [k5]) ?_;generalize aC l[i] v = Q at hp hn ⊢;obtain ⟨x,y,ok⟩:=Q;simp only at hp hn ⊢;simp;intro G1 G2
  cases ok with
  | false=>
    simp at hp;rw [hp] at e;simp [e]
  | true=>
    simp only [if_true] at hp;simp;intro b6;refine ⟨by omega,λH=>Ent.refl ⟨i + 1,L ++ [x],y,465,⟨.inr rfl,⟨by omega,by simp;omega⟩,by omega,?_⟩,by omega,H,G2,?_⟩⟩
    ·rw [hp]
     cases gN (l.drop (i + 1)) y<;>simp
    ·simp
     exact ah (by omega)
 ·rw [uP (by omega)] at hp
  simp only [Option.map_some,List.append_nil] at hp;rw [hp] at e;simp [hlt,e,k5]
theorem zw (l : List (List Part)) (b : List Part) (hl : l.length<=2 ^ 30) (hs : ∀ o∈l,nL aF o<=2 ^ 40) (hb : nL aF b<=2 ^ 40) : aj Tryz.prog 405 [.c (.s (l.map eF)),.c (.s (b.map Part.row))]
 (.tup [.c (.s ((gl l b).1.map Part.row)) 3,.c (.v (.bool (gl l b).2)) 1]):=by
 refine pci ae Tryz.func405 (λw0 base=>?_);simp;refine aa.pure (xC l b hl hs hb) (by simp) ?_;rw [<- sW];generalize eU l b = Q;obtain ⟨x,y,ok⟩:=Q;simp
noncomputable def wZ (d : Doc) (rev : Int) : Int:=if ac d < rev then 2 else if rev < d.fr then 3 else 0
theorem yY (d : Doc) (rev : Int) : aj Tryz.prog 334 [.agg d.row,.c (vi rev)] (.one (.c (vi (wZ d rev)) 1)):=by
 refine pci ae Tryz.func334 (λw0 base=>?_);simp [Doc.row];intro b;refine aa.pure (bo d) (by simp [Doc.row]) ?_;unfold wZ;by_cases c1 : ac d < rev
 ·simp [c1]
 ·by_cases c2 : rev < d.fr
  ·simp [c1,c2]
  ·simp [c1,c2]
open Classical in
noncomputable def iu (d : Doc) (rev : Int) : List (List Part) × Bool:=if aL d/\d.fr<=rev/\rev<=ac d then ((d.list.drop (rev - d.fr).toNat).map Entry.o,true) else ([],false)
theorem jM {d : Doc} {rev : Int} (h : ¬ (aL d/\d.fr<=rev/\rev<=ac d)) : iu d rev = ([],false):=by unfold iu;rw [if_neg h]
theorem iV {d : Doc} {rev : Int} (h : aL d/\d.fr<=rev/\rev<=ac d) : iu d rev = ((d.list.drop (rev - d.fr).toNat).map Entry.o,true):=by unfold iu;rw [if_pos h]
theorem rM {α : Type} {f : α->Nat} : ∀ (l : List α) (k : Nat),bQ f (l.drop k)<=bQ f l
 | [],k=>by simp
 | a :: l,0=>by simp
 | a :: l,k + 1=>by have:=rM (f:=f) l k;simp only [List.drop_succ_cons,bQ];omega
theorem oM {α : Type} {f : α->Nat} {l : List α} {k B : Nat} (h : nL f l<=B) : nL f (l.drop k)<=B:=by
 have:=rM (f:=f) l k;unfold nL at *;simp only [List.length_drop];omega
theorem ie {l : List Entry} {k : Nat} (_h : k<=l.length) : cut (l.map Entry.row) k (l.length - k) = (l.drop k).map Entry.row:=by
 unfold cut
 split
 ·rename_i h1
  rw [h1.1];simp
 ·rw [<- List.map_drop,List.take_of_length_le (by simp)]
theorem sK (d : Doc) (hl : cq d<=2 ^ 30) (rev : Int) : aj Tryz.prog 375 [.agg d.row,.c (vi rev)] (.tup [.c (.s ((iu d rev).1.map eF)) 1,.c (.v (.bool (iu d rev).2)) 1]):=by
 refine pci ae Tryz.func375 (λw0 base=>?_);obtain ⟨n1,n2,n3,n4⟩:=ca hl;simp [Doc.row];intro b2;refine am.quiet eok mix (by kernel_rfl) ?_;simp;refine ⟨_,_,fh d hl,by simp [Doc.row],?_⟩;by_cases c1 : aL d
 rotate_left
 ·have e:=jM (d:=d) (rev:=rev) (λh=>c1 h.1)
  simp [ab c1,e]
 simp [c1];refine ⟨_,_,bo d,by simp [Doc.row],?_⟩;simp;refine ⟨_,_,aP rev d.fr (ac d),by simp,?_⟩;by_cases c2 : d.fr<=rev/\rev<=ac d
 rotate_left
 ·have e:=jM (d:=d) (rev:=rev) (λh=>c2 h.2)
  simp [ab c2,e]
 have e:=iV ⟨c1,c2⟩;have hh:=aV c1;obtain ⟨k,hk⟩ : ∃ k : Nat,rev - d.fr = k:=⟨(rev - d.fr).toNat,by omega⟩;have hkl : k<=d.list.length:=by omega
 have ew : Go.IntKind.i64.wrap (rev - d.fr) = (k : Int):=by rw [Go.IntWalk.i64_in _ (by omega)];omega
 rw [hk] at e;simp only [Int.toNat_natCast] at e;simp [c2,ew,hkl,ie hkl];refine aa.pure (vU (d.list.drop k) (oM n1)) (by simp) ?_;simp [e];intro row h;have:=List.mem_of_mem_drop h;simp at this;obtain ⟨x,-,rfl⟩:=this;rfl
theorem rU (d : Doc) (hl : cq d<=2 ^ 30) (rev : Int) : aj Tryz.prog 404 [.agg d.row,.c (vi rev)] (.tup [.c (.s ((iu d rev).1.map eF)) 1,.c (.v (.bool (iu d rev).2)) 1]):=by
 refine pci ae Tryz.func404 (λw0 base=>?_);obtain ⟨n1,n2,n3,n4⟩:=ca hl;simp [Doc.row];intro b2;refine am.quiet eok mix (by kernel_rfl) ?_;simp;refine ⟨_,_,fd d hl,by simp [Doc.row],?_⟩;by_cases c1 : aL d
 rotate_left
 ·have e:=jM (d:=d) (rev:=rev) (λh=>c1 h.1)
  simp [ab c1,e]
 simp [c1];refine ⟨_,_,aN d,by simp [Doc.row],?_⟩;simp;refine ⟨_,_,aZ rev d.fr (ac d),by simp,?_⟩;by_cases c2 : d.fr<=rev/\rev<=ac d
 rotate_left
 ·have e:=jM (d:=d) (rev:=rev) (λh=>c2 h.2)
  simp [ab c2,e]
 have e:=iV ⟨c1,c2⟩;have hh:=aV c1;obtain ⟨k,hk⟩ : ∃ k : Nat,rev - d.fr = k:=⟨(rev - d.fr).toNat,by omega⟩;have hkl : k<=d.list.length:=by omega
 have ew : Go.IntKind.i64.wrap (rev - d.fr) = (k : Int):=by rw [Go.IntWalk.i64_in _ (by omega)];omega
 rw [hk] at e;simp only [Int.toNat_natCast] at e;simp [c2,ew,hkl,ie hkl];intro b21;obtain ⟨l,hl'⟩ : ∃ l,d.list.drop k = l:=⟨_,rfl⟩;have hn : nL aR l<=2 ^ 30:=hl' ▸ oM n1;have hll : d.list.length - k = l.length:=by rw [<- hl'];simp
 have hle:=aA hn;rw [hl'] at e;simp only [<- List.map_drop,hl',hll];refine ag eok (λx : Nat × Hd=>x.1<=l.length) (λx=>⟨42,0,[(30,.v (.int .i64 x.1)),(29,.v (.int .i64 l.length)),(28,.ro (l.map Entry.row)),(6,.sl 336 x.2 1 0 x.1)],[(336,.rows x.2 1 (((l.take x.1).map Entry.o).map eF) true)]⟩) (λx=>l.length - x.1) (0,some (b21,0,0)) (by simp) (by simp) (λx hx=>Ent.refl ?_);obtain ⟨i,H⟩:=x;simp only at hx ⊢;by_cases hlt : i < l.length
 ·have hm:=dy hn hlt
  unfold aR at hm;simp [hlt,Entry.row];intro b5;refine aa.pure (pO l[i].o hm) (by simp) ?_;simp;intro H1 b;have e1 : i = min i l.length:=by omega
  refine ⟨e1,by omega,λH2=>Ent.refl ⟨i + 1,by omega,by omega,H2,?_⟩⟩;simp;exact ⟨ah (by omega),cQ (f:=λe : Entry=>eF e.o) hlt⟩
 ·have e2 : l.length = i:=by omega
  simp [hlt,e];have e1 : i<=min i l.length:=by omega
  refine ⟨e1,?_,?_⟩
  ·intro row hr
   have:=List.mem_of_mem_take hr;simp at this;obtain ⟨x,-,rfl⟩:=this;rfl
  ·rw [List.take_of_length_le (by simp;omega)]
   simp [cut,e2]
theorem s6 (l : List Entry) (k : Nat) : ∀ row∈List.drop k (List.map Entry.row l),row.length = 3:=by
 intro row h;have:=List.mem_of_mem_drop h;simp at this;obtain ⟨x,-,rfl⟩:=this;rfl
open Classical in
theorem vh {d : Doc} {rev : Int} (h : ¬ aL d) : f9 d rev = ([],1):=by unfold f9;rw [if_neg h]
theorem sZ {d : Doc} {rev : Int} (h : aL d) : f9 d rev = if ac d < rev then ([],2) else if rev < d.fr then ([],3) else (d.list.drop (rev - d.fr).toNat,0):=by unfold f9;rw [if_pos h]
theorem yz (d : Doc) (hl : cq d<=2 ^ 30) (rev : Int) : aj Tryz.prog 248 [.agg d.row,.c (vi rev)] (.tup [.c (.s ((f9 d rev).1.map Entry.row)) 3,.c (vi (f9 d rev).2) 1]):=by
 refine pci ae Tryz.func248 (λw0 base=>?_);obtain ⟨n1,n2,n3,n4⟩:=ca hl;simp [Doc.row];intro b2;refine aa.pure (fh d hl) (by simp [Doc.row]) ?_;by_cases c1 : aL d
 rotate_left
 ·simp [ab c1,vh c1]
 have e:=sZ (rev:=rev) c1;simp [c1];refine aa.pure (yY d rev) (by simp [Doc.row]) ?_;unfold wZ;by_cases c2 : ac d < rev
 ·simp [c2,e]
 by_cases c3 : rev < d.fr
 ·simp [c2,c3,e]
 have hh:=aV c1;obtain ⟨k,hk⟩ : ∃ k : Nat,rev - d.fr = k:=⟨(rev - d.fr).toNat,by omega⟩;have hkl : k<=d.list.length:=by omega
 have ew : Go.IntKind.i64.wrap (rev - d.fr) = (k : Int):=by rw [Go.IntWalk.i64_in _ (by omega)];omega
 simp only [c2,c3,if_false,hk,Int.toNat_natCast] at e;simp [c2,c3,ew,hkl,ie hkl];refine aa.pure (fO (d.list.drop k) (oM n1)) (by simp) ?_;simp [e];exact s6 _ _
theorem xE (d : Doc) (hl : cq d<=2 ^ 30) (rev : Int) : aj Tryz.prog 343 [.agg d.row,.c (vi rev)] (.tup [.c (.s ((f9 d rev).1.map Entry.row)) 3,.c (vi (f9 d rev).2) 1]):=by
 refine pci ae Tryz.func343 (λw0 base=>?_);obtain ⟨n1,n2,n3,n4⟩:=ca hl;simp [Doc.row];intro b2;refine aa.pure (fd d hl) (by simp [Doc.row]) ?_;by_cases c1 : aL d
 rotate_left
 ·simp [ab c1,vh c1]
 have e:=sZ (rev:=rev) c1;simp [c1];refine aa.pure (aN d) (by simp [Doc.row]) ?_;by_cases c2 : ac d < rev
 ·simp [c2,e]
 by_cases c3 : rev < d.fr
 ·simp [c2,c3,e]
 have hh:=aV c1;obtain ⟨k,hk⟩ : ∃ k : Nat,rev - d.fr = k:=⟨(rev - d.fr).toNat,by omega⟩;have hkl : k<=d.list.length:=by omega
 have ew : Go.IntKind.i64.wrap (rev - d.fr) = (k : Int):=by rw [Go.IntWalk.i64_in _ (by omega)];omega
 simp only [c2,c3,if_false,hk,Int.toNat_natCast] at e;simp [c2,c3,ew,hkl,ie hkl];refine aa.pure (dW (d.list.drop k) (oM n1)) (by simp) ?_;simp [e];exact s6 _ _
theorem jl (d : Doc) (hl : cq d<=2 ^ 30) : aj Tryz.prog 324 [.agg d.row] (.one (.c (.s ((cN d).map ak)) 1)):=by
 refine pci ae Tryz.func324 (λw0 base=>?_);simp [Doc.row];intro b2;refine drw eok mix [0,1] [2,3,4,5,6,7,8] (.c 2 2 1 2 (.c 2 3 2 0 (.c 2 4 0 0 (.c 2 5 0 0 (.c 2 6 0 0 (.c 2 7 0 0 (.c 2 8 0 0 (.l 2 0) .s) .s) .s) .s) .s) .s) .s) ?_;simp
 try intros
 refine aa.pure (aN d) (by simp [Doc.row]) ?_;simp
 try intros
 refine aa.pure (kY d hl (ac d)) (by simp [Doc.row]) ?_;simp
 try intros
 simp [cN]
theorem mm (d : Doc) (hl : cq d<=2 ^ 30) : aj Tryz.prog 149 [.agg d.row] (.one (.c (.s ((cN d).map ak)) 1)):=by
 refine pci ae Tryz.func149 (λw0 base=>?_);simp [Doc.row];intro b2;refine drw eok mix [0,1] [2,3,4,5,6,7,8] (.c 2 2 1 2 (.c 2 3 2 0 (.c 2 4 0 0 (.c 2 5 0 0 (.c 2 6 0 0 (.c 2 7 0 0 (.c 2 8 0 0 (.l 2 0) .s) .s) .s) .s) .s) .s) .s) ?_;simp
 try intros
 refine aa.pure (bo d) (by simp [Doc.row]) ?_;simp
 try intros
 refine aa.pure (oS d hl (ac d)) (by simp [Doc.row]) ?_;simp
 try intros
 simp [cN]
theorem lA {d : Doc} {base : Int} {o : List Part} (h : ¬ (aL d/\bN o)) : cG d base o = ([],1):=by unfold cG;rw [if_neg h]
theorem qO {d : Doc} {base : Int} {o : List Part} (h : aL d/\bN o) : cG d base o = if ac d < base then ([],2) else if base < d.fr then ([],3) else
 if br o = (dJ d base).1.length then
  if (gl ((d.list.drop (base - d.fr).toNat).map Entry.o) o).2 = true then ((gl ((d.list.drop (base - d.fr).toNat).map Entry.o) o).1,0) else ([],5)
 else ([],1):=by unfold cG;rw [if_pos h]
theorem wg (d : Doc) (hl : cq d<=2 ^ 30) (base : Int) (o : List Part) (ho : nL aF o<=2 ^ 40) : aj Tryz.prog 332 [.agg d.row,.c (vi base),.c (.s (o.map Part.row))] (.tup [.c (.s ((cG d base o).1.map Part.row)) 3,.c (vi (cG d base o).2) 1]):=by
 refine pci ae Tryz.func332 (λw0 bs=>?_);obtain ⟨n1,n2,n3,n4⟩:=ca hl;simp [Doc.row];intro b3;refine aa.pure (fh d hl) (by simp [Doc.row]) ?_;by_cases c1 : aL d
 rotate_left
 ·simp [ab c1,lA (d:=d) (base:=base) (o:=o) (λh=>c1 h.1)]
 simp [c1];refine aa.pure (d9 o ho) (by simp) ?_;by_cases c2 : bN o
 rotate_left
 ·simp [ab c2,lA (d:=d) (base:=base) (o:=o) (λh=>c2 h.2)]
 have e:=qO (base:=base) ⟨c1,c2⟩;simp [c2];refine aa.pure (yY d base) (by simp [Doc.row]) ?_;unfold wZ;by_cases c3 : ac d < base
 ·simp [c3,e]
 by_cases c4 : base < d.fr
 ·simp [c3,c4,e]
 have hh:=aV c1;have c5 : aL d/\d.fr<=base/\base<=ac d:=⟨c1,by omega,by omega⟩;have hops:=iV c5;simp only [c3,c4,if_false] at e;simp [c3,c4];refine aa.pure (oS d hl base) (by simp [Doc.row]) ?_;generalize dJ d base = T at e ⊢;obtain ⟨t,ok⟩:=T;simp only at e ⊢;simp;intro H1;refine aa.pure (gG o ho) (by simp) ?_;by_cases c6 : br o = t.length
 rotate_left
 ·simp only [c6,if_false] at e
  simp [c6,e]
 simp only [c6,if_true] at e;simp [c6];refine aa.pure (sK d hl base) (by simp [Doc.row]) ?_;rw [hops];generalize hL : (d.list.drop (base - d.fr).toNat) = L at e ⊢;have hL1 : L.length<=d.list.length:=by rw [<- hL];simp
 have hle:=aA n1
 have hs : ∀ q∈L.map Entry.o,nL aF q<=2 ^ 40:=λq hq=>by
  have:=m8 n1 (l:=L) (λe he=>by rw [<- hL] at he;exact List.mem_of_mem_drop he) hq;omega
 simp;intro H2;refine aa.pure (AB (L.map Entry.o) o (by simp;omega) hs ho) (by simp) ?_;generalize gl (L.map Entry.o) o = P at e ⊢;obtain ⟨v,ok2⟩:=P;simp only at e ⊢
 cases ok2 with
 | false=>simp at e;simp [e]
 | true=>simp at e;simp [e]
theorem oA (d : Doc) (hl : cq d<=2 ^ 30) (base : Int) (o : List Part) (ho : nL aF o<=2 ^ 40) : aj Tryz.prog 383 [.agg d.row,.c (vi base),.c (.s (o.map Part.row))] (.tup [.c (.s ((cG d base o).1.map Part.row)) 3,.c (vi (cG d base o).2) 1]):=by
 refine pci ae Tryz.func383 (λw0 bs=>?_);obtain ⟨n1,n2,n3,n4⟩:=ca hl;simp [Doc.row];intro b3;refine aa.pure (fd d hl) (by simp [Doc.row]) ?_;by_cases c1 : aL d
 rotate_left
 ·simp [ab c1,lA (d:=d) (base:=base) (o:=o) (λh=>c1 h.1)]
 simp [c1];refine aa.pure (d5 o ho) (by simp) ?_;by_cases c2 : bN o
 rotate_left
 ·simp [ab c2,lA (d:=d) (base:=base) (o:=o) (λh=>c2 h.2)]
 have e:=qO (base:=base) ⟨c1,c2⟩;simp [c2];refine aa.pure (aN d) (by simp [Doc.row]) ?_;by_cases c3 : ac d < base
 ·simp [c3,e]
 by_cases c4 : base < d.fr
 ·simp [c3,c4,e]
 have hh:=aV c1;have c5 : aL d/\d.fr<=base/\base<=ac d:=⟨c1,by omega,by omega⟩;have hops:=iV c5;have hfit:=o7 (o:=o) c1 c2 c5.2.1 c5.2.2;simp only [c3,c4,if_false] at e;simp [c3,c4];refine aa.pure (kY d hl base) (by simp [Doc.row]) ?_;generalize dJ d base = T at e hfit ⊢;obtain ⟨t,ok⟩:=T;simp only at e hfit ⊢;simp;intro H1;refine aa.pure (gw o ho) (by simp) ?_;by_cases c6 : br o = t.length
 rotate_left
 ·simp only [c6,if_false] at e
  simp [c6,e]
 simp only [c6,if_true,true_implies] at e hfit;simp [c6];refine aa.pure (rU d hl base) (by simp [Doc.row]) ?_;rw [hops];generalize hL : (d.list.drop (base - d.fr).toNat) = L at e hfit ⊢;have hL1 : L.length<=d.list.length:=by rw [<- hL];simp
 have hle:=aA n1
 have hs : ∀ q∈L.map Entry.o,nL aF q<=2 ^ 40:=λq hq=>by
  have:=m8 n1 (l:=L) (λe he=>by rw [<- hL] at he;exact List.mem_of_mem_drop he) hq;omega
 have hpn:=B4 (L.map Entry.o) o;simp;intro H2;refine aa.pure (zw (L.map Entry.o) o (by simp;omega) hs ho) (by simp) ?_;generalize gl (L.map Entry.o) o = P at e hfit hpn ⊢;obtain ⟨v,ok2⟩:=P;simp only at e hfit hpn ⊢
 cases ok2 with
 | false=>simp at e;simp [e]
 | true=>
   have hf:=hfit rfl;have ht:=hf.2.1.1;simp at e;simp [e];intro H3;refine aa.pure (jl d hl) (by simp [Doc.row]) ?_;simp;intro H4;refine aa.pure (fe v (cN d) (by omega) (by omega)) (by simp) ?_;have ha:=jf.2 hf;generalize apply v (cN d) = A at ha ⊢;obtain ⟨u,ok3⟩:=A;simp only at ha;subst ha;simp
end Go.Proofs.YtoldjebobgocpaaGreat
