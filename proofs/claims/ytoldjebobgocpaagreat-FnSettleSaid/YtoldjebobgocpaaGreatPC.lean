import Derived.Test.YtoldjebobgocpaaGreatPB
import Derived.Test.YtoldjebobgocpaaGreatPA
import Derived.Test.YtoldjebobgocpaaGreatMF
namespace Go.Proofs.YtoldjebobgocpaaGreat
set_option maxRecDepth 20000
inductive At where
 | k
 | p (c : Int)
 | d
def ats (p : Part) : List At:=if p.kind = 2 then p.signs.map At.p else if p.kind = 3 then List.replicate (psz p) .d else List.replicate (psz p) .k
def ag : List Part->List At
 | []=>[]
 | p :: l=>ats p ++ ag l
theorem aF : ∀ (a b : List Part),ag (a ++ b) = ag a ++ ag b
 | [],b=>rfl
 | p :: a,b=>by simp [ag,aF a b]
def frA : List At->Nat
 | []=>0
 | .p _ :: l=>frA l
 | _ :: l=>frA l + 1
def toA : List At->Nat
 | []=>0
 | .d :: l=>toA l
 | _ :: l=>toA l + 1
theorem aY : ∀ (a b : List At),frA (a ++ b) = frA a + frA b
 | [],b=>by simp [frA]
 | .p c :: a,b=>by simp [frA,aY a b]
 | .k :: a,b=>by simp [frA,aY a b];omega
 | .d :: a,b=>by simp [frA,aY a b];omega
theorem bn : ∀ (a b : List At),toA (a ++ b) = toA a + toA b
 | [],b=>by simp [toA]
 | .d :: a,b=>by simp [toA,bn a b]
 | .k :: a,b=>by simp [toA,bn a b];omega
 | .p c :: a,b=>by simp [toA,bn a b];omega
theorem jg : ∀ l : List Int,frA (l.map At.p) = 0
 | []=>rfl
 | c :: l=>by simp [frA,jg l]
theorem ns : ∀ l : List Int,toA (l.map At.p) = l.length
 | []=>rfl
 | c :: l=>by simp [toA,ns l]
theorem pZ : ∀ n : Nat,frA (List.replicate n At.k) = n
 | 0=>rfl
 | n + 1=>by simp [List.replicate_succ,frA,pZ n]
theorem nM : ∀ n : Nat,frA (List.replicate n At.d) = n
 | 0=>rfl
 | n + 1=>by simp [List.replicate_succ,frA,nM n]
theorem sS : ∀ n : Nat,toA (List.replicate n At.k) = n
 | 0=>rfl
 | n + 1=>by simp [List.replicate_succ,toA,sS n]
theorem lK : ∀ n : Nat,toA (List.replicate n At.d) = 0
 | 0=>rfl
 | n + 1=>by simp [List.replicate_succ,toA,lK n]
theorem mv {p : Part} (h : ai p) (k : p.kind = 2) : psz p = p.signs.length:=by
 rw [eZ k] at h;unfold psz;omega
theorem IB {p : Part} : frA (ats p) = if p.kind = 2 then 0 else psz p:=by
 unfold ats
 split
 ·exact jg _
 ·split
  ·exact nM _
  ·exact pZ _
theorem IA {p : Part} (h : ai p) : toA (ats p) = if p.kind = 3 then 0 else psz p:=by
 unfold ats;by_cases k : p.kind = 2
 ·have : ¬ p.kind = 3:=by omega
  rw [if_pos k,if_neg this,ns,mv h k]
 ·rw [if_neg k]
  split
  ·exact lK _
  ·exact sS _
theorem e8 : ∀ (o : List Part),frs o = frA (ag o)
 | []=>rfl
 | p :: o=>by simp only [frs,ag,aY,IB,e8 o]
theorem gK : ∀ {o : List Part},(∀ p∈o,ai p)->tos o = toA (ag o)
 | [],_=>rfl
 | p :: o, h => by
   simp only [tos,ag,bn,IA (h p (List.mem_cons_self ..)),gK (λq hq=>h q (List.mem_cons_of_mem _ hq))]
def nA : List Int->Nat->List At->List At
 | P,n,[]=>P.map At.p ++ List.replicate n .d
 | P,n,.k :: l=>P.map At.p ++ (List.replicate n .d ++ .k :: nA [] 0 l)
 | P,n,.p c :: l=>nA (P ++ [c]) n l
 | P,n,.d :: l=>nA P (n + 1) l
def gj (l : List At) : List At:=nA [] 0 l
theorem yi : ∀ (l : List At) (P : List Int) (n : Nat),frA (nA P n l) = n + frA l
 | [],P,n=>by simp [nA,frA,aY,jg,nM]
 | .k :: l,P,n=>by simp [nA,frA,aY,jg,nM,yi l]
 | .p c :: l,P,n=>by simp [nA,frA,yi l]
 | .d :: l,P,n=>by simp [nA,frA,yi l];omega
theorem yg : ∀ (l : List At) (P : List Int) (n : Nat),toA (nA P n l) = P.length + toA l
 | [],P,n=>by simp [nA,toA,bn,ns,lK]
 | .k :: l,P,n=>by simp [nA,toA,bn,ns,lK,yg l]
 | .p c :: l,P,n=>by simp [nA,toA,yg l];omega
 | .d :: l,P,n=>by simp [nA,toA,yg l]
theorem yh : ∀ (Q P : List Int) (n : Nat) (l : List At),nA P n (Q.map At.p ++ l) = nA (P ++ Q) n l
 | [],P,n,l=>by simp
 | c :: Q,P,n,l=>by simp [nA,yh Q]
theorem yj : ∀ (m : Nat) (P : List Int) (n : Nat) (l : List At),nA P n (List.replicate m .d ++ l) = nA P (n + m) l
 | 0,P,n,l=>by simp
 | m + 1,P,n,l=>by simp [List.replicate_succ,nA,yj m];congr 1;omega
theorem Fk : ∀ (m : Nat) (l : List At),nA [] 0 (List.replicate m .k ++ l) = List.replicate m .k ++ nA [] 0 l
 | 0,l=>by simp
 | m + 1,l=>by simp [List.replicate_succ,nA,Fk m]
def bA (s : List Part × List Int × Int) : List At:=ag s.1 ++ (s.2.1.map At.p ++ List.replicate s.2.2.toNat .d)
theorem vw {L : List Part} {P : List Int} {D : Int} : ag (au L P D) = bA (L,P,D):=by
 unfold au bA;rw [aF,aF]
 congr 1
 congr 1
 ·split
  ·rename_i h;simp [h,ag]
  ·simp [ag,ats]
 ·split
  ·simp [ag,ats,psz]
  ·have : D.toNat = 0:=by omega
   simp [ag,this]
theorem kB : ∀ (L : List Part) (_h : 0 < L.length) (p : Part),ag (L.set (L.length - 1) p) = ag L.dropLast ++ ats p
 | [q],h,p=>by simp [ag]
 | q :: r :: L, h, p => by
   have ih:=kB (r :: L) (by simp) p;simp only [List.length_cons,Nat.add_sub_cancel] at ih ⊢;rw [List.set_cons_succ,ag,ih];simp [ag]
theorem qv : ∀ (L : List Part) (h : 0 < L.length),ag L = ag L.dropLast ++ ats (L[L.length - 1]'(by omega))
 | [q],h=>by simp [ag]
 | q :: r :: L, h => by
   have ih:=qv (r :: L) (by simp);simp only [List.length_cons,Nat.add_sub_cancel] at ih ⊢;rw [ag,ih];simp [ag]
theorem Em {L : List Part} {n : Int} (hn : 0 < n) (hL : ∀ q∈L,0<=q.n) (hk : ∀ q∈L,q.kind = 1->q.signs = []) : ag (be L n) = ag L ++ List.replicate n.toNat .k:=by
 unfold be
 split
 ·rename_i h
  split
  ·rename_i k
   have h1:=hL _ (List.getElem_mem (show L.length - 1 < L.length by omega));have h2:=hk _ (List.getElem_mem (show L.length - 1 < L.length by omega)) k;rw [kB L h,qv L h,List.append_assoc]
   congr 1
   generalize L[L.length - 1]'(by omega) = q at h1 h2 k;obtain ⟨a,b,c⟩:=q;simp only at h1 h2 k;subst k h2;simp [ats,psz,List.replicate_append_replicate];omega
  ·rw [aF]
   simp [ag,ats,psz]
 ·rename_i h
  have : L = []:=List.eq_nil_of_length_eq_zero (by omega);subst this;simp [ag,ats,psz]
theorem ow {L : List Part} {P : List Int} {D : Int} (h : ∀ q∈L,q.kind = 1->q.signs = []) : ∀ q∈au L P D,q.kind = 1->q.signs = []:=by
 intro q hq hk;unfold au at hq;rcases List.mem_append.1 hq with hq | hq
 ·exact h q hq hk
 ·rcases List.mem_append.1 hq with hq | hq
  ·split at hq
   ·simp at hq
   ·simp at hq;subst hq;simp at hk
  ·split at hq
   ·simp at hq;subst hq;rfl
   ·simp at hq
theorem wG {L : List Part} {n : Int} (h : ∀ q∈L,q.kind = 1->q.signs = []) : ∀ q∈be L n,q.kind = 1->q.signs = []:=by
 intro q hq hk;unfold be at hq
 split at hq
 ·rename_i hl
  split at hq
  ·rename_i k
   rcases List.mem_or_eq_of_mem_set hq with hq | rfl
   ·exact h q hq hk
   ·exact (h (L[L.length - 1]'(by omega)) (List.getElem_mem _) k :)
  ·rcases List.mem_append.1 hq with hq | hq
   ·exact h q hq hk
   ·simp at hq;subst hq;rfl
 ·simp at hq;subst hq;rfl
theorem u3 {o : List Part} (ho : ∀ p ∈ o,ai p) : ∀ (i : Nat),i <= o.length -> (∀ q ∈ (aM (o.take i)).1,q.kind = 1 -> q.signs = []) /\ 0 <= (aM (o.take i)).2.2 /\ (∀ q ∈ (aM (o.take i)).1,0 <= q.n) /\
 ∀ l,gj (ag (o.take i) ++ l) = ag (aM (o.take i)).1 ++ nA (aM (o.take i)).2.1 (aM (o.take i)).2.2.toNat l
 | 0,_=>by simp [aM,ag,gj]
 | i + 1, hi => by
   obtain ⟨h1,h2,h3,h4⟩:=u3 ho i (by omega);have hlt : i < o.length:=by omega
   have hq:=(iH ho (i + 1) hi);have hp:=(ho _ (List.getElem_mem hlt));have hb:=hp.bounds;refine ⟨?_,hq.d0,λq hq'=>(hq.q q hq').1,λl=>?_⟩
   ·rw [fi hlt]
    unfold ca
    split
    ·exact h1
    ·split
     ·exact h1
     ·split
      ·exact wG (ow h1)
      ·exact h1
   ·rw [<- List.take_append_getElem hlt,aF,List.append_assoc,h4,List.take_append_getElem hlt,fi hlt]
    generalize aM (o.take i) = s at h1 h2 h3;generalize o[i] = p at hp hb;obtain ⟨L,P,D⟩:=s;simp only at h1 h2 h3;simp only [ag,List.append_nil];unfold ca;by_cases k2 : p.kind = 2
    ·simp only [k2,if_true]
     rw [show ats p = p.signs.map At.p by unfold ats;rw [if_pos k2],yh]
    ·by_cases k3 : p.kind = 3
     ·have hs:=hb.2.2.2.2.2 k2
      have e : (D + p.n).toNat = D.toNat + p.n.toNat:=by omega
      simp only [k3,if_true];rw [show ats p = List.replicate (psz p) .d by unfold ats;rw [if_neg k2,if_pos k3],yj];simp [e,psz,hs]
     ·have k1 : p.kind = 1:=by omega
      have hs:=hb.2.2.2.2.2 k2;have e : ats p = List.replicate p.n.toNat .k:=by unfold ats;rw [if_neg k2,if_neg k3];simp [psz,hs]
      simp only [k2,k3,if_false];rw [e]
      split
      ·rename_i hn
       have hfl : ∀ q∈au L P D,0<=q.n:=by
        intro q hq';unfold au at hq';rcases List.mem_append.1 hq' with hq' | hq'
        ·exact h3 q hq'
        ·rcases List.mem_append.1 hq' with hq' | hq'
         ·split at hq'
          ·simp at hq'
          ·simp at hq';subst hq';simp
         ·split at hq'
          ·simp at hq';subst hq';simp;omega
          ·simp at hq'
       simp only;rw [Em hn hfl (ow h1),vw];obtain ⟨m,hm⟩ : ∃ m,p.n.toNat = m + 1:=⟨p.n.toNat - 1,by omega⟩;rw [hm];simp [bA,List.replicate_succ,nA,Fk,List.append_assoc]
      ·have : p.n.toNat = 0:=by omega
       simp [this]
theorem dL {o : List Part} (ho : ∀ p∈o,ai p) : ag (normal o) = gj (ag o):=by
 have h:=(u3 ho o.length (Nat.le_refl _)).2.2.2 [];rw [List.take_length,List.append_nil] at h;unfold normal;rw [vw,h];unfold bA;simp [nA]
theorem mF (l : List At) : frA (gj l) = frA l:=by unfold gj;rw [yi];omega
theorem mE (l : List At) : toA (gj l) = toA l:=by unfold gj;rw [yg];simp
def tA : List At->List At->List At × List At
 | .p c :: a,b=>(.p c :: (tA a b).1,.k :: (tA a b).2)
 | [],.p c :: b=>(.k :: (tA [] b).1,.p c :: (tA [] b).2)
 | .k :: a,.p c :: b=>(.k :: (tA (.k :: a) b).1,.p c :: (tA (.k :: a) b).2)
 | .d :: a,.p c :: b=>(.k :: (tA (.d :: a) b).1,.p c :: (tA (.d :: a) b).2)
 | .k :: a,.k :: b=>(.k :: (tA a b).1,.k :: (tA a b).2)
 | .k :: a,.d :: b=>((tA a b).1,.d :: (tA a b).2)
 | .d :: a,.k :: b=>(.d :: (tA a b).1,(tA a b).2)
 | .d :: a,.d :: b=>tA a b
 | [],_=>([],[])
 | _,[]=>([],[])
termination_by a b=>a.length + b.length
def noP : List At->Bool
 | .p _ :: _=>false
 | _=>true
theorem DH {c : Int} {a b : List At} : tA (.p c :: a) b = (.p c :: (tA a b).1,.k :: (tA a b).2):=by rw [tA]
theorem v3 {c : Int} {a b : List At} (h : noP a = true) : tA a (.p c :: b) = (.k :: (tA a b).1,.p c :: (tA a b).2):=by
 match a,h with
 | [],_=>rw [tA]
 | .k :: a,_=>rw [tA]
 | .d :: a,_=>rw [tA]
theorem Fe {a b : List At} : ∀ Q : List Int,tA (Q.map At.p ++ a) b = (Q.map At.p ++ (tA a b).1,List.replicate Q.length .k ++ (tA a b).2)
 | []=>by simp
 | c :: Q=>by simp [DH,Fe Q,List.replicate_succ]
theorem By {a b : List At} (h : noP a = true) : ∀ Q : List Int,tA a (Q.map At.p ++ b) = (List.replicate Q.length .k ++ (tA a b).1,Q.map At.p ++ (tA a b).2)
 | []=>by simp
 | c :: Q=>by simp [v3 h,By h Q,List.replicate_succ]
theorem Ff {a b : List At} : ∀ n : Nat,tA (List.replicate n .k ++ a) (List.replicate n .k ++ b) = (List.replicate n .k ++ (tA a b).1,List.replicate n .k ++ (tA a b).2)
 | 0=>by simp
 | n + 1=>by simp [List.replicate_succ,tA,Ff n]
theorem Fg {a b : List At} : ∀ n : Nat,tA (List.replicate n .k ++ a) (List.replicate n .d ++ b) = ((tA a b).1,List.replicate n .d ++ (tA a b).2)
 | 0=>by simp
 | n + 1=>by simp [List.replicate_succ,tA,Fg n]
theorem Fh {a b : List At} : ∀ n : Nat,tA (List.replicate n .d ++ a) (List.replicate n .k ++ b) = (List.replicate n .d ++ (tA a b).1,(tA a b).2)
 | 0=>by simp
 | n + 1=>by simp [List.replicate_succ,tA,Fh n]
theorem Fi {a b : List At} : ∀ n : Nat,tA (List.replicate n .d ++ a) (List.replicate n .d ++ b) = tA a b
 | 0=>by simp
 | n + 1=>by simp [List.replicate_succ,tA,Fi n]
theorem eb : ∀ {x : List Part},(∀ p∈x,ai p)->ag (nxt x) = ag x
 | [],_=>rfl
 | p :: l, h => by
   have ih:=eb (x:=l) (λq hq=>h q (List.mem_cons_of_mem _ hq));unfold nxt
   split
   ·rename_i hz
    rw [ih,ag]
    have : ats p = []:=by
     have hp:=h p (List.mem_cons_self ..);unfold ats
     split
     ·rename_i k;rw [mv hp k] at hz;simp [List.eq_nil_of_length_eq_zero hz]
     ·split<;>simp [hz]
    simp [this]
   ·rfl
theorem fm {p : Part} (h : ai p) {n : Nat} (hn : n<=psz p) : ats p = ats (cq p n) ++ ats (aA p n):=by
 have hb:=h.bounds;by_cases k2 : p.kind = 2
 ·unfold ats cq aA
  simp only [k2,if_true];rw [<- List.map_append,List.take_append_drop]
 ·have hs:=hb.2.2.2.2.2 k2
  have hz : psz p = p.n.toNat:=by simp [psz,hs]
  have e : p.n.toNat = n + (p.n - n).toNat:=by omega
  by_cases k3 : p.kind = 3
  ·unfold ats cq aA
   simp only [k3,if_true];simp [psz,hs];omega
  ·unfold ats cq aA
   simp only [k2,if_false,k3];simp [psz,hs];omega
theorem qu {p : Part} (h : ai p) : ats (aA p (psz p)) = []:=by
 have h1:=fm h (Nat.le_refl (psz p));rw [bL h] at h1
 simpa using h1
theorem yB {p : Part} (_h : ai p) (k : p.kind≠2) : ats p = if p.kind = 3 then List.replicate (psz p) .d else List.replicate (psz p) .k:=by unfold ats;rw [if_neg k]
theorem gf {p : Part} (h : ai p) (k : p.kind≠2) {n : Nat} (hn : n<=psz p) : ats (cq p n) = if p.kind = 3 then List.replicate n .d else List.replicate n .k:=by
 have hs:=h.bounds.2.2.2.2.2 k;have : psz (cq p n) = n:=by unfold psz cq;rw [if_neg k];simp [hs]
 rw [yB (fA h hn) (by simpa using k),this];simp
theorem EL {p : Part} (h : ai p) (k : p.kind≠2) (hp : 0 < psz p) (l : List At) : noP (ats p ++ l) = true:=by
 rw [yB h k];obtain ⟨m,hm⟩ : ∃ m,psz p = m + 1:=⟨psz p - 1,by omega⟩;rw [hm]
 split<;>simp [List.replicate_succ,noP]
theorem pg {x y : List Part} (hi : TInv x y) (h : cM x y = none) : nxt x = []/\nxt y = []:=by
 have hxt:=eI x;have hyf:=eI y;have hb:=hi.b;unfold cM at h
 cases ex : nxt x with
 | nil =>
   rw [ex] at h hxt
   cases ey : nxt y with
   | nil=>exact ⟨rfl,rfl⟩
   | cons q y' =>
     rw [ey] at hyf;have hp:=bE ey;simp only [ey] at h
     split at h
     ·cases h
     ·rename_i k
      simp [frs,k] at hxt hyf;omega
 | cons p x' =>
   rw [ex] at h hxt;have hp:=bE ex;simp only at h
   split at h
   ·cases h
   ·rename_i k
    cases ey : nxt y with
    | nil =>
      rw [ey] at hyf;simp [frs,k] at hxt hyf;omega
    | cons q y' =>
      simp only [ey] at h
      split at h<;>cases h
theorem As : ∀ (k : Nat) {x y : List Part},TInv x y->tsz x + tsz y<=k->(ag (xfK k x y).1,ag (xfK k x y).2) = tA (ag x) (ag y)
 | 0, x, y, hi, h => by
   have hn : cM x y = none:=by
    cases hs : cM x y with
    | none=>rfl
    | some r=>have:=(cS hi hs).dec;omega
   obtain ⟨e1,e2⟩:=pg hi hn;rw [<- eb hi.px,<- eb hi.py,e1,e2];simp [xfK,ag,tA]
 | k + 1, x, y, hi, h => by
   rw [xfK]
   cases hs : cM x y with
   | none =>
     obtain ⟨e1,e2⟩:=pg hi hs;rw [<- eb hi.px,<- eb hi.py,e1,e2];simp [ag,tA]
   | some r =>
     have hn:=cS hi hs;have hd:=hn.dec;have ih:=As k hn.inv (by omega);simp only [aF];rw [<- eb hi.px,<- eb hi.py];generalize xfK k r.2.1 r.2.2 = Z at ih ⊢;unfold cM at hs
     cases ex : nxt x with
     | nil =>
       rw [ex] at hs
       cases ey : nxt y with
       | nil=>simp [ey] at hs
       | cons q y' =>
         have hq:=cf hi.py ey;simp only [ey] at hs
         split at hs
         ·rename_i kq
          cases hs
          simp only [ag,qu hq.1,List.nil_append] at ih;simp only [ag,bL hq.1,List.append_nil];rw [show ats q = q.signs.map At.p by unfold ats;rw [if_pos kq],By rfl,<- ih];simp [ats,psz]
         ·cases hs
     | cons p x' =>
       rw [ex] at hs;have hp:=cf hi.px ex;have hpp:=bE ex;simp only at hs
       split at hs
       ·rename_i kp
        cases hs
        simp only [ag,qu hp.1,List.nil_append] at ih;simp only [ag,bL hp.1,List.append_nil,eb hi.py];rw [show ats p = p.signs.map At.p by unfold ats;rw [if_pos kp],Fe,<- ih];simp [ats,psz]
       ·rename_i kp
        cases ey : nxt y with
        | nil=>simp [ey] at hs
        | cons q y' =>
          have hq:=cf hi.py ey;have hqp:=bE ey;simp only [ey] at hs
          split at hs
          ·rename_i kq
           cases hs
           simp only [ag,qu hq.1,List.nil_append] at ih;simp only [ag,bL hq.1,List.append_nil];rw [show ats q = q.signs.map At.p by unfold ats;rw [if_pos kq],By (EL hp.1 kp hpp _),<- ih];simp [ats,psz]
          ·rename_i kq
           cases hs
           have hn1 : min (psz p) (psz q)<=psz p:=by omega
           have hn2 : min (psz p) (psz q)<=psz q:=by omega
           simp only [ag] at ih ⊢;rw [fm hp.1 hn1,fm hq.1 hn2,gf hp.1 kp hn1,gf hq.1 kq hn2,List.append_assoc,List.append_assoc];have hb1:=hp.1.bounds.1;have hb2:=hq.1.bounds.1;generalize min (psz p) (psz q) = n at ih hn1 hn2 ⊢;by_cases k1 : p.kind = 3<;>by_cases k2 : q.kind = 3
           ·have e1 : ¬ p.kind = 1:=by omega
            have e2 : ¬ q.kind = 1:=by omega
            simp only [k1,k2,if_true,Fi,<- ih];simp [ag]
           ·have e1 : ¬ p.kind = 1:=by omega
            have e2 : q.kind = 1:=by omega
            simp only [k1,k2,if_true,if_false,Fh,<- ih];simp [ag,e2,gf hp.1 kp hn1,k1]
           ·have e1 : p.kind = 1:=by omega
            have e2 : ¬ q.kind = 1:=by omega
            simp only [k1,k2,if_true,if_false,Fg,<- ih];simp [ag,e1,gf hq.1 kq hn2,k2]
           ·have e1 : p.kind = 1:=by omega
            have e2 : q.kind = 1:=by omega
            simp only [k1,k2,if_false,Ff,<- ih];simp [ag,e1,e2,gf hp.1 kp hn1,gf hq.1 kq hn2]
theorem Fd {x y : List Part} (hi : TInv x y) : (ag (xf x y).1,ag (xf x y).2) = tA (ag x) (ag y):=As _ hi (Nat.le_refl _)
theorem iu : ∀ (a b : List At),frA a = frA b->frA (tA a b).1 = toA b/\frA (tA a b).2 = toA a/\toA (tA a b).1 = toA (tA a b).2
 | .p c :: a, b, h => by
   have ih:=iu a b (by simpa [frA] using h);rw [DH];simp [frA,toA];omega
 | [], .p c :: b, h => by
   have ih:=iu [] b (by simpa [frA] using h);rw [v3 rfl];simp [frA,toA] at ih ⊢;omega
 | .k :: a, .p c :: b, h => by
   have ih:=iu (.k :: a) b (by simpa [frA] using h);rw [v3 rfl];simp [frA,toA] at ih ⊢;omega
 | .d :: a, .p c :: b, h => by
   have ih:=iu (.d :: a) b (by simpa [frA] using h);rw [v3 rfl];simp [frA,toA] at ih ⊢;omega
 | .k :: a, .k :: b, h => by
   have ih:=iu a b (by simpa [frA] using h);rw [tA];simp [frA,toA];omega
 | .k :: a, .d :: b, h => by
   have ih:=iu a b (by simpa [frA] using h);rw [tA];simp [frA,toA];omega
 | .d :: a, .k :: b, h => by
   have ih:=iu a b (by simpa [frA] using h);rw [tA];simp [frA,toA];omega
 | .d :: a, .d :: b, h => by
   have ih:=iu a b (by simpa [frA] using h);rw [tA];simp [toA];omega
 | [],[],h=>by simp [tA,frA,toA]
 | [],.k :: b,h=>by simp [frA] at h
 | [],.d :: b,h=>by simp [frA] at h
 | .k :: a,[],h=>by simp [frA] at h
 | .d :: a,[],h=>by simp [frA] at h
termination_by a b=>a.length + b.length
theorem Aq {x y : List Part} (hi : TInv x y) : (∀ p∈(xf x y).1,ai p)/\∀ p∈(xf x y).2,ai p:=by
 have key : ∀ (k : Nat) {x y : List Part},TInv x y->(∀ p∈(xfK k x y).1,ai p)/\∀ p∈(xfK k x y).2,ai p:=by
  intro k
  induction k with
  | zero=>intro x y hi;simp [xfK]
  | succ k ih =>
    intro x y hi;rw [xfK]
    cases hs : cM x y with
    | none=>simp
    | some r =>
      have hn:=cS hi hs;have h2:=ih hn.inv;simp only [List.mem_append];exact ⟨λp hp=>hp.elim (hn.okx p) (h2.1 p),λp hp=>hp.elim (hn.oky p) (h2.2 p)⟩
 exact key _ hi
structure TrOk (a b : List Part) : Prop where
 oka : aK a
 okb : aK b
 from_ : az a = az b
 okx : aK (ac a b).1
 oky : aK (ac a b).2.1
 fx : az (ac a b).1 = cN b
 fy : az (ac a b).2.1 = cN a
 to : cN (ac a b).1 = cN (ac a b).2.1
 ax : ag (ac a b).1 = gj (tA (ag a) (ag b)).1
 ay : ag (ac a b).2.1 = gj (tA (ag a) (ag b)).2
theorem d8 {a b : List Part} (h : (ac a b).2.2 = true) : TrOk a b:=by
 unfold ac at h
 split at h
 ·rename_i h1
  split at h
  ·rename_i h2
   have e : ac a b = (normal (xf a b).1,normal (xf a b).2,true):=by unfold ac;rw [if_pos h1,if_pos h2]
   have hi:=mf h1.1 h1.2.1 h1.2.2;have hat:=Fd hi;have hk:=Aq hi;have e1 : ag (xf a b).1 = (tA (ag a) (ag b)).1:=by rw [<- hat]
   have e2 : ag (xf a b).2 = (tA (ag a) (ag b)).2:=by rw [<- hat]
   have l:=iu (ag a) (ag b) (by rw [<- e8,<- e8];exact hi.b);have n1:=dL hk.1;have n2:=dL hk.2;have f1:=fF h2.1;have f2:=fF h2.2;have t1:=jO h2.1;have t2:=jO h2.2;have t3:=jO h1.1;have t4:=jO h1.2.1;rw [e8,n1,mF,e1,l.1] at f1;rw [e8,n2,mF,e2,l.2.1] at f2;rw [gK h2.1.1.1,n1,mE,e1] at t1;rw [gK h2.2.1.1,n2,mE,e2] at t2;rw [gK h1.1.1.1] at t3;rw [gK h1.2.1.1.1] at t4;rw [e1] at n1;rw [e2] at n2;refine ⟨h1.1,h1.2.1,h1.2.2,?_,?_,?_,?_,?_,?_,?_⟩<;>rw [e]
   ·exact h2.1
   ·exact h2.2
   ·simp only;omega
   ·simp only;omega
   ·simp only;have:=l.2.2;omega
   ·exact n1
   ·exact n2
  ·simp at h
 ·simp at h
def cur (o : List Part) (i d : Nat) : List Part:=
 match o.drop i with
 | []=>[]
 | p :: l=>aA p d :: l
theorem tM {o : List Part} {i d : Nat} (h : o.length<=i) : cur o i d = []:=by unfold cur;rw [List.drop_eq_nil_of_le h]
theorem qg {o : List Part} {i d : Nat} (h : i < o.length) : cur o i d = aA o[i] d :: o.drop (i + 1):=by unfold cur;rw [List.drop_eq_getElem_cons h]
theorem qf {o : List Part} {i : Nat} : cur o i 0 = o.drop i:=by
 unfold cur
 cases o.drop i with
 | nil=>rfl
 | cons p l=>simp [wh]
theorem CM {o : List Part} (ho : ∀ p∈o,ai p) {i : Nat} (h : i < o.length) : nxt (cur o i (psz o[i])) = nxt (cur o (i + 1) 0):=by
 rw [qg h,qf];have:=dJ (ho _ (List.getElem_mem h)) (Nat.le_refl _);simp [nxt,this]
theorem CK {o : List Part} (ho : ∀ p∈o,ai p) {i d : Nat} (h : i < o.length) (hd : d < psz o[i]) : nxt (cur o i d) = cur o i d:=by
 rw [qg h];have:=dJ (ho _ (List.getElem_mem h)) (Nat.le_of_lt hd);have h2 : ¬ psz (aA o[i] d) = 0:=by omega
 simp [nxt,h2]
theorem CN {o : List Part} {i d n : Nat} (h : i < o.length) {p : Part} {l : List Part} (hc : cur o i d = p :: l) : aA p n :: l = cur o i (d + n):=by
 rw [qg h] at hc ⊢
 cases hc
 rw [uQ]
open Go.AM
theorem bk {k j : Nat} {o : AObj} {h : AH} (hne : j≠k) : AH.get ((k,o) :: h) j = AH.get h j:=if_neg hne
theorem fY (p : Part) (h : ai p) : ak Tryz.prog 328 [.agg p.row] (.one (.c (vi (psz p)) 1)):=by
 refine pci ae Tryz.func328 (λw0 base=>?_);have hp:=dG h;have e : Go.IntKind.i64.wrap (p.n + (p.signs.length : Int)) = p.n + p.signs.length:=Go.IntWalk.i64_in _ (by omega);rw [hp.1];simp [Part.row,e]
def hdV : List Part->AV
 | []=>.agg [.v (.int .i64 0),.v (.int .i64 0),.nil]
 | p :: _=>.agg [.v (.int .i64 p.kind),.v (.int .i64 p.n),.ro (p.signs.map aE)]
theorem y7 {w0 : World} {bF bG : Nat->Prop} {bl : Bool} {st : ASt} {dst : Option Nat} {K : ASt->Prop} {kx b kb : Nat} {l : List Part} (hk : kx + 16 < kb) (hs : ∀ p∈l,ai p)
 (g : st.h.get kx = .vars b 324 [.ro (l.map Part.row)])
 (hK : ∀ h',AH.get h' kx = .vars b 324 [.ro ((nxt l).map Part.row)]->(∀ q,q≠kx->q < kb->AH.get h' q = st.h.get q)->aQ ⟨st.n,st.kb,st.t,h'⟩ dst (hdV (nxt l)) K) :
 aa ⟨Tryz.prog,tt,w0,⟨bF,bG,bl,λ_=>True⟩⟩ 326 [.p kx b 0] st dst K:=by
 refine inl ae Tryz.func326 kb (λw1 F=>?_);simp;intro b2;have hkk : ¬ kx = kb + 32:=by omega
 have hkk2 : ¬ kb + 32 = kx:=by omega
 refine nk eok (λm : List Part=>nxt m = nxt l/\∀ p∈m,p∈l) (λm=>⟨40,kb,[(0,.p kx b 0),(2,.p (kb + 32) b2 0)],(kx,.vars b 324 [.ro (m.map Part.row)]) :: (kb + 32,.vars b2 291 [.v (.int .i64 0),.v (.int .i64 0),.nil]) :: st.h⟩) (λm=>m.length) l ⟨rfl,λ_ h=>h⟩ (by simp [hkk,g]) (λm hm=>?_)
 ·cases m with
  | nil =>
    have hn : nxt l = []:=by rw [<- hm.1];rfl
    rw [hn] at hK;simp [hkk2];refine hK _ (by simp [hkk]) (λq q1 q2=>?_)
    repeat (first | exact rfl | refine (bk (by omega)).trans ?_)
  | cons p m =>
    have hp:=hs p (hm.2 p (List.mem_cons_self ..));simp [Part.row];refine aa.pure (fY p hp) (by simp [Part.row]) ?_;by_cases hz : psz p = 0
    ·simp [hz,hkk,hkk2]
     refine ⟨m,⟨by rw [<- hm.1];simp [nxt,hz],λq hq=>hm.2 q (List.mem_cons_of_mem _ hq)⟩,by omega,?_⟩;simp [cut];exact List.take_of_length_le (by simp)
    ·have hn : nxt l = p :: m:=by rw [<- hm.1];simp [nxt,hz]
     rw [hn] at hK;have hm0 : ¬ (m.length : Int) + 1 = 0:=by omega
     simp [hz,hkk2,hm0];refine hK _ ?_ (λq q1 q2=>?_)
     ·simp [hkk,Part.row]
     repeat (first | exact rfl | refine (bk (by omega)).trans ?_)
theorem CI (s : List Int) {n : Nat} (_h : n<=s.length) : cut (s.map aE) 0 n = (s.take n).map aE:=by
 unfold cut
 split
 ·rename_i h2
  rw [List.take_of_length_le (by simp at h2;omega)]
 ·simp [List.map_take]
theorem CJ (s : List Int) {n : Nat} : cut (s.map aE) n (s.length - n) = (s.drop n).map aE:=by
 unfold cut
 split
 ·rename_i h2
  rw [h2.1];simp
 ·rw [List.take_of_length_le (by simp),List.map_drop]
theorem rH {w0 : World} {bF bG : Nat->Prop} {bl : Bool} {st : ASt} {dst : Option Nat} {K : ASt->Prop} {kx b n : Nat} {p : Part} {l : List Part} (hk : kx < 15000) (hp : ai p) (hn : n<=psz p) (hl : l.length<=2 ^ 20)
 (g : st.h.get kx = .vars b 324 [.ro ((p :: l).map Part.row)])
 (hK : ∀ h',AH.get h' kx = .vars b 324 [.ro ((aA p n :: l).map Part.row)]->(∀ q,q≠kx->q < 15000->AH.get h' q = st.h.get q)->aQ ⟨st.n,st.kb,st.t,h'⟩ dst (hdV [cq p n]) K) :
 aa ⟨Tryz.prog,tt,w0,⟨bF,bG,bl,λ_=>True⟩⟩ 329 [.p kx b 0,.v (.int .i64 n)] st dst K:=by
 refine rE ae Tryz.func329 (by kernel_rfl) rfl rfl rfl (Nat.le_of_ble_eq_true rfl) 20000 (λw1 F=>?_);have hps:=dG hp;have hb:=hp.bounds;have k0 : ¬ kx = 20064:=by omega
 have k1 : ¬ kx = 20080:=by omega
 have k2 : ¬ kx = 20096:=by omega
 have k3 : ¬ kx = 20112:=by omega
 have k4 : ¬ kx = 20608:=by omega
 have j0 : ¬ 20064 = kx:=by omega
 have j1 : ¬ 20080 = kx:=by omega
 have j2 : ¬ 20096 = kx:=by omega
 have j3 : ¬ 20112 = kx:=by omega
 have j4 : ¬ 20608 = kx:=by omega
 simp [g,Part.row,k0];intro b4 b5
 refine a9.cut (λx : Nat × Nat=>⟨48,20000,[(0,.p kx b 0),(1,.v (.int .i64 n)),(4,.p 20064 b4 0),(5,.p 20080 b5 0),(6,.p 20096 x.1 0),(7,.p 20112 x.2 0)],
  (20096,.vars x.1 291 [.v (.int .i64 p.kind),.v (.int .i64 p.n),.ro (p.signs.map aE)]) :: (20112,.vars x.2 291 [.v (.int .i64 p.kind),.v (.int .i64 p.n),.ro (p.signs.map aE)]) :: (20080,.vars b5 291 [.v (.int .i64 p.kind),.v (.int .i64 p.n),.ro (p.signs.map aE)]) :: (20064,.vars b4 291 [.v (.int .i64 0),.v (.int .i64 0),.nil]) :: st.h⟩) ?_ ?_
 ·refine drw eok mix [0,1] [2,3,4,5] (.c 2 2 0 3 (.c 2 3 0 3 (.c 2 4 2 1 (.c 2 5 1 0 (.l 2 0) .s) .s) .s) (.c 2 3 0 3 (.c 2 2 0 3 (.c 2 4 2 1 (.c 2 5 1 0 (.l 2 0) .s) .s) .s) .s)) ?_
  simp;rw [Trc];refine ⟨?_,?_⟩<;>simp
 rintro ⟨b6,b7⟩
 simp;by_cases hk2 : p.kind = 2
 ·simp [hk2]
  refine drw eok mix [0,1,2,3,4,5,6,7,8,10] [9,11] (.c 10 9 962 61 (.c 10 11 61 0 (.l 10 0) .s) .s) ?_;have hns : n<=p.signs.length:=by have:=hb.2.2.2.2.1 hk2;omega
  simp [hns];refine drw eok mix [0,1,3,4,5,6,7,9,10] [2,8,11] (.c 9 2 128 383 (.c 9 8 4 379 (.c 9 11 377 2 (.l 9 2) .s) .s) .s) ?_
  have ct : cut ([vi p.kind,vi p.n,CD.s (p.signs.map aE)] :: l.map Part.row) 1 l.length = l.map Part.row:=by
   simp [cut];exact List.take_of_length_le (by simp)
  have hv : hdV [cq p n] = .agg [.v (.int .i64 2),.v (.int .i64 p.n),.ro ((p.signs.map aE).take n)]:=by simp [hdV,cq,hk2,List.map_take]
  rw [hv] at hK;simp [g,Part.row,k0,k1,k2,k3,k4,j0,j3,ct,CI p.signs hns,CJ p.signs];intro b8;refine ⟨by omega,λH=>⟨_,vU (kx:=kx) (b:=b) (T:=324) (cells:=[.sl 20608 H 3 0 (1 + l.length)]) (j:=0) (k:=20608) (sz:=3) (off:=0) (len:=1 + l.length) (H:=H) (rows:=(aA p n).row :: l.map Part.row) (own:=false) ?_ rfl ?_ (by simp;omega),?_⟩⟩
  ·simp [k0]
  ·simp [j4,Part.row,aA,hk2]
  ·refine hK _ ?_ (λq q1 q2=>?_)
   ·simp [cut,Nat.add_comm]
   ·repeat (first | exact rfl | refine (bk (by omega)).trans ?_)
 ·simp [hk2]
  refine drw eok mix [0,1,2,3,4,5,7] [6,8] (.c 7 6 66 61 (.c 7 8 61 0 (.l 7 0) .s) .s) ?_;have e : Go.IntKind.i64.wrap (p.n - (n : Int)) = p.n - n:=Go.IntWalk.i64_in _ (by omega);simp [e];refine drw eok mix [0,1,3,4,5,6,7,9,10] [2,8,11] (.c 9 2 128 383 (.c 9 8 4 379 (.c 9 11 377 2 (.l 9 2) .s) .s) .s) ?_
  have ct : cut ([vi p.kind,vi p.n,CD.s (p.signs.map aE)] :: l.map Part.row) 1 l.length = l.map Part.row:=by
   simp [cut];exact List.take_of_length_le (by simp)
  have hv : hdV [cq p n] = .agg [.v (.int .i64 p.kind),.v (.int .i64 n),.ro (p.signs.map aE)]:=by simp [hdV,cq,hk2]
  rw [hv] at hK;simp [g,Part.row,k0,k1,k2,k3,k4,j0,j3,ct];intro b8;refine ⟨by omega,λH=>⟨_,vU (kx:=kx) (b:=b) (T:=324) (cells:=[.sl 20608 H 3 0 (1 + l.length)]) (j:=0) (k:=20608) (sz:=3) (off:=0) (len:=1 + l.length) (H:=H) (rows:=(aA p n).row :: l.map Part.row) (own:=false) ?_ rfl ?_ (by simp;omega),?_⟩⟩
  ·simp [k0]
  ·simp [j4,Part.row,aA,hk2]
  ·refine hK _ ?_ (λq q1 q2=>?_)
   ·simp [cut,Nat.add_comm]
   ·repeat (first | exact rfl | refine (bk (by omega)).trans ?_)
theorem vY {w0 : World} {bF bG : Nat->Prop} {bl : Bool} {st : ASt} {dst : Option Nat} {K : ASt->Prop} {kx b : Nat} {p : Part} {l : List Part} (hk : kx < 14000) (hp : ai p) (hl : l.length<=2 ^ 20)
 (g : st.h.get kx = .vars b 324 [.ro ((p :: l).map Part.row)])
 (hK : ∀ h',AH.get h' kx = .vars b 324 [.ro ((aA p (psz p) :: l).map Part.row)]->(∀ q,q≠kx->q < 14000->AH.get h' q = st.h.get q)->aQ ⟨st.n,st.kb,st.t,h'⟩ dst (hdV [p]) K) :
 aa ⟨Tryz.prog,tt,w0,⟨bF,bG,bl,λ_=>True⟩⟩ 327 [.p kx b 0] st dst K:=by
 refine inl ae Tryz.func327 14000 (λw1 F=>?_);have k0 : ¬ kx = 14032:=by omega
 have j0 : ¬ 14032 = kx:=by omega
 simp [g,Part.row,k0];intro b2;refine aa.pure (fY p hp) (by simp [Part.row]) ?_;simp;refine rH (n:=psz p) (by omega) hp (Nat.le_refl _) hl (by simp [k0,g]) (λh' g1 g2=>?_);have e:=g2 14032 j0 (by omega);simp at e;simp [hdV,e];rw [bL hp];refine hK _ (by simp [g1,k0]) (λq q1 q2=>?_);have hq : ¬ q = 14032:=by omega
 simp [hq,g2 q q1 (by omega)]
structure RS (kx ky bx by_ : Nat) (h0 h : AH) (X Y : List Part) : Prop where
 ne : kx≠ky
 lx : kx < 14000 - 16
 ly : ky < 14000 - 16
 gx : AH.get h kx = .vars bx 324 [.ro (X.map Part.row)]
 gy : AH.get h ky = .vars by_ 324 [.ro (Y.map Part.row)]
 o : ∀ q,q≠kx->q≠ky->q < 14000->AH.get h q = AH.get h0 q
theorem RS.swap {kx ky bx by_ : Nat} {h0 h : AH} {X Y : List Part} (R : RS kx ky bx by_ h0 h X Y) : RS ky kx by_ bx h0 h Y X:=⟨R.ne.symm,R.ly,R.lx,R.gy,R.gx,λq h1 h2=>R.o q h2 h1⟩
section
variable {w0 : World} {bF bG : Nat->Prop} {bl : Bool} {st : ASt} {dst : Option Nat} {K : ASt->Prop} {kx ky bx by_ : Nat} {h0 : AH} {X Y : List Part}
theorem RS.next (R : RS kx ky bx by_ h0 st.h X Y) (hs : ∀ p∈X,ai p) (hK : ∀ h',RS kx ky bx by_ h0 h' (nxt X) Y->aQ ⟨st.n,st.kb,st.t,h'⟩ dst (hdV (nxt X)) K) :
 aa ⟨Tryz.prog,tt,w0,⟨bF,bG,bl,λ_=>True⟩⟩ 326 [.p kx bx 0] st dst K:=by
 have:=R.lx;have:=R.ly;refine y7 (l:=X) (kb:=20000) (by omega) hs R.gx (λh1 g1 o1=>hK h1 ⟨R.ne,R.lx,R.ly,g1,by rw [o1 ky R.ne.symm (by omega)];exact R.gy,λq q1 q2 q3=>by rw [o1 q q1 (by omega)];exact R.o q q1 q2 q3⟩)
theorem RS.take {p : Part} {l : List Part} {n : Nat} (R : RS kx ky bx by_ h0 st.h (p :: l) Y) (hp : ai p) (hn : n<=psz p) (hl : l.length<=2 ^ 20) (hK : ∀ h',RS kx ky bx by_ h0 h' (aA p n :: l) Y->aQ ⟨st.n,st.kb,st.t,h'⟩ dst (hdV [cq p n]) K) :
 aa ⟨Tryz.prog,tt,w0,⟨bF,bG,bl,λ_=>True⟩⟩ 329 [.p kx bx 0,.v (.int .i64 n)] st dst K:=by
 have:=R.lx;have:=R.ly;refine rH (by omega) hp hn hl R.gx (λh1 g1 o1=>hK h1 ⟨R.ne,R.lx,R.ly,g1,by rw [o1 ky R.ne.symm (by omega)];exact R.gy,λq q1 q2 q3=>by rw [o1 q q1 (by omega)];exact R.o q q1 q2 q3⟩)
theorem RS.whole {p : Part} {l : List Part} (R : RS kx ky bx by_ h0 st.h (p :: l) Y) (hp : ai p) (hl : l.length<=2 ^ 20) (hK : ∀ h',RS kx ky bx by_ h0 h' (aA p (psz p) :: l) Y->aQ ⟨st.n,st.kb,st.t,h'⟩ dst (hdV [p]) K) :
 aa ⟨Tryz.prog,tt,w0,⟨bF,bG,bl,λ_=>True⟩⟩ 327 [.p kx bx 0] st dst K:=by
 have:=R.lx;have:=R.ly;refine vY (by omega) hp hl R.gx (λh1 g1 o1=>hK h1 ⟨R.ne,R.lx,R.ly,g1,by rw [o1 ky R.ne.symm (by omega)];exact R.gy,λq q1 q2 q3=>by rw [o1 q q1 (by omega)];exact R.o q q1 q2 q3⟩)
end
theorem kQ : hdV [] = .agg [.v (.int .i64 0),.v (.int .i64 0),.nil]:=rfl
theorem bj {p : Part} {l : List Part} : hdV (p :: l) = .agg [.v (.int .i64 p.kind),.v (.int .i64 p.n),.ro (p.signs.map aE)]:=rfl
open Go.AM
set_option maxRecDepth 20000
set_option maxHeartbeats 1600000
theorem fk {a b : List Part} (h : ¬ (aK a/\aK b/\cN a = az b)) : aW a b = ([],false):=by unfold aW;rw [if_neg h]
theorem mY {a b : List Part} (h1 : aK a) (h2 : aK b) (h3 : cN a = az b) : (aK (normal (cmp a b))->aW a b = (normal (cmp a b),true))/\(¬ aK (normal (cmp a b))->aW a b = ([],false)):=by
 unfold aW;rw [if_pos ⟨h1,h2,h3⟩];exact ⟨λh=>by rw [if_pos h],λh=>by rw [if_neg h]⟩
theorem rj (a b : List Part) (ha : nL al a<=2 ^ 40) (hb : nL al b<=2 ^ 40) : ak Tryz.prog 242 [.c (.s (a.map Part.row)),.c (.s (b.map Part.row))] (.tup [.c (.s ((aW a b).1.map Part.row)) 3,.c (.v (.bool (aW a b).2)) 1]):=by
 refine pci ae Tryz.func242 (λw0 base=>?_);simp;refine aa.pure (cl a ha) (by simp) ?_;by_cases c1 : aK a
 rotate_left
 ·have e:=fk (a:=a) (b:=b) (λh=>c1 h.1)
  have e2 : dc (aK a) = false:=by rw [aC];exact c1
  simp [e2,e]
 simp [c1];refine aa.pure (cl b hb) (by simp) ?_;by_cases c2 : aK b
 rotate_left
 ·have e:=fk (a:=a) (b:=b) (λh=>c2 h.2.1)
  have e2 : dc (aK b) = false:=by rw [aC];exact c2
  simp [e2,e]
 simp [c2];refine aa.pure (jc a ha) (by simp) ?_;simp;refine aa.pure (dz b hb) (by simp) ?_;by_cases c3 : cN a = az b
 rotate_left
 ·have e:=fk (a:=a) (b:=b) (λh=>c3 h.2.2)
  simp [c3,e]
 have hf:=mY c1 c2 c3;simp [c3];intro bx by_;have t1:=jN c1;have t2:=jN c2
 refine aw eok (λx : List Part × List Part × List Part × Hd=>CInv x.1 x.2.1/\x.2.2.1 ++ cmp x.1 x.2.1 = cmp a b/\(∀ p∈x.2.2.1,ai p)/\x.2.2.1.length + (tsz x.1 + tsz x.2.1)<=800/\x.1.length<=1000/\x.2.1.length<=1000)
  (λx=>⟨98,0,[(6,.p 464 bx 0),(7,.p 512 by_ 0),(8,.sl 5000 x.2.2.2 3 0 x.2.2.1.length)],
  [(464,.vars bx 324 [.ro (x.1.map Part.row)]),(512,.vars by_ 324 [.ro (x.2.1.map Part.row)]),(5000,.rows x.2.2.2 3 (x.2.2.1.map Part.row) false)]⟩) (λx=>tsz x.1 + tsz x.2.1) (a,b,[],none)
  ⟨tP c1 c2 c3,by simp,by simp,by simp;omega,by have:=c1.1.2;simp only;omega,by have:=c2.1.2;simp only;omega⟩ (by simp) (λx hx=>Ent.refl ?_)
 obtain ⟨X,Y,L,H⟩:=x;obtain ⟨hi,hcmp,hL,hlen,hlx,hly⟩:=hx;simp only at hi hcmp hL hlen hlx hly ⊢;have xl:=o5 X;have yl:=o5 Y;obtain ⟨h0,hh0⟩ : ∃ h0 : AH,[(464,.vars bx 324 [.ro (X.map Part.row)]),(512,.vars by_ 324 [.ro (Y.map Part.row)]),(5000,.rows H 3 (L.map Part.row) false)] = h0:=⟨_,rfl⟩;have R : RS 464 512 bx by_ h0 h0 X Y:=⟨by decide,by decide,by decide,by rw [<- hh0];simp,by rw [<- hh0];simp,λ_ _ _ _=>rfl⟩;have g5 : AH.get h0 5000 = .rows H 3 (L.map Part.row) false:=by rw [<- hh0];simp
 rw [hh0]
 clear hh0
 simp;refine R.next hi.px (λh1 R=>?_);have okx : ∀ p∈nxt X,ai p:=λp hp=>hi.px p (eU hp)
 have oky : ∀ p∈nxt Y,ai p:=λp hp=>hi.py p (eU hp)
 have hxt:=mC X;have hyf:=eI Y;have hbal:=hi.b
 cases ex : nxt X with
 | nil =>
   rw [ex] at R;simp [kQ];refine R.swap.next hi.py (λh2 R=>?_);have R:=R.swap
   cases ey : nxt Y with
   | nil =>
     have hc : cmp X Y = []:=ql (by simp [du,ex,ey]);simp [kQ];rw [hc,List.append_nil] at hcmp;have e5:=R.o 5000 (by decide) (by decide) (by decide);refine aa.pure (mD L hL (by omega)) (by simp [e5,g5]) ?_;simp;intro H2;rw [hcmp] at hL hlen ⊢;refine aa.pure (cl (normal (cmp a b)) (by have:=fX hL;omega)) (by simp) ?_;by_cases c4 : aK (normal (cmp a b))
     ·have e:=hf.1 c4
      simp [c4,e]
     ·have e:=hf.2 c4
      have e2 : dc (aK (normal (cmp a b))) = false:=by rw [aC];exact c4
      simp [e2,e]
   | cons q y' =>
     rw [ey] at R;have hq:=(cf hi.py ey).1;have hqb:=hq.bounds;have q0 : ¬ q.kind = 0:=by omega
     simp [bj,q0];refine R.next (by simp) (λh3 R=>?_);simp only [nxt] at R;simp [nxt,kQ];refine R.swap.next (by rw [<- ey];exact oky) (λh4 R=>?_);have R:=R.swap;rw [<- ey,bm,ey] at R;rw [<- ey,bm,ey];by_cases q2 : q.kind = 2
     ·simp [bj,q2]
      refine R.swap.whole hq (by simp [ey] at yl;omega) (λh5 R=>?_);have R:=R.swap;have e5:=R.o 5000 (by decide) (by decide) (by decide);have hc : du X Y = some ([cq q (psz q)],[],aA q (psz q) :: y'):=by simp [du,ex,ey,q2]
      rw [bL hq] at hc;have hn:=dD hi hc;have hcm:=iN hi hc;simp [bj,e5,g5];intro b1;refine ⟨by omega,λH2=>Ent.refl ⟨[],aA q (psz q) :: y',L ++ [q],⟨hn.inv,by rw [<- hcmp,hcm,List.append_assoc],?_,?_,?_,?_⟩,hn.dec,H2,?_⟩⟩
      ·intro r hr
       rcases List.mem_append.1 hr with hr | hr
       ·exact hL r hr
       ·exact hn.ok r hr
      ·have:=hn.dec
       simp at this ⊢;omega
      ·simp
      ·simp [ey] at yl ⊢;omega
      ·simp [R.gx,R.gy,Part.row,q2]
     ·exfalso
      have:=bE ey;rw [ex] at hxt;rw [ey] at hyf;simp [tos,frs,q2] at hxt hyf;omega
 | cons p x' =>
   rw [ex] at R;have hp:=(cf hi.px ex).1;have hpb:=hp.bounds;have p0 : ¬ p.kind = 0:=by omega
   simp [bj,p0];refine R.next (by rw [<- ex];exact okx) (λh3 R=>?_);rw [<- ex,bm,ex] at R;rw [<- ex,bm,ex];by_cases p3 : p.kind = 3
   ·simp [bj,p3]
    refine R.whole hp (by simp [ex] at xl;omega) (λh5 R=>?_);have e5:=R.o 5000 (by decide) (by decide) (by decide);have hc : du X Y = some ([cq p (psz p)],aA p (psz p) :: x',Y):=by simp [du,ex,p3]
    rw [bL hp] at hc;have hn:=dD hi hc;have hcm:=iN hi hc;simp [bj,e5,g5];intro b1;refine ⟨by omega,λH2=>Ent.refl ⟨aA p (psz p) :: x',Y,L ++ [p],⟨hn.inv,by rw [<- hcmp,hcm,List.append_assoc],?_,?_,?_,?_⟩,hn.dec,H2,?_⟩⟩
    ·intro r hr
     rcases List.mem_append.1 hr with hr | hr
     ·exact hL r hr
     ·exact hn.ok r hr
    ·have:=hn.dec
     simp at this ⊢;omega
    ·simp [ex] at xl ⊢;omega
    ·exact hly
    ·simp [R.gx,R.gy,Part.row,p3]
   ·simp [bj,p3]
    refine R.swap.next hi.py (λh4 R=>?_);have R:=R.swap
    cases ey : nxt Y with
    | nil =>
      exfalso
      have:=bE ex;rw [ex] at hxt;rw [ey] at hyf;simp [tos,frs,p3] at hxt hyf;omega
    | cons q y' =>
      rw [ey] at R;have hq:=(cf hi.py ey).1;have hqb:=hq.bounds;by_cases q2 : q.kind = 2
      ·simp [bj,q2]
       refine R.swap.whole hq (by simp [ey] at yl;omega) (λh5 R=>?_);have R:=R.swap;have e5:=R.o 5000 (by decide) (by decide) (by decide);have hc : du X Y = some ([cq q (psz q)],p :: x',aA q (psz q) :: y'):=by simp [du,ex,ey,p3,q2]
       rw [bL hq] at hc;have hn:=dD hi hc;have hcm:=iN hi hc;simp [bj,e5,g5];intro b1;refine ⟨by omega,λH2=>Ent.refl ⟨p :: x',aA q (psz q) :: y',L ++ [q],⟨hn.inv,by rw [<- hcmp,hcm,List.append_assoc],?_,?_,?_,?_⟩,hn.dec,H2,?_⟩⟩
       ·intro r hr
        rcases List.mem_append.1 hr with hr | hr
        ·exact hL r hr
        ·exact hn.ok r hr
       ·have:=hn.dec
        simp at this ⊢;omega
       ·simp [ex] at xl ⊢;omega
       ·simp [ey] at yl ⊢;omega
       ·simp [R.gx,R.gy,Part.row,q2]
      ·simp [bj,q2]
       refine R.next (by rw [<- ex];exact okx) (λh5 R=>?_);rw [<- ex,bm,ex] at R;rw [<- ex,bm,ex];simp [bj];refine aa.pure (fY p hp) (by simp [Part.row]) ?_;simp;refine R.swap.next (by rw [<- ey];exact oky) (λh6 R=>?_);have R:=R.swap;rw [<- ey,bm,ey] at R;rw [<- ey,bm,ey];simp [bj];refine aa.pure (fY q hq) (by simp [Part.row]) ?_;simp;rw [t7];obtain ⟨n,hn⟩ : ∃ n,min (psz p) (psz q) = n:=⟨_,rfl⟩;rw [hn];simp;refine R.take hp (n:=n) (by omega) (by simp [ex] at xl;omega) (λh7 R=>?_);rw [bj];obtain ⟨pc,hpc⟩ : ∃ pc,cq p n = pc:=⟨_,rfl⟩;have pk : pc.kind = p.kind:=by rw [<- hpc];simp
       rw [hpc];simp;refine R.swap.take hq (n:=n) (by omega) (by simp [ey] at yl;omega) (λh8 R=>?_);have R:=R.swap;rw [bj];obtain ⟨qc,hqc⟩ : ∃ qc,cq q n = qc:=⟨_,rfl⟩;have qk : qc.kind = q.kind:=by rw [<- hqc];simp
       rw [hqc];have e5:=R.o 5000 (by decide) (by decide) (by decide);have hc : du X Y = some (if q.kind = 1 then [pc] else if p.kind = 1 then [qc] else [],aA p n :: x',aA q n :: y'):=by simp [du,ex,ey,p3,q2,hn,hpc,hqc]
       have hnx:=dD hi hc;have hcm:=iN hi hc;have hok:=hnx.ok;have hdec:=hnx.dec;have hlx2 : (aA p n :: x').length<=1000:=by simp [ex] at xl ⊢;omega
       have hly2 : (aA q n :: y').length<=1000:=by simp [ey] at yl ⊢;omega
       simp only at hcm hok hdec;simp;intro b1 b2;by_cases q1 : q.kind = 1
       ·simp only [q1,if_true] at hcm hok
        simp [qk,q1,pk,e5,g5];intro b3;refine ⟨by omega,λH2=>Ent.refl ⟨aA p n :: x',aA q n :: y',L ++ [pc],⟨hnx.inv,by rw [<- hcmp,hcm,List.append_assoc],?_,?_,hlx2,hly2⟩,hdec,H2,?_⟩⟩
        ·intro r hr
         rcases List.mem_append.1 hr with hr | hr
         ·exact hL r hr
         ·exact hok r hr
        ·simp;omega
        ·simp [R.gx,R.gy,Part.row,pk]
       ·by_cases p1 : p.kind = 1
        ·simp only [q1,p1,if_true,if_false] at hcm hok
         simp [qk,q1,pk,p1,e5,g5];intro b3;refine ⟨by omega,λH2=>Ent.refl ⟨aA p n :: x',aA q n :: y',L ++ [qc],⟨hnx.inv,by rw [<- hcmp,hcm,List.append_assoc],?_,?_,hlx2,hly2⟩,hdec,H2,?_⟩⟩
         ·intro r hr
          rcases List.mem_append.1 hr with hr | hr
          ·exact hL r hr
          ·exact hok r hr
         ·simp;omega
         ·simp [R.gx,R.gy,Part.row,qk]
        ·simp only [q1,p1,if_false,List.nil_append] at hcm hok
         simp [qk,q1,pk,p1];refine Ent.refl ⟨aA p n :: x',aA q n :: y',L,⟨hnx.inv,by rw [<- hcmp,hcm],hL,by omega,hlx2,hly2⟩,hdec,H,?_⟩;simp [R.gx,R.gy,e5,g5]
theorem sd (p : Part) (h : ai p) : ak Tryz.prog 407 [.agg p.row] (.one (.c (vi (psz p)) 1)):=by
 refine pci ae Tryz.func407 (λw0 base=>?_);have hp:=dG h;have hb:=h.bounds;rw [hp.1];simp [Part.row];by_cases hk : p.kind = 2
 ·have:=hb.2.2.2.2.1 hk
  simp [hk,this]
 ·have:=hb.2.2.2.2.2 hk
  simp [hk,this]
structure Cu (a : List Part) (i d : Nat) (X : List Part) : Prop where
 ok : ∀ p∈a,ai p
 le : i<=a.length
 v : ∀ h : i < a.length,d<=psz a[i]
 z : i = a.length->d = 0
 c : cur a i d = X
def hdK : List Part->Int
 | []=>0
 | p :: _=>p.kind
structure CR (kx ky bx by_ : Nat) (h0 h : AH) (a b : List Part) (i d j e : Nat) (X Y : List Part) : Prop where
 ne : kx≠ky
 lx : kx < 14000 - 16
 ly : ky < 14000 - 16
 gx : AH.get h kx = .vars bx 360 [.ro (a.map Part.row),.v (.int .i64 i),.v (.int .i64 d)]
 gy : AH.get h ky = .vars by_ 360 [.ro (b.map Part.row),.v (.int .i64 j),.v (.int .i64 e)]
 o : ∀ q,q≠kx->q≠ky->q < 14000->AH.get h q = AH.get h0 q
 cx : Cu a i d X
 cy : Cu b j e Y
theorem CR.swap {kx ky bx by_ : Nat} {h0 h : AH} {a b : List Part} {i d j e : Nat} {X Y : List Part} (R : CR kx ky bx by_ h0 h a b i d j e X Y) : CR ky kx by_ bx h0 h b a j e i d Y X:=⟨R.ne.symm,R.ly,R.lx,R.gy,R.gx,λq h1 h2=>R.o q h2 h1,R.cy,R.cx⟩
theorem Cu.bnd {a : List Part} {i d : Nat} {X : List Part} (h : Cu a i d X) : d<=200:=by
 by_cases hlt : i < a.length
 ·have:=h.v hlt
  have:=(dG (h.ok _ (List.getElem_mem hlt))).2;omega
 ·have:=h.z (by have:=h.le;omega)
  omega
theorem zt {w0 : World} {bF bG : Nat->Prop} {bl : Bool} {st : ASt} {dst : Option Nat} {K : ASt->Prop} {kx b i d : Nat} {a X : List Part} (_hk : kx < 14000) (hl : a.length<=2 ^ 20) (cx : Cu a i d X)
 (g : st.h.get kx = .vars b 360 [.ro (a.map Part.row),.v (.int .i64 i),.v (.int .i64 d)])
 (hK : ∀ h' i' d',Cu a i' d' (nxt X)->AH.get h' kx = .vars b 360 [.ro (a.map Part.row),.v (.int .i64 i'),.v (.int .i64 d')]->(∀ q,q≠kx->q < 20000->AH.get h' q = st.h.get q)->aQ ⟨st.n,st.kb,st.t,h'⟩ dst (.v (.int .i64 (hdK (nxt X)))) K) :
 aa ⟨Tryz.prog,tt,w0,⟨bF,bG,bl,λ_=>True⟩⟩ 391 [.p kx b 0] st dst K:=by
 refine inl ae Tryz.func391 20000 (λw1 F=>?_);simp;refine nk eok (λx : Nat × Nat=>Cu a x.1 x.2 (cur a x.1 x.2)/\nxt (cur a x.1 x.2) = nxt X) (λx=>⟨62,20000,[(0,.p kx b 0),(2,.v (.int .i64 0))],(kx,.vars b 360 [.ro (a.map Part.row),.v (.int .i64 x.1),.v (.int .i64 x.2)]) :: st.h⟩) (λx=>a.length - x.1) (i,d) ⟨⟨cx.ok,cx.le,cx.v,cx.z,rfl⟩,by rw [cx.c]⟩ (by simp [g]) (λx hx=>?_);obtain ⟨i,d⟩:=x;obtain ⟨hc,hn⟩:=hx;have hcl:=hc.le;have hb:=hc.bnd;simp only at hc hn hcl ⊢;simp;by_cases hlt : i < a.length
 ·have hp:=hc.ok _ (List.getElem_mem hlt)
  have hd:=hc.v hlt;have hps:=dG hp;refine a9.quiet eok mix (by kernel_rfl) ?_;simp [hlt];refine ⟨_,_,sd a[i] hp,by simp [Part.row],?_⟩;by_cases he : d = psz a[i]
  ·have e1 : Go.IntKind.i64.wrap ((i : Int) + 1) = ((i + 1 : Nat) : Int):=aB (by omega)
   simp [he,e1];refine ⟨i + 1,0,⟨⟨hc.ok,by omega,λ_=>by omega,λ_=>rfl,rfl⟩,?_⟩,by omega,by omega,rfl⟩;rw [<- hn,he,CM hc.ok hlt]
  ·have he2 : ¬ (d : Int) = psz a[i]:=by omega
   have hne : ¬ i = a.length:=by omega
   simp [he2];refine a9.quiet eok mix (by kernel_rfl) ?_;have hne2 : ¬ (i : Int) = a.length:=by omega
   simp [hne2];refine a9.quiet eok mix (by kernel_rfl) ?_;simp [hlt,Part.row];have hs:=CK hc.ok hlt (show d < psz a[i] by omega);rw [hs] at hn;have hk2 : hdK (nxt X) = a[i].kind:=by rw [<- hn,qg hlt];simp [hdK]
   rw [hk2] at hK;refine hK _ i d ⟨hc.ok,hc.le,hc.v,hc.z,hn⟩ (by simp) (λq q1 q2=>by simp [q1])
 ·have hi : i = a.length:=by omega
  have hd:=hc.z hi;refine a9.quiet eok mix (by kernel_rfl) ?_;simp [hlt];refine a9.quiet eok mix (by kernel_rfl) ?_;simp [hi];have hn2 : nxt X = []:=by rw [<- hn,tM (by omega)];rfl
  rw [hn2] at hK;refine hK _ i d ⟨hc.ok,hc.le,hc.v,hc.z,tM (by omega)⟩ (by simp [hi]) (λq q1 q2=>by simp [q1])
theorem Cu.head {a : List Part} {i d : Nat} {p : Part} {l : List Part} (h : Cu a i d (p :: l)) : ∃ hi : i < a.length,p = aA a[i] d/\l = a.drop (i + 1)/\psz p = psz a[i] - d/\d<=psz a[i]/\p.kind = a[i].kind/\ai p:=by
 have hi : i < a.length:=by
  have:=h.le;rcases Nat.lt_or_ge i a.length with h1 | h1
  ·exact h1
  ·have:=h.c
   rw [tM h1] at this
   cases this
 have hc:=h.c;rw [qg hi] at hc
 cases hc
 have hp:=h.ok _ (List.getElem_mem hi);exact ⟨hi,rfl,rfl,dJ hp (h.v hi),h.v hi,by simp,uR hp (h.v hi)⟩
theorem Cu.add {a : List Part} {i d n : Nat} {p : Part} {l : List Part} (h : Cu a i d (p :: l)) (hn : n<=psz p) : Cu a i (d + n) (aA p n :: l):=by
 obtain ⟨hi,h1,h2,h3,h4,-,-⟩:=h.head;exact ⟨h.ok,h.le,λ_=>by omega,λhe=>by omega,(CN hi h.c).symm⟩
theorem zg {w0 : World} {bF bG : Nat->Prop} {bl : Bool} {st : ASt} {dst : Option Nat} {K : ASt->Prop} {kx b i d : Nat} {a l : List Part} {p : Part} (cx : Cu a i d (p :: l))
 (g : st.h.get kx = .vars b 360 [.ro (a.map Part.row),.v (.int .i64 i),.v (.int .i64 d)])
 (hK : aQ st dst (.v (.int .i64 (psz p))) K) :
 aa ⟨Tryz.prog,tt,w0,⟨bF,bG,bl,λ_=>True⟩⟩ 392 [.p kx b 0] st dst K:=by
 refine inl ae Tryz.func392 20000 (λw1 F=>?_);obtain ⟨hi,h1,h2,h3,h4,-,-⟩:=cx.head;have hp:=cx.ok _ (List.getElem_mem hi);have hps:=dG hp;simp;refine a9.quiet eok mix (by kernel_rfl) ?_;simp [g,hi];refine ⟨_,_,sd a[i] hp,by simp [Part.row],?_⟩;have e : Go.IntKind.i64.wrap ((psz a[i] : Int) - (d : Int)) = (psz p : Int):=by rw [Go.IntWalk.i64_in _ (by omega)];omega
 simp [e];exact hK
theorem tN {w0 : World} {bF bG : Nat->Prop} {bl : Bool} {st : ASt} {dst : Option Nat} {K : ASt->Prop} {kx b i d n : Nat} {a l : List Part} {p : Part} (_hk : kx < 14000) (cx : Cu a i d (p :: l)) (hk2 : p.kind = 2) (hn : n<=psz p)
 (g : st.h.get kx = .vars b 360 [.ro (a.map Part.row),.v (.int .i64 i),.v (.int .i64 d)])
 (hK : ∀ h',Cu a i (d + n) (aA p n :: l)->AH.get h' kx = .vars b 360 [.ro (a.map Part.row),.v (.int .i64 i),.v (.int .i64 ((d + n : Nat) : Int))]->(∀ q,q≠kx->q < 20000->AH.get h' q = st.h.get q)->aQ ⟨st.n,st.kb,st.t,h'⟩ dst (.ro ((p.signs.take n).map aE)) K) :
 aa ⟨Tryz.prog,tt,w0,⟨bF,bG,bl,λ_=>True⟩⟩ 395 [.p kx b 0,.v (.int .i64 n)] st dst K:=by
 refine inl ae Tryz.func395 20000 (λw1 F=>?_);obtain ⟨hi,h1,h2,h3,h4,h5,-⟩:=cx.head;have hp:=cx.ok _ (List.getElem_mem hi);have hps:=dG hp;have hkk : a[i].kind = 2:=by rw [<- h5];exact hk2
 have hn0:=hp.bounds.2.2.2.2.1 hkk;have hsz : psz a[i] = a[i].signs.length:=by omega
 have hs : p.signs = a[i].signs.drop d:=by rw [h1];simp [aA,hkk]
 have e : Go.IntKind.i64.wrap ((d : Int) + (n : Int)) = ((d + n : Nat) : Int):=by rw [Go.IntWalk.i64_in _ (by omega)];omega
 have hle : d + n<=a[i].signs.length:=by omega
 have hv : cut (a[i].signs.map aE) d n = (p.signs.take n).map aE:=by
  unfold cut
  split
  ·rename_i hh
   rw [hs,hh.1];simp at hh;simp [hh.2]
  ·rw [hs,List.map_take,List.map_drop]
 obtain ⟨m,hm⟩ : ∃ m,d + n = m:=⟨_,rfl⟩;have e2 : m - d = n:=by omega
 have hadd:=cx.add hn;rw [hm] at e hle hK hadd;simp;refine a9.quiet eok mix (by kernel_rfl) ?_;simp [g,hi,Part.row,e,e2,hv];simp only [List.map_take] at hK;refine ⟨hle,by omega,hK _ hadd ?_ (λq q1 q2=>?_)⟩
 ·simp
 ·simp [q1]
theorem vc (x y : Nat) : ak Tryz.prog 396 [.c (vi x),.c (vi y)] (.one (.c (vi ((min x y : Nat) : Int)) 1)):=by
 refine pci ae Tryz.func396 (λw0 base=>?_);simp;by_cases h : x < y
 ·have : min x y = x:=by omega
  simp [h,this]
 ·have : min x y = y:=by omega
  simp [h,this]
section
variable {w0 : World} {bF bG : Nat->Prop} {bl : Bool} {st : ASt} {dst : Option Nat} {K : ASt->Prop} {kx ky bx by_ i d j e : Nat} {h0 : AH} {a b X Y : List Part}
theorem CR.kind (R : CR kx ky bx by_ h0 st.h a b i d j e X Y) (hl : a.length<=2 ^ 20) (hK : ∀ h' i' d',CR kx ky bx by_ h0 h' a b i' d' j e (nxt X) Y->aQ ⟨st.n,st.kb,st.t,h'⟩ dst (.v (.int .i64 (hdK (nxt X)))) K) :
 aa ⟨Tryz.prog,tt,w0,⟨bF,bG,bl,λ_=>True⟩⟩ 391 [.p kx bx 0] st dst K:=by
 have:=R.lx;have:=R.ly;refine zt (by omega) hl R.cx R.gx (λh1 i1 d1 c1 g1 o1=>hK h1 i1 d1 ⟨R.ne,R.lx,R.ly,g1,by rw [o1 ky R.ne.symm (by omega)];exact R.gy,λq q1 q2 q3=>by rw [o1 q q1 (by omega)];exact R.o q q1 q2 q3,c1,R.cy⟩)
theorem CR.left {p : Part} {l : List Part} (R : CR kx ky bx by_ h0 st.h a b i d j e (p :: l) Y) (hK : aQ st dst (.v (.int .i64 (psz p))) K) :
 aa ⟨Tryz.prog,tt,w0,⟨bF,bG,bl,λ_=>True⟩⟩ 392 [.p kx bx 0] st dst K:=zg R.cx R.gx hK
theorem CR.take {p : Part} {l : List Part} {n : Nat} (R : CR kx ky bx by_ h0 st.h a b i d j e (p :: l) Y) (hk2 : p.kind = 2) (hn : n<=psz p) (hK : ∀ h',CR kx ky bx by_ h0 h' a b i (d + n) j e (aA p n :: l) Y->aQ ⟨st.n,st.kb,st.t,h'⟩ dst (.ro ((p.signs.take n).map aE)) K) :
 aa ⟨Tryz.prog,tt,w0,⟨bF,bG,bl,λ_=>True⟩⟩ 395 [.p kx bx 0,.v (.int .i64 n)] st dst K:=by
 have:=R.lx;have:=R.ly;refine tN (by omega) R.cx hk2 hn R.gx (λh1 c1 g1 o1=>hK h1 ⟨R.ne,R.lx,R.ly,g1,by rw [o1 ky R.ne.symm (by omega)];exact R.gy,λq q1 q2 q3=>by rw [o1 q q1 (by omega)];exact R.o q q1 q2 q3,c1,R.cy⟩)
theorem CR.rebase (R : CR kx ky bx by_ h0 st.h a b i d j e X Y) {h' : AH} (hx : AH.get h' kx = AH.get st.h kx) (hy : AH.get h' ky = AH.get st.h ky) : CR kx ky bx by_ h' h' a b i d j e X Y:=
 ⟨R.ne,R.lx,R.ly,hx.trans R.gx,hy.trans R.gy,λ_ _ _ _=>rfl,R.cx,R.cy⟩
theorem CR.done {p : Part} {l : List Part} {n : Nat} (R : CR kx ky bx by_ h0 st.h a b i d j e (p :: l) Y) (hn : n<=psz p) : CR kx ky bx by_ ((kx,.vars bx 360 [.ro (a.map Part.row),.v (.int .i64 i),.v (.int .i64 ((d + n : Nat) : Int))]) :: st.h) ((kx,.vars bx 360 [.ro (a.map Part.row),.v (.int .i64 i),.v (.int .i64 ((d + n : Nat) : Int))]) :: st.h) a b i (d + n) j e (aA p n :: l) Y:=
 ⟨R.ne,R.lx,R.ly,by simp,by rw [aN,if_neg R.ne.symm];exact R.gy,λ_ _ _ _=>rfl,R.cx.add hn,R.cy⟩
end
open Go.AM
set_option maxRecDepth 20000
theorem jB {w0 : World} {bF bG : Nat->Prop} {bl : Bool} {st : ASt} {dst : Option Nat} {K : ASt->Prop} {L : List Part} {P : List Int} {D : Int} {b : Nat} {Hl Hp : Hd} (hL : L.length<=2 ^ 20) (_hP : P.length<=2 ^ 40)
 (g160 : st.h.get 576 = .vars b 363 [.sl 5000 Hl 3 0 L.length,.sl 5001 Hp 1 0 P.length,.v (.int .i64 D)])
 (g5000 : st.h.get 5000 = .rows Hl 3 (L.map Part.row) true) (g5001 : st.h.get 5001 = .rows Hp 1 (P.map aE) true)
 (hK : ∀ Hl' h',AH.get h' 576 = .vars b 363 [.sl 5000 Hl' 3 0 (au L P D).length,.nil,.v (.int .i64 0)] -> AH.get h' 5000 = .rows Hl' 3 ((au L P D).map Part.row) true ->
  (∀ q,q < 15000->q≠576->q≠5000->q≠5001->AH.get h' q = st.h.get q)->aQ ⟨st.n,st.kb,st.t,h'⟩ dst (.tup []) K) : aa ⟨Tryz.prog,tt,w0,⟨bF,bG,bl,λ_=>True⟩⟩ 408 [.p 576 b 0] st dst K:=by
 refine inl ae Tryz.func408 20000 (λw1 F=>?_);simp [g160];by_cases hp : P = []
 ·have hp0 : ¬ 0 < P.length:=by simp [hp]
  simp [hp0,g160];by_cases hd : 0 < D
  ·simp [hd]
   refine drw eok mix [0,1,2,3,4,5,6,7,8,9,12,13] [10,11,14] (.c 12 10 4 4091 (.c 12 11 128 3963 (.c 12 14 3961 2 (.l 12 2) .s) .s) .s) ?_;simp [g160,g5000];intro b1;refine ⟨by omega,λH=>hK H _ ?_ ?_ ?_⟩
   ·simp [kn hp hd]
   ·simp [kn hp hd,Part.row]
   ·intro q q0 q1 q2 q3
    repeat (first | exact rfl | refine (bk (by omega)).trans ?_)
  ·simp [hd,g160]
   refine hK Hl _ ?_ ?_ ?_
   ·simp [kl hp hd]
   ·simp [kl hp hd,g5000]
   ·intro q q0 q1 q2 q3
    repeat (first | exact rfl | refine (bk (by omega)).trans ?_)
 ·have hp0 : 0 < P.length:=List.length_pos_iff.2 hp
  simp [hp0];refine drw eok mix [0,1,2,3,4,5,6,7,8,9,12,13] [10,11,14] (.c 12 10 4 4091 (.c 12 11 128 3963 (.c 12 14 3961 2 (.l 12 2) .s) .s) .s) ?_;simp [g160,g5000,g5001];intro b1;refine ⟨by omega,λH=>?_⟩;by_cases hd : 0 < D
  ·simp [hd]
   refine drw eok mix [0,1,2,3,4,5,6,7,8,9,12,13] [10,11,14] (.c 12 10 4 4091 (.c 12 11 128 3963 (.c 12 14 3961 2 (.l 12 2) .s) .s) .s) ?_;simp;intro b2;refine ⟨by omega,λH2=>hK H2 _ ?_ ?_ ?_⟩
   ·simp [kt hp hd]
   ·simp [kt hp hd,Part.row]
   ·intro q q0 q1 q2 q3
    repeat (first | exact rfl | refine (bk (by omega)).trans ?_)
  ·simp [hd]
   refine hK H _ ?_ ?_ ?_
   ·simp [kr hp hd]
   ·simp [kr hp hd,Part.row]
   ·intro q q0 q1 q2 q3
    repeat (first | exact rfl | refine (bk (by omega)).trans ?_)
theorem pr {w0 : World} {bF bG : Nat->Prop} {bl : Bool} {st : ASt} {dst : Option Nat} {K : ASt->Prop} {L : List Part} {P : List Int} {D n : Int} {b : Nat} {Hl Hp : Hd} (hL : L.length<=2 ^ 19) (hP : P.length<=2 ^ 40) (hn0 : 0 < n) (hn : n<=200) (hF : ∀ q∈au L P D,0<=q.n/\q.n<=2 ^ 40)
 (g160 : st.h.get 576 = .vars b 363 [.sl 5000 Hl 3 0 L.length,.sl 5001 Hp 1 0 P.length,.v (.int .i64 D)])
 (g5000 : st.h.get 5000 = .rows Hl 3 (L.map Part.row) true) (g5001 : st.h.get 5001 = .rows Hp 1 (P.map aE) true)
 (hK : ∀ Hl' h',AH.get h' 576 = .vars b 363 [.sl 5000 Hl' 3 0 (be (au L P D) n).length,.nil,.v (.int .i64 0)] -> AH.get h' 5000 = .rows Hl' 3 ((be (au L P D) n).map Part.row) true ->
  (∀ q,q < 15000->q≠576->q≠5000->q≠5001->AH.get h' q = st.h.get q)->aQ ⟨st.n,st.kb,st.t,h'⟩ dst (.tup []) K) : aa ⟨Tryz.prog,tt,w0,⟨bF,bG,bl,λ_=>True⟩⟩ 397 [.p 576 b 0,.v (.int .i64 n)] st dst K:=by
 refine inl ae Tryz.func397 30000 (λw1 F=>?_);have n0 : ¬ n = 0:=by omega
 simp [n0];refine jB (L:=L) (P:=P) (D:=D) (Hl:=Hl) (Hp:=Hp) (by omega) hP (by simp [g160]) (by simp [g5000]) (by simp [g5001]) (λHl' h' k160 k5000 k80=>?_);have f1:=eC L P D;generalize au L P D = F at f1 hF k160 k5000 hK;by_cases hF0 : 0 < F.length
 ·obtain ⟨m,hm⟩ : ∃ m,F.length = m + 1:=⟨F.length - 1,by omega⟩
  have hmlt : m < F.length:=by omega
  have hmm : (m : Int) < m + 1:=by omega
  have em : Go.IntKind.i64.wrap (m : Int) = m:=je (by omega)
  have hk : be F n = if F[m].kind = 1 then F.set m ⟨1,F[m].n + n,F[m].signs⟩ else F ++ [⟨1,n,[]⟩]:=by
   have e0 : F.length - 1 = m:=by omega
   simp [be,hF0,e0]
  have hq:=hF _ (List.getElem_mem hmlt);have em2 : Go.IntKind.i64.wrap (F[m].n + n) = F[m].n + n:=Go.IntWalk.i64_in _ (by omega);simp [k160,k5000,hm,em,hmm,Part.row];by_cases ck : F[m].kind = 1
  ·rw [if_pos ck] at hk
   simp [ck];refine drw eok mix [0,1,2,3,4,5,6,7,8,9,10,11,12,13,14,15,16,17,18] [19] (.c 19 19 524285 2 (.l 19 2) .s) ?_;simp [k160,k5000,hm,em,hmm,Part.row,ck,em2];have hmod:=gQ (F:=F) (m:=m) hmlt (g:=λrow=>ec row 1 [CD.v (Value.int IntKind.i64 (F[m].n + n))]) (p:=⟨1,F[m].n + n,F[m].signs⟩) (by simp [Part.row,ck]);refine hK Hl' _ ?_ ?_ ?_
   ·simp [k160,hk,hm]
   ·simp [hk,hmod]
   ·intro q q0 q1 q2 q3
    repeat (first | exact k80 q q0 q1 q2 q3 | exact rfl | refine (bk (by omega)).trans ?_)
  ·rw [if_neg ck] at hk
   simp [ck,k160,k5000,hm];intro b1;refine ⟨by omega,λH=>hK H _ ?_ ?_ ?_⟩
   ·simp [hk,hm]
   ·simp [hk,Part.row]
   ·intro q q0 q1 q2 q3
    repeat (first | exact k80 q q0 q1 q2 q3 | exact rfl | refine (bk (by omega)).trans ?_)
 ·have hF1 : F = []:=List.eq_nil_of_length_eq_zero (by omega)
  subst hF1;have hk : be [] n = [⟨1,n,[]⟩]:=by simp [be]
  simp [k160,k5000];intro b1 H;refine hK H _ ?_ ?_ ?_
  ·simp [hk]
  ·simp [hk,Part.row]
  ·intro q q0 q1 q2 q3
   repeat (first | exact k80 q q0 q1 q2 q3 | exact rfl | refine (bk (by omega)).trans ?_)
theorem iw {w0 : World} {bF bG : Nat->Prop} {bl : Bool} {st : ASt} {dst : Option Nat} {K : ASt->Prop} {L : List Part} {P l : List Int} {D : Int} {b : Nat} {Hl Hp : Hd} (hP : P.length<=2 ^ 40) (hl : l.length<=2 ^ 40)
 (g160 : st.h.get 576 = .vars b 363 [.sl 5000 Hl 3 0 L.length,.sl 5001 Hp 1 0 P.length,.v (.int .i64 D)]) (g5001 : st.h.get 5001 = .rows Hp 1 (P.map aE) true)
 (hK : ∀ Hp' h',AH.get h' 576 = .vars b 363 [.sl 5000 Hl 3 0 L.length,.sl 5001 Hp' 1 0 (P ++ l).length,.v (.int .i64 D)] -> AH.get h' 5001 = .rows Hp' 1 ((P ++ l).map aE) true -> AH.get h' 5000 = st.h.get 5000 ->
  (∀ q,q < 15000->q≠576->q≠5000->q≠5001->AH.get h' q = st.h.get q)->aQ ⟨st.n,st.kb,st.t,h'⟩ dst (.tup []) K) : aa ⟨Tryz.prog,tt,w0,⟨bF,bG,bl,λ_=>True⟩⟩ 394 [.p 576 b 0,.ro (l.map aE)] st dst K:=by
 refine inl ae Tryz.func394 30000 (λw1 F=>?_);simp [g160,g5001];refine ⟨by omega,λH=>hK H _ ?_ ?_ ?_ ?_⟩
 ·simp
 ·simp
 ·simp
 ·intro q q0 q1 q2 q3
  repeat (first | exact rfl | refine (bk (by omega)).trans ?_)
theorem jS {w0 : World} {bF bG : Nat->Prop} {bl : Bool} {st : ASt} {dst : Option Nat} {K : ASt->Prop} {n D : Int} {b : Nat} {x y : AV} (h0 : 0<=D/\D<=2 ^ 40) (h1 : 0<=n/\n<=2 ^ 40)
 (g160 : st.h.get 576 = .vars b 363 [x,y,.v (.int .i64 D)])
 (hK : ∀ h',AH.get h' 576 = .vars b 363 [x,y,.v (.int .i64 (D + n))]->(∀ q,q≠576->AH.get h' q = st.h.get q)->aQ ⟨st.n,st.kb,st.t,h'⟩ dst (.tup []) K) : aa ⟨Tryz.prog,tt,w0,⟨bF,bG,bl,λ_=>True⟩⟩ 393 [.p 576 b 0,.v (.int .i64 n)] st dst K:=by
 refine inl ae Tryz.func393 30000 (λw1 F=>?_);have e : Go.IntKind.i64.wrap (D + n) = D + n:=Go.IntWalk.i64_in _ (by omega);simp [g160,e];refine hK _ (by simp) (λq hq=>by simp [hq])
end Go.Proofs.YtoldjebobgocpaaGreat
