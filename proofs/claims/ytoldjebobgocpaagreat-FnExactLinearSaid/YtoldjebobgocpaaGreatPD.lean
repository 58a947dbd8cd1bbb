import Derived.Test.YtoldjebobgocpaaGreatPA
import Derived.Test.YtoldjebobgocpaaGreatPB
import Derived.Test.YtoldjebobgocpaaGreatPC
import Derived.Test.YtoldjebobgocpaaGreatNA
import Derived.Test.YtoldjebobgocpaaGreatMF
namespace Go.Proofs.YtoldjebobgocpaaGreat
set_option maxRecDepth 20000
inductive At where
 | k
 | p (c : Int)
 | d
def ats (p : Part) : List At:=if p.kind = 2 then p.signs.map At.p else if p.kind = 3 then List.replicate (psz p) .d else List.replicate (psz p) .k
def aM : List Part->List At
 | []=>[]
 | p :: l=>ats p ++ aM l
theorem eI : ∀ (a b : List Part),aM (a ++ b) = aM a ++ aM b
 | [],b=>rfl
 | p :: a,b=>by simp [aM,eI a b]
def frA : List At->Nat
 | []=>0
 | .p _ :: l=>frA l
 | _ :: l=>frA l + 1
def toA : List At->Nat
 | []=>0
 | .d :: l=>toA l
 | _ :: l=>toA l + 1
theorem f9 : ∀ (a b : List At),frA (a ++ b) = frA a + frA b
 | [],b=>by simp [frA]
 | .p c :: a,b=>by simp [frA,f9 a b]
 | .k :: a,b=>by simp [frA,f9 a b];omega
 | .d :: a,b=>by simp [frA,f9 a b];omega
theorem eU : ∀ (a b : List At),toA (a ++ b) = toA a + toA b
 | [],b=>by simp [toA]
 | .d :: a,b=>by simp [toA,eU a b]
 | .k :: a,b=>by simp [toA,eU a b];omega
 | .p c :: a,b=>by simp [toA,eU a b];omega
theorem uC : ∀ l : List Int,frA (l.map At.p) = 0
 | []=>rfl
 | c :: l=>by simp [frA,uC l]
theorem pM : ∀ l : List Int,toA (l.map At.p) = l.length
 | []=>rfl
 | c :: l=>by simp [toA,pM l]
theorem EF : ∀ n : Nat,frA (List.replicate n At.k) = n
 | 0=>rfl
 | n + 1=>by simp [List.replicate_succ,frA,EF n]
theorem uD : ∀ n : Nat,frA (List.replicate n At.d) = n
 | 0=>rfl
 | n + 1=>by simp [List.replicate_succ,frA,uD n]
theorem xp : ∀ n : Nat,toA (List.replicate n At.k) = n
 | 0=>rfl
 | n + 1=>by simp [List.replicate_succ,toA,xp n]
theorem pN : ∀ n : Nat,toA (List.replicate n At.d) = 0
 | 0=>rfl
 | n + 1=>by simp [List.replicate_succ,toA,pN n]
theorem zi {p : Part} (h : ao p) (k : p.kind = 2) : psz p = p.signs.length:=by
 rw [eX k] at h;unfold psz;omega
theorem Lm {p : Part} : frA (ats p) = if p.kind = 2 then 0 else psz p:=by
 unfold ats
 split
 ·exact uC _
 ·split
  ·exact uD _
  ·exact EF _
theorem Ll {p : Part} (h : ao p) : toA (ats p) = if p.kind = 3 then 0 else psz p:=by
 unfold ats;by_cases k : p.kind = 2
 ·have : ¬ p.kind = 3:=by omega
  rw [if_pos k,if_neg this,pM,zi h k]
 ·rw [if_neg k]
  split
  ·exact pN _
  ·exact xp _
theorem mp : ∀ (o : List Part),frs o = frA (aM o)
 | []=>rfl
 | p :: o=>by simp only [frs,aM,f9,Lm,mp o]
theorem nG : ∀ {o : List Part},(∀ p∈o,ao p)->tos o = toA (aM o)
 | [],_=>rfl
 | p :: o, h => by
   simp only [tos,aM,eU,Ll (h p (List.mem_cons_self ..)),nG (λq hq=>h q (List.mem_cons_of_mem _ hq))]
def nA : List Int->Nat->List At->List At
 | P,n,[]=>P.map At.p ++ List.replicate n .d
 | P,n,.k :: l=>P.map At.p ++ (List.replicate n .d ++ .k :: nA [] 0 l)
 | P,n,.p c :: l=>nA (P ++ [c]) n l
 | P,n,.d :: l=>nA P (n + 1) l
def jT (l : List At) : List At:=nA [] 0 l
theorem zs : ∀ (l : List At) (P : List Int) (n : Nat),frA (nA P n l) = n + frA l
 | [],P,n=>by simp [nA,frA,f9,uC,uD]
 | .k :: l,P,n=>by simp [nA,frA,f9,uC,uD,zs l]
 | .p c :: l,P,n=>by simp [nA,frA,zs l]
 | .d :: l,P,n=>by simp [nA,frA,zs l];omega
theorem zq : ∀ (l : List At) (P : List Int) (n : Nat),toA (nA P n l) = P.length + toA l
 | [],P,n=>by simp [nA,toA,eU,pM,pN]
 | .k :: l,P,n=>by simp [nA,toA,eU,pM,pN,zq l]
 | .p c :: l,P,n=>by simp [nA,toA,zq l];omega
 | .d :: l,P,n=>by simp [nA,toA,zq l]
theorem zr : ∀ (Q P : List Int) (n : Nat) (l : List At),nA P n (Q.map At.p ++ l) = nA (P ++ Q) n l
 | [],P,n,l=>by simp
 | c :: Q,P,n,l=>by simp [nA,zr Q]
theorem zt : ∀ (m : Nat) (P : List Int) (n : Nat) (l : List At),nA P n (List.replicate m .d ++ l) = nA P (n + m) l
 | 0,P,n,l=>by simp
 | m + 1,P,n,l=>by simp [List.replicate_succ,nA,zt m];congr 1;omega
theorem Ig : ∀ (m : Nat) (l : List At),nA [] 0 (List.replicate m .k ++ l) = List.replicate m .k ++ nA [] 0 l
 | 0,l=>by simp
 | m + 1,l=>by simp [List.replicate_succ,nA,Ig m]
def bA (s : List Part × List Int × Int) : List At:=aM s.1 ++ (s.2.1.map At.p ++ List.replicate s.2.2.toNat .d)
theorem wr {L : List Part} {P : List Int} {D : Int} : aM (aF L P D) = bA (L,P,D):=by
 unfold aF bA;rw [eI,eI]
 congr 1
 congr 1
 ·split
  ·rename_i h;simp [h,aM]
  ·simp [aM,ats]
 ·split
  ·simp [aM,ats,psz]
  ·have : D.toNat = 0:=by omega
   simp [aM,this]
theorem kP : ∀ (L : List Part) (_h : 0 < L.length) (p : Part),aM (L.set (L.length - 1) p) = aM L.dropLast ++ ats p
 | [q],h,p=>by simp [aM]
 | q :: r :: L, h, p => by
   have ih:=kP (r :: L) (by simp) p;simp only [List.length_cons,Nat.add_sub_cancel] at ih ⊢;rw [List.set_cons_succ,aM,ih];simp [aM]
theorem q9 : ∀ (L : List Part) (h : 0 < L.length),aM L = aM L.dropLast ++ ats (L[L.length - 1]'(by omega))
 | [q],h=>by simp [aM]
 | q :: r :: L, h => by
   have ih:=q9 (r :: L) (by simp);simp only [List.length_cons,Nat.add_sub_cancel] at ih ⊢;rw [aM,ih];simp [aM]
theorem GP {L : List Part} {n : Int} (hn : 0 < n) (hL : ∀ q∈L,0<=q.n) (hk : ∀ q∈L,q.kind = 1->q.signs = []) : aM (bD L n) = aM L ++ List.replicate n.toNat .k:=by
 unfold bD
 split
 ·rename_i h
  split
  ·rename_i k
   have h1:=hL _ (List.getElem_mem (show L.length - 1 < L.length by omega));have h2:=hk _ (List.getElem_mem (show L.length - 1 < L.length by omega)) k;rw [kP L h,q9 L h,List.append_assoc]
   congr 1
   generalize L[L.length - 1]'(by omega) = q at h1 h2 k;obtain ⟨a,b,c⟩:=q;simp only at h1 h2 k;subst k h2;simp [ats,psz,List.replicate_append_replicate];omega
  ·rw [eI]
   simp [aM,ats,psz]
 ·rename_i h
  have : L = []:=List.eq_nil_of_length_eq_zero (by omega);subst this;simp [aM,ats,psz]
theorem oT {L : List Part} {P : List Int} {D : Int} (h : ∀ q∈L,q.kind = 1->q.signs = []) : ∀ q∈aF L P D,q.kind = 1->q.signs = []:=by
 intro q hq hk;unfold aF at hq;rcases List.mem_append.1 hq with hq | hq
 ·exact h q hq hk
 ·rcases List.mem_append.1 hq with hq | hq
  ·split at hq
   ·simp at hq
   ·simp at hq;subst hq;simp at hk
  ·split at hq
   ·simp at hq;subst hq;rfl
   ·simp at hq
theorem ya {L : List Part} {n : Int} (h : ∀ q∈L,q.kind = 1->q.signs = []) : ∀ q∈bD L n,q.kind = 1->q.signs = []:=by
 intro q hq hk;unfold bD at hq
 split at hq
 ·rename_i hl
  split at hq
  ·rename_i k
   rcases List.mem_or_eq_of_mem_set hq with hq | rfl
   ·exact h q hq hk
   ·exact (h (L[L.length - 1]'(by omega)) (List.getElem_mem _) k :)
  ·rcases List.mem_append.1 hq with hq | hq
   ·exact h q hq hk
   ·simp at hq;subst hq;rfl
 ·simp at hq;subst hq;rfl
theorem vT {o : List Part} (ho : ∀ p ∈ o,ao p) : ∀ (i : Nat),i <= o.length -> (∀ q ∈ (aV (o.take i)).1,q.kind = 1 -> q.signs = []) /\ 0 <= (aV (o.take i)).2.2 /\ (∀ q ∈ (aV (o.take i)).1,0 <= q.n) /\
 ∀ l,jT (aM (o.take i) ++ l) = aM (aV (o.take i)).1 ++ nA (aV (o.take i)).2.1 (aV (o.take i)).2.2.toNat l
 | 0,_=>by simp [aV,aM,jT]
 | i + 1, hi => by
   obtain ⟨h1,h2,h3,h4⟩:=vT ho i (by omega);have hlt : i < o.length:=by omega
   have hq:=(i8 ho (i + 1) hi);have hp:=(ho _ (List.getElem_mem hlt));have hb:=hp.bounds;refine ⟨?_,hq.d0,λq hq'=>(hq.q q hq').1,λl=>?_⟩
   ·rw [fg hlt]
    unfold cR
    split
    ·exact h1
    ·split
     ·exact h1
     ·split
      ·exact ya (oT h1)
      ·exact h1
   ·rw [<- List.take_append_getElem hlt,eI,List.append_assoc,h4,List.take_append_getElem hlt,fg hlt]
    generalize aV (o.take i) = s at h1 h2 h3;generalize o[i] = p at hp hb;obtain ⟨L,P,D⟩:=s;simp only at h1 h2 h3;simp only [aM,List.append_nil];unfold cR;by_cases k2 : p.kind = 2
    ·simp only [k2,if_true]
     rw [show ats p = p.signs.map At.p by unfold ats;rw [if_pos k2],zr]
    ·by_cases k3 : p.kind = 3
     ·have hs:=hb.2.2.2.2.2 k2
      have e : (D + p.n).toNat = D.toNat + p.n.toNat:=by omega
      simp only [k3,if_true];rw [show ats p = List.replicate (psz p) .d by unfold ats;rw [if_neg k2,if_pos k3],zt];simp [e,psz,hs]
     ·have k1 : p.kind = 1:=by omega
      have hs:=hb.2.2.2.2.2 k2;have e : ats p = List.replicate p.n.toNat .k:=by unfold ats;rw [if_neg k2,if_neg k3];simp [psz,hs]
      simp only [k2,k3,if_false];rw [e]
      split
      ·rename_i hn
       have hfl : ∀ q∈aF L P D,0<=q.n:=by
        intro q hq';unfold aF at hq';rcases List.mem_append.1 hq' with hq' | hq'
        ·exact h3 q hq'
        ·rcases List.mem_append.1 hq' with hq' | hq'
         ·split at hq'
          ·simp at hq'
          ·simp at hq';subst hq';simp
         ·split at hq'
          ·simp at hq';subst hq';simp;omega
          ·simp at hq'
       simp only;rw [GP hn hfl (oT h1),wr];obtain ⟨m,hm⟩ : ∃ m,p.n.toNat = m + 1:=⟨p.n.toNat - 1,by omega⟩;rw [hm];simp [bA,List.replicate_succ,nA,Ig,List.append_assoc]
      ·have : p.n.toNat = 0:=by omega
       simp [this]
theorem fZ {o : List Part} (ho : ∀ p∈o,ao p) : aM (normal o) = jT (aM o):=by
 have h:=(vT ho o.length (Nat.le_refl _)).2.2.2 [];rw [List.take_length,List.append_nil] at h;unfold normal;rw [wr,h];unfold bA;simp [nA]
theorem qj (l : List At) : frA (jT l) = frA l:=by unfold jT;rw [zs];omega
theorem qi (l : List At) : toA (jT l) = toA l:=by unfold jT;rw [zq];simp
def tA : List At->List At->List At × List At
 | .p c :: a,b=>(.p c :: (tA a b).1,.k :: (tA a b).2)
 | [],.p c :: b=>(.k :: (tA [] b).1,.p c :: (tA [] b).2)
 | .k :: a,.p c :: b=>(.k :: (tA (.k :: a) b).1,.p c :: (tA (.k :: a) b).2)
 | .d :: a,.p c :: b=>(.k :: (tA (.d :: a) b).1,.p c :: (tA (.d :: a) b).2)
 | .k :: a,.k :: b=>(.k :: (tA a b).1,.k :: (tA a b).2)
 | .k :: a,.d :: b=>((tA a b).1,.d :: (tA a b).2)
 | .d :: a,.k :: b=>(.d :: (tA a b).1,(tA a b).2)
 | .d :: a,.d :: b=>tA a b
 | [],_=>([],[])
 | _,[]=>([],[])
termination_by a b=>a.length + b.length
def noP : List At->Bool
 | .p _ :: _=>false
 | _=>true
theorem Nj {c : Int} {a b : List At} : tA (.p c :: a) b = (.p c :: (tA a b).1,.k :: (tA a b).2):=by rw [tA]
theorem F7 {c : Int} {a b : List At} (h : noP a = true) : tA a (.p c :: b) = (.k :: (tA a b).1,.p c :: (tA a b).2):=by
 match a,h with
 | [],_=>rw [tA]
 | .k :: a,_=>rw [tA]
 | .d :: a,_=>rw [tA]
theorem Ia {a b : List At} : ∀ Q : List Int,tA (Q.map At.p ++ a) b = (Q.map At.p ++ (tA a b).1,List.replicate Q.length .k ++ (tA a b).2)
 | []=>by simp
 | c :: Q=>by simp [Nj,Ia Q,List.replicate_succ]
theorem Dh {a b : List At} (h : noP a = true) : ∀ Q : List Int,tA a (Q.map At.p ++ b) = (List.replicate Q.length .k ++ (tA a b).1,Q.map At.p ++ (tA a b).2)
 | []=>by simp
 | c :: Q=>by simp [F7 h,Dh h Q,List.replicate_succ]
theorem Ib {a b : List At} : ∀ n : Nat,tA (List.replicate n .k ++ a) (List.replicate n .k ++ b) = (List.replicate n .k ++ (tA a b).1,List.replicate n .k ++ (tA a b).2)
 | 0=>by simp
 | n + 1=>by simp [List.replicate_succ,tA,Ib n]
theorem Ic {a b : List At} : ∀ n : Nat,tA (List.replicate n .k ++ a) (List.replicate n .d ++ b) = ((tA a b).1,List.replicate n .d ++ (tA a b).2)
 | 0=>by simp
 | n + 1=>by simp [List.replicate_succ,tA,Ic n]
theorem Id {a b : List At} : ∀ n : Nat,tA (List.replicate n .d ++ a) (List.replicate n .k ++ b) = (List.replicate n .d ++ (tA a b).1,(tA a b).2)
 | 0=>by simp
 | n + 1=>by simp [List.replicate_succ,tA,Id n]
theorem Ie {a b : List At} : ∀ n : Nat,tA (List.replicate n .d ++ a) (List.replicate n .d ++ b) = tA a b
 | 0=>by simp
 | n + 1=>by simp [List.replicate_succ,tA,Ie n]
theorem ft : ∀ {x : List Part},(∀ p∈x,ao p)->aM (nxt x) = aM x
 | [],_=>rfl
 | p :: l, h => by
   have ih:=ft (x:=l) (λq hq=>h q (List.mem_cons_of_mem _ hq));unfold nxt
   split
   ·rename_i hz
    rw [ih,aM]
    have : ats p = []:=by
     have hp:=h p (List.mem_cons_self ..);unfold ats
     split
     ·rename_i k;rw [zi hp k] at hz;simp [List.eq_nil_of_length_eq_zero hz]
     ·split<;>simp [hz]
    simp [this]
   ·rfl
theorem oj {p : Part} (h : ao p) {n : Nat} (hn : n<=psz p) : ats p = ats (dX p n) ++ ats (a9 p n):=by
 have hb:=h.bounds;by_cases k2 : p.kind = 2
 ·unfold ats dX a9
  simp only [k2,if_true];rw [<- List.map_append,List.take_append_drop]
 ·have hs:=hb.2.2.2.2.2 k2
  have hz : psz p = p.n.toNat:=by simp [psz,hs]
  have e : p.n.toNat = n + (p.n - n).toNat:=by omega
  by_cases k3 : p.kind = 3
  ·unfold ats dX a9
   simp only [k3,if_true];simp [psz,hs];omega
  ·unfold ats dX a9
   simp only [k2,if_false,k3];simp [psz,hs];omega
theorem q8 {p : Part} (h : ao p) : ats (a9 p (psz p)) = []:=by
 have h1:=oj h (Nat.le_refl (psz p));rw [di h] at h1
 simpa using h1
theorem zN {p : Part} (_h : ao p) (k : p.kind≠2) : ats p = if p.kind = 3 then List.replicate (psz p) .d else List.replicate (psz p) .k:=by unfold ats;rw [if_neg k]
theorem lG {p : Part} (h : ao p) (k : p.kind≠2) {n : Nat} (hn : n<=psz p) : ats (dX p n) = if p.kind = 3 then List.replicate n .d else List.replicate n .k:=by
 have hs:=h.bounds.2.2.2.2.2 k;have : psz (dX p n) = n:=by unfold psz dX;rw [if_neg k];simp [hs]
 rw [zN (ln h hn) (by simpa using k),this];simp
theorem Hu {p : Part} (h : ao p) (k : p.kind≠2) (hp : 0 < psz p) (l : List At) : noP (ats p ++ l) = true:=by
 rw [zN h k];obtain ⟨m,hm⟩ : ∃ m,psz p = m + 1:=⟨psz p - 1,by omega⟩;rw [hm]
 split<;>simp [List.replicate_succ,noP]
theorem pI {x y : List Part} (hi : TInv x y) (h : cE x y = none) : nxt x = []/\nxt y = []:=by
 have hxt:=gL x;have hyf:=gL y;have hb:=hi.b;unfold cE at h
 cases ex : nxt x with
 | nil =>
   rw [ex] at h hxt
   cases ey : nxt y with
   | nil=>exact ⟨rfl,rfl⟩
   | cons q y' =>
     rw [ey] at hyf;have hp:=dw ey;simp only [ey] at h
     split at h
     ·cases h
     ·rename_i k
      simp [frs,k] at hxt hyf;omega
 | cons p x' =>
   rw [ex] at h hxt;have hp:=dw ex;simp only at h
   split at h
   ·cases h
   ·rename_i k
    cases ey : nxt y with
    | nil =>
      rw [ey] at hyf;simp [frs,k] at hxt hyf;omega
    | cons q y' =>
      simp only [ey] at h
      split at h<;>cases h
theorem B6 : ∀ (k : Nat) {x y : List Part},TInv x y->tsz x + tsz y<=k->(aM (xfK k x y).1,aM (xfK k x y).2) = tA (aM x) (aM y)
 | 0, x, y, hi, h => by
   have hn : cE x y = none:=by
    cases hs : cE x y with
    | none=>rfl
    | some r=>have:=(cQ hi hs).dec;omega
   obtain ⟨e1,e2⟩:=pI hi hn;rw [<- ft hi.px,<- ft hi.py,e1,e2];simp [xfK,aM,tA]
 | k + 1, x, y, hi, h => by
   rw [xfK]
   cases hs : cE x y with
   | none =>
     obtain ⟨e1,e2⟩:=pI hi hs;rw [<- ft hi.px,<- ft hi.py,e1,e2];simp [aM,tA]
   | some r =>
     have hn:=cQ hi hs;have hd:=hn.dec;have ih:=B6 k hn.inv (by omega);simp only [eI];rw [<- ft hi.px,<- ft hi.py];generalize xfK k r.2.1 r.2.2 = Z at ih ⊢;unfold cE at hs
     cases ex : nxt x with
     | nil =>
       rw [ex] at hs
       cases ey : nxt y with
       | nil=>simp [ey] at hs
       | cons q y' =>
         have hq:=eR hi.py ey;simp only [ey] at hs
         split at hs
         ·rename_i kq
          cases hs
          simp only [aM,q8 hq.1,List.nil_append] at ih;simp only [aM,di hq.1,List.append_nil];rw [show ats q = q.signs.map At.p by unfold ats;rw [if_pos kq],Dh rfl,<- ih];simp [ats,psz]
         ·cases hs
     | cons p x' =>
       rw [ex] at hs;have hp:=eR hi.px ex;have hpp:=dw ex;simp only at hs
       split at hs
       ·rename_i kp
        cases hs
        simp only [aM,q8 hp.1,List.nil_append] at ih;simp only [aM,di hp.1,List.append_nil,ft hi.py];rw [show ats p = p.signs.map At.p by unfold ats;rw [if_pos kp],Ia,<- ih];simp [ats,psz]
       ·rename_i kp
        cases ey : nxt y with
        | nil=>simp [ey] at hs
        | cons q y' =>
          have hq:=eR hi.py ey;have hqp:=dw ey;simp only [ey] at hs
          split at hs
          ·rename_i kq
           cases hs
           simp only [aM,q8 hq.1,List.nil_append] at ih;simp only [aM,di hq.1,List.append_nil];rw [show ats q = q.signs.map At.p by unfold ats;rw [if_pos kq],Dh (Hu hp.1 kp hpp _),<- ih];simp [ats,psz]
          ·rename_i kq
           cases hs
           have hn1 : min (psz p) (psz q)<=psz p:=by omega
           have hn2 : min (psz p) (psz q)<=psz q:=by omega
           simp only [aM] at ih ⊢;rw [oj hp.1 hn1,oj hq.1 hn2,lG hp.1 kp hn1,lG hq.1 kq hn2,List.append_assoc,List.append_assoc];have hb1:=hp.1.bounds.1;have hb2:=hq.1.bounds.1;generalize min (psz p) (psz q) = n at ih hn1 hn2 ⊢;by_cases k1 : p.kind = 3<;>by_cases k2 : q.kind = 3
           ·have e1 : ¬ p.kind = 1:=by omega
            have e2 : ¬ q.kind = 1:=by omega
            simp only [k1,k2,if_true,Ie,<- ih];simp [aM]
           ·have e1 : ¬ p.kind = 1:=by omega
            have e2 : q.kind = 1:=by omega
            simp only [k1,k2,if_true,if_false,Id,<- ih];simp [aM,e2,lG hp.1 kp hn1,k1]
           ·have e1 : p.kind = 1:=by omega
            have e2 : ¬ q.kind = 1:=by omega
            simp only [k1,k2,if_true,if_false,Ic,<- ih];simp [aM,e1,lG hq.1 kq hn2,k2]
           ·have e1 : p.kind = 1:=by omega
            have e2 : q.kind = 1:=by omega
            simp only [k1,k2,if_false,Ib,<- ih];simp [aM,e1,e2,lG hp.1 kp hn1,lG hq.1 kq hn2]
theorem Ms {x y : List Part} (hi : TInv x y) : (aM (xf x y).1,aM (xf x y).2) = tA (aM x) (aM y):=B6 _ hi (Nat.le_refl _)
theorem jn : ∀ (a b : List At),frA a = frA b->frA (tA a b).1 = toA b/\frA (tA a b).2 = toA a/\toA (tA a b).1 = toA (tA a b).2
 | .p c :: a, b, h => by
   have ih:=jn a b (by simpa [frA] using h);rw [Nj];simp [frA,toA];omega
 | [], .p c :: b, h => by
   have ih:=jn [] b (by simpa [frA] using h);rw [F7 rfl];simp [frA,toA] at ih ⊢;omega
 | .k :: a, .p c :: b, h => by
   have ih:=jn (.k :: a) b (by simpa [frA] using h);rw [F7 rfl];simp [frA,toA] at ih ⊢;omega
 | .d :: a, .p c :: b, h => by
   have ih:=jn (.d :: a) b (by simpa [frA] using h);rw [F7 rfl];simp [frA,toA] at ih ⊢;omega
 | .k :: a, .k :: b, h => by
   have ih:=jn a b (by simpa [frA] using h);rw [tA];simp [frA,toA];omega
 | .k :: a, .d :: b, h => by
   have ih:=jn a b (by simpa [frA] using h);rw [tA];simp [frA,toA];omega
 | .d :: a, .k :: b, h => by
   have ih:=jn a b (by simpa [frA] using h);rw [tA];simp [frA,toA];omega
 | .d :: a, .d :: b, h => by
   have ih:=jn a b (by simpa [frA] using h);rw [tA];simp [toA];omega
 | [],[],h=>by simp [tA,frA,toA]
 | [],.k :: b,h=>by simp [frA] at h
 | [],.d :: b,h=>by simp [frA] at h
 | .k :: a,[],h=>by simp [frA] at h
 | .d :: a,[],h=>by simp [frA] at h
termination_by a b=>a.length + b.length
theorem H8 {x y : List Part} (hi : TInv x y) : (∀ p∈(xf x y).1,ao p)/\∀ p∈(xf x y).2,ao p:=by
 have key : ∀ (k : Nat) {x y : List Part},TInv x y->(∀ p∈(xfK k x y).1,ao p)/\∀ p∈(xfK k x y).2,ao p:=by
  intro k
  induction k with
  | zero=>intro x y hi;simp [xfK]
  | succ k ih =>
    intro x y hi;rw [xfK]
    cases hs : cE x y with
    | none=>simp
    | some r =>
      have hn:=cQ hi hs;have h2:=ih hn.inv;simp only [List.mem_append];exact ⟨λp hp=>hp.elim (hn.okx p) (h2.1 p),λp hp=>hp.elim (hn.oky p) (h2.2 p)⟩
 exact key _ hi
structure TrOk (a b : List Part) : Prop where
 oka : bB a
 okb : bB b
 from_ : bk a = bk b
 okx : bB (aB a b).1
 oky : bB (aB a b).2.1
 fx : bk (aB a b).1 = iL b
 fy : bk (aB a b).2.1 = iL a
 to : iL (aB a b).1 = iL (aB a b).2.1
 ax : aM (aB a b).1 = jT (tA (aM a) (aM b)).1
 ay : aM (aB a b).2.1 = jT (tA (aM a) (aM b)).2
theorem r6 {a b : List Part} (h : (aB a b).2.2 = true) : TrOk a b:=by
 unfold aB at h
 split at h
 ·rename_i h1
  split at h
  ·rename_i h2
   have e : aB a b = (normal (xf a b).1,normal (xf a b).2,true):=by unfold aB;rw [if_pos h1,if_pos h2]
   have hi:=pt h1.1 h1.2.1 h1.2.2;have hat:=Ms hi;have hk:=H8 hi;have e1 : aM (xf a b).1 = (tA (aM a) (aM b)).1:=by rw [<- hat]
   have e2 : aM (xf a b).2 = (tA (aM a) (aM b)).2:=by rw [<- hat]
   have l:=jn (aM a) (aM b) (by rw [<- mp,<- mp];exact hi.b);have n1:=fZ hk.1;have n2:=fZ hk.2;have f1:=jc h2.1;have f2:=jc h2.2;have t1:=nF h2.1;have t2:=nF h2.2;have t3:=nF h1.1;have t4:=nF h1.2.1;rw [mp,n1,qj,e1,l.1] at f1;rw [mp,n2,qj,e2,l.2.1] at f2;rw [nG h2.1.1.1,n1,qi,e1] at t1;rw [nG h2.2.1.1,n2,qi,e2] at t2;rw [nG h1.1.1.1] at t3;rw [nG h1.2.1.1.1] at t4;rw [e1] at n1;rw [e2] at n2;refine ⟨h1.1,h1.2.1,h1.2.2,?_,?_,?_,?_,?_,?_,?_⟩<;>rw [e]
   ·exact h2.1
   ·exact h2.2
   ·simp only;omega
   ·simp only;omega
   ·simp only;have:=l.2.2;omega
   ·exact n1
   ·exact n2
  ·simp at h
 ·simp at h
open Go.AM
noncomputable def gF : List (List Part)->List Part->Option (List Part)
 | [],v=>some v
 | a :: l,v=>if (aB a v).2.2 = true then gF l (aB a v).2.1 else none
open Classical in
noncomputable def fp (l : List (List Part)) (b : List Part) : List Part × Bool:=
 if bB b then match gF l (bJ b) with
  | some v=>(v,true)
  | none=>([],false)
 else ([],false)
structure Shp (q : Part) : Prop where
 k : q.kind = 1\/q.kind = 2\/q.kind = 3
 n : 0<=q.n
 put : q.kind = 2->q.n = 0/\ei q.signs
 run : q.kind≠2->q.signs = []
 pos : 0 < psz q
theorem sC {L : List Part} {P : List Int} {D : Int} (hL : ∀ q∈L,Shp q) (hP : ei P) : ∀ q∈aF L P D,Shp q:=by
 intro q hq;unfold aF at hq;rcases List.mem_append.1 hq with hq | hq
 ·exact hL q hq
 ·rcases List.mem_append.1 hq with hq | hq
  ·split at hq
   ·simp at hq
   ·rename_i h
    simp at hq;subst hq;have : 0 < P.length:=List.length_pos_iff.2 h;exact ⟨.inr (.inl rfl),by simp,λ_=>⟨rfl,hP⟩,λh=>absurd rfl h,by simpa [psz] using this⟩
  ·split at hq
   ·rename_i h
    simp at hq;subst hq;exact ⟨.inr (.inr rfl),by simp only;omega,λh=>by simp at h,λ_=>rfl,by simp [psz];omega⟩
   ·simp at hq
theorem Ds {L : List Part} {n : Int} (hL : ∀ q∈L,Shp q) (hn : 0 < n) : ∀ q∈bD L n,Shp q:=by
 intro q hq;have one : Shp ⟨1,n,[]⟩:=⟨.inl rfl,by simp only;omega,λh=>by simp at h,λ_=>rfl,by simp [psz];omega⟩;unfold bD at hq
 split at hq
 ·rename_i hl
  split at hq
  ·rename_i k
   rcases List.mem_or_eq_of_mem_set hq with hq | rfl
   ·exact hL q hq
   ·have h:=hL (L[L.length - 1]'(by omega)) (List.getElem_mem _)
    have h1:=h.n;have h2:=h.run (by omega);exact ⟨.inl rfl,by simp only;omega,λh=>by simp at h,λ_=>h2,by simp [psz];omega⟩
  ·rcases List.mem_append.1 hq with hq | hq
   ·exact hL q hq
   ·simp at hq;subst hq;exact one
 ·simp at hq;subst hq;exact one
theorem sR {o : List Part} (ho : ∀ p∈o,ao p) : ∀ (i : Nat),i<=o.length->(∀ q∈(aV (o.take i)).1,Shp q)/\ei (aV (o.take i)).2.1
 | 0,_=>by simp [aV,ei]
 | i + 1, hi => by
   obtain ⟨h1,h2⟩:=sR ho i (by omega);have hlt : i < o.length:=by omega
   have hp:=ho _ (List.getElem_mem hlt);rw [fg hlt];generalize aV (o.take i) = s at h1 h2;generalize o[i] = p at hp;obtain ⟨L,P,D⟩:=s;simp only at h1 h2;unfold cR
   split
   ·rename_i k
    rw [eX k] at hp;refine ⟨h1,λn hn=>?_⟩;rcases List.mem_append.1 hn with hn | hn
    ·exact h2 n hn
    ·exact hp.2.2 n hn
   ·split
    ·exact ⟨h1,h2⟩
    ·split
     ·rename_i hn
      exact ⟨Ds (sC h1 h2) hn,by simp [ei]⟩
     ·exact ⟨h1,h2⟩
theorem qf {o : List Part} (ho : ∀ p∈o,ao p) : ∀ q∈normal o,Shp q:=by
 have h:=sR ho o.length (Nat.le_refl _);rw [List.take_length] at h;exact sC h.1 h.2
theorem y7 : ∀ {L : List Part},(∀ q∈L,Shp q)->tos L = toA (aM L)
 | [],_=>rfl
 | p :: L, h => by
   have hp:=h p (List.mem_cons_self ..);simp only [tos,aM,eU,y7 (λq hq=>h q (List.mem_cons_of_mem _ hq))]
   congr 1
   unfold ats;by_cases k : p.kind = 2
   ·have k3 : ¬ p.kind = 3:=by omega
    have:=(hp.put k).1;rw [if_pos k,if_neg k3,pM];simp [psz,this]
   ·rw [if_neg k]
    split
    ·exact (pN _).symm
    ·exact (xp _).symm
theorem G5 {L : List Part} {q : Part} (h : q∈L) (k : q.kind≠2) : psz q<=frs L:=by
 induction L with
 | nil=>simp at h
 | cons p L ih =>
   simp only [frs];rcases List.mem_cons.1 h with rfl | h
   ·rw [if_neg k];omega
   ·have:=ih h;omega
theorem F0 {L : List Part} {q : Part} (h : q∈L) (k : q.kind≠3) : psz q<=tos L:=by
 induction L with
 | nil=>simp at h
 | cons p L ih =>
   simp only [tos];rcases List.mem_cons.1 h with rfl | h
   ·rw [if_neg k];omega
   ·have:=ih h;omega
theorem y6 : ∀ {L : List Part},(∀ q∈L,Shp q)->L.length<=tsz L
 | [],_=>by simp [tsz]
 | p :: L, h => by
   have:=y6 (λq hq=>h q (List.mem_cons_of_mem _ hq));have:=(h p (List.mem_cons_self ..)).pos;simp only [tsz,List.length_cons];omega
theorem J6 {L : List Part} (h : ∀ q∈L,Shp q) (h1 : frs L<=200) (h2 : tos L<=200) : cO L:=by
 have hl:=y6 h;have ht:=xj L;refine ⟨λq hq=>?_,by omega⟩;have hs:=h q hq;have hn:=hs.n;by_cases k : q.kind = 2
 ·have h3:=F0 hq (by omega)
  have h4:=hs.put k;exact .inr ⟨k,h4.1,by unfold psz at h3;omega,h4.2⟩
 ·have h3:=G5 hq k
  have h4:=hs.run k;have hk:=hs.k;exact .inl ⟨by omega,⟨hn,by unfold psz at h3;omega⟩,h4⟩
theorem xH {o : List Part} (h : cO o) : (frs o : Int) = bk o:=by
 rw [uB h.1,eV (λp hp=>Li (h.1 p hp)),gW];unfold bk ch;rw [if_pos h]
theorem DF {o : List Part} (h : cO o) : (tos o : Int) = iL o:=by
 rw [tK h.1,eV (λp hp=>Lh (h.1 p hp)),gW];unfold iL ch;rw [if_pos h]
theorem nP {o : List Part} (h : bB o) : bB (normal o)/\bk (normal o) = bk o/\iL (normal o) = iL o:=by
 have hs:=qf h.1.1;have e1 : frs (normal o) = frs o:=by rw [mp,fZ h.1.1,qj,<- mp]
 have e2 : tos (normal o) = tos o:=by rw [y7 hs,fZ h.1.1,qi,<- nG h.1.1]
 have f:=jc h;have t:=nF h;have hp:=J6 hs (by have:=h.2.1;omega) (by have:=h.2.2;omega);have f2:=xH hp;have t2:=DF hp;have:=h.2;exact ⟨⟨hp,by omega,by omega⟩,by omega,by omega⟩
theorem Aj {o : List Part} (h : bB o) : bB (bJ o)/\bk (bJ o) = bk o/\iL (bJ o) = iL o:=by
 have : bJ o = normal o:=by unfold bJ;rw [if_pos h]
 rw [this];exact nP h
def aZ (c s r : Int) : List Seen->List Seen
 | []=>[⟨c,s,r⟩]
 | x :: l=>if x.client < c then x :: aZ c s r l else if x.client = c then ⟨c,s,r⟩ :: l else ⟨c,s,r⟩ :: x :: l
noncomputable def aS (d : Doc) (e : Entry) : Doc:=
 if d.list.length < 8 then ⟨d.name,d.fr,d.text,d.list ++ [e],aZ e.client e.seq (ae d + 1) d.seen⟩
 else ⟨d.name,d.fr + 1,(apply ((d.list ++ [e])[0]'(by simp)).o d.text).1,(d.list ++ [e]).drop 1,aZ e.client e.seq (ae d + 1) d.seen⟩
open Classical in
noncomputable def cj (d : Doc) (base : Int) (o : List Part) : List Part × Int:=
 if aJ d/\bB o then
  if ae d < base then ([],2) else if base < d.fr then ([],3) else
  if bk o = (dK d base).1.length then
   if (fp ((d.list.drop (base - d.fr).toNat).map Entry.o) o).2 = true then ((fp ((d.list.drop (base - d.fr).toNat).map Entry.o) o).1,0) else ([],5)
  else ([],1)
 else ([],1)
def vv (d : Doc) (client seq : Int) (o : List Part) : Prop:=aJ d/\(1<=client/\client<=8)/\(1<=seq/\seq<=1000000000)/\bB o
open Classical in
noncomputable def bm (d : Doc) (client seq base : Int) (o : List Part) : Doc × Int × Int:=
 if vv d client seq o then
  if (cG d client).1.seq = seq then (d,(cG d client).1.rev,0)
  else if (cG d client).1.seq + 1 = seq then
   if (cj d base o).2 = 0 then
    if 999999000<=ae d then (Doc.zero,0,5) else (aS d ⟨client,seq,(cj d base o).1⟩,ae d + 1,0)
   else (Doc.zero,0,(cj d base o).2)
  else (Doc.zero,0,4)
 else (Doc.zero,0,1)
open Classical in
noncomputable def e9 (d : Doc) (rev : Int) : List Entry × Int:=
 if aJ d then if ae d < rev then ([],2) else if rev < d.fr then ([],3) else (d.list.drop (rev - d.fr).toNat,0) else ([],1)
theorem qa : ∀ (l : List (List Part)) (t u : List Int) (v v' : List Part),aw l t = some u->gF l v = some v'->bB v->bk v = t.length->bB v'/\bk v' = u.length
 | [], t, u, v, v', h1, h2, h3, h4 => by
   simp only [aw,Option.some.injEq] at h1;simp only [gF,Option.some.injEq] at h2;subst h1 h2;exact ⟨h3,h4⟩
 | a :: l, t, u, v, v', h1, h2, h3, h4 => by
   rw [aw] at h1;rw [gF] at h2
   split at h1
   ·rename_i ha
    split at h2
    ·rename_i ht
     have k:=r6 ht;have hl:=(gP (gV.1 ha)).2;exact qa l _ u _ v' h1 h2 k.oky (by rw [k.fy];omega)
    ·cases h2
   ·cases h1
theorem eJ : ∀ (l m : List (List Part)) (t : List Int),aw (l ++ m) t = (aw l t).bind (aw m)
 | [],m,t=>by simp [aw]
 | o :: l, m, t => by
   rw [List.cons_append,aw,aw]
   split
   ·exact eJ l m _
   ·simp
theorem jh : ∀ (l : List (List Part)) (t u : List Int),cg t->aw l t = some u->cg u
 | [],t,u,h,e=>by simp only [aw,Option.some.injEq] at e;exact e ▸ h
 | o :: l, t, u, h, e => by
   rw [aw] at e
   split at e
   ·rename_i ha
    exact jh l _ u (gP (gV.1 ha)).1 e
   ·cases e
theorem jY {d : Doc} (h : aJ d) {rev : Int} (h1 : d.fr <= rev) (h2 : rev <= ae d) : (dK d rev).2 = true /\ aw ((d.list.take (rev - d.fr).toNat).map Entry.o) d.text = some (dK d rev).1 /\ cg (dK d rev).1 /\
 aw ((d.list.drop (rev - d.fr).toNat).map Entry.o) (dK d rev).1 = aw (d.list.map Entry.o) d.text:=by
 have hs:=h.2.2.2.2.2.1;have ht:=h.2.2.1;have e : d.list.map Entry.o = (d.list.take (rev - d.fr).toNat).map Entry.o ++ (d.list.drop (rev - d.fr).toNat).map Entry.o:=by rw [<- List.map_append,List.take_append_drop]
 have e2 : dK d rev = cT ((d.list.take (rev - d.fr).toNat).map Entry.o) d.text:=by unfold dK;rw [if_pos ⟨h,h1,h2⟩]
 rw [e,eJ] at hs
 cases hx : aw ((d.list.take (rev - d.fr).toNat).map Entry.o) d.text with
 | none=>rw [hx] at hs;simp at hs
 | some u =>
   have e3 : cT ((d.list.take (rev - d.fr).toNat).map Entry.o) d.text = (u,true):=by unfold cT;rw [if_pos ht,hx]
   rw [e2,e3];refine ⟨rfl,rfl,jh _ _ _ ht hx,?_⟩
   conv=>rhs;rw [e,eJ,hx]
   rfl
theorem lW {d : Doc} (h : aJ d) : aw (d.list.map Entry.o) d.text = some (cr d)/\cg (cr d):=by
 have hh:=ba h;have h0 : d.fr<=ae d:=by omega
 obtain ⟨h1,h2,h3,h4⟩:=jY h h0 (by omega);have e : (ae d - d.fr).toNat = d.list.length:=by omega
 rw [e,List.take_length] at h2;exact ⟨h2,h3⟩
theorem nc {d : Doc} {base : Int} {o : List Part} (hd : aJ d) (ho : bB o) (h1 : d.fr<=base) (h2 : base<=ae d) (hf : bk o = (dK d base).1.length)
 (hp : (fp ((d.list.drop (base - d.fr).toNat).map Entry.o) o).2 = true) : gn (fp ((d.list.drop (base - d.fr).toNat).map Entry.o) o).1 (cr d):=by
 obtain ⟨k1,k2,k3,k4⟩:=jY hd h1 h2;obtain ⟨m1,m2⟩:=lW hd;rw [m1] at k4;unfold fp at hp ⊢;rw [if_pos ho] at hp ⊢
 cases hx : gF ((d.list.drop (base - d.fr).toNat).map Entry.o) (bJ o) with
 | none=>rw [hx] at hp;simp at hp
 | some v =>
   have hn:=Aj ho;have:=qa _ _ _ _ _ k4 hx hn.1 (by rw [hn.2.1,hf]);exact ⟨this.1,m2,this.2⟩
set_option maxHeartbeats 1600000
theorem Dw (l : List Seen) : ∀ a∈l,∀ d∈a.row,isV d = true:=by
 intro a _ d hd;simp [Seen.row] at hd;rcases hd with rfl | rfl | rfl<;>rfl
theorem gg (l : List Entry) (hl : nL am l<=2 ^ 30) : ac Tryz.prog 296 [.c (.s (l.map Entry.row))] (.one (.c (.s (l.map Entry.row)) 3)):=by
 refine pci ag Tryz.func296 (λw0 base=>?_);have hle:=aA hl;simp;refine aj eok (λx : Nat × Hd=>x.1<=l.length) (λx=>⟨22,0,[(8,.v (.int .i64 x.1)),(7,.v (.int .i64 l.length)),(6,.ro (l.map Entry.row)),(3,.sl 5000 x.2 3 0 x.1)],[(5000,.rows x.2 3 ((l.take x.1).map Entry.row) true)]⟩) (λx=>l.length - x.1) (0,none) (by simp) (by simp) (λx hx=>Ent.refl ?_);obtain ⟨i,H⟩:=x;simp only at hx ⊢;by_cases hlt : i < l.length
 ·have hm:=ci hl hlt
  unfold am at hm;simp [hlt,Entry.row];intro b5;refine aa.pure (wI l[i].o hm) (by simp) ?_;simp;intro H1;have e1 : min i l.length = i:=by omega
  simp [e1];intro b6;refine ⟨by omega,λH2=>Ent.refl ⟨i + 1,by omega,by omega,H2,?_⟩⟩;simp;exact ⟨ah (by omega),dY (f:=Entry.row) hlt⟩
 ·have e : l.length = i:=by omega
  simp [hlt];rw [List.take_of_length_le (by simp;omega)];simp [cut,e]
theorem qu (e : Entry) (hl : am e<=2 ^ 30) : ac Tryz.prog 381 [.agg e.row] (.one (.agg e.res)):=by
 refine pci ag Tryz.func381 (λw0 base=>?_);unfold am at hl;simp [Entry.row];intro b1 b2;refine drw eok mix [0,1,2,3,4,5] [6,7,8] (.c 6 6 1 62 (.c 6 7 20 42 (.c 6 8 42 0 (.l 6 0) .s) .s) .s) ?_;simp
 try intros
 refine aa.pure (sY e.o (by omega)) (by simp) ?_;simp
 try intros
 simp [Entry.res]
theorem dU (l : List Entry) (hl : nL am l<=2 ^ 30) : ac Tryz.prog 339 [.c (.s (l.map Entry.row))] (.one (.c (.s (l.map Entry.row)) 3)):=by
 refine pci ag Tryz.func339 (λw0 base=>?_);have hle:=aA hl;simp;intro b6;refine aj eok (λx : Nat × Hd=>x.1<=l.length) (λx=>⟨20,0,[(9,.v (.int .i64 x.1)),(8,.v (.int .i64 l.length)),(7,.ro (l.map Entry.row)),(3,.sl 96 x.2 3 0 x.1)],[(96,.rows x.2 3 ((l.take x.1).map Entry.row) true)]⟩) (λx=>l.length - x.1) (0,some (b6,0,0)) (by simp) (by simp) (λx hx=>Ent.refl ?_);obtain ⟨i,H⟩:=x;simp only at hx ⊢;by_cases hlt : i < l.length
 ·have hm:=ci hl hlt
  simp [hlt,Entry.row];intro b5;refine aa.pure (qu l[i] hm) (by simp [Entry.row]) ?_;simp [Entry.res];intro H1;have e1 : min i l.length = i:=by omega
  simp [e1];intro b7;refine ⟨by omega,λH2=>Ent.refl ⟨i + 1,by omega,by omega,H2,?_⟩⟩;simp;exact ⟨ah (by omega),dY (f:=Entry.row) hlt⟩
 ·have e : l.length = i:=by omega
  simp [hlt];rw [List.take_of_length_le (by simp;omega)];simp [cut,e]
theorem oi (d : Doc) (hl : bf d<=2 ^ 30) : ac Tryz.prog 211 [.agg d.row] (.one (.agg d.res)):=by
 refine pci ag Tryz.func211 (λw0 base=>?_);obtain ⟨n1,n2,n3,n4⟩:=bV hl;simp [Doc.row];intro b1 b2;refine drw eok mix [0,1,2,3,4,5,7,8,10,11] [6,9,12,13,14] (.c 10 6 16 1007 (.c 10 9 4 1003 (.c 10 12 1 1002 (.c 10 13 320 682 (.c 10 14 682 0 (.l 10 0) .s) .s) .s) .s) .s) ?_;simp
 try intros
 refine aa.pure (jH d.text (by omega)) (by simp) ?_;simp
 try intros
 refine aa.pure (gg d.list n1) (by simp) ?_;simp
 try intros
 refine ⟨Dw d.seen,by omega,λH=>?_⟩;simp [Doc.res]
theorem lu (d : Doc) (hl : bf d<=2 ^ 30) : ac Tryz.prog 261 [.agg d.row] (.one (.agg d.res)):=by
 refine pci ag Tryz.func261 (λw0 base=>?_);obtain ⟨n1,n2,n3,n4⟩:=bV hl;simp [Doc.row];intro b1 b2;have h8 : d.text.length * 8<=140737488355328:=by omega
 have h24 : d.seen.length * 24<=140737488355328:=by omega
 refine drw eok mix [0,1,2,3,5,6,8,9,12,13] [4,7,10,11,14,15,16] (.c 10 4 0 1023 (.c 10 7 16 1007 (.c 10 10 4 1003 (.c 10 11 0 1003 (.c 10 14 1 1002 (.c 10 15 320 682 (.c 10 16 682 0 (.l 10 0) .s) .s) .s) .s) (.c 10 11 0 1007 (.c 10 10 4 1003 (.c 10 14 1 1002 (.c 10 15 320 682 (.c 10 16 682 0 (.l 10 0) .s) .s) .s) .s) .s)) (.c 10 11 0 1023 (.c 10 7 16 1007 (.c 10 10 4 1003 (.c 10 14 1 1002 (.c 10 15 320 682 (.c 10 16 682 0 (.l 10 0) .s) .s) .s) .s) .s) .s)) (.c 10 11 0 1023 (.c 10 4 0 1023 (.c 10 7 16 1007 (.c 10 10 4 1003 (.c 10 14 1 1002 (.c 10 15 320 682 (.c 10 16 682 0 (.l 10 0) .s) .s) .s) .s) .s) .s) .s)) ?_;simp
 try intros
 repeat' first
  | (refine aa.pure (dU d.list n1) (by simp) ?_;simp [h24];try intros)
  | (rw [Trc];refine ⟨?_,?_⟩<;>(try simp [h8,h24])<;>try intros)
 all_goals
  simp [Doc.res];exact Dw d.seen
noncomputable def fQ : List (List Part)->List Part->Option (List (List Part) × List Part)
 | [],v=>some ([],v)
 | a :: l,v=>if (aB a v).2.2 = true then (fQ l (aB a v).2.1).map (λr=>((aB a v).1 :: r.1,r.2)) else none
theorem zm : ∀ (l : List (List Part)) (v : List Part),(fQ l v).map Prod.snd = gF l v
 | [],v=>rfl
 | a :: l, v => by
   rw [fQ,gF]
   split
   ·rw [<- zm l,Option.map_map];rfl
   ·rfl
open Classical in
noncomputable def eg (l : List (List Part)) (b : List Part) : List (List Part) × List Part × Bool:=
 if bB b then match fQ l (bJ b) with
  | some r=>(r.1,r.2,true)
  | none=>([],[],false)
 else ([],[],false)
theorem qI (l : List (List Part)) (b : List Part) : (eg l b).2 = fp l b:=by
 unfold eg fp
 split
 ·rw [<- zm]
  cases fQ l (bJ b)<;>rfl
 ·rfl
theorem p8 {l : List (List Part)} {i : Nat} {v : List Part} (h : i < l.length) : fQ (l.drop i) v = if (aB l[i] v).2.2 = true then (fQ (l.drop (i + 1)) (aB l[i] v).2.1).map (λr=>((aB l[i] v).1 :: r.1,r.2)) else none:=by
 rw [List.drop_eq_getElem_cons h,fQ]
theorem sK {l : List (List Part)} {i : Nat} {v : List Part} (h : l.length<=i) : fQ (l.drop i) v = some ([],v):=by
 rw [List.drop_eq_nil_of_le h,fQ]
theorem wc (l : List (List Part)) (b : List Part) (hl : l.length<=2 ^ 30) (hs : ∀ o∈l,nL ar o<=2 ^ 40) (hb : nL ar b<=2 ^ 40) : ac Tryz.prog 402 [.c (.s (l.map dS)),.c (.s (b.map Part.row))]
 (.tup [.c (.s ((eg l b).1.map dS)) 1,.c (.s ((eg l b).2.1.map Part.row)) 3,.c (.v (.bool (eg l b).2.2)) 1]):=by
 refine pci ag Tryz.func402 (λw0 base=>?_);simp;refine aa.pure (dH b hb) (by simp) ?_;by_cases c1 : bB b
 rotate_left
 ·have e : eg l b = ([],[],false):=by unfold eg;rw [if_neg c1]
  simp [ab c1,e]
 have e : eg l b = match fQ l (bJ b) with
  | some r=>(r.1,r.2,true)
  | none=>([],[],false):=by unfold eg;rw [if_pos c1]
 simp [c1];refine aa.pure (mY b hb) (by simp) ?_;simp;intro H0
 refine aj eok (λx : (Nat × List (List Part) × List Part × Nat) × Hd × Hd=>(x.1.2.2.2 = 288\/x.1.2.2.2 = 449)/\(x.1.1<=l.length/\x.1.2.1.length = x.1.1)/\nL ar x.1.2.2.1<=2 ^ 40/\fQ l (bJ b) = (fQ (l.drop x.1.1) x.1.2.2.1).map (λr=>(x.1.2.1 ++ r.1,r.2)))
  (λx=>⟨42,0,[(21,.v (.int .i64 x.1.1)),(20,.v (.int .i64 l.length)),(19,.ro (l.map dS)),(8,.sl x.1.2.2.2 x.2.2 3 0 x.1.2.2.1.length),(7,.sl 5000 x.2.1 1 0 x.1.2.1.length)],
   [(5000,.rows x.2.1 1 (x.1.2.1.map dS) true),(x.1.2.2.2,.rows x.2.2 3 (x.1.2.2.1.map Part.row) true)]⟩) (λx=>l.length - x.1.1) ((0,[],bJ b,288),none,H0) ⟨.inl rfl,by simp,by have:=mN b;simp only;omega,by simp⟩ (by simp) (λx hx=>Ent.refl ?_)
 obtain ⟨⟨i,L,v,kk⟩,H1,H2⟩:=x;obtain ⟨hk,⟨hi,hLl⟩,hv,hp⟩:=hx;simp only at hk hi hLl hv hp ⊢;have k5 : ¬ kk = 5000:=by omega
 have k5' : ¬ 5000 = kk:=by omega
 by_cases hlt : i < l.length
 ·rw [p8 hlt] at hp
  have hn:=jC l[i] v;simp [hlt];refine aa.pure (pi l[i] v (hs _ (List.getElem_mem hlt)) hv) (by simp [k5]) ?_;generalize aB l[i] v = Q at hp hn ⊢;obtain ⟨x,y,ok⟩:=Q;simp only at hp hn ⊢;simp;intro G1 G2
  cases ok with
  | false =>
    simp at hp;rw [hp] at e;simp [e]
  | true =>
    simp only [if_true] at hp;simp;intro b6;refine ⟨by omega,λH=>Ent.refl ⟨i + 1,L ++ [x],y,449,⟨.inr rfl,⟨by omega,by simp;omega⟩,by omega,?_⟩,by omega,H,G2,?_⟩⟩
    ·rw [hp]
     cases fQ (l.drop (i + 1)) y<;>simp
    ·simp
     exact ah (by omega)
 ·rw [sK (by omega)] at hp
  simp only [Option.map_some,List.append_nil] at hp;rw [hp] at e;simp [hlt,e,k5]
theorem zG (l : List (List Part)) (b : List Part) : nL ar (fp l b).1<=2 ^ 20:=by
 have key : ∀ (l : List (List Part)) (v u : List Part),nL ar v<=2 ^ 20->gF l v = some u->nL ar u<=2 ^ 20:=by
  intro l
  induction l with
  | nil=>intro v u h1 h2;simp only [gF,Option.some.injEq] at h2;exact h2 ▸ h1
  | cons a l ih =>
    intro v u h1 h2;rw [gF] at h2
    split at h2
    ·exact ih _ u (by have:=jC a v;omega) h2
    ·cases h2
 unfold fp
 split
 ·cases h : gF l (bJ b) with
  | none=>simp [nL,a8]
  | some v=>exact key l _ v (mN b) h
 ·simp [nL,a8]
theorem yk (l : List (List Part)) (b : List Part) (hl : l.length<=2 ^ 30) (hs : ∀ o∈l,nL ar o<=2 ^ 40) (hb : nL ar b<=2 ^ 40) : ac Tryz.prog 376 [.c (.s (l.map dS)),.c (.s (b.map Part.row))]
 (.tup [.c (.s ((fp l b).1.map Part.row)) 3,.c (.v (.bool (fp l b).2)) 1]):=by
 refine pci ag Tryz.func376 (λw0 base=>?_);simp;refine aa.pure (wc l b hl hs hb) (by simp) ?_;rw [<- qI];generalize eg l b = Q;obtain ⟨x,y,ok⟩:=Q;simp
theorem vx (l : List (List Part)) (b : List Part) (hl : l.length<=2 ^ 30) (hs : ∀ o∈l,nL ar o<=2 ^ 40) (hb : nL ar b<=2 ^ 40) : ac Tryz.prog 411 [.c (.s (l.map dS)),.c (.s (b.map Part.row))]
 (.tup [.c (.s ((eg l b).1.map dS)) 1,.c (.s ((eg l b).2.1.map Part.row)) 3,.c (.v (.bool (eg l b).2.2)) 1]):=by
 refine pci ag Tryz.func411 (λw0 base=>?_);simp;refine aa.pure (dF b hb) (by simp) ?_;by_cases c1 : bB b
 rotate_left
 ·have e : eg l b = ([],[],false):=by unfold eg;rw [if_neg c1]
  simp [ab c1,e]
 have e : eg l b = match fQ l (bJ b) with
  | some r=>(r.1,r.2,true)
  | none=>([],[],false):=by unfold eg;rw [if_pos c1]
 simp [c1];intro b9;refine aa.pure (mG b hb) (by simp) ?_;simp;intro H0
 refine aj eok (λx : (Nat × List (List Part) × List Part × Nat) × Hd × Hd=>(x.1.2.2.2 = 304\/x.1.2.2.2 = 465)/\(x.1.1<=l.length/\x.1.2.1.length = x.1.1)/\nL ar x.1.2.2.1<=2 ^ 40/\fQ l (bJ b) = (fQ (l.drop x.1.1) x.1.2.2.1).map (λr=>(x.1.2.1 ++ r.1,r.2)))
  (λx=>⟨43,0,[(22,.v (.int .i64 x.1.1)),(21,.v (.int .i64 l.length)),(20,.ro (l.map dS)),(8,.sl x.1.2.2.2 x.2.2 3 0 x.1.2.2.1.length),(7,.sl 272 x.2.1 1 0 x.1.2.1.length)],
   [(272,.rows x.2.1 1 (x.1.2.1.map dS) true),(x.1.2.2.2,.rows x.2.2 3 (x.1.2.2.1.map Part.row) true)]⟩) (λx=>l.length - x.1.1) ((0,[],bJ b,304),some (b9,0,0),H0) ⟨.inl rfl,by simp,by have:=mN b;simp only;omega,by simp⟩ (by simp) (λx hx=>Ent.refl ?_)
 obtain ⟨⟨i,L,v,kk⟩,H1,H2⟩:=x;obtain ⟨hk,⟨hi,hLl⟩,hv,hp⟩:=hx;simp only at hk hi hLl hv hp ⊢;have k5 : ¬ kk = 272:=by omega
 have k5' : ¬ 272 = kk:=by omega
 by_cases hlt : i < l.length
 ·rw [p8 hlt] at hp
  have hn:=jC l[i] v;simp [hlt];refine aa.pure (pd l[i] v (hs _ (List.getElem_mem hlt)) hv) (by simp [k5]) ?_;generalize aB l[i] v = Q at hp hn ⊢;obtain ⟨x,y,ok⟩:=Q;simp only at hp hn ⊢;simp;intro G1 G2
  cases ok with
  | false =>
    simp at hp;rw [hp] at e;simp [e]
  | true =>
    simp only [if_true] at hp;simp;intro b6;refine ⟨by omega,λH=>Ent.refl ⟨i + 1,L ++ [x],y,465,⟨.inr rfl,⟨by omega,by simp;omega⟩,by omega,?_⟩,by omega,H,G2,?_⟩⟩
    ·rw [hp]
     cases fQ (l.drop (i + 1)) y<;>simp
    ·simp
     exact ah (by omega)
 ·rw [sK (by omega)] at hp
  simp only [Option.map_some,List.append_nil] at hp;rw [hp] at e;simp [hlt,e,k5]
theorem xu (l : List (List Part)) (b : List Part) (hl : l.length<=2 ^ 30) (hs : ∀ o∈l,nL ar o<=2 ^ 40) (hb : nL ar b<=2 ^ 40) : ac Tryz.prog 405 [.c (.s (l.map dS)),.c (.s (b.map Part.row))]
 (.tup [.c (.s ((fp l b).1.map Part.row)) 3,.c (.v (.bool (fp l b).2)) 1]):=by
 refine pci ag Tryz.func405 (λw0 base=>?_);simp;refine aa.pure (vx l b hl hs hb) (by simp) ?_;rw [<- qI];generalize eg l b = Q;obtain ⟨x,y,ok⟩:=Q;simp
noncomputable def uZ (d : Doc) (rev : Int) : Int:=if ae d < rev then 2 else if rev < d.fr then 3 else 0
theorem wS (d : Doc) (rev : Int) : ac Tryz.prog 334 [.agg d.row,.c (vi rev)] (.one (.c (vi (uZ d rev)) 1)):=by
 refine pci ag Tryz.func334 (λw0 base=>?_);simp [Doc.row];intro b;refine aa.pure (be d) (by simp [Doc.row]) ?_;unfold uZ;by_cases c1 : ae d < rev
 ·simp [c1]
 ·by_cases c2 : rev < d.fr
  ·simp [c1,c2]
  ·simp [c1,c2]
open Classical in
noncomputable def gl (d : Doc) (rev : Int) : List (List Part) × Bool:=if aJ d/\d.fr<=rev/\rev<=ae d then ((d.list.drop (rev - d.fr).toNat).map Entry.o,true) else ([],false)
theorem iu {d : Doc} {rev : Int} (h : ¬ (aJ d/\d.fr<=rev/\rev<=ae d)) : gl d rev = ([],false):=by unfold gl;rw [if_neg h]
theorem gK {d : Doc} {rev : Int} (h : aJ d/\d.fr<=rev/\rev<=ae d) : gl d rev = ((d.list.drop (rev - d.fr).toNat).map Entry.o,true):=by unfold gl;rw [if_pos h]
theorem pR {α : Type} {f : α->Nat} : ∀ (l : List α) (k : Nat),a8 f (l.drop k)<=a8 f l
 | [],k=>by simp
 | a :: l,0=>by simp
 | a :: l,k + 1=>by have:=pR (f:=f) l k;simp only [List.drop_succ_cons,a8];omega
theorem mQ {α : Type} {f : α->Nat} {l : List α} {k B : Nat} (h : nL f l<=B) : nL f (l.drop k)<=B:=by
 have:=pR (f:=f) l k;unfold nL at *;simp only [List.length_drop];omega
theorem gd {l : List Entry} {k : Nat} (_h : k<=l.length) : cut (l.map Entry.row) k (l.length - k) = (l.drop k).map Entry.row:=by
 unfold cut
 split
 ·rename_i h1
  rw [h1.1];simp
 ·rw [<- List.map_drop,List.take_of_length_le (by simp)]
theorem qz (d : Doc) (hl : bf d<=2 ^ 30) (rev : Int) : ac Tryz.prog 375 [.agg d.row,.c (vi rev)] (.tup [.c (.s ((gl d rev).1.map dS)) 1,.c (.v (.bool (gl d rev).2)) 1]):=by
 refine pci ag Tryz.func375 (λw0 base=>?_);obtain ⟨n1,n2,n3,n4⟩:=bV hl;simp [Doc.row];intro b2;refine aD.quiet eok mix (by kernel_rfl) ?_;simp;refine ⟨_,_,eB d hl,by simp [Doc.row],?_⟩;by_cases c1 : aJ d
 rotate_left
 ·have e:=iu (d:=d) (rev:=rev) (λh=>c1 h.1)
  simp [ab c1,e]
 simp [c1];refine ⟨_,_,be d,by simp [Doc.row],?_⟩;simp;refine ⟨_,_,aK rev d.fr (ae d),by simp,?_⟩;by_cases c2 : d.fr<=rev/\rev<=ae d
 rotate_left
 ·have e:=iu (d:=d) (rev:=rev) (λh=>c2 h.2)
  simp [ab c2,e]
 have e:=gK ⟨c1,c2⟩;have hh:=ba c1;obtain ⟨k,hk⟩ : ∃ k : Nat,rev - d.fr = k:=⟨(rev - d.fr).toNat,by omega⟩;have hkl : k<=d.list.length:=by omega
 have ew : Go.IntKind.i64.wrap (rev - d.fr) = (k : Int):=by rw [Go.IntWalk.i64_in _ (by omega)];omega
 rw [hk] at e;simp only [Int.toNat_natCast] at e;simp [c2,ew,hkl,gd hkl];refine aa.pure (t7 (d.list.drop k) (mQ n1)) (by simp) ?_;simp [e];intro row h;have:=List.mem_of_mem_drop h;simp at this;obtain ⟨x,-,rfl⟩:=this;rfl
theorem pX (d : Doc) (hl : bf d<=2 ^ 30) (rev : Int) : ac Tryz.prog 404 [.agg d.row,.c (vi rev)] (.tup [.c (.s ((gl d rev).1.map dS)) 1,.c (.v (.bool (gl d rev).2)) 1]):=by
 refine pci ag Tryz.func404 (λw0 base=>?_);obtain ⟨n1,n2,n3,n4⟩:=bV hl;simp [Doc.row];intro b2;refine aD.quiet eok mix (by kernel_rfl) ?_;simp;refine ⟨_,_,eu d hl,by simp [Doc.row],?_⟩;by_cases c1 : aJ d
 rotate_left
 ·have e:=iu (d:=d) (rev:=rev) (λh=>c1 h.1)
  simp [ab c1,e]
 simp [c1];refine ⟨_,_,aX d,by simp [Doc.row],?_⟩;simp;refine ⟨_,_,aW rev d.fr (ae d),by simp,?_⟩;by_cases c2 : d.fr<=rev/\rev<=ae d
 rotate_left
 ·have e:=iu (d:=d) (rev:=rev) (λh=>c2 h.2)
  simp [ab c2,e]
 have e:=gK ⟨c1,c2⟩;have hh:=ba c1;obtain ⟨k,hk⟩ : ∃ k : Nat,rev - d.fr = k:=⟨(rev - d.fr).toNat,by omega⟩;have hkl : k<=d.list.length:=by omega
 have ew : Go.IntKind.i64.wrap (rev - d.fr) = (k : Int):=by rw [Go.IntWalk.i64_in _ (by omega)];omega
 rw [hk] at e;simp only [Int.toNat_natCast] at e;simp [c2,ew,hkl,gd hkl];intro b21;obtain ⟨l,hl'⟩ : ∃ l,d.list.drop k = l:=⟨_,rfl⟩;have hn : nL am l<=2 ^ 30:=hl' ▸ mQ n1;have hll : d.list.length - k = l.length:=by rw [<- hl'];simp
 have hle:=aA hn;rw [hl'] at e;simp only [<- List.map_drop,hl',hll];refine aj eok (λx : Nat × Hd=>x.1<=l.length) (λx=>⟨42,0,[(30,.v (.int .i64 x.1)),(29,.v (.int .i64 l.length)),(28,.ro (l.map Entry.row)),(6,.sl 336 x.2 1 0 x.1)],[(336,.rows x.2 1 (((l.take x.1).map Entry.o).map dS) true)]⟩) (λx=>l.length - x.1) (0,some (b21,0,0)) (by simp) (by simp) (λx hx=>Ent.refl ?_);obtain ⟨i,H⟩:=x;simp only at hx ⊢;by_cases hlt : i < l.length
 ·have hm:=ci hn hlt
  unfold am at hm;simp [hlt,Entry.row];intro b5;refine aa.pure (sY l[i].o hm) (by simp) ?_;simp;intro H1 b;have e1 : i = min i l.length:=by omega
  refine ⟨e1,by omega,λH2=>Ent.refl ⟨i + 1,by omega,by omega,H2,?_⟩⟩;simp;exact ⟨ah (by omega),dY (f:=λe : Entry=>dS e.o) hlt⟩
 ·have e2 : l.length = i:=by omega
  simp [hlt,e];have e1 : i<=min i l.length:=by omega
  refine ⟨e1,?_,?_⟩
  ·intro row hr
   have:=List.mem_of_mem_take hr;simp at this;obtain ⟨x,-,rfl⟩:=this;rfl
  ·rw [List.take_of_length_le (by simp;omega)]
   simp [cut,e2]
theorem qP (l : List Entry) (k : Nat) : ∀ row∈List.drop k (List.map Entry.row l),row.length = 3:=by
 intro row h;have:=List.mem_of_mem_drop h;simp at this;obtain ⟨x,-,rfl⟩:=this;rfl
open Classical in
theorem tf {d : Doc} {rev : Int} (h : ¬ aJ d) : e9 d rev = ([],1):=by unfold e9;rw [if_neg h]
theorem qM {d : Doc} {rev : Int} (h : aJ d) : e9 d rev = if ae d < rev then ([],2) else if rev < d.fr then ([],3) else (d.list.drop (rev - d.fr).toNat,0):=by unfold e9;rw [if_pos h]
theorem wd (d : Doc) (hl : bf d<=2 ^ 30) (rev : Int) : ac Tryz.prog 248 [.agg d.row,.c (vi rev)] (.tup [.c (.s ((e9 d rev).1.map Entry.row)) 3,.c (vi (e9 d rev).2) 1]):=by
 refine pci ag Tryz.func248 (λw0 base=>?_);obtain ⟨n1,n2,n3,n4⟩:=bV hl;simp [Doc.row];intro b2;refine aa.pure (eB d hl) (by simp [Doc.row]) ?_;by_cases c1 : aJ d
 rotate_left
 ·simp [ab c1,tf c1]
 have e:=qM (rev:=rev) c1;simp [c1];refine aa.pure (wS d rev) (by simp [Doc.row]) ?_;unfold uZ;by_cases c2 : ae d < rev
 ·simp [c2,e]
 by_cases c3 : rev < d.fr
 ·simp [c2,c3,e]
 have hh:=ba c1;obtain ⟨k,hk⟩ : ∃ k : Nat,rev - d.fr = k:=⟨(rev - d.fr).toNat,by omega⟩;have hkl : k<=d.list.length:=by omega
 have ew : Go.IntKind.i64.wrap (rev - d.fr) = (k : Int):=by rw [Go.IntWalk.i64_in _ (by omega)];omega
 simp only [c2,c3,if_false,hk,Int.toNat_natCast] at e;simp [c2,c3,ew,hkl,gd hkl];refine aa.pure (gg (d.list.drop k) (mQ n1)) (by simp) ?_;simp [e];exact qP _ _
theorem vz (d : Doc) (hl : bf d<=2 ^ 30) (rev : Int) : ac Tryz.prog 343 [.agg d.row,.c (vi rev)] (.tup [.c (.s ((e9 d rev).1.map Entry.row)) 3,.c (vi (e9 d rev).2) 1]):=by
 refine pci ag Tryz.func343 (λw0 base=>?_);obtain ⟨n1,n2,n3,n4⟩:=bV hl;simp [Doc.row];intro b2;refine aa.pure (eu d hl) (by simp [Doc.row]) ?_;by_cases c1 : aJ d
 rotate_left
 ·simp [ab c1,tf c1]
 have e:=qM (rev:=rev) c1;simp [c1];refine aa.pure (aX d) (by simp [Doc.row]) ?_;by_cases c2 : ae d < rev
 ·simp [c2,e]
 by_cases c3 : rev < d.fr
 ·simp [c2,c3,e]
 have hh:=ba c1;obtain ⟨k,hk⟩ : ∃ k : Nat,rev - d.fr = k:=⟨(rev - d.fr).toNat,by omega⟩;have hkl : k<=d.list.length:=by omega
 have ew : Go.IntKind.i64.wrap (rev - d.fr) = (k : Int):=by rw [Go.IntWalk.i64_in _ (by omega)];omega
 simp only [c2,c3,if_false,hk,Int.toNat_natCast] at e;simp [c2,c3,ew,hkl,gd hkl];refine aa.pure (dU (d.list.drop k) (mQ n1)) (by simp) ?_;simp [e];exact qP _ _
theorem gY (d : Doc) (hl : bf d<=2 ^ 30) : ac Tryz.prog 324 [.agg d.row] (.one (.c (.s ((cr d).map al)) 1)):=by
 refine pci ag Tryz.func324 (λw0 base=>?_);simp [Doc.row];intro b2;refine drw eok mix [0,1] [2,3,4,5,6,7,8] (.c 2 2 1 2 (.c 2 3 2 0 (.c 2 4 0 0 (.c 2 5 0 0 (.c 2 6 0 0 (.c 2 7 0 0 (.c 2 8 0 0 (.l 2 0) .s) .s) .s) .s) .s) .s) .s) ?_;simp
 try intros
 refine aa.pure (aX d) (by simp [Doc.row]) ?_;simp
 try intros
 refine aa.pure (mD d hl (ae d)) (by simp [Doc.row]) ?_;simp
 try intros
 simp [cr]
theorem kw (d : Doc) (hl : bf d<=2 ^ 30) : ac Tryz.prog 149 [.agg d.row] (.one (.c (.s ((cr d).map al)) 1)):=by
 refine pci ag Tryz.func149 (λw0 base=>?_);simp [Doc.row];intro b2;refine drw eok mix [0,1] [2,3,4,5,6,7,8] (.c 2 2 1 2 (.c 2 3 2 0 (.c 2 4 0 0 (.c 2 5 0 0 (.c 2 6 0 0 (.c 2 7 0 0 (.c 2 8 0 0 (.l 2 0) .s) .s) .s) .s) .s) .s) .s) ?_;simp
 try intros
 refine aa.pure (be d) (by simp [Doc.row]) ?_;simp
 try intros
 refine aa.pure (mW d hl (ae d)) (by simp [Doc.row]) ?_;simp
 try intros
 simp [cr]
theorem jE {d : Doc} {base : Int} {o : List Part} (h : ¬ (aJ d/\bB o)) : cj d base o = ([],1):=by unfold cj;rw [if_neg h]
theorem oV {d : Doc} {base : Int} {o : List Part} (h : aJ d/\bB o) : cj d base o = if ae d < base then ([],2) else if base < d.fr then ([],3) else
 if bk o = (dK d base).1.length then
  if (fp ((d.list.drop (base - d.fr).toNat).map Entry.o) o).2 = true then ((fp ((d.list.drop (base - d.fr).toNat).map Entry.o) o).1,0) else ([],5)
 else ([],1):=by unfold cj;rw [if_pos h]
theorem ur (d : Doc) (hl : bf d<=2 ^ 30) (base : Int) (o : List Part) (ho : nL ar o<=2 ^ 40) : ac Tryz.prog 332 [.agg d.row,.c (vi base),.c (.s (o.map Part.row))] (.tup [.c (.s ((cj d base o).1.map Part.row)) 3,.c (vi (cj d base o).2) 1]):=by
 refine pci ag Tryz.func332 (λw0 bs=>?_);obtain ⟨n1,n2,n3,n4⟩:=bV hl;simp [Doc.row];intro b3;refine aa.pure (eB d hl) (by simp [Doc.row]) ?_;by_cases c1 : aJ d
 rotate_left
 ·simp [ab c1,jE (d:=d) (base:=base) (o:=o) (λh=>c1 h.1)]
 simp [c1];refine aa.pure (dH o ho) (by simp) ?_;by_cases c2 : bB o
 rotate_left
 ·simp [ab c2,jE (d:=d) (base:=base) (o:=o) (λh=>c2 h.2)]
 have e:=oV (base:=base) ⟨c1,c2⟩;simp [c2];refine aa.pure (wS d base) (by simp [Doc.row]) ?_;unfold uZ;by_cases c3 : ae d < base
 ·simp [c3,e]
 by_cases c4 : base < d.fr
 ·simp [c3,c4,e]
 have hh:=ba c1;have c5 : aJ d/\d.fr<=base/\base<=ae d:=⟨c1,by omega,by omega⟩;have hops:=gK c5;simp only [c3,c4,if_false] at e;simp [c3,c4];refine aa.pure (mW d hl base) (by simp [Doc.row]) ?_;generalize dK d base = T at e ⊢;obtain ⟨t,ok⟩:=T;simp only at e ⊢;simp;intro H1;refine aa.pure (fN o ho) (by simp) ?_;by_cases c6 : bk o = t.length
 rotate_left
 ·simp only [c6,if_false] at e
  simp [c6,e]
 simp only [c6,if_true] at e;simp [c6];refine aa.pure (qz d hl base) (by simp [Doc.row]) ?_;rw [hops];generalize hL : (d.list.drop (base - d.fr).toNat) = L at e ⊢;have hL1 : L.length<=d.list.length:=by rw [<- hL];simp
 have hle:=aA n1
 have hs : ∀ q∈L.map Entry.o,nL ar q<=2 ^ 40:=λq hq=>by
  have:=lB n1 (l:=L) (λe he=>by rw [<- hL] at he;exact List.mem_of_mem_drop he) hq;omega
 simp;intro H2;refine aa.pure (yk (L.map Entry.o) o (by simp;omega) hs ho) (by simp) ?_;generalize fp (L.map Entry.o) o = P at e ⊢;obtain ⟨v,ok2⟩:=P;simp only at e ⊢
 cases ok2 with
 | false=>simp at e;simp [e]
 | true=>simp at e;simp [e]
theorem mF (d : Doc) (hl : bf d<=2 ^ 30) (base : Int) (o : List Part) (ho : nL ar o<=2 ^ 40) : ac Tryz.prog 383 [.agg d.row,.c (vi base),.c (.s (o.map Part.row))] (.tup [.c (.s ((cj d base o).1.map Part.row)) 3,.c (vi (cj d base o).2) 1]):=by
 refine pci ag Tryz.func383 (λw0 bs=>?_);obtain ⟨n1,n2,n3,n4⟩:=bV hl;simp [Doc.row];intro b3;refine aa.pure (eu d hl) (by simp [Doc.row]) ?_;by_cases c1 : aJ d
 rotate_left
 ·simp [ab c1,jE (d:=d) (base:=base) (o:=o) (λh=>c1 h.1)]
 simp [c1];refine aa.pure (dF o ho) (by simp) ?_;by_cases c2 : bB o
 rotate_left
 ·simp [ab c2,jE (d:=d) (base:=base) (o:=o) (λh=>c2 h.2)]
 have e:=oV (base:=base) ⟨c1,c2⟩;simp [c2];refine aa.pure (aX d) (by simp [Doc.row]) ?_;by_cases c3 : ae d < base
 ·simp [c3,e]
 by_cases c4 : base < d.fr
 ·simp [c3,c4,e]
 have hh:=ba c1;have c5 : aJ d/\d.fr<=base/\base<=ae d:=⟨c1,by omega,by omega⟩;have hops:=gK c5;have hfit:=nc (o:=o) c1 c2 c5.2.1 c5.2.2;simp only [c3,c4,if_false] at e;simp [c3,c4];refine aa.pure (mD d hl base) (by simp [Doc.row]) ?_;generalize dK d base = T at e hfit ⊢;obtain ⟨t,ok⟩:=T;simp only at e hfit ⊢;simp;intro H1;refine aa.pure (fC o ho) (by simp) ?_;by_cases c6 : bk o = t.length
 rotate_left
 ·simp only [c6,if_false] at e
  simp [c6,e]
 simp only [c6,if_true,true_implies] at e hfit;simp [c6];refine aa.pure (pX d hl base) (by simp [Doc.row]) ?_;rw [hops];generalize hL : (d.list.drop (base - d.fr).toNat) = L at e hfit ⊢;have hL1 : L.length<=d.list.length:=by rw [<- hL];simp
 have hle:=aA n1
 have hs : ∀ q∈L.map Entry.o,nL ar q<=2 ^ 40:=λq hq=>by
  have:=lB n1 (l:=L) (λe he=>by rw [<- hL] at he;exact List.mem_of_mem_drop he) hq;omega
 have hpn:=zG (L.map Entry.o) o;simp;intro H2;refine aa.pure (xu (L.map Entry.o) o (by simp;omega) hs ho) (by simp) ?_;generalize fp (L.map Entry.o) o = P at e hfit hpn ⊢;obtain ⟨v,ok2⟩:=P;simp only at e hfit hpn ⊢
 cases ok2 with
 | false=>simp at e;simp [e]
 | true =>
   have hf:=hfit rfl;have ht:=hf.2.1.1;simp at e;simp [e];intro H3;refine aa.pure (gY d hl) (by simp [Doc.row]) ?_;simp;intro H4;refine aa.pure (ez v (cr d) (by omega) (by omega)) (by simp) ?_;have ha:=gV.2 hf;generalize apply v (cr d) = A at ha ⊢;obtain ⟨u,ok3⟩:=A;simp only at ha;subst ha;simp
end Go.Proofs.YtoldjebobgocpaaGreat
