import Derived.Test.YtoldjebobgocpaaGreatPA
import Derived.Test.YtoldjebobgocpaaGreatPB
import Derived.Test.YtoldjebobgocpaaGreatPC
import Derived.Test.YtoldjebobgocpaaGreatNA
import Derived.Test.YtoldjebobgocpaaGreatMF
namespace Go.Proofs.YtoldjebobgocpaaGreat
set_option maxRecDepth 20000
inductive At where
 | k
 | p (c : Int)
 | d
def ats (p : Part) : List At:=if p.kind = 2 then p.signs.map At.p else if p.kind = 3 then List.replicate (psz p) .d else List.replicate (psz p) .k
def aU : List Part->List At
 | []=>[]
 | p :: l=>ats p ++ aU l
theorem fJ : ∀ (a b : List Part),aU (a ++ b) = aU a ++ aU b
 | [],b=>rfl
 | p :: a,b=>by simp [aU,fJ a b]
def frA : List At->Nat
 | []=>0
 | .p _ :: l=>frA l
 | _ :: l=>frA l + 1
def toA : List At->Nat
 | []=>0
 | .d :: l=>toA l
 | _ :: l=>toA l + 1
theorem ib : ∀ (a b : List At),frA (a ++ b) = frA a + frA b
 | [],b=>by simp [frA]
 | .p c :: a,b=>by simp [frA,ib a b]
 | .k :: a,b=>by simp [frA,ib a b];omega
 | .d :: a,b=>by simp [frA,ib a b];omega
theorem f5 : ∀ (a b : List At),toA (a ++ b) = toA a + toA b
 | [],b=>by simp [toA]
 | .d :: a,b=>by simp [toA,f5 a b]
 | .k :: a,b=>by simp [toA,f5 a b];omega
 | .p c :: a,b=>by simp [toA,f5 a b];omega
theorem wN : ∀ l : List Int,frA (l.map At.p) = 0
 | []=>rfl
 | c :: l=>by simp [frA,wN l]
theorem rW : ∀ l : List Int,toA (l.map At.p) = l.length
 | []=>rfl
 | c :: l=>by simp [toA,rW l]
theorem Gs : ∀ n : Nat,frA (List.replicate n At.k) = n
 | 0=>rfl
 | n + 1=>by simp [List.replicate_succ,frA,Gs n]
theorem wP : ∀ n : Nat,frA (List.replicate n At.d) = n
 | 0=>rfl
 | n + 1=>by simp [List.replicate_succ,frA,wP n]
theorem zJ : ∀ n : Nat,toA (List.replicate n At.k) = n
 | 0=>rfl
 | n + 1=>by simp [List.replicate_succ,toA,zJ n]
theorem rX : ∀ n : Nat,toA (List.replicate n At.d) = 0
 | 0=>rfl
 | n + 1=>by simp [List.replicate_succ,toA,rX n]
theorem BE {p : Part} (h : ap p) (k : p.kind = 2) : psz p = p.signs.length:=by
 rw [ga k] at h;unfold psz;omega
theorem ML {p : Part} : frA (ats p) = if p.kind = 2 then 0 else psz p:=by
 unfold ats
 split
 ·exact wN _
 ·split
  ·exact wP _
  ·exact Gs _
theorem MK {p : Part} (h : ap p) : toA (ats p) = if p.kind = 3 then 0 else psz p:=by
 unfold ats;by_cases k : p.kind = 2
 ·have : ¬ p.kind = 3:=by omega
  rw [if_pos k,if_neg this,rW,BE h k]
 ·rw [if_neg k]
  split
  ·exact rX _
  ·exact zJ _
theorem oq : ∀ (o : List Part),frs o = frA (aU o)
 | []=>rfl
 | p :: o=>by simp only [frs,aU,ib,ML,oq o]
theorem pL : ∀ {o : List Part},(∀ p∈o,ap p)->tos o = toA (aU o)
 | [],_=>rfl
 | p :: o, h => by
   simp only [tos,aU,f5,MK (h p (List.mem_cons_self ..)),pL (λq hq=>h q (List.mem_cons_of_mem _ hq))]
def nA : List Int->Nat->List At->List At
 | P,n,[]=>P.map At.p ++ List.replicate n .d
 | P,n,.k :: l=>P.map At.p ++ (List.replicate n .d ++ .k :: nA [] 0 l)
 | P,n,.p c :: l=>nA (P ++ [c]) n l
 | P,n,.d :: l=>nA P (n + 1) l
def lW (l : List At) : List At:=nA [] 0 l
theorem BN : ∀ (l : List At) (P : List Int) (n : Nat),frA (nA P n l) = n + frA l
 | [],P,n=>by simp [nA,frA,ib,wN,wP]
 | .k :: l,P,n=>by simp [nA,frA,ib,wN,wP,BN l]
 | .p c :: l,P,n=>by simp [nA,frA,BN l]
 | .d :: l,P,n=>by simp [nA,frA,BN l];omega
theorem BK : ∀ (l : List At) (P : List Int) (n : Nat),toA (nA P n l) = P.length + toA l
 | [],P,n=>by simp [nA,toA,f5,rW,rX]
 | .k :: l,P,n=>by simp [nA,toA,f5,rW,rX,BK l]
 | .p c :: l,P,n=>by simp [nA,toA,BK l];omega
 | .d :: l,P,n=>by simp [nA,toA,BK l]
theorem BM : ∀ (Q P : List Int) (n : Nat) (l : List At),nA P n (Q.map At.p ++ l) = nA (P ++ Q) n l
 | [],P,n,l=>by simp
 | c :: Q,P,n,l=>by simp [nA,BM Q]
theorem BO : ∀ (m : Nat) (P : List Int) (n : Nat) (l : List At),nA P n (List.replicate m .d ++ l) = nA P (n + m) l
 | 0,P,n,l=>by simp
 | m + 1,P,n,l=>by simp [List.replicate_succ,nA,BO m];congr 1;omega
theorem JE : ∀ (m : Nat) (l : List At),nA [] 0 (List.replicate m .k ++ l) = List.replicate m .k ++ nA [] 0 l
 | 0,l=>by simp
 | m + 1,l=>by simp [List.replicate_succ,nA,JE m]
def bA (s : List Part × List Int × Int) : List At:=aU s.1 ++ (s.2.1.map At.p ++ List.replicate s.2.2.toNat .d)
theorem y0 {L : List Part} {P : List Int} {D : Int} : aU (aJ L P D) = bA (L,P,D):=by
 unfold aJ bA;rw [fJ,fJ]
 congr 1
 congr 1
 ·split
  ·rename_i h;simp [h,aU]
  ·simp [aU,ats]
 ·split
  ·simp [aU,ats,psz]
  ·have : D.toNat = 0:=by omega
   simp [aU,this]
theorem mJ : ∀ (L : List Part) (_h : 0 < L.length) (p : Part),aU (L.set (L.length - 1) p) = aU L.dropLast ++ ats p
 | [q],h,p=>by simp [aU]
 | q :: r :: L, h, p => by
   have ih:=mJ (r :: L) (by simp) p;simp only [List.length_cons,Nat.add_sub_cancel] at ih ⊢;rw [List.set_cons_succ,aU,ih];simp [aU]
theorem tM : ∀ (L : List Part) (h : 0 < L.length),aU L = aU L.dropLast ++ ats (L[L.length - 1]'(by omega))
 | [q],h=>by simp [aU]
 | q :: r :: L, h => by
   have ih:=tM (r :: L) (by simp);simp only [List.length_cons,Nat.add_sub_cancel] at ih ⊢;rw [aU,ih];simp [aU]
theorem ID {L : List Part} {n : Int} (hn : 0 < n) (hL : ∀ q∈L,0<=q.n) (hk : ∀ q∈L,q.kind = 1->q.signs = []) : aU (bS L n) = aU L ++ List.replicate n.toNat .k:=by
 unfold bS
 split
 ·rename_i h
  split
  ·rename_i k
   have h1:=hL _ (List.getElem_mem (show L.length - 1 < L.length by omega));have h2:=hk _ (List.getElem_mem (show L.length - 1 < L.length by omega)) k;rw [mJ L h,tM L h,List.append_assoc]
   congr 1
   generalize L[L.length - 1]'(by omega) = q at h1 h2 k;obtain ⟨a,b,c⟩:=q;simp only at h1 h2 k;subst k h2;simp [ats,psz,List.replicate_append_replicate];omega
  ·rw [fJ]
   simp [aU,ats,psz]
 ·rename_i h
  have : L = []:=List.eq_nil_of_length_eq_zero (by omega);subst this;simp [aU,ats,psz]
theorem q5 {L : List Part} {P : List Int} {D : Int} (h : ∀ q∈L,q.kind = 1->q.signs = []) : ∀ q∈aJ L P D,q.kind = 1->q.signs = []:=by
 intro q hq hk;unfold aJ at hq;rcases List.mem_append.1 hq with hq | hq
 ·exact h q hq hk
 ·rcases List.mem_append.1 hq with hq | hq
  ·split at hq
   ·simp at hq
   ·simp at hq;subst hq;simp at hk
  ·split at hq
   ·simp at hq;subst hq;rfl
   ·simp at hq
theorem Aw {L : List Part} {n : Int} (h : ∀ q∈L,q.kind = 1->q.signs = []) : ∀ q∈bS L n,q.kind = 1->q.signs = []:=by
 intro q hq hk;unfold bS at hq
 split at hq
 ·rename_i hl
  split at hq
  ·rename_i k
   rcases List.mem_or_eq_of_mem_set hq with hq | rfl
   ·exact h q hq hk
   ·exact (h (L[L.length - 1]'(by omega)) (List.getElem_mem _) k :)
  ·rcases List.mem_append.1 hq with hq | hq
   ·exact h q hq hk
   ·simp at hq;subst hq;rfl
 ·simp at hq;subst hq;rfl
theorem yr {o : List Part} (ho : ∀ p ∈ o,ap p) : ∀ (i : Nat),i <= o.length -> (∀ q ∈ (a9 (o.take i)).1,q.kind = 1 -> q.signs = []) /\ 0 <= (a9 (o.take i)).2.2 /\ (∀ q ∈ (a9 (o.take i)).1,0 <= q.n) /\
 ∀ l,lW (aU (o.take i) ++ l) = aU (a9 (o.take i)).1 ++ nA (a9 (o.take i)).2.1 (a9 (o.take i)).2.2.toNat l
 | 0,_=>by simp [a9,aU,lW]
 | i + 1, hi => by
   obtain ⟨h1,h2,h3,h4⟩:=yr ho i (by omega);have hlt : i < o.length:=by omega
   have hq:=(kJ ho (i + 1) hi);have hp:=(ho _ (List.getElem_mem hlt));have hb:=hp.bounds;refine ⟨?_,hq.d0,λq hq'=>(hq.q q hq').1,λl=>?_⟩
   ·rw [gj hlt]
    unfold dm
    split
    ·exact h1
    ·split
     ·exact h1
     ·split
      ·exact Aw (q5 h1)
      ·exact h1
   ·rw [<- List.take_append_getElem hlt,fJ,List.append_assoc,h4,List.take_append_getElem hlt,gj hlt]
    generalize a9 (o.take i) = s at h1 h2 h3;generalize o[i] = p at hp hb;obtain ⟨L,P,D⟩:=s;simp only at h1 h2 h3;simp only [aU,List.append_nil];unfold dm;by_cases k2 : p.kind = 2
    ·simp only [k2,if_true]
     rw [show ats p = p.signs.map At.p by unfold ats;rw [if_pos k2],BM]
    ·by_cases k3 : p.kind = 3
     ·have hs:=hb.2.2.2.2.2 k2
      have e : (D + p.n).toNat = D.toNat + p.n.toNat:=by omega
      simp only [k3,if_true];rw [show ats p = List.replicate (psz p) .d by unfold ats;rw [if_neg k2,if_pos k3],BO];simp [e,psz,hs]
     ·have k1 : p.kind = 1:=by omega
      have hs:=hb.2.2.2.2.2 k2;have e : ats p = List.replicate p.n.toNat .k:=by unfold ats;rw [if_neg k2,if_neg k3];simp [psz,hs]
      simp only [k2,k3,if_false];rw [e]
      split
      ·rename_i hn
       have hfl : ∀ q∈aJ L P D,0<=q.n:=by
        intro q hq';unfold aJ at hq';rcases List.mem_append.1 hq' with hq' | hq'
        ·exact h3 q hq'
        ·rcases List.mem_append.1 hq' with hq' | hq'
         ·split at hq'
          ·simp at hq'
          ·simp at hq';subst hq';simp
         ·split at hq'
          ·simp at hq';subst hq';simp;omega
          ·simp at hq'
       simp only;rw [ID hn hfl (q5 h1),y0];obtain ⟨m,hm⟩ : ∃ m,p.n.toNat = m + 1:=⟨p.n.toNat - 1,by omega⟩;rw [hm];simp [bA,List.replicate_succ,nA,JE,List.append_assoc]
      ·have : p.n.toNat = 0:=by omega
       simp [this]
theorem hI {o : List Part} (ho : ∀ p∈o,ap p) : aU (normal o) = lW (aU o):=by
 have h:=(yr ho o.length (Nat.le_refl _)).2.2.2 [];rw [List.take_length,List.append_nil] at h;unfold normal;rw [y0,h];unfold bA;simp [nA]
theorem sI (l : List At) : frA (lW l) = frA l:=by unfold lW;rw [BN];omega
theorem sH (l : List At) : toA (lW l) = toA l:=by unfold lW;rw [BK];simp
def tA : List At->List At->List At × List At
 | .p c :: a,b=>(.p c :: (tA a b).1,.k :: (tA a b).2)
 | [],.p c :: b=>(.k :: (tA [] b).1,.p c :: (tA [] b).2)
 | .k :: a,.p c :: b=>(.k :: (tA (.k :: a) b).1,.p c :: (tA (.k :: a) b).2)
 | .d :: a,.p c :: b=>(.k :: (tA (.d :: a) b).1,.p c :: (tA (.d :: a) b).2)
 | .k :: a,.k :: b=>(.k :: (tA a b).1,.k :: (tA a b).2)
 | .k :: a,.d :: b=>((tA a b).1,.d :: (tA a b).2)
 | .d :: a,.k :: b=>(.d :: (tA a b).1,(tA a b).2)
 | .d :: a,.d :: b=>tA a b
 | [],_=>([],[])
 | _,[]=>([],[])
termination_by a b=>a.length + b.length
def noP : List At->Bool
 | .p _ :: _=>false
 | _=>true
theorem OE {c : Int} {a b : List At} : tA (.p c :: a) b = (.p c :: (tA a b).1,.k :: (tA a b).2):=by rw [tA]
theorem HL {c : Int} {a b : List At} (h : noP a = true) : tA a (.p c :: b) = (.k :: (tA a b).1,.p c :: (tA a b).2):=by
 match a,h with
 | [],_=>rw [tA]
 | .k :: a,_=>rw [tA]
 | .d :: a,_=>rw [tA]
theorem Jx {a b : List At} : ∀ Q : List Int,tA (Q.map At.p ++ a) b = (Q.map At.p ++ (tA a b).1,List.replicate Q.length .k ++ (tA a b).2)
 | []=>by simp
 | c :: Q=>by simp [OE,Jx Q,List.replicate_succ]
theorem E5 {a b : List At} (h : noP a = true) : ∀ Q : List Int,tA a (Q.map At.p ++ b) = (List.replicate Q.length .k ++ (tA a b).1,Q.map At.p ++ (tA a b).2)
 | []=>by simp
 | c :: Q=>by simp [HL h,E5 h Q,List.replicate_succ]
theorem Jy {a b : List At} : ∀ n : Nat,tA (List.replicate n .k ++ a) (List.replicate n .k ++ b) = (List.replicate n .k ++ (tA a b).1,List.replicate n .k ++ (tA a b).2)
 | 0=>by simp
 | n + 1=>by simp [List.replicate_succ,tA,Jy n]
theorem Jz {a b : List At} : ∀ n : Nat,tA (List.replicate n .k ++ a) (List.replicate n .d ++ b) = ((tA a b).1,List.replicate n .d ++ (tA a b).2)
 | 0=>by simp
 | n + 1=>by simp [List.replicate_succ,tA,Jz n]
theorem JA {a b : List At} : ∀ n : Nat,tA (List.replicate n .d ++ a) (List.replicate n .k ++ b) = (List.replicate n .d ++ (tA a b).1,(tA a b).2)
 | 0=>by simp
 | n + 1=>by simp [List.replicate_succ,tA,JA n]
theorem JB {a b : List At} : ∀ n : Nat,tA (List.replicate n .d ++ a) (List.replicate n .d ++ b) = tA a b
 | 0=>by simp
 | n + 1=>by simp [List.replicate_succ,tA,JB n]
theorem gu : ∀ {x : List Part},(∀ p∈x,ap p)->aU (nxt x) = aU x
 | [],_=>rfl
 | p :: l, h => by
   have ih:=gu (x:=l) (λq hq=>h q (List.mem_cons_of_mem _ hq));unfold nxt
   split
   ·rename_i hz
    rw [ih,aU]
    have : ats p = []:=by
     have hp:=h p (List.mem_cons_self ..);unfold ats
     split
     ·rename_i k;rw [BE hp k] at hz;simp [List.eq_nil_of_length_eq_zero hz]
     ·split<;>simp [hz]
    simp [this]
   ·rfl
theorem qw {p : Part} (h : ap p) {n : Nat} (hn : n<=psz p) : ats p = ats (eQ p n) ++ ats (bk p n):=by
 have hb:=h.bounds;by_cases k2 : p.kind = 2
 ·unfold ats eQ bk
  simp only [k2,if_true];rw [<- List.map_append,List.take_append_drop]
 ·have hs:=hb.2.2.2.2.2 k2
  have hz : psz p = p.n.toNat:=by simp [psz,hs]
  have e : p.n.toNat = n + (p.n - n).toNat:=by omega
  by_cases k3 : p.kind = 3
  ·unfold ats eQ bk
   simp only [k3,if_true];simp [psz,hs];omega
  ·unfold ats eQ bk
   simp only [k2,if_false,k3];simp [psz,hs];omega
theorem tL {p : Part} (h : ap p) : ats (bk p (psz p)) = []:=by
 have h1:=qw h (Nat.le_refl (psz p));rw [dF h] at h1
 simpa using h1
theorem Cb {p : Part} (_h : ap p) (k : p.kind≠2) : ats p = if p.kind = 3 then List.replicate (psz p) .d else List.replicate (psz p) .k:=by unfold ats;rw [if_neg k]
theorem nq {p : Part} (h : ap p) (k : p.kind≠2) {n : Nat} (hn : n<=psz p) : ats (eQ p n) = if p.kind = 3 then List.replicate n .d else List.replicate n .k:=by
 have hs:=h.bounds.2.2.2.2.2 k;have : psz (eQ p n) = n:=by unfold psz eQ;rw [if_neg k];simp [hs]
 rw [Cb (m4 h hn) (by simpa using k),this];simp
theorem I6 {p : Part} (h : ap p) (k : p.kind≠2) (hp : 0 < psz p) (l : List At) : noP (ats p ++ l) = true:=by
 rw [Cb h k];obtain ⟨m,hm⟩ : ∃ m,psz p = m + 1:=⟨psz p - 1,by omega⟩;rw [hm]
 split<;>simp [List.replicate_succ,noP]
theorem rR {x y : List Part} (hi : TInv x y) (h : cZ x y = none) : nxt x = []/\nxt y = []:=by
 have hxt:=ja x;have hyf:=ja y;have hb:=hi.b;unfold cZ at h
 cases ex : nxt x with
 | nil =>
   rw [ex] at h hxt
   cases ey : nxt y with
   | nil=>exact ⟨rfl,rfl⟩
   | cons q y' =>
     rw [ey] at hyf;have hp:=dW ey;simp only [ey] at h
     split at h
     ·cases h
     ·rename_i k
      simp [frs,k] at hxt hyf;omega
 | cons p x' =>
   rw [ex] at h hxt;have hp:=dW ex;simp only at h
   split at h
   ·cases h
   ·rename_i k
    cases ey : nxt y with
    | nil =>
      rw [ey] at hyf;simp [frs,k] at hxt hyf;omega
    | cons q y' =>
      simp only [ey] at h
      split at h<;>cases h
theorem D4 : ∀ (k : Nat) {x y : List Part},TInv x y->tsz x + tsz y<=k->(aU (xfK k x y).1,aU (xfK k x y).2) = tA (aU x) (aU y)
 | 0, x, y, hi, h => by
   have hn : cZ x y = none:=by
    cases hs : cZ x y with
    | none=>rfl
    | some r=>have:=(dk hi hs).dec;omega
   obtain ⟨e1,e2⟩:=rR hi hn;rw [<- gu hi.px,<- gu hi.py,e1,e2];simp [xfK,aU,tA]
 | k + 1, x, y, hi, h => by
   rw [xfK]
   cases hs : cZ x y with
   | none =>
     obtain ⟨e1,e2⟩:=rR hi hs;rw [<- gu hi.px,<- gu hi.py,e1,e2];simp [aU,tA]
   | some r =>
     have hn:=dk hi hs;have hd:=hn.dec;have ih:=D4 k hn.inv (by omega);simp only [fJ];rw [<- gu hi.px,<- gu hi.py];generalize xfK k r.2.1 r.2.2 = Z at ih ⊢;unfold cZ at hs
     cases ex : nxt x with
     | nil =>
       rw [ex] at hs
       cases ey : nxt y with
       | nil=>simp [ey] at hs
       | cons q y' =>
         have hq:=fZ hi.py ey;simp only [ey] at hs
         split at hs
         ·rename_i kq
          cases hs
          simp only [aU,tL hq.1,List.nil_append] at ih;simp only [aU,dF hq.1,List.append_nil];rw [show ats q = q.signs.map At.p by unfold ats;rw [if_pos kq],E5 rfl,<- ih];simp [ats,psz]
         ·cases hs
     | cons p x' =>
       rw [ex] at hs;have hp:=fZ hi.px ex;have hpp:=dW ex;simp only at hs
       split at hs
       ·rename_i kp
        cases hs
        simp only [aU,tL hp.1,List.nil_append] at ih;simp only [aU,dF hp.1,List.append_nil,gu hi.py];rw [show ats p = p.signs.map At.p by unfold ats;rw [if_pos kp],Jx,<- ih];simp [ats,psz]
       ·rename_i kp
        cases ey : nxt y with
        | nil=>simp [ey] at hs
        | cons q y' =>
          have hq:=fZ hi.py ey;have hqp:=dW ey;simp only [ey] at hs
          split at hs
          ·rename_i kq
           cases hs
           simp only [aU,tL hq.1,List.nil_append] at ih;simp only [aU,dF hq.1,List.append_nil];rw [show ats q = q.signs.map At.p by unfold ats;rw [if_pos kq],E5 (I6 hp.1 kp hpp _),<- ih];simp [ats,psz]
          ·rename_i kq
           cases hs
           have hn1 : min (psz p) (psz q)<=psz p:=by omega
           have hn2 : min (psz p) (psz q)<=psz q:=by omega
           simp only [aU] at ih ⊢;rw [qw hp.1 hn1,qw hq.1 hn2,nq hp.1 kp hn1,nq hq.1 kq hn2,List.append_assoc,List.append_assoc];have hb1:=hp.1.bounds.1;have hb2:=hq.1.bounds.1;generalize min (psz p) (psz q) = n at ih hn1 hn2 ⊢;by_cases k1 : p.kind = 3<;>by_cases k2 : q.kind = 3
           ·have e1 : ¬ p.kind = 1:=by omega
            have e2 : ¬ q.kind = 1:=by omega
            simp only [k1,k2,if_true,JB,<- ih];simp [aU]
           ·have e1 : ¬ p.kind = 1:=by omega
            have e2 : q.kind = 1:=by omega
            simp only [k1,k2,if_true,if_false,JA,<- ih];simp [aU,e2,nq hp.1 kp hn1,k1]
           ·have e1 : p.kind = 1:=by omega
            have e2 : ¬ q.kind = 1:=by omega
            simp only [k1,k2,if_true,if_false,Jz,<- ih];simp [aU,e1,nq hq.1 kq hn2,k2]
           ·have e1 : p.kind = 1:=by omega
            have e2 : q.kind = 1:=by omega
            simp only [k1,k2,if_false,Jy,<- ih];simp [aU,e1,e2,nq hp.1 kp hn1,nq hq.1 kq hn2]
theorem NL {x y : List Part} (hi : TInv x y) : (aU (xf x y).1,aU (xf x y).2) = tA (aU x) (aU y):=D4 _ hi (Nat.le_refl _)
theorem kZ : ∀ (a b : List At),frA a = frA b->frA (tA a b).1 = toA b/\frA (tA a b).2 = toA a/\toA (tA a b).1 = toA (tA a b).2
 | .p c :: a, b, h => by
   have ih:=kZ a b (by simpa [frA] using h);rw [OE];simp [frA,toA];omega
 | [], .p c :: b, h => by
   have ih:=kZ [] b (by simpa [frA] using h);rw [HL rfl];simp [frA,toA] at ih ⊢;omega
 | .k :: a, .p c :: b, h => by
   have ih:=kZ (.k :: a) b (by simpa [frA] using h);rw [HL rfl];simp [frA,toA] at ih ⊢;omega
 | .d :: a, .p c :: b, h => by
   have ih:=kZ (.d :: a) b (by simpa [frA] using h);rw [HL rfl];simp [frA,toA] at ih ⊢;omega
 | .k :: a, .k :: b, h => by
   have ih:=kZ a b (by simpa [frA] using h);rw [tA];simp [frA,toA];omega
 | .k :: a, .d :: b, h => by
   have ih:=kZ a b (by simpa [frA] using h);rw [tA];simp [frA,toA];omega
 | .d :: a, .k :: b, h => by
   have ih:=kZ a b (by simpa [frA] using h);rw [tA];simp [frA,toA];omega
 | .d :: a, .d :: b, h => by
   have ih:=kZ a b (by simpa [frA] using h);rw [tA];simp [toA];omega
 | [],[],h=>by simp [tA,frA,toA]
 | [],.k :: b,h=>by simp [frA] at h
 | [],.d :: b,h=>by simp [frA] at h
 | .k :: a,[],h=>by simp [frA] at h
 | .d :: a,[],h=>by simp [frA] at h
termination_by a b=>a.length + b.length
theorem Jw {x y : List Part} (hi : TInv x y) : (∀ p∈(xf x y).1,ap p)/\∀ p∈(xf x y).2,ap p:=by
 have key : ∀ (k : Nat) {x y : List Part},TInv x y->(∀ p∈(xfK k x y).1,ap p)/\∀ p∈(xfK k x y).2,ap p:=by
  intro k
  induction k with
  | zero=>intro x y hi;simp [xfK]
  | succ k ih =>
    intro x y hi;rw [xfK]
    cases hs : cZ x y with
    | none=>simp
    | some r =>
      have hn:=dk hi hs;have h2:=ih hn.inv;simp only [List.mem_append];exact ⟨λp hp=>hp.elim (hn.okx p) (h2.1 p),λp hp=>hp.elim (hn.oky p) (h2.2 p)⟩
 exact key _ hi
structure TrOk (a b : List Part) : Prop where
 oka : bN a
 okb : bN b
 from_ : br a = br b
 okx : bN (aC a b).1
 oky : bN (aC a b).2.1
 fx : br (aC a b).1 = jJ b
 fy : br (aC a b).2.1 = jJ a
 to : jJ (aC a b).1 = jJ (aC a b).2.1
 ax : aU (aC a b).1 = lW (tA (aU a) (aU b)).1
 ay : aU (aC a b).2.1 = lW (tA (aU a) (aU b)).2
theorem uz {a b : List Part} (h : (aC a b).2.2 = true) : TrOk a b:=by
 unfold aC at h
 split at h
 ·rename_i h1
  split at h
  ·rename_i h2
   have e : aC a b = (normal (xf a b).1,normal (xf a b).2,true):=by unfold aC;rw [if_pos h1,if_pos h2]
   have hi:=rE h1.1 h1.2.1 h1.2.2;have hat:=NL hi;have hk:=Jw hi;have e1 : aU (xf a b).1 = (tA (aU a) (aU b)).1:=by rw [<- hat]
   have e2 : aU (xf a b).2 = (tA (aU a) (aU b)).2:=by rw [<- hat]
   have l:=kZ (aU a) (aU b) (by rw [<- oq,<- oq];exact hi.b);have n1:=hI hk.1;have n2:=hI hk.2;have f1:=kO h2.1;have f2:=kO h2.2;have t1:=pK h2.1;have t2:=pK h2.2;have t3:=pK h1.1;have t4:=pK h1.2.1;rw [oq,n1,sI,e1,l.1] at f1;rw [oq,n2,sI,e2,l.2.1] at f2;rw [pL h2.1.1.1,n1,sH,e1] at t1;rw [pL h2.2.1.1,n2,sH,e2] at t2;rw [pL h1.1.1.1] at t3;rw [pL h1.2.1.1.1] at t4;rw [e1] at n1;rw [e2] at n2;refine ⟨h1.1,h1.2.1,h1.2.2,?_,?_,?_,?_,?_,?_,?_⟩<;>rw [e]
   ·exact h2.1
   ·exact h2.2
   ·simp only;omega
   ·simp only;omega
   ·simp only;have:=l.2.2;omega
   ·exact n1
   ·exact n2
  ·simp at h
 ·simp at h
open Go.AM
noncomputable def iP : List (List Part)->List Part->Option (List Part)
 | [],v=>some v
 | a :: l,v=>if (aC a v).2.2 = true then iP l (aC a v).2.1 else none
open Classical in
noncomputable def gr (l : List (List Part)) (b : List Part) : List Part × Bool:=
 if bN b then match iP l (bV b) with
  | some v=>(v,true)
  | none=>([],false)
 else ([],false)
structure Shp (q : Part) : Prop where
 k : q.kind = 1\/q.kind = 2\/q.kind = 3
 n : 0<=q.n
 put : q.kind = 2->q.n = 0/\dS q.signs
 run : q.kind≠2->q.signs = []
 pos : 0 < psz q
theorem uS {L : List Part} {P : List Int} {D : Int} (hL : ∀ q∈L,Shp q) (hP : dS P) : ∀ q∈aJ L P D,Shp q:=by
 intro q hq;unfold aJ at hq;rcases List.mem_append.1 hq with hq | hq
 ·exact hL q hq
 ·rcases List.mem_append.1 hq with hq | hq
  ·split at hq
   ·simp at hq
   ·rename_i h
    simp at hq;subst hq;have : 0 < P.length:=List.length_pos_iff.2 h;exact ⟨.inr (.inl rfl),by simp,λ_=>⟨rfl,hP⟩,λh=>absurd rfl h,by simpa [psz] using this⟩
  ·split at hq
   ·rename_i h
    simp at hq;subst hq;exact ⟨.inr (.inr rfl),by simp only;omega,λh=>by simp at h,λ_=>rfl,by simp [psz];omega⟩
   ·simp at hq
theorem Fc {L : List Part} {n : Int} (hL : ∀ q∈L,Shp q) (hn : 0 < n) : ∀ q∈bS L n,Shp q:=by
 intro q hq;have one : Shp ⟨1,n,[]⟩:=⟨.inl rfl,by simp only;omega,λh=>by simp at h,λ_=>rfl,by simp [psz];omega⟩;unfold bS at hq
 split at hq
 ·rename_i hl
  split at hq
  ·rename_i k
   rcases List.mem_or_eq_of_mem_set hq with hq | rfl
   ·exact hL q hq
   ·have h:=hL (L[L.length - 1]'(by omega)) (List.getElem_mem _)
    have h1:=h.n;have h2:=h.run (by omega);exact ⟨.inl rfl,by simp only;omega,λh=>by simp at h,λ_=>h2,by simp [psz];omega⟩
  ·rcases List.mem_append.1 hq with hq | hq
   ·exact hL q hq
   ·simp at hq;subst hq;exact one
 ·simp at hq;subst hq;exact one
theorem ve {o : List Part} (ho : ∀ p∈o,ap p) : ∀ (i : Nat),i<=o.length->(∀ q∈(a9 (o.take i)).1,Shp q)/\dS (a9 (o.take i)).2.1
 | 0,_=>by simp [a9,dS]
 | i + 1, hi => by
   obtain ⟨h1,h2⟩:=ve ho i (by omega);have hlt : i < o.length:=by omega
   have hp:=ho _ (List.getElem_mem hlt);rw [gj hlt];generalize a9 (o.take i) = s at h1 h2;generalize o[i] = p at hp;obtain ⟨L,P,D⟩:=s;simp only at h1 h2;unfold dm
   split
   ·rename_i k
    rw [ga k] at hp;refine ⟨h1,λn hn=>?_⟩;rcases List.mem_append.1 hn with hn | hn
    ·exact h2 n hn
    ·exact hp.2.2 n hn
   ·split
    ·exact ⟨h1,h2⟩
    ·split
     ·rename_i hn
      exact ⟨Fc (uS h1 h2) hn,by simp [dS]⟩
     ·exact ⟨h1,h2⟩
theorem sF {o : List Part} (ho : ∀ p∈o,ap p) : ∀ q∈normal o,Shp q:=by
 have h:=ve ho o.length (Nat.le_refl _);rw [List.take_length] at h;exact uS h.1 h.2
theorem Bn : ∀ {L : List Part},(∀ q∈L,Shp q)->tos L = toA (aU L)
 | [],_=>rfl
 | p :: L, h => by
   have hp:=h p (List.mem_cons_self ..);simp only [tos,aU,f5,Bn (λq hq=>h q (List.mem_cons_of_mem _ hq))]
   congr 1
   unfold ats;by_cases k : p.kind = 2
   ·have k3 : ¬ p.kind = 3:=by omega
    have:=(hp.put k).1;rw [if_pos k,if_neg k3,rW];simp [psz,this]
   ·rw [if_neg k]
    split
    ·exact (rX _).symm
    ·exact (zJ _).symm
theorem IQ {L : List Part} {q : Part} (h : q∈L) (k : q.kind≠2) : psz q<=frs L:=by
 induction L with
 | nil=>simp at h
 | cons p L ih =>
   simp only [frs];rcases List.mem_cons.1 h with rfl | h
   ·rw [if_neg k];omega
   ·have:=ih h;omega
theorem HK {L : List Part} {q : Part} (h : q∈L) (k : q.kind≠3) : psz q<=tos L:=by
 induction L with
 | nil=>simp at h
 | cons p L ih =>
   simp only [tos];rcases List.mem_cons.1 h with rfl | h
   ·rw [if_neg k];omega
   ·have:=ih h;omega
theorem Bm : ∀ {L : List Part},(∀ q∈L,Shp q)->L.length<=tsz L
 | [],_=>by simp [tsz]
 | p :: L, h => by
   have:=Bm (λq hq=>h q (List.mem_cons_of_mem _ hq));have:=(h p (List.mem_cons_self ..)).pos;simp only [tsz,List.length_cons];omega
theorem Ly {L : List Part} (h : ∀ q∈L,Shp q) (h1 : frs L<=200) (h2 : tos L<=200) : cW L:=by
 have hl:=Bm h;have ht:=zH L;refine ⟨λq hq=>?_,by omega⟩;have hs:=h q hq;have hn:=hs.n;by_cases k : q.kind = 2
 ·have h3:=HK hq (by omega)
  have h4:=hs.put k;exact .inr ⟨k,h4.1,by unfold psz at h3;omega,h4.2⟩
 ·have h3:=IQ hq k
  have h4:=hs.run k;have hk:=hs.k;exact .inl ⟨by omega,⟨hn,by unfold psz at h3;omega⟩,h4⟩
theorem sE {o : List Part} (h : cW o) : (frs o : Int) = br o:=by
 rw [wM h.1,f9 (λp hp=>MG (h.1 p hp)),jk];unfold br cI;rw [if_pos h]
theorem yj {o : List Part} (h : cW o) : (tos o : Int) = jJ o:=by
 rw [vS h.1,f9 (λp hp=>MF (h.1 p hp)),jk];unfold jJ cI;rw [if_pos h]
theorem pV {o : List Part} (h : bN o) : bN (normal o)/\br (normal o) = br o/\jJ (normal o) = jJ o:=by
 have hs:=sF h.1.1;have e1 : frs (normal o) = frs o:=by rw [oq,hI h.1.1,sI,<- oq]
 have e2 : tos (normal o) = tos o:=by rw [Bn hs,hI h.1.1,sH,<- pL h.1.1]
 have f:=kO h;have t:=pK h;have hp:=Ly hs (by have:=h.2.1;omega) (by have:=h.2.2;omega);have f2:=sE hp;have t2:=yj hp;have:=h.2;exact ⟨⟨hp,by omega,by omega⟩,by omega,by omega⟩
theorem CF {o : List Part} (h : bN o) : bN (bV o)/\br (bV o) = br o/\jJ (bV o) = jJ o:=by
 have : bV o = normal o:=by unfold bV;rw [if_pos h]
 rw [this];exact pV h
def bf (c s r : Int) : List Seen->List Seen
 | []=>[⟨c,s,r⟩]
 | x :: l=>if x.client < c then x :: bf c s r l else if x.client = c then ⟨c,s,r⟩ :: l else ⟨c,s,r⟩ :: x :: l
noncomputable def a8 (d : Doc) (e : Entry) : Doc:=
 if d.list.length < 8 then ⟨d.name,d.fr,d.text,d.list ++ [e],bf e.client e.seq (ac d + 1) d.seen⟩
 else ⟨d.name,d.fr + 1,(apply ((d.list ++ [e])[0]'(by simp)).o d.text).1,(d.list ++ [e]).drop 1,bf e.client e.seq (ac d + 1) d.seen⟩
open Classical in
noncomputable def cK (d : Doc) (base : Int) (o : List Part) : List Part × Int:=
 if aL d/\bN o then
  if ac d < base then ([],2) else if base < d.fr then ([],3) else
  if br o = (dL d base).1.length then
   if (gr ((d.list.drop (base - d.fr).toNat).map Entry.o) o).2 = true then ((gr ((d.list.drop (base - d.fr).toNat).map Entry.o) o).1,0) else ([],5)
  else ([],1)
 else ([],1)
def xP (d : Doc) (client seq : Int) (o : List Part) : Prop:=aL d/\(1<=client/\client<=8)/\(1<=seq/\seq<=1000000000)/\bN o
open Classical in
noncomputable def bJ (d : Doc) (client seq base : Int) (o : List Part) : Doc × Int × Int:=
 if xP d client seq o then
  if (ca d client).1.seq = seq then (d,(ca d client).1.rev,0)
  else if (ca d client).1.seq + 1 = seq then
   if (cK d base o).2 = 0 then
    if 999999000<=ac d then (Doc.zero,0,5) else (a8 d ⟨client,seq,(cK d base o).1⟩,ac d + 1,0)
   else (Doc.zero,0,(cK d base o).2)
  else (Doc.zero,0,4)
 else (Doc.zero,0,1)
open Classical in
noncomputable def ge (d : Doc) (rev : Int) : List Entry × Int:=
 if aL d then if ac d < rev then ([],2) else if rev < d.fr then ([],3) else (d.list.drop (rev - d.fr).toNat,0) else ([],1)
theorem sD : ∀ (l : List (List Part)) (t u : List Int) (v v' : List Part),az l t = some u->iP l v = some v'->bN v->br v = t.length->bN v'/\br v' = u.length
 | [], t, u, v, v', h1, h2, h3, h4 => by
   simp only [az,Option.some.injEq] at h1;simp only [iP,Option.some.injEq] at h2;subst h1 h2;exact ⟨h3,h4⟩
 | a :: l, t, u, v, v', h1, h2, h3, h4 => by
   rw [az] at h1;rw [iP] at h2
   split at h1
   ·rename_i ha
    split at h2
    ·rename_i ht
     have k:=uz ht;have hl:=(je (ji.1 ha)).2;exact sD l _ u _ v' h1 h2 k.oky (by rw [k.fy];omega)
    ·cases h2
   ·cases h1
theorem fL : ∀ (l m : List (List Part)) (t : List Int),az (l ++ m) t = (az l t).bind (az m)
 | [],m,t=>by simp [az]
 | o :: l, m, t => by
   rw [List.cons_append,az,az]
   split
   ·exact fL l m _
   ·simp
theorem kT : ∀ (l : List (List Part)) (t u : List Int),cH t->az l t = some u->cH u
 | [],t,u,h,e=>by simp only [az,Option.some.injEq] at e;exact e ▸ h
 | o :: l, t, u, h, e => by
   rw [az] at e
   split at e
   ·rename_i ha
    exact kT l _ u (je (ji.1 ha)).1 e
   ·cases e
theorem l9 {d : Doc} (h : aL d) {rev : Int} (h1 : d.fr <= rev) (h2 : rev <= ac d) : (dL d rev).2 = true /\ az ((d.list.take (rev - d.fr).toNat).map Entry.o) d.text = some (dL d rev).1 /\ cH (dL d rev).1 /\
 az ((d.list.drop (rev - d.fr).toNat).map Entry.o) (dL d rev).1 = az (d.list.map Entry.o) d.text:=by
 have hs:=h.2.2.2.2.2.1;have ht:=h.2.2.1;have e : d.list.map Entry.o = (d.list.take (rev - d.fr).toNat).map Entry.o ++ (d.list.drop (rev - d.fr).toNat).map Entry.o:=by rw [<- List.map_append,List.take_append_drop]
 have e2 : dL d rev = df ((d.list.take (rev - d.fr).toNat).map Entry.o) d.text:=by unfold dL;rw [if_pos ⟨h,h1,h2⟩]
 rw [e,fL] at hs
 cases hx : az ((d.list.take (rev - d.fr).toNat).map Entry.o) d.text with
 | none=>rw [hx] at hs;simp at hs
 | some u =>
   have e3 : df ((d.list.take (rev - d.fr).toNat).map Entry.o) d.text = (u,true):=by unfold df;rw [if_pos ht,hx]
   rw [e2,e3];refine ⟨rfl,rfl,kT _ _ _ ht hx,?_⟩
   conv=>rhs;rw [e,fL,hx]
   rfl
theorem nS {d : Doc} (h : aL d) : az (d.list.map Entry.o) d.text = some (cR d)/\cH (cR d):=by
 have hh:=aV h;have h0 : d.fr<=ac d:=by omega
 obtain ⟨h1,h2,h3,h4⟩:=l9 h h0 (by omega);have e : (ac d - d.fr).toNat = d.list.length:=by omega
 rw [e,List.take_length] at h2;exact ⟨h2,h3⟩
theorem pg {d : Doc} {base : Int} {o : List Part} (hd : aL d) (ho : bN o) (h1 : d.fr<=base) (h2 : base<=ac d) (hf : br o = (dL d base).1.length)
 (hp : (gr ((d.list.drop (base - d.fr).toNat).map Entry.o) o).2 = true) : iB (gr ((d.list.drop (base - d.fr).toNat).map Entry.o) o).1 (cR d):=by
 obtain ⟨k1,k2,k3,k4⟩:=l9 hd h1 h2;obtain ⟨m1,m2⟩:=nS hd;rw [m1] at k4;unfold gr at hp ⊢;rw [if_pos ho] at hp ⊢
 cases hx : iP ((d.list.drop (base - d.fr).toNat).map Entry.o) (bV o) with
 | none=>rw [hx] at hp;simp at hp
 | some v =>
   have hn:=CF ho;have:=sD _ _ _ _ _ k4 hx hn.1 (by rw [hn.2.1,hf]);exact ⟨this.1,m2,this.2⟩
set_option maxHeartbeats 1600000
theorem Fh (l : List Seen) : ∀ a∈l,∀ d∈a.row,isV d = true:=by
 intro a _ d hd;simp [Seen.row] at hd;rcases hd with rfl | rfl | rfl<;>rfl
theorem fV (l : List Entry) (hl : nL aQ l<=2 ^ 30) : aj Tryz.prog 296 [.c (.s (l.map Entry.row))] (.one (.c (.s (l.map Entry.row)) 3)):=by
 refine pci ae Tryz.func296 (λw0 base=>?_);have hle:=aA hl;simp;refine ag eok (λx : Nat × Hd=>x.1<=l.length) (λx=>⟨22,0,[(8,.v (.int .i64 x.1)),(7,.v (.int .i64 l.length)),(6,.ro (l.map Entry.row)),(3,.sl 5000 x.2 3 0 x.1)],[(5000,.rows x.2 3 ((l.take x.1).map Entry.row) true)]⟩) (λx=>l.length - x.1) (0,none) (by simp) (by simp) (λx hx=>Ent.refl ?_);obtain ⟨i,H⟩:=x;simp only at hx ⊢;by_cases hlt : i < l.length
 ·have hm:=dB hl hlt
  unfold aQ at hm;simp [hlt,Entry.row];intro b5;refine aa.pure (tD l[i].o hm) (by simp) ?_;simp;intro H1;have e1 : min i l.length = i:=by omega
  simp [e1];intro b6;refine ⟨by omega,λH2=>Ent.refl ⟨i + 1,by omega,by omega,H2,?_⟩⟩;simp;exact ⟨ah (by omega),cT (f:=Entry.row) hlt⟩
 ·have e : l.length = i:=by omega
  simp [hlt];rw [List.take_of_length_le (by simp;omega)];simp [cut,e]
theorem sR (e : Entry) (hl : aQ e<=2 ^ 30) : aj Tryz.prog 381 [.agg e.row] (.one (.agg e.res)):=by
 refine pci ae Tryz.func381 (λw0 base=>?_);unfold aQ at hl;simp [Entry.row];intro b1 b2;refine drw eok mix [0,1,2,3,4,5] [6,7,8] (.c 6 6 1 62 (.c 6 7 20 42 (.c 6 8 42 0 (.l 6 0) .s) .s) .s) ?_;simp
 try intros
 refine aa.pure (p6 e.o (by omega)) (by simp) ?_;simp
 try intros
 simp [Entry.res]
theorem dZ (l : List Entry) (hl : nL aQ l<=2 ^ 30) : aj Tryz.prog 339 [.c (.s (l.map Entry.row))] (.one (.c (.s (l.map Entry.row)) 3)):=by
 refine pci ae Tryz.func339 (λw0 base=>?_);have hle:=aA hl;simp;intro b6;refine ag eok (λx : Nat × Hd=>x.1<=l.length) (λx=>⟨20,0,[(9,.v (.int .i64 x.1)),(8,.v (.int .i64 l.length)),(7,.ro (l.map Entry.row)),(3,.sl 96 x.2 3 0 x.1)],[(96,.rows x.2 3 ((l.take x.1).map Entry.row) true)]⟩) (λx=>l.length - x.1) (0,some (b6,0,0)) (by simp) (by simp) (λx hx=>Ent.refl ?_);obtain ⟨i,H⟩:=x;simp only at hx ⊢;by_cases hlt : i < l.length
 ·have hm:=dB hl hlt
  simp [hlt,Entry.row];intro b5;refine aa.pure (sR l[i] hm) (by simp [Entry.row]) ?_;simp [Entry.res];intro H1;have e1 : min i l.length = i:=by omega
  simp [e1];intro b7;refine ⟨by omega,λH2=>Ent.refl ⟨i + 1,by omega,by omega,H2,?_⟩⟩;simp;exact ⟨ah (by omega),cT (f:=Entry.row) hlt⟩
 ·have e : l.length = i:=by omega
  simp [hlt];rw [List.take_of_length_le (by simp;omega)];simp [cut,e]
theorem qv (d : Doc) (hl : cu d<=2 ^ 30) : aj Tryz.prog 211 [.agg d.row] (.one (.agg d.res)):=by
 refine pci ae Tryz.func211 (λw0 base=>?_);obtain ⟨n1,n2,n3,n4⟩:=ce hl;simp [Doc.row];intro b1 b2;refine drw eok mix [0,1,2,3,4,5,7,8,10,11] [6,9,12,13,14] (.c 10 6 16 1007 (.c 10 9 4 1003 (.c 10 12 1 1002 (.c 10 13 320 682 (.c 10 14 682 0 (.l 10 0) .s) .s) .s) .s) .s) ?_;simp
 try intros
 refine aa.pure (fw d.text (by omega)) (by simp) ?_;simp
 try intros
 refine aa.pure (fV d.list n1) (by simp) ?_;simp
 try intros
 refine ⟨Fh d.seen,by omega,λH=>?_⟩;simp [Doc.res]
theorem m9 (d : Doc) (hl : cu d<=2 ^ 30) : aj Tryz.prog 261 [.agg d.row] (.one (.agg d.res)):=by
 refine pci ae Tryz.func261 (λw0 base=>?_);obtain ⟨n1,n2,n3,n4⟩:=ce hl;simp [Doc.row];intro b1 b2;have h8 : d.text.length * 8<=140737488355328:=by omega
 have h24 : d.seen.length * 24<=140737488355328:=by omega
 refine drw eok mix [0,1,2,3,5,6,8,9,12,13] [4,7,10,11,14,15,16] (.c 10 4 0 1023 (.c 10 7 16 1007 (.c 10 10 4 1003 (.c 10 11 0 1003 (.c 10 14 1 1002 (.c 10 15 320 682 (.c 10 16 682 0 (.l 10 0) .s) .s) .s) .s) (.c 10 11 0 1007 (.c 10 10 4 1003 (.c 10 14 1 1002 (.c 10 15 320 682 (.c 10 16 682 0 (.l 10 0) .s) .s) .s) .s) .s)) (.c 10 11 0 1023 (.c 10 7 16 1007 (.c 10 10 4 1003 (.c 10 14 1 1002 (.c 10 15 320 682 (.c 10 16 682 0 (.l 10 0) .s) .s) .s) .s) .s) .s)) (.c 10 11 0 1023 (.c 10 4 0 1023 (.c 10 7 16 1007 (.c 10 10 4 1003 (.c 10 14 1 1002 (.c 10 15 320 682 (.c 10 16 682 0 (.l 10 0) .s) .s) .s) .s) .s) .s) .s)) ?_;simp
 try intros
 repeat' first
  | (refine aa.pure (dZ d.list n1) (by simp) ?_;simp [h24];try intros)
  | (rw [Trc];refine ⟨?_,?_⟩<;>(try simp [h8,h24])<;>try intros)
 all_goals
  simp [Doc.res];exact Fh d.seen
noncomputable def gR : List (List Part)->List Part->Option (List (List Part) × List Part)
 | [],v=>some ([],v)
 | a :: l,v=>if (aC a v).2.2 = true then (gR l (aC a v).2.1).map (λr=>((aC a v).1 :: r.1,r.2)) else none
theorem BI : ∀ (l : List (List Part)) (v : List Part),(gR l v).map Prod.snd = iP l v
 | [],v=>rfl
 | a :: l, v => by
   rw [gR,iP]
   split
   ·rw [<- BI l,Option.map_map];rfl
   ·rfl
open Classical in
noncomputable def e7 (l : List (List Part)) (b : List Part) : List (List Part) × List Part × Bool:=
 if bN b then match gR l (bV b) with
  | some r=>(r.1,r.2,true)
  | none=>([],[],false)
 else ([],[],false)
theorem tf (l : List (List Part)) (b : List Part) : (e7 l b).2 = gr l b:=by
 unfold e7 gr
 split
 ·rw [<- BI]
  cases gR l (bV b)<;>rfl
 ·rfl
theorem sB {l : List (List Part)} {i : Nat} {v : List Part} (h : i < l.length) : gR (l.drop i) v = if (aC l[i] v).2.2 = true then (gR (l.drop (i + 1)) (aC l[i] v).2.1).map (λr=>((aC l[i] v).1 :: r.1,r.2)) else none:=by
 rw [List.drop_eq_getElem_cons h,gR]
theorem u4 {l : List (List Part)} {i : Nat} {v : List Part} (h : l.length<=i) : gR (l.drop i) v = some ([],v):=by
 rw [List.drop_eq_nil_of_le h,gR]
theorem yP (l : List (List Part)) (b : List Part) (hl : l.length<=2 ^ 30) (hs : ∀ o∈l,nL aF o<=2 ^ 40) (hb : nL aF b<=2 ^ 40) : aj Tryz.prog 402 [.c (.s (l.map eJ)),.c (.s (b.map Part.row))]
 (.tup [.c (.s ((e7 l b).1.map eJ)) 1,.c (.s ((e7 l b).2.1.map Part.row)) 3,.c (.v (.bool (e7 l b).2.2)) 1]):=by
 refine pci ae Tryz.func402 (λw0 base=>?_);simp;refine aa.pure (eg b hb) (by simp) ?_;by_cases c1 : bN b
 rotate_left
 ·have e : e7 l b = ([],[],false):=by unfold e7;rw [if_neg c1]
  simp [ab c1,e]
 have e : e7 l b = match gR l (bV b) with
  | some r=>(r.1,r.2,true)
  | none=>([],[],false):=by unfold e7;rw [if_pos c1]
 simp [c1];refine aa.pure (o7 b hb) (by simp) ?_;simp;intro H0
 refine ag eok (λx : (Nat × List (List Part) × List Part × Nat) × Hd × Hd=>(x.1.2.2.2 = 288\/x.1.2.2.2 = 449)/\(x.1.1<=l.length/\x.1.2.1.length = x.1.1)/\nL aF x.1.2.2.1<=2 ^ 40/\gR l (bV b) = (gR (l.drop x.1.1) x.1.2.2.1).map (λr=>(x.1.2.1 ++ r.1,r.2)))
  (λx=>⟨42,0,[(21,.v (.int .i64 x.1.1)),(20,.v (.int .i64 l.length)),(19,.ro (l.map eJ)),(8,.sl x.1.2.2.2 x.2.2 3 0 x.1.2.2.1.length),(7,.sl 5000 x.2.1 1 0 x.1.2.1.length)],
   [(5000,.rows x.2.1 1 (x.1.2.1.map eJ) true),(x.1.2.2.2,.rows x.2.2 3 (x.1.2.2.1.map Part.row) true)]⟩) (λx=>l.length - x.1.1) ((0,[],bV b,288),none,H0) ⟨.inl rfl,by simp,by have:=oQ b;simp only;omega,by simp⟩ (by simp) (λx hx=>Ent.refl ?_)
 obtain ⟨⟨i,L,v,kk⟩,H1,H2⟩:=x;obtain ⟨hk,⟨hi,hLl⟩,hv,hp⟩:=hx;simp only at hk hi hLl hv hp ⊢;have k5 : ¬ kk = 5000:=by omega
 have k5' : ¬ 5000 = kk:=by omega
 by_cases hlt : i < l.length
 ·rw [sB hlt] at hp
  have hn:=lE l[i] v;simp [hlt];refine aa.pure (ru l[i] v (hs _ (List.getElem_mem hlt)) hv) (by simp [k5]) ?_;generalize aC l[i] v = Q at hp hn ⊢;obtain ⟨x,y,ok⟩:=Q;simp only at hp hn ⊢;simp;intro G1 G2
  cases ok with
  | false =>
    simp at hp;rw [hp] at e;simp [e]
  | true =>
    simp only [if_true] at hp;simp;intro b6;refine ⟨by omega,λH=>Ent.refl ⟨i + 1,L ++ [x],y,449,⟨.inr rfl,⟨by omega,by simp;omega⟩,by omega,?_⟩,by omega,H,G2,?_⟩⟩
    ·rw [hp]
     cases gR (l.drop (i + 1)) y<;>simp
    ·simp
     exact ah (by omega)
 ·rw [u4 (by omega)] at hp
  simp only [Option.map_some,List.append_nil] at hp;rw [hp] at e;simp [hlt,e,k5]
theorem B5 (l : List (List Part)) (b : List Part) : nL aF (gr l b).1<=2 ^ 20:=by
 have key : ∀ (l : List (List Part)) (v u : List Part),nL aF v<=2 ^ 20->iP l v = some u->nL aF u<=2 ^ 20:=by
  intro l
  induction l with
  | nil=>intro v u h1 h2;simp only [iP,Option.some.injEq] at h2;exact h2 ▸ h1
  | cons a l ih =>
    intro v u h1 h2;rw [iP] at h2
    split at h2
    ·exact ih _ u (by have:=lE a v;omega) h2
    ·cases h2
 unfold gr
 split
 ·cases h : iP l (bV b) with
  | none=>simp [nL,bR]
  | some v=>exact key l _ v (oQ b) h
 ·simp [nL,bR]
theorem AC (l : List (List Part)) (b : List Part) (hl : l.length<=2 ^ 30) (hs : ∀ o∈l,nL aF o<=2 ^ 40) (hb : nL aF b<=2 ^ 40) : aj Tryz.prog 376 [.c (.s (l.map eJ)),.c (.s (b.map Part.row))]
 (.tup [.c (.s ((gr l b).1.map Part.row)) 3,.c (.v (.bool (gr l b).2)) 1]):=by
 refine pci ae Tryz.func376 (λw0 base=>?_);simp;refine aa.pure (yP l b hl hs hb) (by simp) ?_;rw [<- tf];generalize e7 l b = Q;obtain ⟨x,y,ok⟩:=Q;simp
theorem xR (l : List (List Part)) (b : List Part) (hl : l.length<=2 ^ 30) (hs : ∀ o∈l,nL aF o<=2 ^ 40) (hb : nL aF b<=2 ^ 40) : aj Tryz.prog 411 [.c (.s (l.map eJ)),.c (.s (b.map Part.row))]
 (.tup [.c (.s ((e7 l b).1.map eJ)) 1,.c (.s ((e7 l b).2.1.map Part.row)) 3,.c (.v (.bool (e7 l b).2.2)) 1]):=by
 refine pci ae Tryz.func411 (λw0 base=>?_);simp;refine aa.pure (d9 b hb) (by simp) ?_;by_cases c1 : bN b
 rotate_left
 ·have e : e7 l b = ([],[],false):=by unfold e7;rw [if_neg c1]
  simp [ab c1,e]
 have e : e7 l b = match gR l (bV b) with
  | some r=>(r.1,r.2,true)
  | none=>([],[],false):=by unfold e7;rw [if_pos c1]
 simp [c1];intro b9;refine aa.pure (oI b hb) (by simp) ?_;simp;intro H0
 refine ag eok (λx : (Nat × List (List Part) × List Part × Nat) × Hd × Hd=>(x.1.2.2.2 = 304\/x.1.2.2.2 = 465)/\(x.1.1<=l.length/\x.1.2.1.length = x.1.1)/\nL aF x.1.2.2.1<=2 ^ 40/\gR l (bV b) = (gR (l.drop x.1.1) x.1.2.2.1).map (λr=>(x.1.2.1 ++ r.1,r.2)))
  (λx=>⟨43,0,[(22,.v (.int .i64 x.1.1)),(21,.v (.int .i64 l.length)),(20,.ro (l.map eJ)),(8,.sl x.1.2.2.2 x.2.2 3 0 x.1.2.2.1.length),(7,.sl 272 x.2.1 1 0 x.1.2.1.length)],
   [(272,.rows x.2.1 1 (x.1.2.1.map eJ) true),(x.1.2.2.2,.rows x.2.2 3 (x.1.2.2.1.map Part.row) true)]⟩) (λx=>l.length - x.1.1) ((0,[],bV b,304),some (b9,0,0),H0) ⟨.inl rfl,by simp,by have:=oQ b;simp only;omega,by simp⟩ (by simp) (λx hx=>Ent.refl ?_)
 obtain ⟨⟨i,L,v,kk⟩,H1,H2⟩:=x;obtain ⟨hk,⟨hi,hLl⟩,hv,hp⟩:=hx;simp only at hk hi hLl hv hp ⊢;have k5 : ¬ kk = 272:=by omega
 have k5' : ¬ 272 = kk:=by omega
 by_cases hlt : i < l.length
 ·rw [sB hlt] at hp
  have hn:=lE l[i] v;simp [hlt];refine aa.pure (rn l[i] v (hs _ (List.getElem_mem hlt)) hv) (by simp [k5]) ?_;generalize aC l[i] v = Q at hp hn ⊢;obtain ⟨x,y,ok⟩:=Q;simp only at hp hn ⊢;simp;intro G1 G2
  cases ok with
  | false =>
    simp at hp;rw [hp] at e;simp [e]
  | true =>
    simp only [if_true] at hp;simp;intro b6;refine ⟨by omega,λH=>Ent.refl ⟨i + 1,L ++ [x],y,465,⟨.inr rfl,⟨by omega,by simp;omega⟩,by omega,?_⟩,by omega,H,G2,?_⟩⟩
    ·rw [hp]
     cases gR (l.drop (i + 1)) y<;>simp
    ·simp
     exact ah (by omega)
 ·rw [u4 (by omega)] at hp
  simp only [Option.map_some,List.append_nil] at hp;rw [hp] at e;simp [hlt,e,k5]
theorem zN (l : List (List Part)) (b : List Part) (hl : l.length<=2 ^ 30) (hs : ∀ o∈l,nL aF o<=2 ^ 40) (hb : nL aF b<=2 ^ 40) : aj Tryz.prog 405 [.c (.s (l.map eJ)),.c (.s (b.map Part.row))]
 (.tup [.c (.s ((gr l b).1.map Part.row)) 3,.c (.v (.bool (gr l b).2)) 1]):=by
 refine pci ae Tryz.func405 (λw0 base=>?_);simp;refine aa.pure (xR l b hl hs hb) (by simp) ?_;rw [<- tf];generalize e7 l b = Q;obtain ⟨x,y,ok⟩:=Q;simp
noncomputable def xp (d : Doc) (rev : Int) : Int:=if ac d < rev then 2 else if rev < d.fr then 3 else 0
theorem zi (d : Doc) (rev : Int) : aj Tryz.prog 334 [.agg d.row,.c (vi rev)] (.one (.c (vi (xp d rev)) 1)):=by
 refine pci ae Tryz.func334 (λw0 base=>?_);simp [Doc.row];intro b;refine aa.pure (bo d) (by simp [Doc.row]) ?_;unfold xp;by_cases c1 : ac d < rev
 ·simp [c1]
 ·by_cases c2 : rev < d.fr
  ·simp [c1,c2]
  ·simp [c1,c2]
open Classical in
noncomputable def iz (d : Doc) (rev : Int) : List (List Part) × Bool:=if aL d/\d.fr<=rev/\rev<=ac d then ((d.list.drop (rev - d.fr).toNat).map Entry.o,true) else ([],false)
theorem jO {d : Doc} {rev : Int} (h : ¬ (aL d/\d.fr<=rev/\rev<=ac d)) : iz d rev = ([],false):=by unfold iz;rw [if_neg h]
theorem iZ {d : Doc} {rev : Int} (h : aL d/\d.fr<=rev/\rev<=ac d) : iz d rev = ((d.list.drop (rev - d.fr).toNat).map Entry.o,true):=by unfold iz;rw [if_pos h]
theorem rZ {α : Type} {f : α->Nat} : ∀ (l : List α) (k : Nat),bR f (l.drop k)<=bR f l
 | [],k=>by simp
 | a :: l,0=>by simp
 | a :: l,k + 1=>by have:=rZ (f:=f) l k;simp only [List.drop_succ_cons,bR];omega
theorem oT {α : Type} {f : α->Nat} {l : List α} {k B : Nat} (h : nL f l<=B) : nL f (l.drop k)<=B:=by
 have:=rZ (f:=f) l k;unfold nL at *;simp only [List.length_drop];omega
theorem ij {l : List Entry} {k : Nat} (_h : k<=l.length) : cut (l.map Entry.row) k (l.length - k) = (l.drop k).map Entry.row:=by
 unfold cut
 split
 ·rename_i h1
  rw [h1.1];simp
 ·rw [<- List.map_drop,List.take_of_length_le (by simp)]
theorem sY (d : Doc) (hl : cu d<=2 ^ 30) (rev : Int) : aj Tryz.prog 375 [.agg d.row,.c (vi rev)] (.tup [.c (.s ((iz d rev).1.map eJ)) 1,.c (.v (.bool (iz d rev).2)) 1]):=by
 refine pci ae Tryz.func375 (λw0 base=>?_);obtain ⟨n1,n2,n3,n4⟩:=ce hl;simp [Doc.row];intro b2;refine am.quiet eok mix (by kernel_rfl) ?_;simp;refine ⟨_,_,fp d hl,by simp [Doc.row],?_⟩;by_cases c1 : aL d
 rotate_left
 ·have e:=jO (d:=d) (rev:=rev) (λh=>c1 h.1)
  simp [ab c1,e]
 simp [c1];refine ⟨_,_,bo d,by simp [Doc.row],?_⟩;simp;refine ⟨_,_,aO rev d.fr (ac d),by simp,?_⟩;by_cases c2 : d.fr<=rev/\rev<=ac d
 rotate_left
 ·have e:=jO (d:=d) (rev:=rev) (λh=>c2 h.2)
  simp [ab c2,e]
 have e:=iZ ⟨c1,c2⟩;have hh:=aV c1;obtain ⟨k,hk⟩ : ∃ k : Nat,rev - d.fr = k:=⟨(rev - d.fr).toNat,by omega⟩;have hkl : k<=d.list.length:=by omega
 have ew : Go.IntKind.i64.wrap (rev - d.fr) = (k : Int):=by rw [Go.IntWalk.i64_in _ (by omega)];omega
 rw [hk] at e;simp only [Int.toNat_natCast] at e;simp [c2,ew,hkl,ij hkl];refine aa.pure (wa (d.list.drop k) (oT n1)) (by simp) ?_;simp [e];intro row h;have:=List.mem_of_mem_drop h;simp at this;obtain ⟨x,-,rfl⟩:=this;rfl
theorem sf (d : Doc) (hl : cu d<=2 ^ 30) (rev : Int) : aj Tryz.prog 404 [.agg d.row,.c (vi rev)] (.tup [.c (.s ((iz d rev).1.map eJ)) 1,.c (.v (.bool (iz d rev).2)) 1]):=by
 refine pci ae Tryz.func404 (λw0 base=>?_);obtain ⟨n1,n2,n3,n4⟩:=ce hl;simp [Doc.row];intro b2;refine am.quiet eok mix (by kernel_rfl) ?_;simp;refine ⟨_,_,fj d hl,by simp [Doc.row],?_⟩;by_cases c1 : aL d
 rotate_left
 ·have e:=jO (d:=d) (rev:=rev) (λh=>c1 h.1)
  simp [ab c1,e]
 simp [c1];refine ⟨_,_,aN d,by simp [Doc.row],?_⟩;simp;refine ⟨_,_,aZ rev d.fr (ac d),by simp,?_⟩;by_cases c2 : d.fr<=rev/\rev<=ac d
 rotate_left
 ·have e:=jO (d:=d) (rev:=rev) (λh=>c2 h.2)
  simp [ab c2,e]
 have e:=iZ ⟨c1,c2⟩;have hh:=aV c1;obtain ⟨k,hk⟩ : ∃ k : Nat,rev - d.fr = k:=⟨(rev - d.fr).toNat,by omega⟩;have hkl : k<=d.list.length:=by omega
 have ew : Go.IntKind.i64.wrap (rev - d.fr) = (k : Int):=by rw [Go.IntWalk.i64_in _ (by omega)];omega
 rw [hk] at e;simp only [Int.toNat_natCast] at e;simp [c2,ew,hkl,ij hkl];intro b21;obtain ⟨l,hl'⟩ : ∃ l,d.list.drop k = l:=⟨_,rfl⟩;have hn : nL aQ l<=2 ^ 30:=hl' ▸ oT n1;have hll : d.list.length - k = l.length:=by rw [<- hl'];simp
 have hle:=aA hn;rw [hl'] at e;simp only [<- List.map_drop,hl',hll];refine ag eok (λx : Nat × Hd=>x.1<=l.length) (λx=>⟨42,0,[(30,.v (.int .i64 x.1)),(29,.v (.int .i64 l.length)),(28,.ro (l.map Entry.row)),(6,.sl 336 x.2 1 0 x.1)],[(336,.rows x.2 1 (((l.take x.1).map Entry.o).map eJ) true)]⟩) (λx=>l.length - x.1) (0,some (b21,0,0)) (by simp) (by simp) (λx hx=>Ent.refl ?_);obtain ⟨i,H⟩:=x;simp only at hx ⊢;by_cases hlt : i < l.length
 ·have hm:=dB hn hlt
  unfold aQ at hm;simp [hlt,Entry.row];intro b5;refine aa.pure (p6 l[i].o hm) (by simp) ?_;simp;intro H1 b;have e1 : i = min i l.length:=by omega
  refine ⟨e1,by omega,λH2=>Ent.refl ⟨i + 1,by omega,by omega,H2,?_⟩⟩;simp;exact ⟨ah (by omega),cT (f:=λe : Entry=>eJ e.o) hlt⟩
 ·have e2 : l.length = i:=by omega
  simp [hlt,e];have e1 : i<=min i l.length:=by omega
  refine ⟨e1,?_,?_⟩
  ·intro row hr
   have:=List.mem_of_mem_take hr;simp at this;obtain ⟨x,-,rfl⟩:=this;rfl
  ·rw [List.take_of_length_le (by simp;omega)]
   simp [cut,e2]
theorem tn (l : List Entry) (k : Nat) : ∀ row∈List.drop k (List.map Entry.row l),row.length = 3:=by
 intro row h;have:=List.mem_of_mem_drop h;simp at this;obtain ⟨x,-,rfl⟩:=this;rfl
open Classical in
theorem vz {d : Doc} {rev : Int} (h : ¬ aL d) : ge d rev = ([],1):=by unfold ge;rw [if_neg h]
theorem tj {d : Doc} {rev : Int} (h : aL d) : ge d rev = if ac d < rev then ([],2) else if rev < d.fr then ([],3) else (d.list.drop (rev - d.fr).toNat,0):=by unfold ge;rw [if_pos h]
theorem yQ (d : Doc) (hl : cu d<=2 ^ 30) (rev : Int) : aj Tryz.prog 248 [.agg d.row,.c (vi rev)] (.tup [.c (.s ((ge d rev).1.map Entry.row)) 3,.c (vi (ge d rev).2) 1]):=by
 refine pci ae Tryz.func248 (λw0 base=>?_);obtain ⟨n1,n2,n3,n4⟩:=ce hl;simp [Doc.row];intro b2;refine aa.pure (fp d hl) (by simp [Doc.row]) ?_;by_cases c1 : aL d
 rotate_left
 ·simp [ab c1,vz c1]
 have e:=tj (rev:=rev) c1;simp [c1];refine aa.pure (zi d rev) (by simp [Doc.row]) ?_;unfold xp;by_cases c2 : ac d < rev
 ·simp [c2,e]
 by_cases c3 : rev < d.fr
 ·simp [c2,c3,e]
 have hh:=aV c1;obtain ⟨k,hk⟩ : ∃ k : Nat,rev - d.fr = k:=⟨(rev - d.fr).toNat,by omega⟩;have hkl : k<=d.list.length:=by omega
 have ew : Go.IntKind.i64.wrap (rev - d.fr) = (k : Int):=by rw [Go.IntWalk.i64_in _ (by omega)];omega
 simp only [c2,c3,if_false,hk,Int.toNat_natCast] at e;simp [c2,c3,ew,hkl,ij hkl];refine aa.pure (fV (d.list.drop k) (oT n1)) (by simp) ?_;simp [e];exact tn _ _
theorem xT (d : Doc) (hl : cu d<=2 ^ 30) (rev : Int) : aj Tryz.prog 343 [.agg d.row,.c (vi rev)] (.tup [.c (.s ((ge d rev).1.map Entry.row)) 3,.c (vi (ge d rev).2) 1]):=by
 refine pci ae Tryz.func343 (λw0 base=>?_);obtain ⟨n1,n2,n3,n4⟩:=ce hl;simp [Doc.row];intro b2;refine aa.pure (fj d hl) (by simp [Doc.row]) ?_;by_cases c1 : aL d
 rotate_left
 ·simp [ab c1,vz c1]
 have e:=tj (rev:=rev) c1;simp [c1];refine aa.pure (aN d) (by simp [Doc.row]) ?_;by_cases c2 : ac d < rev
 ·simp [c2,e]
 by_cases c3 : rev < d.fr
 ·simp [c2,c3,e]
 have hh:=aV c1;obtain ⟨k,hk⟩ : ∃ k : Nat,rev - d.fr = k:=⟨(rev - d.fr).toNat,by omega⟩;have hkl : k<=d.list.length:=by omega
 have ew : Go.IntKind.i64.wrap (rev - d.fr) = (k : Int):=by rw [Go.IntWalk.i64_in _ (by omega)];omega
 simp only [c2,c3,if_false,hk,Int.toNat_natCast] at e;simp [c2,c3,ew,hkl,ij hkl];refine aa.pure (dZ (d.list.drop k) (oT n1)) (by simp) ?_;simp [e];exact tn _ _
theorem jo (d : Doc) (hl : cu d<=2 ^ 30) : aj Tryz.prog 324 [.agg d.row] (.one (.c (.s ((cR d).map ak)) 1)):=by
 refine pci ae Tryz.func324 (λw0 base=>?_);simp [Doc.row];intro b2;refine drw eok mix [0,1] [2,3,4,5,6,7,8] (.c 2 2 1 2 (.c 2 3 2 0 (.c 2 4 0 0 (.c 2 5 0 0 (.c 2 6 0 0 (.c 2 7 0 0 (.c 2 8 0 0 (.l 2 0) .s) .s) .s) .s) .s) .s) .s) ?_;simp
 try intros
 refine aa.pure (aN d) (by simp [Doc.row]) ?_;simp
 try intros
 refine aa.pure (ld d hl (ac d)) (by simp [Doc.row]) ?_;simp
 try intros
 simp [cR]
theorem mt (d : Doc) (hl : cu d<=2 ^ 30) : aj Tryz.prog 149 [.agg d.row] (.one (.c (.s ((cR d).map ak)) 1)):=by
 refine pci ae Tryz.func149 (λw0 base=>?_);simp [Doc.row];intro b2;refine drw eok mix [0,1] [2,3,4,5,6,7,8] (.c 2 2 1 2 (.c 2 3 2 0 (.c 2 4 0 0 (.c 2 5 0 0 (.c 2 6 0 0 (.c 2 7 0 0 (.c 2 8 0 0 (.l 2 0) .s) .s) .s) .s) .s) .s) .s) ?_;simp
 try intros
 refine aa.pure (bo d) (by simp [Doc.row]) ?_;simp
 try intros
 refine aa.pure (o5 d hl (ac d)) (by simp [Doc.row]) ?_;simp
 try intros
 simp [cR]
theorem lH {d : Doc} {base : Int} {o : List Part} (h : ¬ (aL d/\bN o)) : cK d base o = ([],1):=by unfold cK;rw [if_neg h]
theorem q7 {d : Doc} {base : Int} {o : List Part} (h : aL d/\bN o) : cK d base o = if ac d < base then ([],2) else if base < d.fr then ([],3) else
 if br o = (dL d base).1.length then
  if (gr ((d.list.drop (base - d.fr).toNat).map Entry.o) o).2 = true then ((gr ((d.list.drop (base - d.fr).toNat).map Entry.o) o).1,0) else ([],5)
 else ([],1):=by unfold cK;rw [if_pos h]
theorem wB (d : Doc) (hl : cu d<=2 ^ 30) (base : Int) (o : List Part) (ho : nL aF o<=2 ^ 40) : aj Tryz.prog 332 [.agg d.row,.c (vi base),.c (.s (o.map Part.row))] (.tup [.c (.s ((cK d base o).1.map Part.row)) 3,.c (vi (cK d base o).2) 1]):=by
 refine pci ae Tryz.func332 (λw0 bs=>?_);obtain ⟨n1,n2,n3,n4⟩:=ce hl;simp [Doc.row];intro b3;refine aa.pure (fp d hl) (by simp [Doc.row]) ?_;by_cases c1 : aL d
 rotate_left
 ·simp [ab c1,lH (d:=d) (base:=base) (o:=o) (λh=>c1 h.1)]
 simp [c1];refine aa.pure (eg o ho) (by simp) ?_;by_cases c2 : bN o
 rotate_left
 ·simp [ab c2,lH (d:=d) (base:=base) (o:=o) (λh=>c2 h.2)]
 have e:=q7 (base:=base) ⟨c1,c2⟩;simp [c2];refine aa.pure (zi d base) (by simp [Doc.row]) ?_;unfold xp;by_cases c3 : ac d < base
 ·simp [c3,e]
 by_cases c4 : base < d.fr
 ·simp [c3,c4,e]
 have hh:=aV c1;have c5 : aL d/\d.fr<=base/\base<=ac d:=⟨c1,by omega,by omega⟩;have hops:=iZ c5;simp only [c3,c4,if_false] at e;simp [c3,c4];refine aa.pure (o5 d hl base) (by simp [Doc.row]) ?_;generalize dL d base = T at e ⊢;obtain ⟨t,ok⟩:=T;simp only at e ⊢;simp;intro H1;refine aa.pure (gK o ho) (by simp) ?_;by_cases c6 : br o = t.length
 rotate_left
 ·simp only [c6,if_false] at e
  simp [c6,e]
 simp only [c6,if_true] at e;simp [c6];refine aa.pure (sY d hl base) (by simp [Doc.row]) ?_;rw [hops];generalize hL : (d.list.drop (base - d.fr).toNat) = L at e ⊢;have hL1 : L.length<=d.list.length:=by rw [<- hL];simp
 have hle:=aA n1
 have hs : ∀ q∈L.map Entry.o,nL aF q<=2 ^ 40:=λq hq=>by
  have:=nk n1 (l:=L) (λe he=>by rw [<- hL] at he;exact List.mem_of_mem_drop he) hq;omega
 simp;intro H2;refine aa.pure (AC (L.map Entry.o) o (by simp;omega) hs ho) (by simp) ?_;generalize gr (L.map Entry.o) o = P at e ⊢;obtain ⟨v,ok2⟩:=P;simp only at e ⊢
 cases ok2 with
 | false=>simp at e;simp [e]
 | true=>simp at e;simp [e]
theorem oH (d : Doc) (hl : cu d<=2 ^ 30) (base : Int) (o : List Part) (ho : nL aF o<=2 ^ 40) : aj Tryz.prog 383 [.agg d.row,.c (vi base),.c (.s (o.map Part.row))] (.tup [.c (.s ((cK d base o).1.map Part.row)) 3,.c (vi (cK d base o).2) 1]):=by
 refine pci ae Tryz.func383 (λw0 bs=>?_);obtain ⟨n1,n2,n3,n4⟩:=ce hl;simp [Doc.row];intro b3;refine aa.pure (fj d hl) (by simp [Doc.row]) ?_;by_cases c1 : aL d
 rotate_left
 ·simp [ab c1,lH (d:=d) (base:=base) (o:=o) (λh=>c1 h.1)]
 simp [c1];refine aa.pure (d9 o ho) (by simp) ?_;by_cases c2 : bN o
 rotate_left
 ·simp [ab c2,lH (d:=d) (base:=base) (o:=o) (λh=>c2 h.2)]
 have e:=q7 (base:=base) ⟨c1,c2⟩;simp [c2];refine aa.pure (aN d) (by simp [Doc.row]) ?_;by_cases c3 : ac d < base
 ·simp [c3,e]
 by_cases c4 : base < d.fr
 ·simp [c3,c4,e]
 have hh:=aV c1;have c5 : aL d/\d.fr<=base/\base<=ac d:=⟨c1,by omega,by omega⟩;have hops:=iZ c5;have hfit:=pg (o:=o) c1 c2 c5.2.1 c5.2.2;simp only [c3,c4,if_false] at e;simp [c3,c4];refine aa.pure (ld d hl base) (by simp [Doc.row]) ?_;generalize dL d base = T at e hfit ⊢;obtain ⟨t,ok⟩:=T;simp only at e hfit ⊢;simp;intro H1;refine aa.pure (gD o ho) (by simp) ?_;by_cases c6 : br o = t.length
 rotate_left
 ·simp only [c6,if_false] at e
  simp [c6,e]
 simp only [c6,if_true,true_implies] at e hfit;simp [c6];refine aa.pure (sf d hl base) (by simp [Doc.row]) ?_;rw [hops];generalize hL : (d.list.drop (base - d.fr).toNat) = L at e hfit ⊢;have hL1 : L.length<=d.list.length:=by rw [<- hL];simp
 have hle:=aA n1
 have hs : ∀ q∈L.map Entry.o,nL aF q<=2 ^ 40:=λq hq=>by
  have:=nk n1 (l:=L) (λe he=>by rw [<- hL] at he;exact List.mem_of_mem_drop he) hq;omega
 have hpn:=B5 (L.map Entry.o) o;simp;intro H2;refine aa.pure (zN (L.map Entry.o) o (by simp;omega) hs ho) (by simp) ?_;generalize gr (L.map Entry.o) o = P at e hfit hpn ⊢;obtain ⟨v,ok2⟩:=P;simp only at e hfit hpn ⊢
 cases ok2 with
 | false=>simp at e;simp [e]
 | true =>
   have hf:=hfit rfl;have ht:=hf.2.1.1;simp at e;simp [e];intro H3;refine aa.pure (jo d hl) (by simp [Doc.row]) ?_;simp;intro H4;refine aa.pure (fk v (cR d) (by omega) (by omega)) (by simp) ?_;have ha:=ji.2 hf;generalize apply v (cR d) = A at ha ⊢;obtain ⟨u,ok3⟩:=A;simp only at ha;subst ha;simp
end Go.Proofs.YtoldjebobgocpaaGreat
