import Derived.Test.YtoldjebobgocpaaGreatPA
import Derived.Test.YtoldjebobgocpaaGreatPB
import Derived.Test.YtoldjebobgocpaaGreatPC
import Derived.Test.YtoldjebobgocpaaGreatNA
import Derived.Test.YtoldjebobgocpaaGreatMF
namespace Go.Proofs.YtoldjebobgocpaaGreat
set_option maxRecDepth 20000
inductive At where
 | k
 | p (c : Int)
 | d
def ats (p : Part) : List At:=if p.kind = 2 then p.signs.map At.p else if p.kind = 3 then List.replicate (psz p) .d else List.replicate (psz p) .k
def aT : List Part->List At
 | []=>[]
 | p :: l=>ats p ++ aT l
theorem fv : ∀ (a b : List Part),aT (a ++ b) = aT a ++ aT b
 | [],b=>rfl
 | p :: a,b=>by simp [aT,fv a b]
def frA : List At->Nat
 | []=>0
 | .p _ :: l=>frA l
 | _ :: l=>frA l + 1
def toA : List At->Nat
 | []=>0
 | .d :: l=>toA l
 | _ :: l=>toA l + 1
theorem gY : ∀ (a b : List At),frA (a ++ b) = frA a + frA b
 | [],b=>by simp [frA]
 | .p c :: a,b=>by simp [frA,gY a b]
 | .k :: a,b=>by simp [frA,gY a b];omega
 | .d :: a,b=>by simp [frA,gY a b];omega
theorem fV : ∀ (a b : List At),toA (a ++ b) = toA a + toA b
 | [],b=>by simp [toA]
 | .d :: a,b=>by simp [toA,fV a b]
 | .k :: a,b=>by simp [toA,fV a b];omega
 | .p c :: a,b=>by simp [toA,fV a b];omega
theorem wu : ∀ l : List Int,frA (l.map At.p) = 0
 | []=>rfl
 | c :: l=>by simp [frA,wu l]
theorem rA : ∀ l : List Int,toA (l.map At.p) = l.length
 | []=>rfl
 | c :: l=>by simp [toA,rA l]
theorem Gu : ∀ n : Nat,frA (List.replicate n At.k) = n
 | 0=>rfl
 | n + 1=>by simp [List.replicate_succ,frA,Gu n]
theorem wv : ∀ n : Nat,frA (List.replicate n At.d) = n
 | 0=>rfl
 | n + 1=>by simp [List.replicate_succ,frA,wv n]
theorem zD : ∀ n : Nat,toA (List.replicate n At.k) = n
 | 0=>rfl
 | n + 1=>by simp [List.replicate_succ,toA,zD n]
theorem rB : ∀ n : Nat,toA (List.replicate n At.d) = 0
 | 0=>rfl
 | n + 1=>by simp [List.replicate_succ,toA,rB n]
theorem BJ {p : Part} (h : am p) (k : p.kind = 2) : psz p = p.signs.length:=by
 rw [fY k] at h;unfold psz;omega
theorem MR {p : Part} : frA (ats p) = if p.kind = 2 then 0 else psz p:=by
 unfold ats
 split
 ·exact wu _
 ·split
  ·exact wv _
  ·exact Gu _
theorem MQ {p : Part} (h : am p) : toA (ats p) = if p.kind = 3 then 0 else psz p:=by
 unfold ats;by_cases k : p.kind = 2
 ·have : ¬ p.kind = 3:=by omega
  rw [if_pos k,if_neg this,rA,BJ h k]
 ·rw [if_neg k]
  split
  ·exact rB _
  ·exact zD _
theorem oh : ∀ (o : List Part),frs o = frA (aT o)
 | []=>rfl
 | p :: o=>by simp only [frs,aT,gY,MR,oh o]
theorem pD : ∀ {o : List Part},(∀ p∈o,am p)->tos o = toA (aT o)
 | [],_=>rfl
 | p :: o, h => by
   simp only [tos,aT,fV,MQ (h p (List.mem_cons_self ..)),pD (λq hq=>h q (List.mem_cons_of_mem _ hq))]
def nA : List Int->Nat->List At->List At
 | P,n,[]=>P.map At.p ++ List.replicate n .d
 | P,n,.k :: l=>P.map At.p ++ (List.replicate n .d ++ .k :: nA [] 0 l)
 | P,n,.p c :: l=>nA (P ++ [c]) n l
 | P,n,.d :: l=>nA P (n + 1) l
def lO (l : List At) : List At:=nA [] 0 l
theorem BT : ∀ (l : List At) (P : List Int) (n : Nat),frA (nA P n l) = n + frA l
 | [],P,n=>by simp [nA,frA,gY,wu,wv]
 | .k :: l,P,n=>by simp [nA,frA,gY,wu,wv,BT l]
 | .p c :: l,P,n=>by simp [nA,frA,BT l]
 | .d :: l,P,n=>by simp [nA,frA,BT l];omega
theorem BR : ∀ (l : List At) (P : List Int) (n : Nat),toA (nA P n l) = P.length + toA l
 | [],P,n=>by simp [nA,toA,fV,rA,rB]
 | .k :: l,P,n=>by simp [nA,toA,fV,rA,rB,BR l]
 | .p c :: l,P,n=>by simp [nA,toA,BR l];omega
 | .d :: l,P,n=>by simp [nA,toA,BR l]
theorem BS : ∀ (Q P : List Int) (n : Nat) (l : List At),nA P n (Q.map At.p ++ l) = nA (P ++ Q) n l
 | [],P,n,l=>by simp
 | c :: Q,P,n,l=>by simp [nA,BS Q]
theorem BU : ∀ (m : Nat) (P : List Int) (n : Nat) (l : List At),nA P n (List.replicate m .d ++ l) = nA P (n + m) l
 | 0,P,n,l=>by simp
 | m + 1,P,n,l=>by simp [List.replicate_succ,nA,BU m];congr 1;omega
theorem JJ : ∀ (m : Nat) (l : List At),nA [] 0 (List.replicate m .k ++ l) = List.replicate m .k ++ nA [] 0 l
 | 0,l=>by simp
 | m + 1,l=>by simp [List.replicate_succ,nA,JJ m]
def bA (s : List Part × List Int × Int) : List At:=aT s.1 ++ (s.2.1.map At.p ++ List.replicate s.2.2.toNat .d)
theorem yU {L : List Part} {P : List Int} {D : Int} : aT (aJ L P D) = bA (L,P,D):=by
 unfold aJ bA;rw [fv,fv]
 congr 1
 congr 1
 ·split
  ·rename_i h;simp [h,aT]
  ·simp [aT,ats]
 ·split
  ·simp [aT,ats,psz]
  ·have : D.toNat = 0:=by omega
   simp [aT,this]
theorem mA : ∀ (L : List Part) (_h : 0 < L.length) (p : Part),aT (L.set (L.length - 1) p) = aT L.dropLast ++ ats p
 | [q],h,p=>by simp [aT]
 | q :: r :: L, h, p => by
   have ih:=mA (r :: L) (by simp) p;simp only [List.length_cons,Nat.add_sub_cancel] at ih ⊢;rw [List.set_cons_succ,aT,ih];simp [aT]
theorem tp : ∀ (L : List Part) (h : 0 < L.length),aT L = aT L.dropLast ++ ats (L[L.length - 1]'(by omega))
 | [q],h=>by simp [aT]
 | q :: r :: L, h => by
   have ih:=tp (r :: L) (by simp);simp only [List.length_cons,Nat.add_sub_cancel] at ih ⊢;rw [aT,ih];simp [aT]
theorem IG {L : List Part} {n : Int} (hn : 0 < n) (hL : ∀ q∈L,0<=q.n) (hk : ∀ q∈L,q.kind = 1->q.signs = []) : aT (bP L n) = aT L ++ List.replicate n.toNat .k:=by
 unfold bP
 split
 ·rename_i h
  split
  ·rename_i k
   have h1:=hL _ (List.getElem_mem (show L.length - 1 < L.length by omega));have h2:=hk _ (List.getElem_mem (show L.length - 1 < L.length by omega)) k;rw [mA L h,tp L h,List.append_assoc]
   congr 1
   generalize L[L.length - 1]'(by omega) = q at h1 h2 k;obtain ⟨a,b,c⟩:=q;simp only at h1 h2 k;subst k h2;simp [ats,psz,List.replicate_append_replicate];omega
  ·rw [fv]
   simp [aT,ats,psz]
 ·rename_i h
  have : L = []:=List.eq_nil_of_length_eq_zero (by omega);subst this;simp [aT,ats,psz]
theorem qF {L : List Part} {P : List Int} {D : Int} (h : ∀ q∈L,q.kind = 1->q.signs = []) : ∀ q∈aJ L P D,q.kind = 1->q.signs = []:=by
 intro q hq hk;unfold aJ at hq;rcases List.mem_append.1 hq with hq | hq
 ·exact h q hq hk
 ·rcases List.mem_append.1 hq with hq | hq
  ·split at hq
   ·simp at hq
   ·simp at hq;subst hq;simp at hk
  ·split at hq
   ·simp at hq;subst hq;rfl
   ·simp at hq
theorem Ax {L : List Part} {n : Int} (h : ∀ q∈L,q.kind = 1->q.signs = []) : ∀ q∈bP L n,q.kind = 1->q.signs = []:=by
 intro q hq hk;unfold bP at hq
 split at hq
 ·rename_i hl
  split at hq
  ·rename_i k
   rcases List.mem_or_eq_of_mem_set hq with hq | rfl
   ·exact h q hq hk
   ·exact (h (L[L.length - 1]'(by omega)) (List.getElem_mem _) k :)
  ·rcases List.mem_append.1 hq with hq | hq
   ·exact h q hq hk
   ·simp at hq;subst hq;rfl
 ·simp at hq;subst hq;rfl
theorem ym {o : List Part} (ho : ∀ p ∈ o,am p) : ∀ (i : Nat),i <= o.length -> (∀ q ∈ (a8 (o.take i)).1,q.kind = 1 -> q.signs = []) /\ 0 <= (a8 (o.take i)).2.2 /\ (∀ q ∈ (a8 (o.take i)).1,0 <= q.n) /\
 ∀ l,lO (aT (o.take i) ++ l) = aT (a8 (o.take i)).1 ++ nA (a8 (o.take i)).2.1 (a8 (o.take i)).2.2.toNat l
 | 0,_=>by simp [a8,aT,lO]
 | i + 1, hi => by
   obtain ⟨h1,h2,h3,h4⟩:=ym ho i (by omega);have hlt : i < o.length:=by omega
   have hq:=(kA ho (i + 1) hi);have hp:=(ho _ (List.getElem_mem hlt));have hb:=hp.bounds;refine ⟨?_,hq.d0,λq hq'=>(hq.q q hq').1,λl=>?_⟩
   ·rw [gg hlt]
    unfold dg
    split
    ·exact h1
    ·split
     ·exact h1
     ·split
      ·exact Ax (qF h1)
      ·exact h1
   ·rw [<- List.take_append_getElem hlt,fv,List.append_assoc,h4,List.take_append_getElem hlt,gg hlt]
    generalize a8 (o.take i) = s at h1 h2 h3;generalize o[i] = p at hp hb;obtain ⟨L,P,D⟩:=s;simp only at h1 h2 h3;simp only [aT,List.append_nil];unfold dg;by_cases k2 : p.kind = 2
    ·simp only [k2,if_true]
     rw [show ats p = p.signs.map At.p by unfold ats;rw [if_pos k2],BS]
    ·by_cases k3 : p.kind = 3
     ·have hs:=hb.2.2.2.2.2 k2
      have e : (D + p.n).toNat = D.toNat + p.n.toNat:=by omega
      simp only [k3,if_true];rw [show ats p = List.replicate (psz p) .d by unfold ats;rw [if_neg k2,if_pos k3],BU];simp [e,psz,hs]
     ·have k1 : p.kind = 1:=by omega
      have hs:=hb.2.2.2.2.2 k2;have e : ats p = List.replicate p.n.toNat .k:=by unfold ats;rw [if_neg k2,if_neg k3];simp [psz,hs]
      simp only [k2,k3,if_false];rw [e]
      split
      ·rename_i hn
       have hfl : ∀ q∈aJ L P D,0<=q.n:=by
        intro q hq';unfold aJ at hq';rcases List.mem_append.1 hq' with hq' | hq'
        ·exact h3 q hq'
        ·rcases List.mem_append.1 hq' with hq' | hq'
         ·split at hq'
          ·simp at hq'
          ·simp at hq';subst hq';simp
         ·split at hq'
          ·simp at hq';subst hq';simp;omega
          ·simp at hq'
       simp only;rw [IG hn hfl (qF h1),yU];obtain ⟨m,hm⟩ : ∃ m,p.n.toNat = m + 1:=⟨p.n.toNat - 1,by omega⟩;rw [hm];simp [bA,List.replicate_succ,nA,JJ,List.append_assoc]
      ·have : p.n.toNat = 0:=by omega
       simp [this]
theorem gU {o : List Part} (ho : ∀ p∈o,am p) : aT (normal o) = lO (aT o):=by
 have h:=(ym ho o.length (Nat.le_refl _)).2.2.2 [];rw [List.take_length,List.append_nil] at h;unfold normal;rw [yU,h];unfold bA;simp [nA]
theorem r5 (l : List At) : frA (lO l) = frA l:=by unfold lO;rw [BT];omega
theorem r4 (l : List At) : toA (lO l) = toA l:=by unfold lO;rw [BR];simp
def tA : List At->List At->List At × List At
 | .p c :: a,b=>(.p c :: (tA a b).1,.k :: (tA a b).2)
 | [],.p c :: b=>(.k :: (tA [] b).1,.p c :: (tA [] b).2)
 | .k :: a,.p c :: b=>(.k :: (tA (.k :: a) b).1,.p c :: (tA (.k :: a) b).2)
 | .d :: a,.p c :: b=>(.k :: (tA (.d :: a) b).1,.p c :: (tA (.d :: a) b).2)
 | .k :: a,.k :: b=>(.k :: (tA a b).1,.k :: (tA a b).2)
 | .k :: a,.d :: b=>((tA a b).1,.d :: (tA a b).2)
 | .d :: a,.k :: b=>(.d :: (tA a b).1,(tA a b).2)
 | .d :: a,.d :: b=>tA a b
 | [],_=>([],[])
 | _,[]=>([],[])
termination_by a b=>a.length + b.length
def noP : List At->Bool
 | .p _ :: _=>false
 | _=>true
theorem OL {c : Int} {a b : List At} : tA (.p c :: a) b = (.p c :: (tA a b).1,.k :: (tA a b).2):=by rw [tA]
theorem HP {c : Int} {a b : List At} (h : noP a = true) : tA a (.p c :: b) = (.k :: (tA a b).1,.p c :: (tA a b).2):=by
 match a,h with
 | [],_=>rw [tA]
 | .k :: a,_=>rw [tA]
 | .d :: a,_=>rw [tA]
theorem JB {a b : List At} : ∀ Q : List Int,tA (Q.map At.p ++ a) b = (Q.map At.p ++ (tA a b).1,List.replicate Q.length .k ++ (tA a b).2)
 | []=>by simp
 | c :: Q=>by simp [OL,JB Q,List.replicate_succ]
theorem Ff {a b : List At} (h : noP a = true) : ∀ Q : List Int,tA a (Q.map At.p ++ b) = (List.replicate Q.length .k ++ (tA a b).1,Q.map At.p ++ (tA a b).2)
 | []=>by simp
 | c :: Q=>by simp [HP h,Ff h Q,List.replicate_succ]
theorem JC {a b : List At} : ∀ n : Nat,tA (List.replicate n .k ++ a) (List.replicate n .k ++ b) = (List.replicate n .k ++ (tA a b).1,List.replicate n .k ++ (tA a b).2)
 | 0=>by simp
 | n + 1=>by simp [List.replicate_succ,tA,JC n]
theorem JD {a b : List At} : ∀ n : Nat,tA (List.replicate n .k ++ a) (List.replicate n .d ++ b) = ((tA a b).1,List.replicate n .d ++ (tA a b).2)
 | 0=>by simp
 | n + 1=>by simp [List.replicate_succ,tA,JD n]
theorem JE {a b : List At} : ∀ n : Nat,tA (List.replicate n .d ++ a) (List.replicate n .k ++ b) = (List.replicate n .d ++ (tA a b).1,(tA a b).2)
 | 0=>by simp
 | n + 1=>by simp [List.replicate_succ,tA,JE n]
theorem JF {a b : List At} : ∀ n : Nat,tA (List.replicate n .d ++ a) (List.replicate n .d ++ b) = tA a b
 | 0=>by simp
 | n + 1=>by simp [List.replicate_succ,tA,JF n]
theorem gm : ∀ {x : List Part},(∀ p∈x,am p)->aT (nxt x) = aT x
 | [],_=>rfl
 | p :: l, h => by
   have ih:=gm (x:=l) (λq hq=>h q (List.mem_cons_of_mem _ hq));unfold nxt
   split
   ·rename_i hz
    rw [ih,aT]
    have : ats p = []:=by
     have hp:=h p (List.mem_cons_self ..);unfold ats
     split
     ·rename_i k;rw [BJ hp k] at hz;simp [List.eq_nil_of_length_eq_zero hz]
     ·split<;>simp [hz]
    simp [this]
   ·rfl
theorem qb {p : Part} (h : am p) {n : Nat} (hn : n<=psz p) : ats p = ats (eK p n) ++ ats (bf p n):=by
 have hb:=h.bounds;by_cases k2 : p.kind = 2
 ·unfold ats eK bf
  simp only [k2,if_true];rw [<- List.map_append,List.take_append_drop]
 ·have hs:=hb.2.2.2.2.2 k2
  have hz : psz p = p.n.toNat:=by simp [psz,hs]
  have e : p.n.toNat = n + (p.n - n).toNat:=by omega
  by_cases k3 : p.kind = 3
  ·unfold ats eK bf
   simp only [k3,if_true];simp [psz,hs];omega
  ·unfold ats eK bf
   simp only [k2,if_false,k3];simp [psz,hs];omega
theorem tn {p : Part} (h : am p) : ats (bf p (psz p)) = []:=by
 have h1:=qb h (Nat.le_refl (psz p));rw [dx h] at h1
 simpa using h1
theorem Cf {p : Part} (_h : am p) (k : p.kind≠2) : ats p = if p.kind = 3 then List.replicate (psz p) .d else List.replicate (psz p) .k:=by unfold ats;rw [if_neg k]
theorem nf {p : Part} (h : am p) (k : p.kind≠2) {n : Nat} (hn : n<=psz p) : ats (eK p n) = if p.kind = 3 then List.replicate n .d else List.replicate n .k:=by
 have hs:=h.bounds.2.2.2.2.2 k;have : psz (eK p n) = n:=by unfold psz eK;rw [if_neg k];simp [hs]
 rw [Cf (mR h hn) (by simpa using k),this];simp
theorem Ja {p : Part} (h : am p) (k : p.kind≠2) (hp : 0 < psz p) (l : List At) : noP (ats p ++ l) = true:=by
 rw [Cf h k];obtain ⟨m,hm⟩ : ∃ m,psz p = m + 1:=⟨psz p - 1,by omega⟩;rw [hm]
 split<;>simp [List.replicate_succ,noP]
theorem rx {x y : List Part} (hi : TInv x y) (h : cT x y = none) : nxt x = []/\nxt y = []:=by
 have hxt:=iR x;have hyf:=iR y;have hb:=hi.b;unfold cT at h
 cases ex : nxt x with
 | nil =>
   rw [ex] at h hxt
   cases ey : nxt y with
   | nil=>exact ⟨rfl,rfl⟩
   | cons q y' =>
     rw [ey] at hyf;have hp:=dR ey;simp only [ey] at h
     split at h
     ·cases h
     ·rename_i k
      simp [frs,k] at hxt hyf;omega
 | cons p x' =>
   rw [ex] at h hxt;have hp:=dR ex;simp only at h
   split at h
   ·cases h
   ·rename_i k
    cases ey : nxt y with
    | nil =>
      rw [ey] at hyf;simp [frs,k] at hxt hyf;omega
    | cons q y' =>
      simp only [ey] at h
      split at h<;>cases h
theorem Ef : ∀ (k : Nat) {x y : List Part},TInv x y->tsz x + tsz y<=k->(aT (xfK k x y).1,aT (xfK k x y).2) = tA (aT x) (aT y)
 | 0, x, y, hi, h => by
   have hn : cT x y = none:=by
    cases hs : cT x y with
    | none=>rfl
    | some r=>have:=(df hi hs).dec;omega
   obtain ⟨e1,e2⟩:=rx hi hn;rw [<- gm hi.px,<- gm hi.py,e1,e2];simp [xfK,aT,tA]
 | k + 1, x, y, hi, h => by
   rw [xfK]
   cases hs : cT x y with
   | none =>
     obtain ⟨e1,e2⟩:=rx hi hs;rw [<- gm hi.px,<- gm hi.py,e1,e2];simp [aT,tA]
   | some r =>
     have hn:=df hi hs;have hd:=hn.dec;have ih:=Ef k hn.inv (by omega);simp only [fv];rw [<- gm hi.px,<- gm hi.py];generalize xfK k r.2.1 r.2.2 = Z at ih ⊢;unfold cT at hs
     cases ex : nxt x with
     | nil =>
       rw [ex] at hs
       cases ey : nxt y with
       | nil=>simp [ey] at hs
       | cons q y' =>
         have hq:=fR hi.py ey;simp only [ey] at hs
         split at hs
         ·rename_i kq
          cases hs
          simp only [aT,tn hq.1,List.nil_append] at ih;simp only [aT,dx hq.1,List.append_nil];rw [show ats q = q.signs.map At.p by unfold ats;rw [if_pos kq],Ff rfl,<- ih];simp [ats,psz]
         ·cases hs
     | cons p x' =>
       rw [ex] at hs;have hp:=fR hi.px ex;have hpp:=dR ex;simp only at hs
       split at hs
       ·rename_i kp
        cases hs
        simp only [aT,tn hp.1,List.nil_append] at ih;simp only [aT,dx hp.1,List.append_nil,gm hi.py];rw [show ats p = p.signs.map At.p by unfold ats;rw [if_pos kp],JB,<- ih];simp [ats,psz]
       ·rename_i kp
        cases ey : nxt y with
        | nil=>simp [ey] at hs
        | cons q y' =>
          have hq:=fR hi.py ey;have hqp:=dR ey;simp only [ey] at hs
          split at hs
          ·rename_i kq
           cases hs
           simp only [aT,tn hq.1,List.nil_append] at ih;simp only [aT,dx hq.1,List.append_nil];rw [show ats q = q.signs.map At.p by unfold ats;rw [if_pos kq],Ff (Ja hp.1 kp hpp _),<- ih];simp [ats,psz]
          ·rename_i kq
           cases hs
           have hn1 : min (psz p) (psz q)<=psz p:=by omega
           have hn2 : min (psz p) (psz q)<=psz q:=by omega
           simp only [aT] at ih ⊢;rw [qb hp.1 hn1,qb hq.1 hn2,nf hp.1 kp hn1,nf hq.1 kq hn2,List.append_assoc,List.append_assoc];have hb1:=hp.1.bounds.1;have hb2:=hq.1.bounds.1;generalize min (psz p) (psz q) = n at ih hn1 hn2 ⊢;by_cases k1 : p.kind = 3<;>by_cases k2 : q.kind = 3
           ·have e1 : ¬ p.kind = 1:=by omega
            have e2 : ¬ q.kind = 1:=by omega
            simp only [k1,k2,if_true,JF,<- ih];simp [aT]
           ·have e1 : ¬ p.kind = 1:=by omega
            have e2 : q.kind = 1:=by omega
            simp only [k1,k2,if_true,if_false,JE,<- ih];simp [aT,e2,nf hp.1 kp hn1,k1]
           ·have e1 : p.kind = 1:=by omega
            have e2 : ¬ q.kind = 1:=by omega
            simp only [k1,k2,if_true,if_false,JD,<- ih];simp [aT,e1,nf hq.1 kq hn2,k2]
           ·have e1 : p.kind = 1:=by omega
            have e2 : q.kind = 1:=by omega
            simp only [k1,k2,if_false,JC,<- ih];simp [aT,e1,e2,nf hp.1 kp hn1,nf hq.1 kq hn2]
theorem NS {x y : List Part} (hi : TInv x y) : (aT (xf x y).1,aT (xf x y).2) = tA (aT x) (aT y):=Ef _ hi (Nat.le_refl _)
theorem kP : ∀ (a b : List At),frA a = frA b->frA (tA a b).1 = toA b/\frA (tA a b).2 = toA a/\toA (tA a b).1 = toA (tA a b).2
 | .p c :: a, b, h => by
   have ih:=kP a b (by simpa [frA] using h);rw [OL];simp [frA,toA];omega
 | [], .p c :: b, h => by
   have ih:=kP [] b (by simpa [frA] using h);rw [HP rfl];simp [frA,toA] at ih ⊢;omega
 | .k :: a, .p c :: b, h => by
   have ih:=kP (.k :: a) b (by simpa [frA] using h);rw [HP rfl];simp [frA,toA] at ih ⊢;omega
 | .d :: a, .p c :: b, h => by
   have ih:=kP (.d :: a) b (by simpa [frA] using h);rw [HP rfl];simp [frA,toA] at ih ⊢;omega
 | .k :: a, .k :: b, h => by
   have ih:=kP a b (by simpa [frA] using h);rw [tA];simp [frA,toA];omega
 | .k :: a, .d :: b, h => by
   have ih:=kP a b (by simpa [frA] using h);rw [tA];simp [frA,toA];omega
 | .d :: a, .k :: b, h => by
   have ih:=kP a b (by simpa [frA] using h);rw [tA];simp [frA,toA];omega
 | .d :: a, .d :: b, h => by
   have ih:=kP a b (by simpa [frA] using h);rw [tA];simp [toA];omega
 | [],[],h=>by simp [tA,frA,toA]
 | [],.k :: b,h=>by simp [frA] at h
 | [],.d :: b,h=>by simp [frA] at h
 | .k :: a,[],h=>by simp [frA] at h
 | .d :: a,[],h=>by simp [frA] at h
termination_by a b=>a.length + b.length
theorem JA {x y : List Part} (hi : TInv x y) : (∀ p∈(xf x y).1,am p)/\∀ p∈(xf x y).2,am p:=by
 have key : ∀ (k : Nat) {x y : List Part},TInv x y->(∀ p∈(xfK k x y).1,am p)/\∀ p∈(xfK k x y).2,am p:=by
  intro k
  induction k with
  | zero=>intro x y hi;simp [xfK]
  | succ k ih =>
    intro x y hi;rw [xfK]
    cases hs : cT x y with
    | none=>simp
    | some r =>
      have hn:=df hi hs;have h2:=ih hn.inv;simp only [List.mem_append];exact ⟨λp hp=>hp.elim (hn.okx p) (h2.1 p),λp hp=>hp.elim (hn.oky p) (h2.2 p)⟩
 exact key _ hi
structure TrOk (a b : List Part) : Prop where
 oka : bJ a
 okb : bJ b
 from_ : bp a = bp b
 okx : bJ (aC a b).1
 oky : bJ (aC a b).2.1
 fx : bp (aC a b).1 = jC b
 fy : bp (aC a b).2.1 = jC a
 to : jC (aC a b).1 = jC (aC a b).2.1
 ax : aT (aC a b).1 = lO (tA (aT a) (aT b)).1
 ay : aT (aC a b).2.1 = lO (tA (aT a) (aT b)).2
theorem uj {a b : List Part} (h : (aC a b).2.2 = true) : TrOk a b:=by
 unfold aC at h
 split at h
 ·rename_i h1
  split at h
  ·rename_i h2
   have e : aC a b = (normal (xf a b).1,normal (xf a b).2,true):=by unfold aC;rw [if_pos h1,if_pos h2]
   have hi:=ra h1.1 h1.2.1 h1.2.2;have hat:=NS hi;have hk:=JA hi;have e1 : aT (xf a b).1 = (tA (aT a) (aT b)).1:=by rw [<- hat]
   have e2 : aT (xf a b).2 = (tA (aT a) (aT b)).2:=by rw [<- hat]
   have l:=kP (aT a) (aT b) (by rw [<- oh,<- oh];exact hi.b);have n1:=gU hk.1;have n2:=gU hk.2;have f1:=kG h2.1;have f2:=kG h2.2;have t1:=pC h2.1;have t2:=pC h2.2;have t3:=pC h1.1;have t4:=pC h1.2.1;rw [oh,n1,r5,e1,l.1] at f1;rw [oh,n2,r5,e2,l.2.1] at f2;rw [pD h2.1.1.1,n1,r4,e1] at t1;rw [pD h2.2.1.1,n2,r4,e2] at t2;rw [pD h1.1.1.1] at t3;rw [pD h1.2.1.1.1] at t4;rw [e1] at n1;rw [e2] at n2;refine ⟨h1.1,h1.2.1,h1.2.2,?_,?_,?_,?_,?_,?_,?_⟩<;>rw [e]
   ·exact h2.1
   ·exact h2.2
   ·simp only;omega
   ·simp only;omega
   ·simp only;have:=l.2.2;omega
   ·exact n1
   ·exact n2
  ·simp at h
 ·simp at h
open Go.AM
noncomputable def iJ : List (List Part)->List Part->Option (List Part)
 | [],v=>some v
 | a :: l,v=>if (aC a v).2.2 = true then iJ l (aC a v).2.1 else none
open Classical in
noncomputable def gk (l : List (List Part)) (b : List Part) : List Part × Bool:=
 if bJ b then match iJ l (bT b) with
  | some v=>(v,true)
  | none=>([],false)
 else ([],false)
structure Shp (q : Part) : Prop where
 k : q.kind = 1\/q.kind = 2\/q.kind = 3
 n : 0<=q.n
 put : q.kind = 2->q.n = 0/\dO q.signs
 run : q.kind≠2->q.signs = []
 pos : 0 < psz q
theorem uE {L : List Part} {P : List Int} {D : Int} (hL : ∀ q∈L,Shp q) (hP : dO P) : ∀ q∈aJ L P D,Shp q:=by
 intro q hq;unfold aJ at hq;rcases List.mem_append.1 hq with hq | hq
 ·exact hL q hq
 ·rcases List.mem_append.1 hq with hq | hq
  ·split at hq
   ·simp at hq
   ·rename_i h
    simp at hq;subst hq;have : 0 < P.length:=List.length_pos_iff.2 h;exact ⟨.inr (.inl rfl),by simp,λ_=>⟨rfl,hP⟩,λh=>absurd rfl h,by simpa [psz] using this⟩
  ·split at hq
   ·rename_i h
    simp at hq;subst hq;exact ⟨.inr (.inr rfl),by simp only;omega,λh=>by simp at h,λ_=>rfl,by simp [psz];omega⟩
   ·simp at hq
theorem Fm {L : List Part} {n : Int} (hL : ∀ q∈L,Shp q) (hn : 0 < n) : ∀ q∈bP L n,Shp q:=by
 intro q hq;have one : Shp ⟨1,n,[]⟩:=⟨.inl rfl,by simp only;omega,λh=>by simp at h,λ_=>rfl,by simp [psz];omega⟩;unfold bP at hq
 split at hq
 ·rename_i hl
  split at hq
  ·rename_i k
   rcases List.mem_or_eq_of_mem_set hq with hq | rfl
   ·exact hL q hq
   ·have h:=hL (L[L.length - 1]'(by omega)) (List.getElem_mem _)
    have h1:=h.n;have h2:=h.run (by omega);exact ⟨.inl rfl,by simp only;omega,λh=>by simp at h,λ_=>h2,by simp [psz];omega⟩
  ·rcases List.mem_append.1 hq with hq | hq
   ·exact hL q hq
   ·simp at hq;subst hq;exact one
 ·simp at hq;subst hq;exact one
theorem uT {o : List Part} (ho : ∀ p∈o,am p) : ∀ (i : Nat),i<=o.length->(∀ q∈(a8 (o.take i)).1,Shp q)/\dO (a8 (o.take i)).2.1
 | 0,_=>by simp [a8,dO]
 | i + 1, hi => by
   obtain ⟨h1,h2⟩:=uT ho i (by omega);have hlt : i < o.length:=by omega
   have hp:=ho _ (List.getElem_mem hlt);rw [gg hlt];generalize a8 (o.take i) = s at h1 h2;generalize o[i] = p at hp;obtain ⟨L,P,D⟩:=s;simp only at h1 h2;unfold dg
   split
   ·rename_i k
    rw [fY k] at hp;refine ⟨h1,λn hn=>?_⟩;rcases List.mem_append.1 hn with hn | hn
    ·exact h2 n hn
    ·exact hp.2.2 n hn
   ·split
    ·exact ⟨h1,h2⟩
    ·split
     ·rename_i hn
      exact ⟨Fm (uE h1 h2) hn,by simp [dO]⟩
     ·exact ⟨h1,h2⟩
theorem rZ {o : List Part} (ho : ∀ p∈o,am p) : ∀ q∈normal o,Shp q:=by
 have h:=uT ho o.length (Nat.le_refl _);rw [List.take_length] at h;exact uE h.1 h.2
theorem Bu : ∀ {L : List Part},(∀ q∈L,Shp q)->tos L = toA (aT L)
 | [],_=>rfl
 | p :: L, h => by
   have hp:=h p (List.mem_cons_self ..);simp only [tos,aT,fV,Bu (λq hq=>h q (List.mem_cons_of_mem _ hq))]
   congr 1
   unfold ats;by_cases k : p.kind = 2
   ·have k3 : ¬ p.kind = 3:=by omega
    have:=(hp.put k).1;rw [if_pos k,if_neg k3,rA];simp [psz,this]
   ·rw [if_neg k]
    split
    ·exact (rB _).symm
    ·exact (zD _).symm
theorem IT {L : List Part} {q : Part} (h : q∈L) (k : q.kind≠2) : psz q<=frs L:=by
 induction L with
 | nil=>simp at h
 | cons p L ih =>
   simp only [frs];rcases List.mem_cons.1 h with rfl | h
   ·rw [if_neg k];omega
   ·have:=ih h;omega
theorem HO {L : List Part} {q : Part} (h : q∈L) (k : q.kind≠3) : psz q<=tos L:=by
 induction L with
 | nil=>simp at h
 | cons p L ih =>
   simp only [tos];rcases List.mem_cons.1 h with rfl | h
   ·rw [if_neg k];omega
   ·have:=ih h;omega
theorem Bt : ∀ {L : List Part},(∀ q∈L,Shp q)->L.length<=tsz L
 | [],_=>by simp [tsz]
 | p :: L, h => by
   have:=Bt (λq hq=>h q (List.mem_cons_of_mem _ hq));have:=(h p (List.mem_cons_self ..)).pos;simp only [tsz,List.length_cons];omega
theorem LE {L : List Part} (h : ∀ q∈L,Shp q) (h1 : frs L<=200) (h2 : tos L<=200) : cQ L:=by
 have hl:=Bt h;have ht:=zB L;refine ⟨λq hq=>?_,by omega⟩;have hs:=h q hq;have hn:=hs.n;by_cases k : q.kind = 2
 ·have h3:=HO hq (by omega)
  have h4:=hs.put k;exact .inr ⟨k,h4.1,by unfold psz at h3;omega,h4.2⟩
 ·have h3:=IT hq k
  have h4:=hs.run k;have hk:=hs.k;exact .inl ⟨by omega,⟨hn,by unfold psz at h3;omega⟩,h4⟩
theorem rY {o : List Part} (h : cQ o) : (frs o : Int) = bp o:=by
 rw [wq h.1,fW (λp hp=>MN (h.1 p hp)),jc];unfold bp cw;rw [if_pos h]
theorem yd {o : List Part} (h : cQ o) : (tos o : Int) = jC o:=by
 rw [vF h.1,fW (λp hp=>MM (h.1 p hp)),jc];unfold jC cw;rw [if_pos h]
theorem pN {o : List Part} (h : bJ o) : bJ (normal o)/\bp (normal o) = bp o/\jC (normal o) = jC o:=by
 have hs:=rZ h.1.1;have e1 : frs (normal o) = frs o:=by rw [oh,gU h.1.1,r5,<- oh]
 have e2 : tos (normal o) = tos o:=by rw [Bu hs,gU h.1.1,r4,<- pD h.1.1]
 have f:=kG h;have t:=pC h;have hp:=LE hs (by have:=h.2.1;omega) (by have:=h.2.2;omega);have f2:=rY hp;have t2:=yd hp;have:=h.2;exact ⟨⟨hp,by omega,by omega⟩,by omega,by omega⟩
theorem CH {o : List Part} (h : bJ o) : bJ (bT o)/\bp (bT o) = bp o/\jC (bT o) = jC o:=by
 have : bT o = normal o:=by unfold bT;rw [if_pos h]
 rw [this];exact pN h
def bd (c s r : Int) : List Seen->List Seen
 | []=>[⟨c,s,r⟩]
 | x :: l=>if x.client < c then x :: bd c s r l else if x.client = c then ⟨c,s,r⟩ :: l else ⟨c,s,r⟩ :: x :: l
noncomputable def aZ (d : Doc) (e : Entry) : Doc:=
 if d.list.length < 8 then ⟨d.name,d.fr,d.text,d.list ++ [e],bd e.client e.seq (ac d + 1) d.seen⟩
 else ⟨d.name,d.fr + 1,(apply ((d.list ++ [e])[0]'(by simp)).o d.text).1,(d.list ++ [e]).drop 1,bd e.client e.seq (ac d + 1) d.seen⟩
open Classical in
noncomputable def cm (d : Doc) (base : Int) (o : List Part) : List Part × Int:=
 if aL d/\bJ o then
  if ac d < base then ([],2) else if base < d.fr then ([],3) else
  if bp o = (dJ d base).1.length then
   if (gk ((d.list.drop (base - d.fr).toNat).map Entry.o) o).2 = true then ((gk ((d.list.drop (base - d.fr).toNat).map Entry.o) o).1,0) else ([],5)
  else ([],1)
 else ([],1)
def xE (d : Doc) (client seq : Int) (o : List Part) : Prop:=aL d/\(1<=client/\client<=8)/\(1<=seq/\seq<=1000000000)/\bJ o
open Classical in
noncomputable def bo (d : Doc) (client seq base : Int) (o : List Part) : Doc × Int × Int:=
 if xE d client seq o then
  if (ca d client).1.seq = seq then (d,(ca d client).1.rev,0)
  else if (ca d client).1.seq + 1 = seq then
   if (cm d base o).2 = 0 then
    if 999999000<=ac d then (Doc.zero,0,5) else (aZ d ⟨client,seq,(cm d base o).1⟩,ac d + 1,0)
   else (Doc.zero,0,(cm d base o).2)
  else (Doc.zero,0,4)
 else (Doc.zero,0,1)
open Classical in
noncomputable def fi (d : Doc) (rev : Int) : List Entry × Int:=
 if aL d then if ac d < rev then ([],2) else if rev < d.fr then ([],3) else (d.list.drop (rev - d.fr).toNat,0) else ([],1)
theorem rX : ∀ (l : List (List Part)) (t u : List Int) (v v' : List Part),aw l t = some u->iJ l v = some v'->bJ v->bp v = t.length->bJ v'/\bp v' = u.length
 | [], t, u, v, v', h1, h2, h3, h4 => by
   simp only [aw,Option.some.injEq] at h1;simp only [iJ,Option.some.injEq] at h2;subst h1 h2;exact ⟨h3,h4⟩
 | a :: l, t, u, v, v', h1, h2, h3, h4 => by
   rw [aw] at h1;rw [iJ] at h2
   split at h1
   ·rename_i ha
    split at h2
    ·rename_i ht
     have k:=uj ht;have hl:=(iX (jb.1 ha)).2;exact rX l _ u _ v' h1 h2 k.oky (by rw [k.fy];omega)
    ·cases h2
   ·cases h1
theorem fw : ∀ (l m : List (List Part)) (t : List Int),aw (l ++ m) t = (aw l t).bind (aw m)
 | [],m,t=>by simp [aw]
 | o :: l, m, t => by
   rw [List.cons_append,aw,aw]
   split
   ·exact fw l m _
   ·simp
theorem kJ : ∀ (l : List (List Part)) (t u : List Int),cu t->aw l t = some u->cu u
 | [],t,u,h,e=>by simp only [aw,Option.some.injEq] at e;exact e ▸ h
 | o :: l, t, u, h, e => by
   rw [aw] at e
   split at e
   ·rename_i ha
    exact kJ l _ u (iX (jb.1 ha)).1 e
   ·cases e
theorem lY {d : Doc} (h : aL d) {rev : Int} (h1 : d.fr <= rev) (h2 : rev <= ac d) : (dJ d rev).2 = true /\ aw ((d.list.take (rev - d.fr).toNat).map Entry.o) d.text = some (dJ d rev).1 /\ cu (dJ d rev).1 /\
 aw ((d.list.drop (rev - d.fr).toNat).map Entry.o) (dJ d rev).1 = aw (d.list.map Entry.o) d.text:=by
 have hs:=h.2.2.2.2.2.1;have ht:=h.2.2.1;have e : d.list.map Entry.o = (d.list.take (rev - d.fr).toNat).map Entry.o ++ (d.list.drop (rev - d.fr).toNat).map Entry.o:=by rw [<- List.map_append,List.take_append_drop]
 have e2 : dJ d rev = cX ((d.list.take (rev - d.fr).toNat).map Entry.o) d.text:=by unfold dJ;rw [if_pos ⟨h,h1,h2⟩]
 rw [e,fw] at hs
 cases hx : aw ((d.list.take (rev - d.fr).toNat).map Entry.o) d.text with
 | none=>rw [hx] at hs;simp at hs
 | some u =>
   have e3 : cX ((d.list.take (rev - d.fr).toNat).map Entry.o) d.text = (u,true):=by unfold cX;rw [if_pos ht,hx]
   rw [e2,e3];refine ⟨rfl,rfl,kJ _ _ _ ht hx,?_⟩
   conv=>rhs;rw [e,fw,hx]
   rfl
theorem nN {d : Doc} (h : aL d) : aw (d.list.map Entry.o) d.text = some (cL d)/\cu (cL d):=by
 have hh:=aU h;have h0 : d.fr<=ac d:=by omega
 obtain ⟨h1,h2,h3,h4⟩:=lY h h0 (by omega);have e : (ac d - d.fr).toNat = d.list.length:=by omega
 rw [e,List.take_length] at h2;exact ⟨h2,h3⟩
theorem pd {d : Doc} {base : Int} {o : List Part} (hd : aL d) (ho : bJ o) (h1 : d.fr<=base) (h2 : base<=ac d) (hf : bp o = (dJ d base).1.length)
 (hp : (gk ((d.list.drop (base - d.fr).toNat).map Entry.o) o).2 = true) : iu (gk ((d.list.drop (base - d.fr).toNat).map Entry.o) o).1 (cL d):=by
 obtain ⟨k1,k2,k3,k4⟩:=lY hd h1 h2;obtain ⟨m1,m2⟩:=nN hd;rw [m1] at k4;unfold gk at hp ⊢;rw [if_pos ho] at hp ⊢
 cases hx : iJ ((d.list.drop (base - d.fr).toNat).map Entry.o) (bT o) with
 | none=>rw [hx] at hp;simp at hp
 | some v =>
   have hn:=CH ho;have:=rX _ _ _ _ _ k4 hx hn.1 (by rw [hn.2.1,hf]);exact ⟨this.1,m2,this.2⟩
set_option maxHeartbeats 1600000
theorem Fq (l : List Seen) : ∀ a∈l,∀ d∈a.row,isV d = true:=by
 intro a _ d hd;simp [Seen.row] at hd;rcases hd with rfl | rfl | rfl<;>rfl
theorem fM (l : List Entry) (hl : nL aS l<=2 ^ 30) : ai Tryz.prog 296 [.c (.s (l.map Entry.row))] (.one (.c (.s (l.map Entry.row)) 3)):=by
 refine pci ae Tryz.func296 (λw0 base=>?_);have hle:=aK hl;simp;refine ah eok (λx : Nat × Hd=>x.1<=l.length) (λx=>⟨22,0,[(8,.v (.int .i64 x.1)),(7,.v (.int .i64 l.length)),(6,.ro (l.map Entry.row)),(3,.sl 5000 x.2 3 0 x.1)],[(5000,.rows x.2 3 ((l.take x.1).map Entry.row) true)]⟩) (λx=>l.length - x.1) (0,none) (by simp) (by simp) (λx hx=>Ent.refl ?_);obtain ⟨i,H⟩:=x;simp only at hx ⊢;by_cases hlt : i < l.length
 ·have hm:=el hl hlt
  unfold aS at hm;simp [hlt,Entry.row];intro b5;refine aa.pure (s6 l[i].o hm) (by simp) ?_;simp;intro H1;have e1 : min i l.length = i:=by omega
  simp [e1];intro b6;refine ⟨by omega,λH2=>Ent.refl ⟨i + 1,by omega,by omega,H2,?_⟩⟩;simp;exact ⟨ag (by omega),dt (f:=Entry.row) hlt⟩
 ·have e : l.length = i:=by omega
  simp [hlt];rw [List.take_of_length_le (by simp;omega)];simp [cut,e]
theorem sm (e : Entry) (hl : aS e<=2 ^ 30) : ai Tryz.prog 381 [.agg e.row] (.one (.agg e.res)):=by
 refine pci ae Tryz.func381 (λw0 base=>?_);unfold aS at hl;simp [Entry.row];intro b1 b2;refine drw eok mix [0,1,2,3,4,5] [6,7,8] (.c 6 6 1 62 (.c 6 7 20 42 (.c 6 8 42 0 (.l 6 0) .s) .s) .s) ?_;simp
 try intros
 refine aa.pure (u3 e.o (by omega)) (by simp) ?_;simp
 try intros
 simp [Entry.res]
theorem eE (l : List Entry) (hl : nL aS l<=2 ^ 30) : ai Tryz.prog 339 [.c (.s (l.map Entry.row))] (.one (.c (.s (l.map Entry.row)) 3)):=by
 refine pci ae Tryz.func339 (λw0 base=>?_);have hle:=aK hl;simp;intro b6;refine ah eok (λx : Nat × Hd=>x.1<=l.length) (λx=>⟨20,0,[(9,.v (.int .i64 x.1)),(8,.v (.int .i64 l.length)),(7,.ro (l.map Entry.row)),(3,.sl 96 x.2 3 0 x.1)],[(96,.rows x.2 3 ((l.take x.1).map Entry.row) true)]⟩) (λx=>l.length - x.1) (0,some (b6,0,0)) (by simp) (by simp) (λx hx=>Ent.refl ?_);obtain ⟨i,H⟩:=x;simp only at hx ⊢;by_cases hlt : i < l.length
 ·have hm:=el hl hlt
  simp [hlt,Entry.row];intro b5;refine aa.pure (sm l[i] hm) (by simp [Entry.row]) ?_;simp [Entry.res];intro H1;have e1 : min i l.length = i:=by omega
  simp [e1];intro b7;refine ⟨by omega,λH2=>Ent.refl ⟨i + 1,by omega,by omega,H2,?_⟩⟩;simp;exact ⟨ag (by omega),dt (f:=Entry.row) hlt⟩
 ·have e : l.length = i:=by omega
  simp [hlt];rw [List.take_of_length_le (by simp;omega)];simp [cut,e]
theorem qa (d : Doc) (hl : ce d<=2 ^ 30) : ai Tryz.prog 211 [.agg d.row] (.one (.agg d.res)):=by
 refine pci ae Tryz.func211 (λw0 base=>?_);obtain ⟨n1,n2,n3,n4⟩:=cc hl;simp [Doc.row];intro b1 b2;refine drw eok mix [0,1,2,3,4,5,7,8,10,11] [6,9,12,13,14] (.c 10 6 16 1007 (.c 10 9 4 1003 (.c 10 12 1 1002 (.c 10 13 320 682 (.c 10 14 682 0 (.l 10 0) .s) .s) .s) .s) .s) ?_;simp
 try intros
 refine aa.pure (fj d.text (by omega)) (by simp) ?_;simp
 try intros
 refine aa.pure (fM d.list n1) (by simp) ?_;simp
 try intros
 refine ⟨Fq d.seen,by omega,λH=>?_⟩;simp [Doc.res]
theorem mY (d : Doc) (hl : ce d<=2 ^ 30) : ai Tryz.prog 261 [.agg d.row] (.one (.agg d.res)):=by
 refine pci ae Tryz.func261 (λw0 base=>?_);obtain ⟨n1,n2,n3,n4⟩:=cc hl;simp [Doc.row];intro b1 b2;have h8 : d.text.length * 8<=140737488355328:=by omega
 have h24 : d.seen.length * 24<=140737488355328:=by omega
 refine drw eok mix [0,1,2,3,5,6,8,9,12,13] [4,7,10,11,14,15,16] (.c 10 4 0 1023 (.c 10 7 16 1007 (.c 10 10 4 1003 (.c 10 11 0 1003 (.c 10 14 1 1002 (.c 10 15 320 682 (.c 10 16 682 0 (.l 10 0) .s) .s) .s) .s) (.c 10 11 0 1007 (.c 10 10 4 1003 (.c 10 14 1 1002 (.c 10 15 320 682 (.c 10 16 682 0 (.l 10 0) .s) .s) .s) .s) .s)) (.c 10 11 0 1023 (.c 10 7 16 1007 (.c 10 10 4 1003 (.c 10 14 1 1002 (.c 10 15 320 682 (.c 10 16 682 0 (.l 10 0) .s) .s) .s) .s) .s) .s)) (.c 10 11 0 1023 (.c 10 4 0 1023 (.c 10 7 16 1007 (.c 10 10 4 1003 (.c 10 14 1 1002 (.c 10 15 320 682 (.c 10 16 682 0 (.l 10 0) .s) .s) .s) .s) .s) .s) .s)) ?_;simp
 try intros
 repeat' first
  | (refine aa.pure (eE d.list n1) (by simp) ?_;simp [h24];try intros)
  | (rw [Trc];refine ⟨?_,?_⟩<;>(try simp [h8,h24])<;>try intros)
 all_goals
  simp [Doc.res];exact Fq d.seen
noncomputable def gN : List (List Part)->List Part->Option (List (List Part) × List Part)
 | [],v=>some ([],v)
 | a :: l,v=>if (aC a v).2.2 = true then (gN l (aC a v).2.1).map (λr=>((aC a v).1 :: r.1,r.2)) else none
theorem BO : ∀ (l : List (List Part)) (v : List Part),(gN l v).map Prod.snd = iJ l v
 | [],v=>rfl
 | a :: l, v => by
   rw [gN,iJ]
   split
   ·rw [<- BO l,Option.map_map];rfl
   ·rfl
open Classical in
noncomputable def eQ (l : List (List Part)) (b : List Part) : List (List Part) × List Part × Bool:=
 if bJ b then match gN l (bT b) with
  | some r=>(r.1,r.2,true)
  | none=>([],[],false)
 else ([],[],false)
theorem sL (l : List (List Part)) (b : List Part) : (eQ l b).2 = gk l b:=by
 unfold eQ gk
 split
 ·rw [<- BO]
  cases gN l (bT b)<;>rfl
 ·rfl
theorem rV {l : List (List Part)} {i : Nat} {v : List Part} (h : i < l.length) : gN (l.drop i) v = if (aC l[i] v).2.2 = true then (gN (l.drop (i + 1)) (aC l[i] v).2.1).map (λr=>((aC l[i] v).1 :: r.1,r.2)) else none:=by
 rw [List.drop_eq_getElem_cons h,gN]
theorem uM {l : List (List Part)} {i : Nat} {v : List Part} (h : l.length<=i) : gN (l.drop i) v = some ([],v):=by
 rw [List.drop_eq_nil_of_le h,gN]
theorem yH (l : List (List Part)) (b : List Part) (hl : l.length<=2 ^ 30) (hs : ∀ o∈l,nL aF o<=2 ^ 40) (hb : nL aF b<=2 ^ 40) : ai Tryz.prog 402 [.c (.s (l.map eC)),.c (.s (b.map Part.row))]
 (.tup [.c (.s ((eQ l b).1.map eC)) 1,.c (.s ((eQ l b).2.1.map Part.row)) 3,.c (.v (.bool (eQ l b).2.2)) 1]):=by
 refine pci ae Tryz.func402 (λw0 base=>?_);simp;refine aa.pure (dZ b hb) (by simp) ?_;by_cases c1 : bJ b
 rotate_left
 ·have e : eQ l b = ([],[],false):=by unfold eQ;rw [if_neg c1]
  simp [ab c1,e]
 have e : eQ l b = match gN l (bT b) with
  | some r=>(r.1,r.2,true)
  | none=>([],[],false):=by unfold eQ;rw [if_pos c1]
 simp [c1];refine aa.pure (o5 b hb) (by simp) ?_;simp;intro H0
 refine ah eok (λx : (Nat × List (List Part) × List Part × Nat) × Hd × Hd=>(x.1.2.2.2 = 288\/x.1.2.2.2 = 449)/\(x.1.1<=l.length/\x.1.2.1.length = x.1.1)/\nL aF x.1.2.2.1<=2 ^ 40/\gN l (bT b) = (gN (l.drop x.1.1) x.1.2.2.1).map (λr=>(x.1.2.1 ++ r.1,r.2)))
  (λx=>⟨42,0,[(21,.v (.int .i64 x.1.1)),(20,.v (.int .i64 l.length)),(19,.ro (l.map eC)),(8,.sl x.1.2.2.2 x.2.2 3 0 x.1.2.2.1.length),(7,.sl 5000 x.2.1 1 0 x.1.2.1.length)],
   [(5000,.rows x.2.1 1 (x.1.2.1.map eC) true),(x.1.2.2.2,.rows x.2.2 3 (x.1.2.2.1.map Part.row) true)]⟩) (λx=>l.length - x.1.1) ((0,[],bT b,288),none,H0) ⟨.inl rfl,by simp,by have:=oR b;simp only;omega,by simp⟩ (by simp) (λx hx=>Ent.refl ?_)
 obtain ⟨⟨i,L,v,kk⟩,H1,H2⟩:=x;obtain ⟨hk,⟨hi,hLl⟩,hv,hp⟩:=hx;simp only at hk hi hLl hv hp ⊢;have k5 : ¬ kk = 5000:=by omega
 have k5' : ¬ 5000 = kk:=by omega
 by_cases hlt : i < l.length
 ·rw [rV hlt] at hp
  have hn:=ln l[i] v;simp [hlt];refine aa.pure (qY l[i] v (hs _ (List.getElem_mem hlt)) hv) (by simp [k5]) ?_;generalize aC l[i] v = Q at hp hn ⊢;obtain ⟨x,y,ok⟩:=Q;simp only at hp hn ⊢;simp;intro G1 G2
  cases ok with
  | false =>
    simp at hp;rw [hp] at e;simp [e]
  | true =>
    simp only [if_true] at hp;simp;intro b6;refine ⟨by omega,λH=>Ent.refl ⟨i + 1,L ++ [x],y,449,⟨.inr rfl,⟨by omega,by simp;omega⟩,by omega,?_⟩,by omega,H,G2,?_⟩⟩
    ·rw [hp]
     cases gN (l.drop (i + 1)) y<;>simp
    ·simp
     exact ag (by omega)
 ·rw [uM (by omega)] at hp
  simp only [Option.map_some,List.append_nil] at hp;rw [hp] at e;simp [hlt,e,k5]
theorem Cb (l : List (List Part)) (b : List Part) : nL aF (gk l b).1<=2 ^ 20:=by
 have key : ∀ (l : List (List Part)) (v u : List Part),nL aF v<=2 ^ 20->iJ l v = some u->nL aF u<=2 ^ 20:=by
  intro l
  induction l with
  | nil=>intro v u h1 h2;simp only [iJ,Option.some.injEq] at h2;exact h2 ▸ h1
  | cons a l ih =>
    intro v u h1 h2;rw [iJ] at h2
    split at h2
    ·exact ih _ u (by have:=ln a v;omega) h2
    ·cases h2
 unfold gk
 split
 ·cases h : iJ l (bT b) with
  | none=>simp [nL,bO]
  | some v=>exact key l _ v (oR b) h
 ·simp [nL,bO]
theorem AD (l : List (List Part)) (b : List Part) (hl : l.length<=2 ^ 30) (hs : ∀ o∈l,nL aF o<=2 ^ 40) (hb : nL aF b<=2 ^ 40) : ai Tryz.prog 376 [.c (.s (l.map eC)),.c (.s (b.map Part.row))]
 (.tup [.c (.s ((gk l b).1.map Part.row)) 3,.c (.v (.bool (gk l b).2)) 1]):=by
 refine pci ae Tryz.func376 (λw0 base=>?_);simp;refine aa.pure (yH l b hl hs hb) (by simp) ?_;rw [<- sL];generalize eQ l b = Q;obtain ⟨x,y,ok⟩:=Q;simp
theorem xF (l : List (List Part)) (b : List Part) (hl : l.length<=2 ^ 30) (hs : ∀ o∈l,nL aF o<=2 ^ 40) (hb : nL aF b<=2 ^ 40) : ai Tryz.prog 411 [.c (.s (l.map eC)),.c (.s (b.map Part.row))]
 (.tup [.c (.s ((eQ l b).1.map eC)) 1,.c (.s ((eQ l b).2.1.map Part.row)) 3,.c (.v (.bool (eQ l b).2.2)) 1]):=by
 refine pci ae Tryz.func411 (λw0 base=>?_);simp;refine aa.pure (dW b hb) (by simp) ?_;by_cases c1 : bJ b
 rotate_left
 ·have e : eQ l b = ([],[],false):=by unfold eQ;rw [if_neg c1]
  simp [ab c1,e]
 have e : eQ l b = match gN l (bT b) with
  | some r=>(r.1,r.2,true)
  | none=>([],[],false):=by unfold eQ;rw [if_pos c1]
 simp [c1];intro b9;refine aa.pure (oH b hb) (by simp) ?_;simp;intro H0
 refine ah eok (λx : (Nat × List (List Part) × List Part × Nat) × Hd × Hd=>(x.1.2.2.2 = 304\/x.1.2.2.2 = 465)/\(x.1.1<=l.length/\x.1.2.1.length = x.1.1)/\nL aF x.1.2.2.1<=2 ^ 40/\gN l (bT b) = (gN (l.drop x.1.1) x.1.2.2.1).map (λr=>(x.1.2.1 ++ r.1,r.2)))
  (λx=>⟨43,0,[(22,.v (.int .i64 x.1.1)),(21,.v (.int .i64 l.length)),(20,.ro (l.map eC)),(8,.sl x.1.2.2.2 x.2.2 3 0 x.1.2.2.1.length),(7,.sl 272 x.2.1 1 0 x.1.2.1.length)],
   [(272,.rows x.2.1 1 (x.1.2.1.map eC) true),(x.1.2.2.2,.rows x.2.2 3 (x.1.2.2.1.map Part.row) true)]⟩) (λx=>l.length - x.1.1) ((0,[],bT b,304),some (b9,0,0),H0) ⟨.inl rfl,by simp,by have:=oR b;simp only;omega,by simp⟩ (by simp) (λx hx=>Ent.refl ?_)
 obtain ⟨⟨i,L,v,kk⟩,H1,H2⟩:=x;obtain ⟨hk,⟨hi,hLl⟩,hv,hp⟩:=hx;simp only at hk hi hLl hv hp ⊢;have k5 : ¬ kk = 272:=by omega
 have k5' : ¬ 272 = kk:=by omega
 by_cases hlt : i < l.length
 ·rw [rV hlt] at hp
  have hn:=ln l[i] v;simp [hlt];refine aa.pure (qW l[i] v (hs _ (List.getElem_mem hlt)) hv) (by simp [k5]) ?_;generalize aC l[i] v = Q at hp hn ⊢;obtain ⟨x,y,ok⟩:=Q;simp only at hp hn ⊢;simp;intro G1 G2
  cases ok with
  | false =>
    simp at hp;rw [hp] at e;simp [e]
  | true =>
    simp only [if_true] at hp;simp;intro b6;refine ⟨by omega,λH=>Ent.refl ⟨i + 1,L ++ [x],y,465,⟨.inr rfl,⟨by omega,by simp;omega⟩,by omega,?_⟩,by omega,H,G2,?_⟩⟩
    ·rw [hp]
     cases gN (l.drop (i + 1)) y<;>simp
    ·simp
     exact ag (by omega)
 ·rw [uM (by omega)] at hp
  simp only [Option.map_some,List.append_nil] at hp;rw [hp] at e;simp [hlt,e,k5]
theorem zI (l : List (List Part)) (b : List Part) (hl : l.length<=2 ^ 30) (hs : ∀ o∈l,nL aF o<=2 ^ 40) (hb : nL aF b<=2 ^ 40) : ai Tryz.prog 405 [.c (.s (l.map eC)),.c (.s (b.map Part.row))]
 (.tup [.c (.s ((gk l b).1.map Part.row)) 3,.c (.v (.bool (gk l b).2)) 1]):=by
 refine pci ae Tryz.func405 (λw0 base=>?_);simp;refine aa.pure (xF l b hl hs hb) (by simp) ?_;rw [<- sL];generalize eQ l b = Q;obtain ⟨x,y,ok⟩:=Q;simp
noncomputable def w8 (d : Doc) (rev : Int) : Int:=if ac d < rev then 2 else if rev < d.fr then 3 else 0
theorem zd (d : Doc) (rev : Int) : ai Tryz.prog 334 [.agg d.row,.c (vi rev)] (.one (.c (vi (w8 d rev)) 1)):=by
 refine pci ae Tryz.func334 (λw0 base=>?_);simp [Doc.row];intro b;refine aa.pure (bm d) (by simp [Doc.row]) ?_;unfold w8;by_cases c1 : ac d < rev
 ·simp [c1]
 ·by_cases c2 : rev < d.fr
  ·simp [c1,c2]
  ·simp [c1,c2]
open Classical in
noncomputable def ir (d : Doc) (rev : Int) : List (List Part) × Bool:=if aL d/\d.fr<=rev/\rev<=ac d then ((d.list.drop (rev - d.fr).toNat).map Entry.o,true) else ([],false)
theorem jH {d : Doc} {rev : Int} (h : ¬ (aL d/\d.fr<=rev/\rev<=ac d)) : ir d rev = ([],false):=by unfold ir;rw [if_neg h]
theorem iQ {d : Doc} {rev : Int} (h : aL d/\d.fr<=rev/\rev<=ac d) : ir d rev = ((d.list.drop (rev - d.fr).toNat).map Entry.o,true):=by unfold ir;rw [if_pos h]
theorem rD {α : Type} {f : α->Nat} : ∀ (l : List α) (k : Nat),bO f (l.drop k)<=bO f l
 | [],k=>by simp
 | a :: l,0=>by simp
 | a :: l,k + 1=>by have:=rD (f:=f) l k;simp only [List.drop_succ_cons,bO];omega
theorem oT {α : Type} {f : α->Nat} {l : List α} {k B : Nat} (h : nL f l<=B) : nL f (l.drop k)<=B:=by
 have:=rD (f:=f) l k;unfold nL at *;simp only [List.length_drop];omega
theorem hU {l : List Entry} {k : Nat} (_h : k<=l.length) : cut (l.map Entry.row) k (l.length - k) = (l.drop k).map Entry.row:=by
 unfold cut
 split
 ·rename_i h1
  rw [h1.1];simp
 ·rw [<- List.map_drop,List.take_of_length_le (by simp)]
theorem sC (d : Doc) (hl : ce d<=2 ^ 30) (rev : Int) : ai Tryz.prog 375 [.agg d.row,.c (vi rev)] (.tup [.c (.s ((ir d rev).1.map eC)) 1,.c (.v (.bool (ir d rev).2)) 1]):=by
 refine pci ae Tryz.func375 (λw0 base=>?_);obtain ⟨n1,n2,n3,n4⟩:=cc hl;simp [Doc.row];intro b2;refine au.quiet eok mix (by kernel_rfl) ?_;simp;refine ⟨_,_,fd d hl,by simp [Doc.row],?_⟩;by_cases c1 : aL d
 rotate_left
 ·have e:=jH (d:=d) (rev:=rev) (λh=>c1 h.1)
  simp [ab c1,e]
 simp [c1];refine ⟨_,_,bm d,by simp [Doc.row],?_⟩;simp;refine ⟨_,_,aO rev d.fr (ac d),by simp,?_⟩;by_cases c2 : d.fr<=rev/\rev<=ac d
 rotate_left
 ·have e:=jH (d:=d) (rev:=rev) (λh=>c2 h.2)
  simp [ab c2,e]
 have e:=iQ ⟨c1,c2⟩;have hh:=aU c1;obtain ⟨k,hk⟩ : ∃ k : Nat,rev - d.fr = k:=⟨(rev - d.fr).toNat,by omega⟩;have hkl : k<=d.list.length:=by omega
 have ew : Go.IntKind.i64.wrap (rev - d.fr) = (k : Int):=by rw [Go.IntWalk.i64_in _ (by omega)];omega
 rw [hk] at e;simp only [Int.toNat_natCast] at e;simp [c2,ew,hkl,hU hkl];refine aa.pure (vU (d.list.drop k) (oT n1)) (by simp) ?_;simp [e];intro row h;have:=List.mem_of_mem_drop h;simp at this;obtain ⟨x,-,rfl⟩:=this;rfl
theorem rJ (d : Doc) (hl : ce d<=2 ^ 30) (rev : Int) : ai Tryz.prog 404 [.agg d.row,.c (vi rev)] (.tup [.c (.s ((ir d rev).1.map eC)) 1,.c (.v (.bool (ir d rev).2)) 1]):=by
 refine pci ae Tryz.func404 (λw0 base=>?_);obtain ⟨n1,n2,n3,n4⟩:=cc hl;simp [Doc.row];intro b2;refine au.quiet eok mix (by kernel_rfl) ?_;simp;refine ⟨_,_,e9 d hl,by simp [Doc.row],?_⟩;by_cases c1 : aL d
 rotate_left
 ·have e:=jH (d:=d) (rev:=rev) (λh=>c1 h.1)
  simp [ab c1,e]
 simp [c1];refine ⟨_,_,aP d,by simp [Doc.row],?_⟩;simp;refine ⟨_,_,cI rev d.fr (ac d),by simp,?_⟩;by_cases c2 : d.fr<=rev/\rev<=ac d
 rotate_left
 ·have e:=jH (d:=d) (rev:=rev) (λh=>c2 h.2)
  simp [ab c2,e]
 have e:=iQ ⟨c1,c2⟩;have hh:=aU c1;obtain ⟨k,hk⟩ : ∃ k : Nat,rev - d.fr = k:=⟨(rev - d.fr).toNat,by omega⟩;have hkl : k<=d.list.length:=by omega
 have ew : Go.IntKind.i64.wrap (rev - d.fr) = (k : Int):=by rw [Go.IntWalk.i64_in _ (by omega)];omega
 rw [hk] at e;simp only [Int.toNat_natCast] at e;simp [c2,ew,hkl,hU hkl];intro b21;obtain ⟨l,hl'⟩ : ∃ l,d.list.drop k = l:=⟨_,rfl⟩;have hn : nL aS l<=2 ^ 30:=hl' ▸ oT n1;have hll : d.list.length - k = l.length:=by rw [<- hl'];simp
 have hle:=aK hn;rw [hl'] at e;simp only [<- List.map_drop,hl',hll];refine ah eok (λx : Nat × Hd=>x.1<=l.length) (λx=>⟨42,0,[(30,.v (.int .i64 x.1)),(29,.v (.int .i64 l.length)),(28,.ro (l.map Entry.row)),(6,.sl 336 x.2 1 0 x.1)],[(336,.rows x.2 1 (((l.take x.1).map Entry.o).map eC) true)]⟩) (λx=>l.length - x.1) (0,some (b21,0,0)) (by simp) (by simp) (λx hx=>Ent.refl ?_);obtain ⟨i,H⟩:=x;simp only at hx ⊢;by_cases hlt : i < l.length
 ·have hm:=el hn hlt
  unfold aS at hm;simp [hlt,Entry.row];intro b5;refine aa.pure (u3 l[i].o hm) (by simp) ?_;simp;intro H1 b;have e1 : i = min i l.length:=by omega
  refine ⟨e1,by omega,λH2=>Ent.refl ⟨i + 1,by omega,by omega,H2,?_⟩⟩;simp;exact ⟨ag (by omega),dt (f:=λe : Entry=>eC e.o) hlt⟩
 ·have e2 : l.length = i:=by omega
  simp [hlt,e];have e1 : i<=min i l.length:=by omega
  refine ⟨e1,?_,?_⟩
  ·intro row hr
   have:=List.mem_of_mem_take hr;simp at this;obtain ⟨x,-,rfl⟩:=this;rfl
  ·rw [List.take_of_length_le (by simp;omega)]
   simp [cut,e2]
theorem sS (l : List Entry) (k : Nat) : ∀ row∈List.drop k (List.map Entry.row l),row.length = 3:=by
 intro row h;have:=List.mem_of_mem_drop h;simp at this;obtain ⟨x,-,rfl⟩:=this;rfl
open Classical in
theorem vg {d : Doc} {rev : Int} (h : ¬ aL d) : fi d rev = ([],1):=by unfold fi;rw [if_neg h]
theorem sO {d : Doc} {rev : Int} (h : aL d) : fi d rev = if ac d < rev then ([],2) else if rev < d.fr then ([],3) else (d.list.drop (rev - d.fr).toNat,0):=by unfold fi;rw [if_pos h]
theorem yI (d : Doc) (hl : ce d<=2 ^ 30) (rev : Int) : ai Tryz.prog 248 [.agg d.row,.c (vi rev)] (.tup [.c (.s ((fi d rev).1.map Entry.row)) 3,.c (vi (fi d rev).2) 1]):=by
 refine pci ae Tryz.func248 (λw0 base=>?_);obtain ⟨n1,n2,n3,n4⟩:=cc hl;simp [Doc.row];intro b2;refine aa.pure (fd d hl) (by simp [Doc.row]) ?_;by_cases c1 : aL d
 rotate_left
 ·simp [ab c1,vg c1]
 have e:=sO (rev:=rev) c1;simp [c1];refine aa.pure (zd d rev) (by simp [Doc.row]) ?_;unfold w8;by_cases c2 : ac d < rev
 ·simp [c2,e]
 by_cases c3 : rev < d.fr
 ·simp [c2,c3,e]
 have hh:=aU c1;obtain ⟨k,hk⟩ : ∃ k : Nat,rev - d.fr = k:=⟨(rev - d.fr).toNat,by omega⟩;have hkl : k<=d.list.length:=by omega
 have ew : Go.IntKind.i64.wrap (rev - d.fr) = (k : Int):=by rw [Go.IntWalk.i64_in _ (by omega)];omega
 simp only [c2,c3,if_false,hk,Int.toNat_natCast] at e;simp [c2,c3,ew,hkl,hU hkl];refine aa.pure (fM (d.list.drop k) (oT n1)) (by simp) ?_;simp [e];exact sS _ _
theorem xH (d : Doc) (hl : ce d<=2 ^ 30) (rev : Int) : ai Tryz.prog 343 [.agg d.row,.c (vi rev)] (.tup [.c (.s ((fi d rev).1.map Entry.row)) 3,.c (vi (fi d rev).2) 1]):=by
 refine pci ae Tryz.func343 (λw0 base=>?_);obtain ⟨n1,n2,n3,n4⟩:=cc hl;simp [Doc.row];intro b2;refine aa.pure (e9 d hl) (by simp [Doc.row]) ?_;by_cases c1 : aL d
 rotate_left
 ·simp [ab c1,vg c1]
 have e:=sO (rev:=rev) c1;simp [c1];refine aa.pure (aP d) (by simp [Doc.row]) ?_;by_cases c2 : ac d < rev
 ·simp [c2,e]
 by_cases c3 : rev < d.fr
 ·simp [c2,c3,e]
 have hh:=aU c1;obtain ⟨k,hk⟩ : ∃ k : Nat,rev - d.fr = k:=⟨(rev - d.fr).toNat,by omega⟩;have hkl : k<=d.list.length:=by omega
 have ew : Go.IntKind.i64.wrap (rev - d.fr) = (k : Int):=by rw [Go.IntWalk.i64_in _ (by omega)];omega
 simp only [c2,c3,if_false,hk,Int.toNat_natCast] at e;simp [c2,c3,ew,hkl,hU hkl];refine aa.pure (eE (d.list.drop k) (oT n1)) (by simp) ?_;simp [e];exact sS _ _
theorem jf (d : Doc) (hl : ce d<=2 ^ 30) : ai Tryz.prog 324 [.agg d.row] (.one (.c (.s ((cL d).map ao)) 1)):=by
 refine pci ae Tryz.func324 (λw0 base=>?_);simp [Doc.row];intro b2;refine drw eok mix [0,1] [2,3,4,5,6,7,8] (.c 2 2 1 2 (.c 2 3 2 0 (.c 2 4 0 0 (.c 2 5 0 0 (.c 2 6 0 0 (.c 2 7 0 0 (.c 2 8 0 0 (.l 2 0) .s) .s) .s) .s) .s) .s) .s) ?_;simp
 try intros
 refine aa.pure (aP d) (by simp [Doc.row]) ?_;simp
 try intros
 refine aa.pure (kS d hl (ac d)) (by simp [Doc.row]) ?_;simp
 try intros
 simp [cL]
theorem mi (d : Doc) (hl : ce d<=2 ^ 30) : ai Tryz.prog 149 [.agg d.row] (.one (.c (.s ((cL d).map ao)) 1)):=by
 refine pci ae Tryz.func149 (λw0 base=>?_);simp [Doc.row];intro b2;refine drw eok mix [0,1] [2,3,4,5,6,7,8] (.c 2 2 1 2 (.c 2 3 2 0 (.c 2 4 0 0 (.c 2 5 0 0 (.c 2 6 0 0 (.c 2 7 0 0 (.c 2 8 0 0 (.l 2 0) .s) .s) .s) .s) .s) .s) .s) ?_;simp
 try intros
 refine aa.pure (bm d) (by simp [Doc.row]) ?_;simp
 try intros
 refine aa.pure (oZ d hl (ac d)) (by simp [Doc.row]) ?_;simp
 try intros
 simp [cL]
theorem lu {d : Doc} {base : Int} {o : List Part} (h : ¬ (aL d/\bJ o)) : cm d base o = ([],1):=by unfold cm;rw [if_neg h]
theorem qI {d : Doc} {base : Int} {o : List Part} (h : aL d/\bJ o) : cm d base o = if ac d < base then ([],2) else if base < d.fr then ([],3) else
 if bp o = (dJ d base).1.length then
  if (gk ((d.list.drop (base - d.fr).toNat).map Entry.o) o).2 = true then ((gk ((d.list.drop (base - d.fr).toNat).map Entry.o) o).1,0) else ([],5)
 else ([],1):=by unfold cm;rw [if_pos h]
theorem wc (d : Doc) (hl : ce d<=2 ^ 30) (base : Int) (o : List Part) (ho : nL aF o<=2 ^ 40) : ai Tryz.prog 332 [.agg d.row,.c (vi base),.c (.s (o.map Part.row))] (.tup [.c (.s ((cm d base o).1.map Part.row)) 3,.c (vi (cm d base o).2) 1]):=by
 refine pci ae Tryz.func332 (λw0 bs=>?_);obtain ⟨n1,n2,n3,n4⟩:=cc hl;simp [Doc.row];intro b3;refine aa.pure (fd d hl) (by simp [Doc.row]) ?_;by_cases c1 : aL d
 rotate_left
 ·simp [ab c1,lu (d:=d) (base:=base) (o:=o) (λh=>c1 h.1)]
 simp [c1];refine aa.pure (dZ o ho) (by simp) ?_;by_cases c2 : bJ o
 rotate_left
 ·simp [ab c2,lu (d:=d) (base:=base) (o:=o) (λh=>c2 h.2)]
 have e:=qI (base:=base) ⟨c1,c2⟩;simp [c2];refine aa.pure (zd d base) (by simp [Doc.row]) ?_;unfold w8;by_cases c3 : ac d < base
 ·simp [c3,e]
 by_cases c4 : base < d.fr
 ·simp [c3,c4,e]
 have hh:=aU c1;have c5 : aL d/\d.fr<=base/\base<=ac d:=⟨c1,by omega,by omega⟩;have hops:=iQ c5;simp only [c3,c4,if_false] at e;simp [c3,c4];refine aa.pure (oZ d hl base) (by simp [Doc.row]) ?_;generalize dJ d base = T at e ⊢;obtain ⟨t,ok⟩:=T;simp only at e ⊢;simp;intro H1;refine aa.pure (gG o ho) (by simp) ?_;by_cases c6 : bp o = t.length
 rotate_left
 ·simp only [c6,if_false] at e
  simp [c6,e]
 simp only [c6,if_true] at e;simp [c6];refine aa.pure (sC d hl base) (by simp [Doc.row]) ?_;rw [hops];generalize hL : (d.list.drop (base - d.fr).toNat) = L at e ⊢;have hL1 : L.length<=d.list.length:=by rw [<- hL];simp
 have hle:=aK n1
 have hs : ∀ q∈L.map Entry.o,nL aF q<=2 ^ 40:=λq hq=>by
  have:=na n1 (l:=L) (λe he=>by rw [<- hL] at he;exact List.mem_of_mem_drop he) hq;omega
 simp;intro H2;refine aa.pure (AD (L.map Entry.o) o (by simp;omega) hs ho) (by simp) ?_;generalize gk (L.map Entry.o) o = P at e ⊢;obtain ⟨v,ok2⟩:=P;simp only at e ⊢
 cases ok2 with
 | false=>simp at e;simp [e]
 | true=>simp at e;simp [e]
theorem oG (d : Doc) (hl : ce d<=2 ^ 30) (base : Int) (o : List Part) (ho : nL aF o<=2 ^ 40) : ai Tryz.prog 383 [.agg d.row,.c (vi base),.c (.s (o.map Part.row))] (.tup [.c (.s ((cm d base o).1.map Part.row)) 3,.c (vi (cm d base o).2) 1]):=by
 refine pci ae Tryz.func383 (λw0 bs=>?_);obtain ⟨n1,n2,n3,n4⟩:=cc hl;simp [Doc.row];intro b3;refine aa.pure (e9 d hl) (by simp [Doc.row]) ?_;by_cases c1 : aL d
 rotate_left
 ·simp [ab c1,lu (d:=d) (base:=base) (o:=o) (λh=>c1 h.1)]
 simp [c1];refine aa.pure (dW o ho) (by simp) ?_;by_cases c2 : bJ o
 rotate_left
 ·simp [ab c2,lu (d:=d) (base:=base) (o:=o) (λh=>c2 h.2)]
 have e:=qI (base:=base) ⟨c1,c2⟩;simp [c2];refine aa.pure (aP d) (by simp [Doc.row]) ?_;by_cases c3 : ac d < base
 ·simp [c3,e]
 by_cases c4 : base < d.fr
 ·simp [c3,c4,e]
 have hh:=aU c1;have c5 : aL d/\d.fr<=base/\base<=ac d:=⟨c1,by omega,by omega⟩;have hops:=iQ c5;have hfit:=pd (o:=o) c1 c2 c5.2.1 c5.2.2;simp only [c3,c4,if_false] at e;simp [c3,c4];refine aa.pure (kS d hl base) (by simp [Doc.row]) ?_;generalize dJ d base = T at e hfit ⊢;obtain ⟨t,ok⟩:=T;simp only at e hfit ⊢;simp;intro H1;refine aa.pure (gv o ho) (by simp) ?_;by_cases c6 : bp o = t.length
 rotate_left
 ·simp only [c6,if_false] at e
  simp [c6,e]
 simp only [c6,if_true,true_implies] at e hfit;simp [c6];refine aa.pure (rJ d hl base) (by simp [Doc.row]) ?_;rw [hops];generalize hL : (d.list.drop (base - d.fr).toNat) = L at e hfit ⊢;have hL1 : L.length<=d.list.length:=by rw [<- hL];simp
 have hle:=aK n1
 have hs : ∀ q∈L.map Entry.o,nL aF q<=2 ^ 40:=λq hq=>by
  have:=na n1 (l:=L) (λe he=>by rw [<- hL] at he;exact List.mem_of_mem_drop he) hq;omega
 have hpn:=Cb (L.map Entry.o) o;simp;intro H2;refine aa.pure (zI (L.map Entry.o) o (by simp;omega) hs ho) (by simp) ?_;generalize gk (L.map Entry.o) o = P at e hfit hpn ⊢;obtain ⟨v,ok2⟩:=P;simp only at e hfit hpn ⊢
 cases ok2 with
 | false=>simp at e;simp [e]
 | true =>
   have hf:=hfit rfl;have ht:=hf.2.1.1;simp at e;simp [e];intro H3;refine aa.pure (jf d hl) (by simp [Doc.row]) ?_;simp;intro H4;refine aa.pure (fb v (cL d) (by omega) (by omega)) (by simp) ?_;have ha:=jb.2 hf;generalize apply v (cL d) = A at ha ⊢;obtain ⟨u,ok3⟩:=A;simp only at ha;subst ha;simp
end Go.Proofs.YtoldjebobgocpaaGreat
