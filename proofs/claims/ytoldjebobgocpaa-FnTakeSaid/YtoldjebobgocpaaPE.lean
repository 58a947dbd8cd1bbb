import Derived.Test.YtoldjebobgocpaaPD
import Derived.Test.YtoldjebobgocpaaPC
import Derived.Test.YtoldjebobgocpaaMF
namespace Go.Proofs.Ytoldjebobgocpaa
set_option maxRecDepth 20000
inductive At where
 | k
 | p (c : Int)
 | d
def ats (p : Part) : List At:=if p.kind = 2 then p.signs.map At.p else if p.kind = 3 then List.replicate (psz p) .d else List.replicate (psz p) .k
def atoms : List Part→List At
 | []=>[]
 | p :: l=>ats p ++ atoms l
theorem atoms_append : ∀ (a b : List Part),atoms (a ++ b) = atoms a ++ atoms b
 | [],b=>rfl
 | p :: a,b=>by simp [atoms,atoms_append a b]
def frA : List At→Nat
 | []=>0
 | .p _ :: l=>frA l
 | _ :: l=>frA l + 1
def toA : List At→Nat
 | []=>0
 | .d :: l=>toA l
 | _ :: l=>toA l + 1
theorem frA_append : ∀ (a b : List At),frA (a ++ b) = frA a + frA b
 | [],b=>by simp [frA]
 | .p c :: a,b=>by simp [frA,frA_append a b]
 | .k :: a,b=>by simp [frA,frA_append a b];omega
 | .d :: a,b=>by simp [frA,frA_append a b];omega
theorem toA_append : ∀ (a b : List At),toA (a ++ b) = toA a + toA b
 | [],b=>by simp [toA]
 | .d :: a,b=>by simp [toA,toA_append a b]
 | .k :: a,b=>by simp [toA,toA_append a b];omega
 | .p c :: a,b=>by simp [toA,toA_append a b];omega
theorem frA_ps : ∀ l : List Int,frA (l.map At.p) = 0
 | []=>rfl
 | c :: l=>by simp [frA,frA_ps l]
theorem toA_ps : ∀ l : List Int,toA (l.map At.p) = l.length
 | []=>rfl
 | c :: l=>by simp [toA,toA_ps l]
theorem frA_ks : ∀ n : Nat,frA (List.replicate n At.k) = n
 | 0=>rfl
 | n + 1=>by simp [List.replicate_succ,frA,frA_ks n]
theorem frA_ds : ∀ n : Nat,frA (List.replicate n At.d) = n
 | 0=>rfl
 | n + 1=>by simp [List.replicate_succ,frA,frA_ds n]
theorem toA_ks : ∀ n : Nat,toA (List.replicate n At.k) = n
 | 0=>rfl
 | n + 1=>by simp [List.replicate_succ,toA,toA_ks n]
theorem toA_ds : ∀ n : Nat,toA (List.replicate n At.d) = 0
 | 0=>rfl
 | n + 1=>by simp [List.replicate_succ,toA,toA_ds n]
theorem psz_put {p : Part} (h : partOk p) (k : p.kind = 2) : psz p = p.signs.length:=by
 rw [partOk_put k] at h;unfold psz;omega
theorem ats_fr {p : Part} : frA (ats p) = if p.kind = 2 then 0 else psz p:=by
 unfold ats
 split
 ·exact frA_ps _
 ·split
  ·exact frA_ds _
  ·exact frA_ks _
theorem ats_to {p : Part} (h : partOk p) : toA (ats p) = if p.kind = 3 then 0 else psz p:=by
 unfold ats;by_cases k : p.kind = 2
 ·have : ¬ p.kind = 3:=by omega
  rw [if_pos k,if_neg this,toA_ps,psz_put h k]
 ·rw [if_neg k]
  split
  ·exact toA_ds _
  ·exact toA_ks _
theorem frs_at : ∀ (o : List Part),frs o = frA (atoms o)
 | []=>rfl
 | p :: o=>by simp only [frs,atoms,frA_append,ats_fr,frs_at o]
theorem tos_at : ∀ {o : List Part},(∀ p∈o,partOk p)→tos o = toA (atoms o)
 | [],_=>rfl
 | p :: o,h=>by
   simp only [tos,atoms,toA_append,ats_to (h p (List.mem_cons_self ..)),tos_at (fun q hq=>h q (List.mem_cons_of_mem _ hq))]
def nA : List Int→Nat→List At→List At
 | P,n,[]=>P.map At.p ++ List.replicate n .d
 | P,n,.k :: l=>P.map At.p ++ (List.replicate n .d ++ .k :: nA [] 0 l)
 | P,n,.p c :: l=>nA (P ++ [c]) n l
 | P,n,.d :: l=>nA P (n + 1) l
def normA (l : List At) : List At:=nA [] 0 l
theorem nA_fr : ∀ (l : List At) (P : List Int) (n : Nat),frA (nA P n l) = n + frA l
 | [],P,n=>by simp [nA,frA,frA_append,frA_ps,frA_ds]
 | .k :: l,P,n=>by simp [nA,frA,frA_append,frA_ps,frA_ds,nA_fr l]
 | .p c :: l,P,n=>by simp [nA,frA,nA_fr l]
 | .d :: l,P,n=>by simp [nA,frA,nA_fr l];omega
theorem nA_to : ∀ (l : List At) (P : List Int) (n : Nat),toA (nA P n l) = P.length + toA l
 | [],P,n=>by simp [nA,toA,toA_append,toA_ps,toA_ds]
 | .k :: l,P,n=>by simp [nA,toA,toA_append,toA_ps,toA_ds,nA_to l]
 | .p c :: l,P,n=>by simp [nA,toA,nA_to l];omega
 | .d :: l,P,n=>by simp [nA,toA,nA_to l]
theorem nA_ps : ∀ (Q P : List Int) (n : Nat) (l : List At),nA P n (Q.map At.p ++ l) = nA (P ++ Q) n l
 | [],P,n,l=>by simp
 | c :: Q,P,n,l=>by simp [nA,nA_ps Q]
theorem nA_ds : ∀ (m : Nat) (P : List Int) (n : Nat) (l : List At),nA P n (List.replicate m .d ++ l) = nA P (n + m) l
 | 0,P,n,l=>by simp
 | m + 1,P,n,l=>by simp [List.replicate_succ,nA,nA_ds m];congr 1;omega
theorem nA_ks : ∀ (m : Nat) (l : List At),nA [] 0 (List.replicate m .k ++ l) = List.replicate m .k ++ nA [] 0 l
 | 0,l=>by simp
 | m + 1,l=>by simp [List.replicate_succ,nA,nA_ks m]
def bA (s : List Part × List Int × Int) : List At:=atoms s.1 ++ (s.2.1.map At.p ++ List.replicate s.2.2.toNat .d)
theorem flush_at {L : List Part} {P : List Int} {D : Int} : atoms (nbFlush L P D) = bA (L,P,D):=by
 unfold nbFlush bA;rw [atoms_append,atoms_append]
 congr 1
 congr 1
 ·split
  ·rename_i h;simp [h,atoms]
  ·simp [atoms,ats]
 ·split
  ·simp [atoms,ats,psz]
  ·have : D.toNat = 0:=by omega
   simp [atoms,this]
theorem atoms_set_last : ∀ (L : List Part) (_h : 0 < L.length) (p : Part),atoms (L.set (L.length - 1) p) = atoms L.dropLast ++ ats p
 | [q],h,p=>by simp [atoms]
 | q :: r :: L,h,p=>by
   have ih:=atoms_set_last (r :: L) (by simp) p;simp only [List.length_cons,Nat.add_sub_cancel] at ih ⊢;rw [List.set_cons_succ,atoms,ih];simp [atoms]
theorem atoms_last : ∀ (L : List Part) (h : 0 < L.length),atoms L = atoms L.dropLast ++ ats (L[L.length - 1]'(by omega))
 | [q],h=>by simp [atoms]
 | q :: r :: L,h=>by
   have ih:=atoms_last (r :: L) (by simp);simp only [List.length_cons,Nat.add_sub_cancel] at ih ⊢;rw [atoms,ih];simp [atoms]
theorem keep_at {L : List Part} {n : Int} (hn : 0 < n) (hL : ∀ q∈L,0≤q.n) (hk : ∀ q∈L,q.kind = 1→q.signs = []) : atoms (nbKeep L n) = atoms L ++ List.replicate n.toNat .k:=by
 unfold nbKeep
 split
 ·rename_i h
  split
  ·rename_i k
   have h1:=hL _ (List.getElem_mem (show L.length - 1 < L.length by omega));have h2:=hk _ (List.getElem_mem (show L.length - 1 < L.length by omega)) k;rw [atoms_set_last L h,atoms_last L h,List.append_assoc]
   congr 1
   generalize L[L.length - 1]'(by omega) = q at h1 h2 k;obtain ⟨a,b,c⟩:=q;simp only at h1 h2 k;subst k h2;simp [ats,psz,List.replicate_append_replicate];omega
  ·rw [atoms_append]
   simp [atoms,ats,psz]
 ·rename_i h
  have : L = []:=List.eq_nil_of_length_eq_zero (by omega);subst this;simp [atoms,ats,psz]
theorem flush_keeps {L : List Part} {P : List Int} {D : Int} (h : ∀ q∈L,q.kind = 1→q.signs = []) : ∀ q∈nbFlush L P D,q.kind = 1→q.signs = []:=by
 intro q hq hk;unfold nbFlush at hq;rcases List.mem_append.1 hq with hq | hq
 ·exact h q hq hk
 ·rcases List.mem_append.1 hq with hq | hq
  ·split at hq
   ·simp at hq
   ·simp at hq;subst hq;simp at hk
  ·split at hq
   ·simp at hq;subst hq;rfl
   ·simp at hq
theorem keep_keeps {L : List Part} {n : Int} (h : ∀ q∈L,q.kind = 1→q.signs = []) : ∀ q∈nbKeep L n,q.kind = 1→q.signs = []:=by
 intro q hq hk;unfold nbKeep at hq
 split at hq
 ·rename_i hl
  split at hq
  ·rename_i k
   rcases List.mem_or_eq_of_mem_set hq with hq | rfl
   ·exact h q hq hk
   ·exact (h (L[L.length - 1]'(by omega)) (List.getElem_mem _) k :)
  ·rcases List.mem_append.1 hq with hq | hq
   ·exact h q hq hk
   ·simp at hq;subst hq;rfl
 ·simp at hq;subst hq;rfl
theorem nbRun_at {o : List Part} (ho : ∀ p ∈ o,partOk p) : ∀ (i : Nat),i ≤ o.length → (∀ q ∈ (nbRun (o.take i)).1,q.kind = 1 → q.signs = []) ∧ 0 ≤ (nbRun (o.take i)).2.2 ∧ (∀ q ∈ (nbRun (o.take i)).1,0 ≤ q.n) ∧
 ∀ l,normA (atoms (o.take i) ++ l) = atoms (nbRun (o.take i)).1 ++ nA (nbRun (o.take i)).2.1 (nbRun (o.take i)).2.2.toNat l
 | 0,_=>by simp [nbRun,atoms,normA]
 | i + 1,hi=>by
   obtain ⟨h1,h2,h3,h4⟩:=nbRun_at ho i (by omega);have hlt : i < o.length:=by omega
   have hq:=(nbRun_ok ho (i + 1) hi);have hp:=(ho _ (List.getElem_mem hlt));have hb:=hp.bounds;refine ⟨?_,hq.d0,fun q hq'=>(hq.q q hq').1,fun l=>?_⟩
   ·rw [nbRun_suc hlt]
    unfold nbStep
    split
    ·exact h1
    ·split
     ·exact h1
     ·split
      ·exact keep_keeps (flush_keeps h1)
      ·exact h1
   ·rw [← List.take_append_getElem hlt,atoms_append,List.append_assoc,h4,List.take_append_getElem hlt,nbRun_suc hlt]
    generalize nbRun (o.take i) = s at h1 h2 h3;generalize o[i] = p at hp hb;obtain ⟨L,P,D⟩:=s;simp only at h1 h2 h3;simp only [atoms,List.append_nil];unfold nbStep;by_cases k2 : p.kind = 2
    ·simp only [k2,if_true]
     rw [show ats p = p.signs.map At.p by unfold ats;rw [if_pos k2],nA_ps]
    ·by_cases k3 : p.kind = 3
     ·have hs:=hb.2.2.2.2.2 k2
      have e : (D + p.n).toNat = D.toNat + p.n.toNat:=by omega
      simp only [k3,if_true];rw [show ats p = List.replicate (psz p) .d by unfold ats;rw [if_neg k2,if_pos k3],nA_ds];simp [e,psz,hs]
     ·have k1 : p.kind = 1:=by omega
      have hs:=hb.2.2.2.2.2 k2;have e : ats p = List.replicate p.n.toNat .k:=by unfold ats;rw [if_neg k2,if_neg k3];simp [psz,hs]
      simp only [k2,k3,if_false];rw [e]
      split
      ·rename_i hn
       have hfl : ∀ q∈nbFlush L P D,0≤q.n:=by
        intro q hq';unfold nbFlush at hq';rcases List.mem_append.1 hq' with hq' | hq'
        ·exact h3 q hq'
        ·rcases List.mem_append.1 hq' with hq' | hq'
         ·split at hq'
          ·simp at hq'
          ·simp at hq';subst hq';simp
         ·split at hq'
          ·simp at hq';subst hq';simp;omega
          ·simp at hq'
       simp only;rw [keep_at hn hfl (flush_keeps h1),flush_at];obtain ⟨m,hm⟩ : ∃ m,p.n.toNat = m + 1:=⟨p.n.toNat - 1,by omega⟩;rw [hm];simp [bA,List.replicate_succ,nA,nA_ks,List.append_assoc]
      ·have : p.n.toNat = 0:=by omega
       simp [this]
theorem normal_at {o : List Part} (ho : ∀ p∈o,partOk p) : atoms (normal o) = normA (atoms o):=by
 have h:=(nbRun_at ho o.length (Nat.le_refl _)).2.2.2 [];rw [List.take_length,List.append_nil] at h;unfold normal;rw [flush_at,h];unfold bA;simp [nA]
theorem normA_fr (l : List At) : frA (normA l) = frA l:=by unfold normA;rw [nA_fr];omega
theorem normA_to (l : List At) : toA (normA l) = toA l:=by unfold normA;rw [nA_to];simp
def tA : List At→List At→List At × List At
 | .p c :: a,b=>(.p c :: (tA a b).1,.k :: (tA a b).2)
 | [],.p c :: b=>(.k :: (tA [] b).1,.p c :: (tA [] b).2)
 | .k :: a,.p c :: b=>(.k :: (tA (.k :: a) b).1,.p c :: (tA (.k :: a) b).2)
 | .d :: a,.p c :: b=>(.k :: (tA (.d :: a) b).1,.p c :: (tA (.d :: a) b).2)
 | .k :: a,.k :: b=>(.k :: (tA a b).1,.k :: (tA a b).2)
 | .k :: a,.d :: b=>((tA a b).1,.d :: (tA a b).2)
 | .d :: a,.k :: b=>(.d :: (tA a b).1,(tA a b).2)
 | .d :: a,.d :: b=>tA a b
 | [],_=>([],[])
 | _,[]=>([],[])
termination_by a b=>a.length + b.length
def noP : List At→Bool
 | .p _ :: _=>false
 | _=>true
theorem tA_p {c : Int} {a b : List At} : tA (.p c :: a) b = (.p c :: (tA a b).1,.k :: (tA a b).2):=by rw [tA]
theorem tA_q {c : Int} {a b : List At} (h : noP a = true) : tA a (.p c :: b) = (.k :: (tA a b).1,.p c :: (tA a b).2):=by
 match a,h with
 | [],_=>rw [tA]
 | .k :: a,_=>rw [tA]
 | .d :: a,_=>rw [tA]
theorem tA_ps {a b : List At} : ∀ Q : List Int,tA (Q.map At.p ++ a) b = (Q.map At.p ++ (tA a b).1,List.replicate Q.length .k ++ (tA a b).2)
 | []=>by simp
 | c :: Q=>by simp [tA_p,tA_ps Q,List.replicate_succ]
theorem tA_qs {a b : List At} (h : noP a = true) : ∀ Q : List Int,tA a (Q.map At.p ++ b) = (List.replicate Q.length .k ++ (tA a b).1,Q.map At.p ++ (tA a b).2)
 | []=>by simp
 | c :: Q=>by simp [tA_q h,tA_qs h Q,List.replicate_succ]
theorem tA_kk {a b : List At} : ∀ n : Nat,tA (List.replicate n .k ++ a) (List.replicate n .k ++ b) = (List.replicate n .k ++ (tA a b).1,List.replicate n .k ++ (tA a b).2)
 | 0=>by simp
 | n + 1=>by simp [List.replicate_succ,tA,tA_kk n]
theorem tA_kd {a b : List At} : ∀ n : Nat,tA (List.replicate n .k ++ a) (List.replicate n .d ++ b) = ((tA a b).1,List.replicate n .d ++ (tA a b).2)
 | 0=>by simp
 | n + 1=>by simp [List.replicate_succ,tA,tA_kd n]
theorem tA_dk {a b : List At} : ∀ n : Nat,tA (List.replicate n .d ++ a) (List.replicate n .k ++ b) = (List.replicate n .d ++ (tA a b).1,(tA a b).2)
 | 0=>by simp
 | n + 1=>by simp [List.replicate_succ,tA,tA_dk n]
theorem tA_dd {a b : List At} : ∀ n : Nat,tA (List.replicate n .d ++ a) (List.replicate n .d ++ b) = tA a b
 | 0=>by simp
 | n + 1=>by simp [List.replicate_succ,tA,tA_dd n]
theorem atoms_nxt : ∀ {x : List Part},(∀ p∈x,partOk p)→atoms (nxt x) = atoms x
 | [],_=>rfl
 | p :: l,h=>by
   have ih:=atoms_nxt (x:=l) (fun q hq=>h q (List.mem_cons_of_mem _ hq));unfold nxt
   split
   ·rename_i hz
    rw [ih,atoms]
    have : ats p = []:=by
     have hp:=h p (List.mem_cons_self ..);unfold ats
     split
     ·rename_i k;rw [psz_put hp k] at hz;simp [List.eq_nil_of_length_eq_zero hz]
     ·split<;>simp [hz]
    simp [this]
   ·rfl
theorem ats_split {p : Part} (h : partOk p) {n : Nat} (hn : n≤psz p) : ats p = ats (pcut p n) ++ ats (pleft p n):=by
 have hb:=h.bounds;by_cases k2 : p.kind = 2
 ·unfold ats pcut pleft
  simp only [k2,if_true];rw [← List.map_append,List.take_append_drop]
 ·have hs:=hb.2.2.2.2.2 k2
  have hz : psz p = p.n.toNat:=by simp [psz,hs]
  have e : p.n.toNat = n + (p.n - n).toNat:=by omega
  by_cases k3 : p.kind = 3
  ·unfold ats pcut pleft
   simp only [k3,if_true];simp [psz,hs];omega
  ·unfold ats pcut pleft
   simp only [k2,if_false,k3];simp [psz,hs];omega
theorem ats_left {p : Part} (h : partOk p) : ats (pleft p (psz p)) = []:=by
 have h1:=ats_split h (Nat.le_refl (psz p));rw [pcut_whole h] at h1
 simpa using h1
theorem ats_run {p : Part} (_h : partOk p) (k : p.kind≠2) : ats p = if p.kind = 3 then List.replicate (psz p) .d else List.replicate (psz p) .k:=by unfold ats;rw [if_neg k]
theorem ats_cut {p : Part} (h : partOk p) (k : p.kind≠2) {n : Nat} (hn : n≤psz p) : ats (pcut p n) = if p.kind = 3 then List.replicate n .d else List.replicate n .k:=by
 have hs:=h.bounds.2.2.2.2.2 k;have : psz (pcut p n) = n:=by unfold psz pcut;rw [if_neg k];simp [hs]
 rw [ats_run (pcut_ok h hn) (by simpa using k),this];simp
theorem ats_noP {p : Part} (h : partOk p) (k : p.kind≠2) (hp : 0 < psz p) (l : List At) : noP (ats p ++ l) = true:=by
 rw [ats_run h k];obtain ⟨m,hm⟩ : ∃ m,psz p = m + 1:=⟨psz p - 1,by omega⟩;rw [hm]
 split<;>simp [List.replicate_succ,noP]
theorem tstep_none {x y : List Part} (hi : TInv x y) (h : tstep x y = none) : nxt x = []∧nxt y = []:=by
 have hxt:=nxt_frs x;have hyf:=nxt_frs y;have hb:=hi.b;unfold tstep at h
 cases ex : nxt x with
 | nil=>
   rw [ex] at h hxt
   cases ey : nxt y with
   | nil=>exact ⟨rfl,rfl⟩
   | cons q y'=>
     rw [ey] at hyf;have hp:=nxt_pos ey;simp only [ey] at h
     split at h
     ·cases h
     ·rename_i k
      simp [frs,k] at hxt hyf;omega
 | cons p x'=>
   rw [ex] at h hxt;have hp:=nxt_pos ex;simp only at h
   split at h
   ·cases h
   ·rename_i k
    cases ey : nxt y with
    | nil=>
      rw [ey] at hyf;simp [frs,k] at hxt hyf;omega
    | cons q y'=>
      simp only [ey] at h
      split at h<;>cases h
theorem xfK_at : ∀ (k : Nat) {x y : List Part},TInv x y→tsz x + tsz y≤k→(atoms (xfK k x y).1,atoms (xfK k x y).2) = tA (atoms x) (atoms y)
 | 0,x,y,hi,h=>by
   have hn : tstep x y = none:=by
    cases hs : tstep x y with
    | none=>rfl
    | some r=>have:=(tstep_next hi hs).dec;omega
   obtain ⟨e1,e2⟩:=tstep_none hi hn;rw [← atoms_nxt hi.px,← atoms_nxt hi.py,e1,e2];simp [xfK,atoms,tA]
 | k + 1,x,y,hi,h=>by
   rw [xfK]
   cases hs : tstep x y with
   | none=>
     obtain ⟨e1,e2⟩:=tstep_none hi hs;rw [← atoms_nxt hi.px,← atoms_nxt hi.py,e1,e2];simp [atoms,tA]
   | some r=>
     have hn:=tstep_next hi hs;have hd:=hn.dec;have ih:=xfK_at k hn.inv (by omega);simp only [atoms_append];rw [← atoms_nxt hi.px,← atoms_nxt hi.py];generalize xfK k r.2.1 r.2.2 = Z at ih ⊢;unfold tstep at hs
     cases ex : nxt x with
     | nil=>
       rw [ex] at hs
       cases ey : nxt y with
       | nil=>simp [ey] at hs
       | cons q y'=>
         have hq:=mem_nxt hi.py ey;simp only [ey] at hs
         split at hs
         ·rename_i kq
          cases hs
          simp only [atoms,ats_left hq.1,List.nil_append] at ih;simp only [atoms,pcut_whole hq.1,List.append_nil];rw [show ats q = q.signs.map At.p by unfold ats;rw [if_pos kq],tA_qs rfl,← ih];simp [ats,psz]
         ·cases hs
     | cons p x'=>
       rw [ex] at hs;have hp:=mem_nxt hi.px ex;have hpp:=nxt_pos ex;simp only at hs
       split at hs
       ·rename_i kp
        cases hs
        simp only [atoms,ats_left hp.1,List.nil_append] at ih;simp only [atoms,pcut_whole hp.1,List.append_nil,atoms_nxt hi.py];rw [show ats p = p.signs.map At.p by unfold ats;rw [if_pos kp],tA_ps,← ih];simp [ats,psz]
       ·rename_i kp
        cases ey : nxt y with
        | nil=>simp [ey] at hs
        | cons q y'=>
          have hq:=mem_nxt hi.py ey;have hqp:=nxt_pos ey;simp only [ey] at hs
          split at hs
          ·rename_i kq
           cases hs
           simp only [atoms,ats_left hq.1,List.nil_append] at ih;simp only [atoms,pcut_whole hq.1,List.append_nil];rw [show ats q = q.signs.map At.p by unfold ats;rw [if_pos kq],tA_qs (ats_noP hp.1 kp hpp _),← ih];simp [ats,psz]
          ·rename_i kq
           cases hs
           have hn1 : min (psz p) (psz q)≤psz p:=by omega
           have hn2 : min (psz p) (psz q)≤psz q:=by omega
           simp only [atoms] at ih ⊢;rw [ats_split hp.1 hn1,ats_split hq.1 hn2,ats_cut hp.1 kp hn1,ats_cut hq.1 kq hn2,List.append_assoc,List.append_assoc];have hb1:=hp.1.bounds.1;have hb2:=hq.1.bounds.1;generalize min (psz p) (psz q) = n at ih hn1 hn2 ⊢;by_cases k1 : p.kind = 3<;>by_cases k2 : q.kind = 3
           ·have e1 : ¬ p.kind = 1:=by omega
            have e2 : ¬ q.kind = 1:=by omega
            simp only [k1,k2,if_true,tA_dd,← ih];simp [atoms]
           ·have e1 : ¬ p.kind = 1:=by omega
            have e2 : q.kind = 1:=by omega
            simp only [k1,k2,if_true,if_false,tA_dk,← ih];simp [atoms,e2,ats_cut hp.1 kp hn1,k1]
           ·have e1 : p.kind = 1:=by omega
            have e2 : ¬ q.kind = 1:=by omega
            simp only [k1,k2,if_true,if_false,tA_kd,← ih];simp [atoms,e1,ats_cut hq.1 kq hn2,k2]
           ·have e1 : p.kind = 1:=by omega
            have e2 : q.kind = 1:=by omega
            simp only [k1,k2,if_false,tA_kk,← ih];simp [atoms,e1,e2,ats_cut hp.1 kp hn1,ats_cut hq.1 kq hn2]
theorem xf_at {x y : List Part} (hi : TInv x y) : (atoms (xf x y).1,atoms (xf x y).2) = tA (atoms x) (atoms y):=xfK_at _ hi (Nat.le_refl _)
theorem tA_len : ∀ (a b : List At),frA a = frA b→frA (tA a b).1 = toA b∧frA (tA a b).2 = toA a∧toA (tA a b).1 = toA (tA a b).2
 | .p c :: a,b,h=>by
   have ih:=tA_len a b (by simpa [frA] using h);rw [tA_p];simp [frA,toA];omega
 | [],.p c :: b,h=>by
   have ih:=tA_len [] b (by simpa [frA] using h);rw [tA_q rfl];simp [frA,toA] at ih ⊢;omega
 | .k :: a,.p c :: b,h=>by
   have ih:=tA_len (.k :: a) b (by simpa [frA] using h);rw [tA_q rfl];simp [frA,toA] at ih ⊢;omega
 | .d :: a,.p c :: b,h=>by
   have ih:=tA_len (.d :: a) b (by simpa [frA] using h);rw [tA_q rfl];simp [frA,toA] at ih ⊢;omega
 | .k :: a,.k :: b,h=>by
   have ih:=tA_len a b (by simpa [frA] using h);rw [tA];simp [frA,toA];omega
 | .k :: a,.d :: b,h=>by
   have ih:=tA_len a b (by simpa [frA] using h);rw [tA];simp [frA,toA];omega
 | .d :: a,.k :: b,h=>by
   have ih:=tA_len a b (by simpa [frA] using h);rw [tA];simp [frA,toA];omega
 | .d :: a,.d :: b,h=>by
   have ih:=tA_len a b (by simpa [frA] using h);rw [tA];simp [toA];omega
 | [],[],h=>by simp [tA,frA,toA]
 | [],.k :: b,h=>by simp [frA] at h
 | [],.d :: b,h=>by simp [frA] at h
 | .k :: a,[],h=>by simp [frA] at h
 | .d :: a,[],h=>by simp [frA] at h
termination_by a b=>a.length + b.length
theorem xf_ok {x y : List Part} (hi : TInv x y) : (∀ p∈(xf x y).1,partOk p)∧∀ p∈(xf x y).2,partOk p:=by
 have key : ∀ (k : Nat) {x y : List Part},TInv x y→(∀ p∈(xfK k x y).1,partOk p)∧∀ p∈(xfK k x y).2,partOk p:=by
  intro k
  induction k with
  | zero=>intro x y hi;simp [xfK]
  | succ k ih=>
    intro x y hi;rw [xfK]
    cases hs : tstep x y with
    | none=>simp
    | some r=>
      have hn:=tstep_next hi hs;have h2:=ih hn.inv;simp only [List.mem_append];exact ⟨fun p hp=>hp.elim (hn.okx p) (h2.1 p),fun p hp=>hp.elim (hn.oky p) (h2.2 p)⟩
 exact key _ hi
structure TrOk (a b : List Part) : Prop where
 oka : opOk a
 okb : opOk b
 from_ : opFrom a = opFrom b
 okx : opOk (fTransform a b).1
 oky : opOk (fTransform a b).2.1
 fx : opFrom (fTransform a b).1 = opTo b
 fy : opFrom (fTransform a b).2.1 = opTo a
 to : opTo (fTransform a b).1 = opTo (fTransform a b).2.1
 ax : atoms (fTransform a b).1 = normA (tA (atoms a) (atoms b)).1
 ay : atoms (fTransform a b).2.1 = normA (tA (atoms a) (atoms b)).2
theorem fTransform_ok {a b : List Part} (h : (fTransform a b).2.2 = true) : TrOk a b:=by
 unfold fTransform at h
 split at h
 ·rename_i h1
  split at h
  ·rename_i h2
   have e : fTransform a b = (normal (xf a b).1,normal (xf a b).2,true):=by unfold fTransform;rw [if_pos h1,if_pos h2]
   have hi:=tinv_of h1.1 h1.2.1 h1.2.2;have hat:=xf_at hi;have hk:=xf_ok hi;have e1 : atoms (xf a b).1 = (tA (atoms a) (atoms b)).1:=by rw [← hat]
   have e2 : atoms (xf a b).2 = (tA (atoms a) (atoms b)).2:=by rw [← hat]
   have l:=tA_len (atoms a) (atoms b) (by rw [← frs_at,← frs_at];exact hi.b);have n1:=normal_at hk.1;have n2:=normal_at hk.2;have f1:=frs_from h2.1;have f2:=frs_from h2.2;have t1:=tos_to h2.1;have t2:=tos_to h2.2;have t3:=tos_to h1.1;have t4:=tos_to h1.2.1;rw [frs_at,n1,normA_fr,e1,l.1] at f1;rw [frs_at,n2,normA_fr,e2,l.2.1] at f2;rw [tos_at h2.1.1.1,n1,normA_to,e1] at t1;rw [tos_at h2.2.1.1,n2,normA_to,e2] at t2;rw [tos_at h1.1.1.1] at t3;rw [tos_at h1.2.1.1.1] at t4;rw [e1] at n1;rw [e2] at n2;refine ⟨h1.1,h1.2.1,h1.2.2,?_,?_,?_,?_,?_,?_,?_⟩<;>rw [e]
   ·exact h2.1
   ·exact h2.2
   ·simp only;omega
   ·simp only;omega
   ·simp only;have:=l.2.2;omega
   ·exact n1
   ·exact n2
  ·simp at h
 ·simp at h
def cur (o : List Part) (i d : Nat) : List Part:=
 match o.drop i with
 | []=>[]
 | p :: l=>pleft p d :: l
theorem cur_end {o : List Part} {i d : Nat} (h : o.length≤i) : cur o i d = []:=by unfold cur;rw [List.drop_eq_nil_of_le h]
theorem cur_at {o : List Part} {i d : Nat} (h : i < o.length) : cur o i d = pleft o[i] d :: o.drop (i + 1):=by unfold cur;rw [List.drop_eq_getElem_cons h]
theorem cur_zero {o : List Part} {i : Nat} : cur o i 0 = o.drop i:=by
 unfold cur
 cases o.drop i with
 | nil=>rfl
 | cons p l=>simp [pleft_zero]
theorem cur_step {o : List Part} (ho : ∀ p∈o,partOk p) {i : Nat} (h : i < o.length) : nxt (cur o i (psz o[i])) = nxt (cur o (i + 1) 0):=by
 rw [cur_at h,cur_zero];have:=pleft_sz (ho _ (List.getElem_mem h)) (Nat.le_refl _);simp [nxt,this]
theorem cur_stop {o : List Part} (ho : ∀ p∈o,partOk p) {i d : Nat} (h : i < o.length) (hd : d < psz o[i]) : nxt (cur o i d) = cur o i d:=by
 rw [cur_at h];have:=pleft_sz (ho _ (List.getElem_mem h)) (Nat.le_of_lt hd);have h2 : ¬ psz (pleft o[i] d) = 0:=by omega
 simp [nxt,h2]
theorem cur_left {o : List Part} {i d n : Nat} (h : i < o.length) {p : Part} {l : List Part} (hc : cur o i d = p :: l) : pleft p n :: l = cur o i (d + n):=by
 rw [cur_at h] at hc ⊢
 cases hc
 rw [pleft_pleft]
open Go.AM
theorem get_miss {k j : Nat} {o : AObj} {h : AH} (hne : j≠k) : AH.get ((k,o) :: h) j = AH.get h j:=if_neg hne
theorem implSize_c (p : Part) (h : partOk p) : PureC Try.prog 52 [.agg p.row] (.one (.c (vi (psz p)) 1)):=by
 refine PureC.intro' tt_ok Try.func52 (by kernel_rfl) rfl rfl rfl (Nat.le_of_ble_eq_true rfl) (fun w0 base=>?_);have hp:=psz_int h;have e : Go.IntKind.i64.wrap (p.n + (p.signs.length : Int)) = p.n + p.signs.length:=Go.IntWalk.i64_in _ (by omega);rw [hp.1];simp [Part.row,e]
def hdV : List Part→AV
 | []=>.agg [.v (.int .i64 0),.v (.int .i64 0),.nil]
 | p :: _=>.agg [.v (.int .i64 p.kind),.v (.int .i64 p.n),.ro (p.signs.map intR)]
theorem next_call {w0 : World} {bF bG : Nat→Prop} {bl : Bool} {st : ASt} {dst : Option Nat} {K : ASt→Prop} {kx b kb : Nat} {l : List Part} (hk : kx + 16 < kb) (hs : ∀ p∈l,partOk p)
 (g : st.h.get kx = .vars b 94 [.ro (l.map Part.row)])
 (hK : ∀ h',AH.get h' kx = .vars b 94 [.ro ((nxt l).map Part.row)]→(∀ q,q≠kx→q < kb→AH.get h' q = st.h.get q)→aPut ⟨st.n,st.kb,st.t,h'⟩ dst (hdV (nxt l)) K) :
 ACall ⟨Try.prog,tt,w0,⟨bF,bG,bl,fun _=>True⟩⟩ 50 [.p kx b 0] st dst K:=by
 refine ACall.inline tt_ok Try.func50 (by kernel_rfl) rfl rfl rfl (Nat.le_of_ble_eq_true rfl) kb (fun w1 F=>?_);simp;intro b2;have hkk : ¬ kx = kb + 32:=by omega
 have hkk2 : ¬ kb + 32 = kx:=by omega
 refine LoopT.introW eok (fun m : List Part=>nxt m = nxt l∧∀ p∈m,p∈l) (fun m=>⟨40,kb,[(0,.p kx b 0),(2,.p (kb + 32) b2 0)],(kx,.vars b 94 [.ro (m.map Part.row)]) :: (kb + 32,.vars b2 83 [.v (.int .i64 0),.v (.int .i64 0),.nil]) :: st.h⟩) (fun m=>m.length) l ⟨rfl,fun _ h=>h⟩ (by simp [hkk,g]) (fun m hm=>?_)
 ·cases m with
  | nil=>
    have hn : nxt l = []:=by rw [← hm.1];rfl
    rw [hn] at hK;simp [hkk2];refine hK _ (by simp [hkk]) (fun q q1 q2=>?_)
    repeat (first | exact rfl | refine (get_miss (by omega)).trans ?_)
  | cons p m=>
    have hp:=hs p (hm.2 p (List.mem_cons_self ..));simp [Part.row];refine ACall.pure (implSize_c p hp) (by simp [Part.row]) ?_;by_cases hz : psz p = 0
    ·simp [hz,hkk,hkk2]
     refine ⟨m,⟨by rw [← hm.1];simp [nxt,hz],fun q hq=>hm.2 q (List.mem_cons_of_mem _ hq)⟩,by omega,?_⟩;simp [cut];exact List.take_of_length_le (by simp)
    ·have hn : nxt l = p :: m:=by rw [← hm.1];simp [nxt,hz]
     rw [hn] at hK;have hm0 : ¬ (m.length : Int) + 1 = 0:=by omega
     simp [hz,hkk2,hm0];refine hK _ ?_ (fun q q1 q2=>?_)
     ·simp [hkk,Part.row]
     repeat (first | exact rfl | refine (get_miss (by omega)).trans ?_)
theorem cut_take (s : List Int) {n : Nat} (_h : n≤s.length) : cut (s.map intR) 0 n = (s.take n).map intR:=by
 unfold cut
 split
 ·rename_i h2
  rw [List.take_of_length_le (by simp at h2;omega)]
 ·simp [List.map_take]
theorem cut_drop (s : List Int) {n : Nat} : cut (s.map intR) n (s.length - n) = (s.drop n).map intR:=by
 unfold cut
 split
 ·rename_i h2
  rw [h2.1];simp
 ·rw [List.take_of_length_le (by simp),List.map_drop]
theorem take_call {w0 : World} {bF bG : Nat→Prop} {bl : Bool} {st : ASt} {dst : Option Nat} {K : ASt→Prop} {kx b n : Nat} {p : Part} {l : List Part} (hk : kx < 15000) (hp : partOk p) (hn : n≤psz p) (hl : l.length≤2 ^ 20)
 (g : st.h.get kx = .vars b 94 [.ro ((p :: l).map Part.row)])
 (hK : ∀ h',AH.get h' kx = .vars b 94 [.ro ((pleft p n :: l).map Part.row)]→(∀ q,q≠kx→q < 15000→AH.get h' q = st.h.get q)→aPut ⟨st.n,st.kb,st.t,h'⟩ dst (hdV [pcut p n]) K) :
 ACall ⟨Try.prog,tt,w0,⟨bF,bG,bl,fun _=>True⟩⟩ 53 [.p kx b 0,.v (.int .i64 n)] st dst K:=by
 refine ACall.inlineE tt_ok Try.func53 (by kernel_rfl) rfl rfl rfl (Nat.le_of_ble_eq_true rfl) 20000 (fun w1 F=>?_);have hps:=psz_int hp;have hb:=hp.bounds;have k0 : ¬ kx = 20064:=by omega
 have k1 : ¬ kx = 20080:=by omega
 have k2 : ¬ kx = 20096:=by omega
 have k3 : ¬ kx = 20112:=by omega
 have k4 : ¬ kx = 20608:=by omega
 have j0 : ¬ 20064 = kx:=by omega
 have j1 : ¬ 20080 = kx:=by omega
 have j2 : ¬ 20096 = kx:=by omega
 have j3 : ¬ 20112 = kx:=by omega
 have j4 : ¬ 20608 = kx:=by omega
 simp [g,Part.row,k0];intro b4 b5
 refine DrawT.cut (fun x : Nat × Nat=>⟨48,20000,[(0,.p kx b 0),(1,.v (.int .i64 n)),(4,.p 20064 b4 0),(5,.p 20080 b5 0),(6,.p 20096 x.1 0),(7,.p 20112 x.2 0)],
  (20096,.vars x.1 83 [.v (.int .i64 p.kind),.v (.int .i64 p.n),.ro (p.signs.map intR)]) :: (20112,.vars x.2 83 [.v (.int .i64 p.kind),.v (.int .i64 p.n),.ro (p.signs.map intR)]) :: (20080,.vars b5 83 [.v (.int .i64 p.kind),.v (.int .i64 p.n),.ro (p.signs.map intR)]) :: (20064,.vars b4 83 [.v (.int .i64 0),.v (.int .i64 0),.nil]) :: st.h⟩) ?_ ?_
 ·refine DrawT.introP2 eok mix [0,1] 2 3 [4,5] [([false,false],[true,true]),([false,false],[true,true]),([false,true],[true,false]),([true,false],[false,false])] [false,false] [([false,false],[true,true]),([false,false],[true,true]),([false,true],[true,false]),([true,false],[false,false])] [false,false] (by kernel_rfl) ?_
  simp
  trace_state
 rintro ⟨b6,b7⟩
 simp;by_cases hk2 : p.kind = 2
 ·simp [hk2]
  refine DrawT.introP eok mix [0,1,2,3,4,5,6,7,8,10] [9,11] [([false,true,false,false,false,false,true,true,true,true],[true,false,true,true,true,true,false,false,false,false]),([true,false,true,true,true,true,false,false,false,false],[false,false,false,false,false,false,false,false,false,false])] [false,false,false,false,false,false,false,false,false,false] (by kernel_rfl) ?_;have hns : n≤p.signs.length:=by have:=hb.2.2.2.2.1 hk2;omega
  simp [hns];refine DrawT.introP eok mix [0,1,3,4,5,6,7,9,10] [2,8,11] [([false,false,false,false,false,false,false,true,false],[true,true,true,true,true,true,true,false,true]),([false,false,true,false,false,false,false,false,false],[true,true,false,true,true,true,true,false,true]),([true,false,false,true,true,true,true,false,true],[false,true,false,false,false,false,false,false,false])] [false,true,false,false,false,false,false,false,false] (by kernel_rfl) ?_
  have ct : cut ([vi p.kind,vi p.n,CD.s (p.signs.map intR)] :: l.map Part.row) 1 l.length = l.map Part.row:=by
   simp [cut];exact List.take_of_length_le (by simp)
  have hv : hdV [pcut p n] = .agg [.v (.int .i64 2),.v (.int .i64 p.n),.ro ((p.signs.map intR).take n)]:=by simp [hdV,pcut,hk2,List.map_take]
  rw [hv] at hK;simp [g,Part.row,k0,k1,k2,k3,k4,j0,j3,ct,cut_take p.signs hns,cut_drop p.signs];intro b8;refine ⟨by omega,fun H=>⟨_,HEnt.frz (kx:=kx) (b:=b) (T:=94) (cells:=[.sl 20608 H 3 0 (1 + l.length)]) (j:=0) (k:=20608) (sz:=3) (off:=0) (len:=1 + l.length) (H:=H) (rows:=(pleft p n).row :: l.map Part.row) (own:=false) ?_ rfl ?_ (by simp;omega),?_⟩⟩
  ·simp [k0]
  ·simp [j4,Part.row,pleft,hk2]
  ·refine hK _ ?_ (fun q q1 q2=>?_)
   ·simp [cut,Nat.add_comm]
   ·repeat (first | exact rfl | refine (get_miss (by omega)).trans ?_)
 ·simp [hk2]
  refine DrawT.introP eok mix [0,1,2,3,4,5,7] [6,8] [([false,true,false,false,false,false,true],[true,false,true,true,true,true,false]),([true,false,true,true,true,true,false],[false,false,false,false,false,false,false])] [false,false,false,false,false,false,false] (by kernel_rfl) ?_;have e : Go.IntKind.i64.wrap (p.n - (n : Int)) = p.n - n:=Go.IntWalk.i64_in _ (by omega);simp [e]
  refine DrawT.introP eok mix [0,1,3,4,5,6,7,9,10] [2,8,11] [([false,false,false,false,false,false,false,true,false],[true,true,true,true,true,true,true,false,true]),([false,false,true,false,false,false,false,false,false],[true,true,false,true,true,true,true,false,true]),([true,false,false,true,true,true,true,false,true],[false,true,false,false,false,false,false,false,false])] [false,true,false,false,false,false,false,false,false] (by kernel_rfl) ?_
  have ct : cut ([vi p.kind,vi p.n,CD.s (p.signs.map intR)] :: l.map Part.row) 1 l.length = l.map Part.row:=by
   simp [cut];exact List.take_of_length_le (by simp)
  have hv : hdV [pcut p n] = .agg [.v (.int .i64 p.kind),.v (.int .i64 n),.ro (p.signs.map intR)]:=by simp [hdV,pcut,hk2]
  rw [hv] at hK;simp [g,Part.row,k0,k1,k2,k3,k4,j0,j3,ct];intro b8;refine ⟨by omega,fun H=>⟨_,HEnt.frz (kx:=kx) (b:=b) (T:=94) (cells:=[.sl 20608 H 3 0 (1 + l.length)]) (j:=0) (k:=20608) (sz:=3) (off:=0) (len:=1 + l.length) (H:=H) (rows:=(pleft p n).row :: l.map Part.row) (own:=false) ?_ rfl ?_ (by simp;omega),?_⟩⟩
  ·simp [k0]
  ·simp [j4,Part.row,pleft,hk2]
  ·refine hK _ ?_ (fun q q1 q2=>?_)
   ·simp [cut,Nat.add_comm]
   ·repeat (first | exact rfl | refine (get_miss (by omega)).trans ?_)
theorem whole_call {w0 : World} {bF bG : Nat→Prop} {bl : Bool} {st : ASt} {dst : Option Nat} {K : ASt→Prop} {kx b : Nat} {p : Part} {l : List Part} (hk : kx < 14000) (hp : partOk p) (hl : l.length≤2 ^ 20)
 (g : st.h.get kx = .vars b 94 [.ro ((p :: l).map Part.row)])
 (hK : ∀ h',AH.get h' kx = .vars b 94 [.ro ((pleft p (psz p) :: l).map Part.row)]→(∀ q,q≠kx→q < 14000→AH.get h' q = st.h.get q)→aPut ⟨st.n,st.kb,st.t,h'⟩ dst (hdV [p]) K) :
 ACall ⟨Try.prog,tt,w0,⟨bF,bG,bl,fun _=>True⟩⟩ 51 [.p kx b 0] st dst K:=by
 refine ACall.inline tt_ok Try.func51 (by kernel_rfl) rfl rfl rfl (Nat.le_of_ble_eq_true rfl) 14000 (fun w1 F=>?_);have k0 : ¬ kx = 14032:=by omega
 have j0 : ¬ 14032 = kx:=by omega
 simp [g,Part.row,k0];intro b2;refine ACall.pure (implSize_c p hp) (by simp [Part.row]) ?_;simp;refine take_call (n:=psz p) (by omega) hp (Nat.le_refl _) hl (by simp [k0,g]) (fun h' g1 g2=>?_);have e:=g2 14032 j0 (by omega);simp at e;simp [hdV,e];rw [pcut_whole hp];refine hK _ (by simp [g1,k0]) (fun q q1 q2=>?_);have hq : ¬ q = 14032:=by omega
 simp [hq,g2 q q1 (by omega)]
structure RS (kx ky bx by_ : Nat) (h0 h : AH) (X Y : List Part) : Prop where
 ne : kx≠ky
 lx : kx < 14000 - 16
 ly : ky < 14000 - 16
 gx : AH.get h kx = .vars bx 94 [.ro (X.map Part.row)]
 gy : AH.get h ky = .vars by_ 94 [.ro (Y.map Part.row)]
 o : ∀ q,q≠kx→q≠ky→q < 14000→AH.get h q = AH.get h0 q
theorem RS.swap {kx ky bx by_ : Nat} {h0 h : AH} {X Y : List Part} (R : RS kx ky bx by_ h0 h X Y) : RS ky kx by_ bx h0 h Y X:=⟨R.ne.symm,R.ly,R.lx,R.gy,R.gx,fun q h1 h2=>R.o q h2 h1⟩
section
variable {w0 : World} {bF bG : Nat→Prop} {bl : Bool} {st : ASt} {dst : Option Nat} {K : ASt→Prop} {kx ky bx by_ : Nat} {h0 : AH} {X Y : List Part}
theorem RS.next (R : RS kx ky bx by_ h0 st.h X Y) (hs : ∀ p∈X,partOk p) (hK : ∀ h',RS kx ky bx by_ h0 h' (nxt X) Y→aPut ⟨st.n,st.kb,st.t,h'⟩ dst (hdV (nxt X)) K) :
 ACall ⟨Try.prog,tt,w0,⟨bF,bG,bl,fun _=>True⟩⟩ 50 [.p kx bx 0] st dst K:=by
 have:=R.lx;have:=R.ly;refine next_call (l:=X) (kb:=20000) (by omega) hs R.gx (fun h1 g1 o1=>hK h1 ⟨R.ne,R.lx,R.ly,g1,by rw [o1 ky R.ne.symm (by omega)];exact R.gy,fun q q1 q2 q3=>by rw [o1 q q1 (by omega)];exact R.o q q1 q2 q3⟩)
theorem RS.take {p : Part} {l : List Part} {n : Nat} (R : RS kx ky bx by_ h0 st.h (p :: l) Y) (hp : partOk p) (hn : n≤psz p) (hl : l.length≤2 ^ 20) (hK : ∀ h',RS kx ky bx by_ h0 h' (pleft p n :: l) Y→aPut ⟨st.n,st.kb,st.t,h'⟩ dst (hdV [pcut p n]) K) :
 ACall ⟨Try.prog,tt,w0,⟨bF,bG,bl,fun _=>True⟩⟩ 53 [.p kx bx 0,.v (.int .i64 n)] st dst K:=by
 have:=R.lx;have:=R.ly;refine take_call (by omega) hp hn hl R.gx (fun h1 g1 o1=>hK h1 ⟨R.ne,R.lx,R.ly,g1,by rw [o1 ky R.ne.symm (by omega)];exact R.gy,fun q q1 q2 q3=>by rw [o1 q q1 (by omega)];exact R.o q q1 q2 q3⟩)
theorem RS.whole {p : Part} {l : List Part} (R : RS kx ky bx by_ h0 st.h (p :: l) Y) (hp : partOk p) (hl : l.length≤2 ^ 20) (hK : ∀ h',RS kx ky bx by_ h0 h' (pleft p (psz p) :: l) Y→aPut ⟨st.n,st.kb,st.t,h'⟩ dst (hdV [p]) K) :
 ACall ⟨Try.prog,tt,w0,⟨bF,bG,bl,fun _=>True⟩⟩ 51 [.p kx bx 0] st dst K:=by
 have:=R.lx;have:=R.ly;refine whole_call (by omega) hp hl R.gx (fun h1 g1 o1=>hK h1 ⟨R.ne,R.lx,R.ly,g1,by rw [o1 ky R.ne.symm (by omega)];exact R.gy,fun q q1 q2 q3=>by rw [o1 q q1 (by omega)];exact R.o q q1 q2 q3⟩)
end
theorem hdV_nil : hdV [] = .agg [.v (.int .i64 0),.v (.int .i64 0),.nil]:=rfl
theorem hdV_cons {p : Part} {l : List Part} : hdV (p :: l) = .agg [.v (.int .i64 p.kind),.v (.int .i64 p.n),.ro (p.signs.map intR)]:=rfl
open Go.AM
set_option maxRecDepth 20000
set_option maxHeartbeats 1600000
theorem fCompose_no {a b : List Part} (h : ¬ (opOk a∧opOk b∧opTo a = opFrom b)) : fCompose a b = ([],false):=by unfold fCompose;rw [if_neg h]
theorem fCompose_yes {a b : List Part} (h1 : opOk a) (h2 : opOk b) (h3 : opTo a = opFrom b) : (opOk (normal (cmp a b))→fCompose a b = (normal (cmp a b),true))∧(¬ opOk (normal (cmp a b))→fCompose a b = ([],false)):=by
 unfold fCompose;rw [if_pos ⟨h1,h2,h3⟩];exact ⟨fun h=>by rw [if_pos h],fun h=>by rw [if_neg h]⟩
theorem l04Size_c (p : Part) (h : partOk p) : PureC Try.prog 128 [.agg p.row] (.one (.c (vi (psz p)) 1)):=by
 refine PureC.intro' tt_ok Try.func128 (by kernel_rfl) rfl rfl rfl (Nat.le_of_ble_eq_true rfl) (fun w0 base=>?_);have hp:=psz_int h;have hb:=h.bounds;rw [hp.1];simp [Part.row];by_cases hk : p.kind = 2
 ·have:=hb.2.2.2.2.1 hk
  simp [hk,this]
 ·have:=hb.2.2.2.2.2 hk
  simp [hk,this]
structure Cu (a : List Part) (i d : Nat) (X : List Part) : Prop where
 ok : ∀ p∈a,partOk p
 le : i≤a.length
 v : ∀ h : i < a.length,d≤psz a[i]
 z : i = a.length→d = 0
 c : cur a i d = X
def hdK : List Part→Int
 | []=>0
 | p :: _=>p.kind
structure CR (kx ky bx by_ : Nat) (h0 h : AH) (a b : List Part) (i d j e : Nat) (X Y : List Part) : Prop where
 ne : kx≠ky
 lx : kx < 14000 - 16
 ly : ky < 14000 - 16
 gx : AH.get h kx = .vars bx 148 [.ro (a.map Part.row),.v (.int .i64 i),.v (.int .i64 d)]
 gy : AH.get h ky = .vars by_ 148 [.ro (b.map Part.row),.v (.int .i64 j),.v (.int .i64 e)]
 o : ∀ q,q≠kx→q≠ky→q < 14000→AH.get h q = AH.get h0 q
 cx : Cu a i d X
 cy : Cu b j e Y
theorem CR.swap {kx ky bx by_ : Nat} {h0 h : AH} {a b : List Part} {i d j e : Nat} {X Y : List Part} (R : CR kx ky bx by_ h0 h a b i d j e X Y) : CR ky kx by_ bx h0 h b a j e i d Y X:=⟨R.ne.symm,R.ly,R.lx,R.gy,R.gx,fun q h1 h2=>R.o q h2 h1,R.cy,R.cx⟩
theorem Cu.bnd {a : List Part} {i d : Nat} {X : List Part} (h : Cu a i d X) : d≤200:=by
 by_cases hlt : i < a.length
 ·have:=h.v hlt
  have:=(psz_int (h.ok _ (List.getElem_mem hlt))).2;omega
 ·have:=h.z (by have:=h.le;omega)
  omega
theorem kind_call {w0 : World} {bF bG : Nat→Prop} {bl : Bool} {st : ASt} {dst : Option Nat} {K : ASt→Prop} {kx b i d : Nat} {a X : List Part} (_hk : kx < 14000) (hl : a.length≤2 ^ 20) (cx : Cu a i d X)
 (g : st.h.get kx = .vars b 148 [.ro (a.map Part.row),.v (.int .i64 i),.v (.int .i64 d)])
 (hK : ∀ h' i' d',Cu a i' d' (nxt X)→AH.get h' kx = .vars b 148 [.ro (a.map Part.row),.v (.int .i64 i'),.v (.int .i64 d')]→(∀ q,q≠kx→q < 20000→AH.get h' q = st.h.get q)→aPut ⟨st.n,st.kb,st.t,h'⟩ dst (.v (.int .i64 (hdK (nxt X)))) K) :
 ACall ⟨Try.prog,tt,w0,⟨bF,bG,bl,fun _=>True⟩⟩ 117 [.p kx b 0] st dst K:=by
 refine ACall.inline tt_ok Try.func117 (by kernel_rfl) rfl rfl rfl (Nat.le_of_ble_eq_true rfl) 20000 (fun w1 F=>?_);simp;refine LoopT.introW eok (fun x : Nat × Nat=>Cu a x.1 x.2 (cur a x.1 x.2)∧nxt (cur a x.1 x.2) = nxt X) (fun x=>⟨62,20000,[(0,.p kx b 0),(2,.v (.int .i64 0))],(kx,.vars b 148 [.ro (a.map Part.row),.v (.int .i64 x.1),.v (.int .i64 x.2)]) :: st.h⟩) (fun x=>a.length - x.1) (i,d) ⟨⟨cx.ok,cx.le,cx.v,cx.z,rfl⟩,by rw [cx.c]⟩ (by simp [g]) (fun x hx=>?_);obtain ⟨i,d⟩:=x;obtain ⟨hc,hn⟩:=hx;have hcl:=hc.le;have hb:=hc.bnd;simp only at hc hn hcl ⊢;simp;by_cases hlt : i < a.length
 ·have hp:=hc.ok _ (List.getElem_mem hlt)
  have hd:=hc.v hlt;have hps:=psz_int hp;refine DrawT.quiet eok mix (by kernel_rfl) ?_;simp [hlt];refine ⟨_,_,l04Size_c a[i] hp,by simp [Part.row],?_⟩;by_cases he : d = psz a[i]
  ·have e1 : Go.IntKind.i64.wrap ((i : Int) + 1) = ((i + 1 : Nat) : Int):=i64_suc (by omega)
   simp [he,e1];refine ⟨i + 1,0,⟨⟨hc.ok,by omega,fun _=>by omega,fun _=>rfl,rfl⟩,?_⟩,by omega,by omega,rfl⟩;rw [← hn,he,cur_step hc.ok hlt]
  ·have he2 : ¬ (d : Int) = psz a[i]:=by omega
   have hne : ¬ i = a.length:=by omega
   simp [he2];refine DrawT.quiet eok mix (by kernel_rfl) ?_;have hne2 : ¬ (i : Int) = a.length:=by omega
   simp [hne2];refine DrawT.quiet eok mix (by kernel_rfl) ?_;simp [hlt,Part.row];have hs:=cur_stop hc.ok hlt (show d < psz a[i] by omega);rw [hs] at hn;have hk2 : hdK (nxt X) = a[i].kind:=by rw [← hn,cur_at hlt];simp [hdK]
   rw [hk2] at hK;refine hK _ i d ⟨hc.ok,hc.le,hc.v,hc.z,hn⟩ (by simp) (fun q q1 q2=>by simp [q1])
 ·have hi : i = a.length:=by omega
  have hd:=hc.z hi;refine DrawT.quiet eok mix (by kernel_rfl) ?_;simp [hlt];refine DrawT.quiet eok mix (by kernel_rfl) ?_;simp [hi];have hn2 : nxt X = []:=by rw [← hn,cur_end (by omega)];rfl
  rw [hn2] at hK;refine hK _ i d ⟨hc.ok,hc.le,hc.v,hc.z,cur_end (by omega)⟩ (by simp [hi]) (fun q q1 q2=>by simp [q1])
theorem Cu.head {a : List Part} {i d : Nat} {p : Part} {l : List Part} (h : Cu a i d (p :: l)) : ∃ hi : i < a.length,p = pleft a[i] d∧l = a.drop (i + 1)∧psz p = psz a[i] - d∧d≤psz a[i]∧p.kind = a[i].kind∧partOk p:=by
 have hi : i < a.length:=by
  have:=h.le;rcases Nat.lt_or_ge i a.length with h1 | h1
  ·exact h1
  ·have:=h.c
   rw [cur_end h1] at this
   cases this
 have hc:=h.c;rw [cur_at hi] at hc
 cases hc
 have hp:=h.ok _ (List.getElem_mem hi);exact ⟨hi,rfl,rfl,pleft_sz hp (h.v hi),h.v hi,by simp,pleft_ok hp (h.v hi)⟩
theorem Cu.add {a : List Part} {i d n : Nat} {p : Part} {l : List Part} (h : Cu a i d (p :: l)) (hn : n≤psz p) : Cu a i (d + n) (pleft p n :: l):=by
 obtain ⟨hi,h1,h2,h3,h4,-,-⟩:=h.head;exact ⟨h.ok,h.le,fun _=>by omega,fun he=>by omega,(cur_left hi h.c).symm⟩
theorem left_call {w0 : World} {bF bG : Nat→Prop} {bl : Bool} {st : ASt} {dst : Option Nat} {K : ASt→Prop} {kx b i d : Nat} {a l : List Part} {p : Part} (cx : Cu a i d (p :: l))
 (g : st.h.get kx = .vars b 148 [.ro (a.map Part.row),.v (.int .i64 i),.v (.int .i64 d)])
 (hK : aPut st dst (.v (.int .i64 (psz p))) K) :
 ACall ⟨Try.prog,tt,w0,⟨bF,bG,bl,fun _=>True⟩⟩ 118 [.p kx b 0] st dst K:=by
 refine ACall.inline tt_ok Try.func118 (by kernel_rfl) rfl rfl rfl (Nat.le_of_ble_eq_true rfl) 20000 (fun w1 F=>?_);obtain ⟨hi,h1,h2,h3,h4,-,-⟩:=cx.head;have hp:=cx.ok _ (List.getElem_mem hi);have hps:=psz_int hp;simp;refine DrawT.quiet eok mix (by kernel_rfl) ?_;simp [g,hi];refine ⟨_,_,l04Size_c a[i] hp,by simp [Part.row],?_⟩;have e : Go.IntKind.i64.wrap ((psz a[i] : Int) - (d : Int)) = (psz p : Int):=by rw [Go.IntWalk.i64_in _ (by omega)];omega
 simp [e];exact hK
theorem curTake_call {w0 : World} {bF bG : Nat→Prop} {bl : Bool} {st : ASt} {dst : Option Nat} {K : ASt→Prop} {kx b i d n : Nat} {a l : List Part} {p : Part} (_hk : kx < 14000) (cx : Cu a i d (p :: l)) (hk2 : p.kind = 2) (hn : n≤psz p)
 (g : st.h.get kx = .vars b 148 [.ro (a.map Part.row),.v (.int .i64 i),.v (.int .i64 d)])
 (hK : ∀ h',Cu a i (d + n) (pleft p n :: l)→AH.get h' kx = .vars b 148 [.ro (a.map Part.row),.v (.int .i64 i),.v (.int .i64 ((d + n : Nat) : Int))]→(∀ q,q≠kx→q < 20000→AH.get h' q = st.h.get q)→aPut ⟨st.n,st.kb,st.t,h'⟩ dst (.ro ((p.signs.take n).map intR)) K) :
 ACall ⟨Try.prog,tt,w0,⟨bF,bG,bl,fun _=>True⟩⟩ 119 [.p kx b 0,.v (.int .i64 n)] st dst K:=by
 refine ACall.inline tt_ok Try.func119 (by kernel_rfl) rfl rfl rfl (Nat.le_of_ble_eq_true rfl) 20000 (fun w1 F=>?_);obtain ⟨hi,h1,h2,h3,h4,h5,-⟩:=cx.head;have hp:=cx.ok _ (List.getElem_mem hi);have hps:=psz_int hp;have hkk : a[i].kind = 2:=by rw [← h5];exact hk2
 have hn0:=hp.bounds.2.2.2.2.1 hkk;have hsz : psz a[i] = a[i].signs.length:=by omega
 have hs : p.signs = a[i].signs.drop d:=by rw [h1];simp [pleft,hkk]
 have e : Go.IntKind.i64.wrap ((d : Int) + (n : Int)) = ((d + n : Nat) : Int):=by rw [Go.IntWalk.i64_in _ (by omega)];omega
 have hle : d + n≤a[i].signs.length:=by omega
 have hv : cut (a[i].signs.map intR) d n = (p.signs.take n).map intR:=by
  unfold cut
  split
  ·rename_i hh
   rw [hs,hh.1];simp at hh;simp [hh.2]
  ·rw [hs,List.map_take,List.map_drop]
 obtain ⟨m,hm⟩ : ∃ m,d + n = m:=⟨_,rfl⟩;have e2 : m - d = n:=by omega
 have hadd:=cx.add hn;rw [hm] at e hle hK hadd;simp;refine DrawT.quiet eok mix (by kernel_rfl) ?_;simp [g,hi,Part.row,e,e2,hv];simp only [List.map_take] at hK;refine ⟨hle,by omega,hK _ hadd ?_ (fun q q1 q2=>?_)⟩
 ·simp
 ·simp [q1]
theorem l04Min_c (x y : Nat) : PureC Try.prog 120 [.c (vi x),.c (vi y)] (.one (.c (vi ((min x y : Nat) : Int)) 1)):=by
 refine PureC.intro' tt_ok Try.func120 (by kernel_rfl) rfl rfl rfl (Nat.le_of_ble_eq_true rfl) (fun w0 base=>?_);simp;by_cases h : x < y
 ·have : min x y = x:=by omega
  simp [h,this]
 ·have : min x y = y:=by omega
  simp [h,this]
section
variable {w0 : World} {bF bG : Nat→Prop} {bl : Bool} {st : ASt} {dst : Option Nat} {K : ASt→Prop} {kx ky bx by_ i d j e : Nat} {h0 : AH} {a b X Y : List Part}
theorem CR.kind (R : CR kx ky bx by_ h0 st.h a b i d j e X Y) (hl : a.length≤2 ^ 20) (hK : ∀ h' i' d',CR kx ky bx by_ h0 h' a b i' d' j e (nxt X) Y→aPut ⟨st.n,st.kb,st.t,h'⟩ dst (.v (.int .i64 (hdK (nxt X)))) K) :
 ACall ⟨Try.prog,tt,w0,⟨bF,bG,bl,fun _=>True⟩⟩ 117 [.p kx bx 0] st dst K:=by
 have:=R.lx;have:=R.ly;refine kind_call (by omega) hl R.cx R.gx (fun h1 i1 d1 c1 g1 o1=>hK h1 i1 d1 ⟨R.ne,R.lx,R.ly,g1,by rw [o1 ky R.ne.symm (by omega)];exact R.gy,fun q q1 q2 q3=>by rw [o1 q q1 (by omega)];exact R.o q q1 q2 q3,c1,R.cy⟩)
theorem CR.left {p : Part} {l : List Part} (R : CR kx ky bx by_ h0 st.h a b i d j e (p :: l) Y) (hK : aPut st dst (.v (.int .i64 (psz p))) K) :
 ACall ⟨Try.prog,tt,w0,⟨bF,bG,bl,fun _=>True⟩⟩ 118 [.p kx bx 0] st dst K:=left_call R.cx R.gx hK
theorem CR.take {p : Part} {l : List Part} {n : Nat} (R : CR kx ky bx by_ h0 st.h a b i d j e (p :: l) Y) (hk2 : p.kind = 2) (hn : n≤psz p) (hK : ∀ h',CR kx ky bx by_ h0 h' a b i (d + n) j e (pleft p n :: l) Y→aPut ⟨st.n,st.kb,st.t,h'⟩ dst (.ro ((p.signs.take n).map intR)) K) :
 ACall ⟨Try.prog,tt,w0,⟨bF,bG,bl,fun _=>True⟩⟩ 119 [.p kx bx 0,.v (.int .i64 n)] st dst K:=by
 have:=R.lx;have:=R.ly;refine curTake_call (by omega) R.cx hk2 hn R.gx (fun h1 c1 g1 o1=>hK h1 ⟨R.ne,R.lx,R.ly,g1,by rw [o1 ky R.ne.symm (by omega)];exact R.gy,fun q q1 q2 q3=>by rw [o1 q q1 (by omega)];exact R.o q q1 q2 q3,c1,R.cy⟩)
theorem CR.rebase (R : CR kx ky bx by_ h0 st.h a b i d j e X Y) {h' : AH} (hx : AH.get h' kx = AH.get st.h kx) (hy : AH.get h' ky = AH.get st.h ky) : CR kx ky bx by_ h' h' a b i d j e X Y:=
 ⟨R.ne,R.lx,R.ly,hx.trans R.gx,hy.trans R.gy,fun _ _ _ _=>rfl,R.cx,R.cy⟩
theorem CR.done {p : Part} {l : List Part} {n : Nat} (R : CR kx ky bx by_ h0 st.h a b i d j e (p :: l) Y) (hn : n≤psz p) : CR kx ky bx by_ ((kx,.vars bx 148 [.ro (a.map Part.row),.v (.int .i64 i),.v (.int .i64 ((d + n : Nat) : Int))]) :: st.h) ((kx,.vars bx 148 [.ro (a.map Part.row),.v (.int .i64 i),.v (.int .i64 ((d + n : Nat) : Int))]) :: st.h) a b i (d + n) j e (pleft p n :: l) Y:=
 ⟨R.ne,R.lx,R.ly,by simp,by rw [get_cons,if_neg R.ne.symm];exact R.gy,fun _ _ _ _=>rfl,R.cx.add hn,R.cy⟩
end
open Go.AM
set_option maxRecDepth 20000
theorem specFlush_callC {w0 : World} {bF bG : Nat→Prop} {bl : Bool} {st : ASt} {dst : Option Nat} {K : ASt→Prop} {L : List Part} {P : List Int} {D : Int} {b : Nat} {Hl Hp : Hd} (hL : L.length≤2 ^ 20) (_hP : P.length≤2 ^ 40)
 (g160 : st.h.get 576 = .vars b 121 [.sl 5000 Hl 3 0 L.length,.sl 5001 Hp 1 0 P.length,.v (.int .i64 D)])
 (g5000 : st.h.get 5000 = .rows Hl 3 (L.map Part.row) true) (g5001 : st.h.get 5001 = .rows Hp 1 (P.map intR) true)
 (hK : ∀ Hl' h',AH.get h' 576 = .vars b 121 [.sl 5000 Hl' 3 0 (nbFlush L P D).length,.nil,.v (.int .i64 0)] → AH.get h' 5000 = .rows Hl' 3 ((nbFlush L P D).map Part.row) true →
  (∀ q,q < 15000→q≠576→q≠5000→q≠5001→AH.get h' q = st.h.get q)→aPut ⟨st.n,st.kb,st.t,h'⟩ dst (.tup []) K) : ACall ⟨Try.prog,tt,w0,⟨bF,bG,bl,fun _=>True⟩⟩ 105 [.p 576 b 0] st dst K:=by
 refine ACall.inline tt_ok Try.func105 (by kernel_rfl) rfl rfl rfl (Nat.le_of_ble_eq_true rfl) 20000 (fun w1 F=>?_);simp [g160];by_cases hp : P = []
 ·have hp0 : ¬ 0 < P.length:=by simp [hp]
  simp [hp0,g160];by_cases hd : 0 < D
  ·simp [hd]
   refine DrawT.introP eok mix [0,1,2,3,4,5,6,7,8,9,12,13] [10,11,14] [([false,false,true,false,false,false,false,false,false,false,false,false],[true,true,false,true,true,true,true,true,true,true,true,true]),([false,false,false,false,false,false,false,true,false,false,false,false],[true,true,false,true,true,true,true,false,true,true,true,true]),([true,false,false,true,true,true,true,false,true,true,true,true],[false,true,false,false,false,false,false,false,false,false,false,false])] [false,true,false,false,false,false,false,false,false,false,false,false] (by kernel_rfl) ?_;simp [g160,g5000];intro b1;refine ⟨by omega,fun H=>hK H _ ?_ ?_ ?_⟩
   ·simp [flush3 hp hd]
   ·simp [flush3 hp hd,Part.row]
   ·intro q q0 q1 q2 q3
    repeat (first | exact rfl | refine (get_miss (by omega)).trans ?_)
  ·simp [hd,g160]
   refine hK Hl _ ?_ ?_ ?_
   ·simp [flush4 hp hd]
   ·simp [flush4 hp hd,g5000]
   ·intro q q0 q1 q2 q3
    repeat (first | exact rfl | refine (get_miss (by omega)).trans ?_)
 ·have hp0 : 0 < P.length:=List.length_pos_iff.2 hp
  simp [hp0];refine DrawT.introP eok mix [0,1,2,3,4,5,6,7,8,9,12,13] [10,11,14] [([false,false,true,false,false,false,false,false,false,false,false,false],[true,true,false,true,true,true,true,true,true,true,true,true]),([false,false,false,false,false,false,false,true,false,false,false,false],[true,true,false,true,true,true,true,false,true,true,true,true]),([true,false,false,true,true,true,true,false,true,true,true,true],[false,true,false,false,false,false,false,false,false,false,false,false])] [false,true,false,false,false,false,false,false,false,false,false,false] (by kernel_rfl) ?_;simp [g160,g5000,g5001];intro b1;refine ⟨by omega,fun H=>?_⟩;by_cases hd : 0 < D
  ·simp [hd]
   refine DrawT.introP eok mix [0,1,2,3,4,5,6,7,8,9,12,13] [10,11,14] [([false,false,true,false,false,false,false,false,false,false,false,false],[true,true,false,true,true,true,true,true,true,true,true,true]),([false,false,false,false,false,false,false,true,false,false,false,false],[true,true,false,true,true,true,true,false,true,true,true,true]),([true,false,false,true,true,true,true,false,true,true,true,true],[false,true,false,false,false,false,false,false,false,false,false,false])] [false,true,false,false,false,false,false,false,false,false,false,false] (by kernel_rfl) ?_;simp;intro b2;refine ⟨by omega,fun H2=>hK H2 _ ?_ ?_ ?_⟩
   ·simp [flush1 hp hd]
   ·simp [flush1 hp hd,Part.row]
   ·intro q q0 q1 q2 q3
    repeat (first | exact rfl | refine (get_miss (by omega)).trans ?_)
  ·simp [hd]
   refine hK H _ ?_ ?_ ?_
   ·simp [flush2 hp hd]
   ·simp [flush2 hp hd,Part.row]
   ·intro q q0 q1 q2 q3
    repeat (first | exact rfl | refine (get_miss (by omega)).trans ?_)
theorem specKeep_callC {w0 : World} {bF bG : Nat→Prop} {bl : Bool} {st : ASt} {dst : Option Nat} {K : ASt→Prop} {L : List Part} {P : List Int} {D n : Int} {b : Nat} {Hl Hp : Hd} (hL : L.length≤2 ^ 19) (hP : P.length≤2 ^ 40) (hn0 : 0 < n) (hn : n≤200) (hF : ∀ q∈nbFlush L P D,0≤q.n∧q.n≤2 ^ 40)
 (g160 : st.h.get 576 = .vars b 121 [.sl 5000 Hl 3 0 L.length,.sl 5001 Hp 1 0 P.length,.v (.int .i64 D)])
 (g5000 : st.h.get 5000 = .rows Hl 3 (L.map Part.row) true) (g5001 : st.h.get 5001 = .rows Hp 1 (P.map intR) true)
 (hK : ∀ Hl' h',AH.get h' 576 = .vars b 121 [.sl 5000 Hl' 3 0 (nbKeep (nbFlush L P D) n).length,.nil,.v (.int .i64 0)] → AH.get h' 5000 = .rows Hl' 3 ((nbKeep (nbFlush L P D) n).map Part.row) true →
  (∀ q,q < 15000→q≠576→q≠5000→q≠5001→AH.get h' q = st.h.get q)→aPut ⟨st.n,st.kb,st.t,h'⟩ dst (.tup []) K) : ACall ⟨Try.prog,tt,w0,⟨bF,bG,bl,fun _=>True⟩⟩ 80 [.p 576 b 0,.v (.int .i64 n)] st dst K:=by
 refine ACall.inline tt_ok Try.func80 (by kernel_rfl) rfl rfl rfl (Nat.le_of_ble_eq_true rfl) 30000 (fun w1 F=>?_);have n0 : ¬ n = 0:=by omega
 simp [n0];refine specFlush_callC (L:=L) (P:=P) (D:=D) (Hl:=Hl) (Hp:=Hp) (by omega) hP (by simp [g160]) (by simp [g5000]) (by simp [g5001]) (fun Hl' h' k160 k5000 k80=>?_);have f1:=nbFlush_len L P D;generalize nbFlush L P D = F at f1 hF k160 k5000 hK;by_cases hF0 : 0 < F.length
 ·obtain ⟨m,hm⟩ : ∃ m,F.length = m + 1:=⟨F.length - 1,by omega⟩
  have hmlt : m < F.length:=by omega
  have hmm : (m : Int) < m + 1:=by omega
  have em : Go.IntKind.i64.wrap (m : Int) = m:=i64_nat (by omega)
  have hk : nbKeep F n = if F[m].kind = 1 then F.set m ⟨1,F[m].n + n,F[m].signs⟩ else F ++ [⟨1,n,[]⟩]:=by
   have e0 : F.length - 1 = m:=by omega
   simp [nbKeep,hF0,e0]
  have hq:=hF _ (List.getElem_mem hmlt);have em2 : Go.IntKind.i64.wrap (F[m].n + n) = F[m].n + n:=Go.IntWalk.i64_in _ (by omega);simp [k160,k5000,hm,em,hmm,Part.row];by_cases ck : F[m].kind = 1
  ·rw [if_pos ck] at hk
   simp [ck];refine DrawT.introP eok mix [0,1,2,3,4,5,6,7,8,9,10,11,12,13,14,15,16,17,18] [19] [([true,false,true,true,true,true,true,true,true,true,true,true,true,true,true,true,true,true,true],[false,true,false,false,false,false,false,false,false,false,false,false,false,false,false,false,false,false,false])] [false,true,false,false,false,false,false,false,false,false,false,false,false,false,false,false,false,false,false] (by kernel_rfl) ?_;simp [k160,k5000,hm,em,hmm,Part.row,ck,em2];have hmod:=modify_row (F:=F) (m:=m) hmlt (g:=fun row=>putL row 1 [CD.v (Value.int IntKind.i64 (F[m].n + n))]) (p:=⟨1,F[m].n + n,F[m].signs⟩) (by simp [Part.row,ck]);refine hK Hl' _ ?_ ?_ ?_
   ·simp [k160,hk,hm]
   ·simp [hk,hmod]
   ·intro q q0 q1 q2 q3
    repeat (first | exact k80 q q0 q1 q2 q3 | exact rfl | refine (get_miss (by omega)).trans ?_)
  ·rw [if_neg ck] at hk
   simp [ck,k160,k5000,hm];intro b1;refine ⟨by omega,fun H=>hK H _ ?_ ?_ ?_⟩
   ·simp [hk,hm]
   ·simp [hk,Part.row]
   ·intro q q0 q1 q2 q3
    repeat (first | exact k80 q q0 q1 q2 q3 | exact rfl | refine (get_miss (by omega)).trans ?_)
 ·have hF1 : F = []:=List.eq_nil_of_length_eq_zero (by omega)
  subst hF1;have hk : nbKeep [] n = [⟨1,n,[]⟩]:=by simp [nbKeep]
  simp [k160,k5000];intro b1 H;refine hK H _ ?_ ?_ ?_
  ·simp [hk]
  ·simp [hk,Part.row]
  ·intro q q0 q1 q2 q3
   repeat (first | exact k80 q q0 q1 q2 q3 | exact rfl | refine (get_miss (by omega)).trans ?_)
theorem specPut_callC {w0 : World} {bF bG : Nat→Prop} {bl : Bool} {st : ASt} {dst : Option Nat} {K : ASt→Prop} {L : List Part} {P l : List Int} {D : Int} {b : Nat} {Hl Hp : Hd} (hP : P.length≤2 ^ 40) (hl : l.length≤2 ^ 40)
 (g160 : st.h.get 576 = .vars b 121 [.sl 5000 Hl 3 0 L.length,.sl 5001 Hp 1 0 P.length,.v (.int .i64 D)]) (g5001 : st.h.get 5001 = .rows Hp 1 (P.map intR) true)
 (hK : ∀ Hp' h',AH.get h' 576 = .vars b 121 [.sl 5000 Hl 3 0 L.length,.sl 5001 Hp' 1 0 (P ++ l).length,.v (.int .i64 D)] → AH.get h' 5001 = .rows Hp' 1 ((P ++ l).map intR) true → AH.get h' 5000 = st.h.get 5000 →
  (∀ q,q < 15000→q≠576→q≠5000→q≠5001→AH.get h' q = st.h.get q)→aPut ⟨st.n,st.kb,st.t,h'⟩ dst (.tup []) K) : ACall ⟨Try.prog,tt,w0,⟨bF,bG,bl,fun _=>True⟩⟩ 81 [.p 576 b 0,.ro (l.map intR)] st dst K:=by
 refine ACall.inline tt_ok Try.func81 (by kernel_rfl) rfl rfl rfl (Nat.le_of_ble_eq_true rfl) 30000 (fun w1 F=>?_);simp [g160,g5001];refine ⟨by omega,fun H=>hK H _ ?_ ?_ ?_ ?_⟩
 ·simp
 ·simp
 ·simp
 ·intro q q0 q1 q2 q3
  repeat (first | exact rfl | refine (get_miss (by omega)).trans ?_)
theorem specDrop_callC {w0 : World} {bF bG : Nat→Prop} {bl : Bool} {st : ASt} {dst : Option Nat} {K : ASt→Prop} {n D : Int} {b : Nat} {x y : AV} (h0 : 0≤D∧D≤2 ^ 40) (h1 : 0≤n∧n≤2 ^ 40)
 (g160 : st.h.get 576 = .vars b 121 [x,y,.v (.int .i64 D)])
 (hK : ∀ h',AH.get h' 576 = .vars b 121 [x,y,.v (.int .i64 (D + n))]→(∀ q,q≠576→AH.get h' q = st.h.get q)→aPut ⟨st.n,st.kb,st.t,h'⟩ dst (.tup []) K) : ACall ⟨Try.prog,tt,w0,⟨bF,bG,bl,fun _=>True⟩⟩ 82 [.p 576 b 0,.v (.int .i64 n)] st dst K:=by
 refine ACall.inline tt_ok Try.func82 (by kernel_rfl) rfl rfl rfl (Nat.le_of_ble_eq_true rfl) 30000 (fun w1 F=>?_);have e : Go.IntKind.i64.wrap (D + n) = D + n:=Go.IntWalk.i64_in _ (by omega);simp [g160,e];refine hK _ (by simp) (fun q hq=>by simp [hq])
end Go.Proofs.Ytoldjebobgocpaa
