import Derived.Test.YtoldjebobgocpaaPA
import Derived.Test.YtoldjebobgocpaaMF
namespace Go.Proofs.Ytoldjebobgocpaa
open Go.AM
set_option maxRecDepth 20000
def dE (t : List Int) (s : List Int × Int) (p : Part) : List Int × Int:=
 if p.kind = 1 then (s.1 ++ (t.drop s.2.toNat).take p.n.toNat,s.2 + p.n) else if p.kind = 2 then (s.1 ++ p.signs,s.2) else (s.1,s.2 + p.n)
def dF (o : List Part) (t : List Int) : List Int × Int:=o.foldl (dE t) ([],0)
theorem lA {o : List Part} {t : List Int} {i : Nat} (h : i < o.length) : dF (o.take (i + 1)) t = dE t (dF (o.take i) t) o[i]:=by
 unfold dF;rw [<- List.take_append_getElem h,List.foldl_append];rfl
def cg (o : List Part) (t : List Int) : Prop:=aK o/\bX t/\az o = t.length
open Classical in
noncomputable def apply (o : List Part) (t : List Int) : List Int × Bool:=if cg o t then ((dF o t).1,true) else ([],false)
theorem kP {o : List Part} {t : List Int} (ho : ∀ p∈o,ag p) : ∀ (i : Nat),i<=o.length->(dF (o.take i) t).2 = ba fK (o.take i) + ba fD (o.take i)/\(dF (o.take i) t).1.length<=200 * i
 | 0,_=>by simp [dF,ba]
 | i + 1,hi=>by
   have hlt : i < o.length:=by omega
   obtain ⟨h1,h2⟩:=kP ho i (by omega);have hb:=(ho _ (List.getElem_mem hlt)).bounds;rw [lA hlt,eX hlt,eX hlt];generalize dF (o.take i) t = s at h1 h2;obtain ⟨L,a⟩:=s;simp only at h1 h2;generalize ba fK (o.take i) = x1 at h1 ⊢;generalize ba fD (o.take i) = x2 at h1 ⊢;unfold dE fK fD;by_cases k1 : o[i].kind = 1
   ·simp [k1]
    omega
   ·by_cases k2 : o[i].kind = 2
    ·simp [k2];omega
    ·simp [k1,k2];omega
theorem fm {f : Part->Int} (hf : ∀ p,ag p->0<=f p) : ∀ {o : List Part} (_ : ∀ p∈o,ag p) (i : Nat),ba f (o.take i)<=ba f o
 | [],_,i=>by simp
 | p :: o,ho,0=>by
   have h1:=hf p (ho p (List.mem_cons_self ..));have h2:=fm hf (o:=o) (λq hq=>ho q (List.mem_cons_of_mem _ hq)) 0;simp only [List.take_zero,ba] at h2 ⊢;omega
 | p :: o,ho,i + 1=>by
   have h2:=fm hf (o:=o) (λq hq=>ho q (List.mem_cons_of_mem _ hq)) i;simp only [List.take_succ_cons,ba];omega
theorem sD {o : List Part} {t : List Int} (h : cg o t) {i : Nat} (hi : i < o.length) : 0<=(dF (o.take i) t).2/\(o[i].kind≠2->(dF (o.take i) t).2 + o[i].n<=t.length)/\(dF (o.take i) t).2<=t.length:=by
 have ho:=h.1.1.1;have h1:=(kP (t:=t) ho i (by omega)).1;have hf : az o = ba fK o + ba fD o:=by unfold az dR;rw [if_pos h.1.1]
 have h2:=fm (λp hp=>(Dy hp).1) ho (i + 1);have h3:=fm (λp hp=>(Dz hp).1) ho (i + 1);have h4:=fM (f:=fK) (λp h=>Dy h) (mr ho i);have h5:=fM (f:=fD) (λp h=>Dz h) (mr ho i);have h6:=eX (f:=fK) hi;have h7:=eX (f:=fD) hi;have h8:=h.2.2;have hb:=(ho _ (List.getElem_mem hi)).bounds;have k1:=Dy (ho _ (List.getElem_mem hi));have k2:=Dz (ho _ (List.getElem_mem hi));refine ⟨by omega,λhk=>?_,by omega⟩
 have : fK o[i] + fD o[i] = o[i].n:=by
  unfold fK fD;by_cases c1 : o[i].kind = 1
  ·simp [c1]
  ·simp [c1,hk]
 omega
theorem d5 (o : List Part) (t : List Int) (hl : nL aC o<=2 ^ 40) (ht : t.length<=2 ^ 40) : aB Try.prog 10 [.c (.s (o.map Part.row)),.c (.s (t.map aN))] (.tup [.c (.s ((apply o t).1.map aN)) 1,.c (.v (.bool (apply o t).2)) 1]):=by
 refine pci aj Try.func10 (λw0 base=>?_);simp;have no : ¬ cg o t->apply o t = ([],false):=λh=>by unfold apply;rw [if_neg h]
 refine aa.pure (bq o hl) (by simp) ?_;by_cases c1 : aK o
 rotate_left
 ·have e : dc (aK o) = false:=by rw [bg];exact c1
  simp [e,no (λh=>c1 h.1)]
 simp [c1];refine aa.pure (fu t ht) (by simp) ?_;by_cases c2 : bX t
 rotate_left
 ·have e : dc (bX t) = false:=by rw [bg];exact c2
  simp [e,no (λh=>c2 h.2.1)]
 simp [c2];refine aa.pure (cu o hl) (by simp) ?_;by_cases c3 : az o = t.length
 rotate_left
 ·simp [c3,no (λh=>c3 h.2.2)]
 have hf : cg o t:=⟨c1,c2,c3⟩;have e : apply o t = ((dF o t).1,true):=by unfold apply;rw [if_pos hf]
 have ho:=c1.1.1;have hlen:=c1.1.2;simp [c3,e];refine bp.intro eok (λx : Nat × Hd=>x.1<=o.length) (λx=>⟨60,0,[(27,.v (.int .i64 x.1)),(26,.v (.int .i64 o.length)),(25,.ro (o.map Part.row)),(7,.v (.int .i64 (dF (o.take x.1) t).2)),(6,.sl 752 x.2 1 0 (dF (o.take x.1) t).1.length),(1,.ro (t.map aN))],[(752,.rows x.2 1 ((dF (o.take x.1) t).1.map aN) true)]⟩) (λx=>o.length - x.1) (0,none) (by simp) (by simp [dF]) (λx hi=>?_);obtain ⟨i,H⟩:=x;simp only at hi ⊢;by_cases h : i < o.length
 ·have hin:=sD hf h
  have hat:=kP (t:=t) ho i hi;have hb:=(ho _ (List.getElem_mem h)).bounds;have hs:=lA (t:=t) h;generalize dF (o.take i) t = s at hin hat hs;obtain ⟨L,a⟩:=s;simp only at hin hat hs;obtain ⟨a',rfl⟩ : ∃ a' : Nat,a = a':=⟨a.toNat,by omega⟩;obtain ⟨n,hn⟩ : ∃ n : Nat,o[i].n = n:=⟨o[i].n.toNat,by omega⟩;have e : Go.IntKind.i64.wrap ((i : Int) + 1) = ((i + 1 : Nat) : Int):=aY (by omega);have ea : Go.IntKind.i64.wrap ((a' : Int) + n) = (a' : Int) + n:=Go.IntWalk.i64_in _ (by omega);rw [hn] at hin;simp [h,Part.row];intro b9;by_cases k1 : o[i].kind = 1
  ·have hle : a' + n<=t.length:=by have:=hin.2.1 (by omega);omega
   have hst : dE t (L,(a' : Int)) o[i] = (L ++ (t.drop a').take n,(a' : Int) + n):=by simp [dE,k1,hn]
   rw [hst] at hs;obtain ⟨m,hm⟩ : ∃ m,(t.drop a').take n = m:=⟨_,rfl⟩;have hcut : cut (t.map aN) a' n = m.map aN:=by rw [dD,<- hm];simp
   have hlen2 : m.length = n:=by rw [<- hm];simp;omega
   rw [hm] at hs;simp [k1,hn,ea,hle,hcut];refine ⟨by omega,λH2=>⟨i + 1,by omega,by omega,H2,?_⟩⟩;rw [hs];simp [e]
  ·by_cases k3 : o[i].kind = 3
   ·have hst : dE t (L,(a' : Int)) o[i] = (L,(a' : Int) + n):=by simp [dE,k3,hn]
    rw [hst] at hs;simp [k3,hn,ea];refine ⟨i + 1,by omega,by omega,H,?_⟩;rw [hs];simp [e]
   ·have k2 : o[i].kind = 2:=by omega
    have hst : dE t (L,(a' : Int)) o[i] = (L ++ o[i].signs,(a' : Int)):=by simp [dE,k2]
    rw [hst] at hs;simp [k2];refine ⟨by omega,λH2=>⟨i + 1,by omega,by omega,H2,?_⟩⟩;rw [hs];simp [e]
 ·have he : o.take i = o:=List.take_of_length_le (by omega)
  rw [he];simp [h]
theorem gN (o : List Part) (t : List Int) : (apply o t).1.length<=2 ^ 17:=by
 unfold apply
 split
 ·rename_i h
  have h1:=(kP (t:=t) h.1.1.1 o.length (by omega)).2;rw [List.take_length] at h1;have:=h.1.1.2;simp only;omega
 ·simp
abbrev fQ (o : List Part) : List CD:=[.s (o.map Part.row)]
open Classical in
noncomputable def au : List (List Part)->List Int->Option (List Int)
 | [],t=>some t
 | o :: l,t=>if (apply o t).2 = true then au l (apply o t).1 else none
open Classical in
noncomputable def bH (l : List (List Part)) (t : List Int) : List Int × Bool:=
 if bX t then match au l t with
  | some u=>(u,true)
  | none=>([],false)
 else ([],false)
theorem nV {l : List (List Part)} {i : Nat} {u : List Int} (h : i < l.length) : au (l.drop i) u = if (apply l[i] u).2 = true then au (l.drop (i + 1)) (apply l[i] u).1 else none:=by
 rw [List.drop_eq_getElem_cons h,au]
theorem iO (l : List (List Part)) (t : List Int) (hl : l.length<=2 ^ 30) (hs : ∀ o∈l,nL aC o<=2 ^ 40) (ht : t.length<=2 ^ 40) : aB Try.prog 29 [.c (.s (l.map fQ)),.c (.s (t.map aN))] (.tup [.c (.s ((bH l t).1.map aN)) 1,.c (.v (.bool (bH l t).2)) 1]):=by
 refine pci aj Try.func29 (λw0 base=>?_);simp;refine aa.pure (fu t ht) (by simp) ?_;by_cases c2 : bX t
 rotate_left
 ·have e : dc (bX t) = false:=by rw [bg];exact c2
  have e2 : bH l t = ([],false):=by unfold bH;rw [if_neg c2]
  simp [e,e2]
 obtain ⟨r,hr⟩ : ∃ r,bH l t = r:=⟨_,rfl⟩;have hr' : (match au l t with | some u=>(u,true) | none=>([],false)) = r:=by rw [<- hr];unfold bH;rw [if_pos c2]
 rw [hr];simp [c2];refine aa.pure (eP t ht) (by simp) ?_;simp;intro H0
 refine bp.intro eok (λx : Nat × Nat × Hd × List Int=>x.1<=l.length/\x.2.2.2.length<=2 ^ 40/\(match au (l.drop x.1) x.2.2.2 with | some u=>(u,true) | none=>([],false)) = r)
  (λx=>⟨33,0,[(18,.v (.int .i64 x.1)),(17,.v (.int .i64 l.length)),(16,.ro (l.map fQ)),(6,.sl x.2.1 x.2.2.1 1 0 x.2.2.2.length)],[(x.2.1,.rows x.2.2.1 1 (x.2.2.2.map aN) true)]⟩) (λx=>l.length - x.1) (0,240,H0,t) (by simp [ht,hr']) (by simp) (λx hi=>?_)
 obtain ⟨i,K,H,u⟩:=x;simp only at hi ⊢;obtain ⟨hi1,hi2,hi3⟩:=hi;by_cases h : i < l.length
 ·have e : Go.IntKind.i64.wrap ((i : Int) + 1) = ((i + 1 : Nat) : Int):=aY (by omega)
  rw [nV h] at hi3;have hlen:=gN l[i] u;simp [h];refine aa.pure (d5 l[i] u (hs _ (List.getElem_mem h)) hi2) (by simp) ?_;generalize apply l[i] u = q at hi3 hlen;obtain ⟨v,ok⟩:=q;simp only at hi3 hlen
  cases ok
  ·simp at hi3
   simp [<- hi3]
  ·simp at hi3
   simp;intro H2;exact ⟨i + 1,400,H2,v,⟨by omega,by omega,hi3⟩,by omega,⟨e,rfl,rfl,rfl⟩,.inl rfl⟩
 ·have hd : l.drop i = []:=List.drop_eq_nil_of_le (by omega)
  rw [hd] at hi3;simp [au] at hi3;simp [h,<- hi3]
theorem pJ {o : List Part} {t : List Int} (h : cg o t) : ∀ (i : Nat),i<=o.length->((dF (o.take i) t).1.length : Int) = ba fK (o.take i) + ba fP (o.take i)/\cL (dF (o.take i) t).1
 | 0,_=>by simp [dF,ba,cL]
 | i + 1,hi=>by
   have hlt : i < o.length:=by omega
   obtain ⟨h1,h2⟩:=pJ h i (by omega);have hin:=sD h hlt;have hpo:=h.1.1.1 _ (List.getElem_mem hlt);have hb:=hpo.bounds;rw [lA hlt,eX hlt,eX hlt];generalize dF (o.take i) t = s at h1 h2 hin;generalize o[i] = p at hin hpo hb;unfold dE;rw [show fK p = (if p.kind = 1 then p.n else 0) from rfl,show fP p = (if p.kind = 2 then (p.signs.length : Int) else 0) from rfl];rcases hb.1 with k | k | k
   ·have:=hin.2.1 (by omega)
    have e : ((t.drop s.2.toNat).take p.n.toNat).length = p.n.toNat:=by simp;omega
    refine ⟨?_,?_⟩
    ·simp only [k,if_true,List.length_append,e]
     have k2 : ¬ (1 : Int) = 2:=by decide
     simp only [k2,if_false];omega
    simp only [k,if_true];intro n hn;rcases List.mem_append.1 hn with hn | hn
    ·exact h2 n hn
    ·exact h.2.1.2 n (List.mem_of_mem_drop (List.mem_of_mem_take hn))
   ·refine ⟨by simp [k];omega,?_⟩
    have k1 : ¬ p.kind = 1:=by omega
    simp only [k,if_true];rw [eL k] at hpo;intro n hn;rcases List.mem_append.1 hn with hn | hn
    ·exact h2 n hn
    ·exact hpo.2.2 n hn
   ·exact ⟨by simp [k];omega,by simpa [k] using h2⟩
theorem bE {o : List Part} {t : List Int} (h : cg o t) : bX (apply o t).1/\((apply o t).1.length : Int) = bI o:=by
 have h1:=pJ h o.length (Nat.le_refl _);rw [List.take_length] at h1;have e : apply o t = ((dF o t).1,true):=by unfold apply;rw [if_pos h]
 have ht : bI o = ba fK o + ba fP o:=by unfold bI dR;rw [if_pos h.1.1]
 have h3:=h.1.2.2;rw [e];refine ⟨⟨by simp only;omega,h1.2⟩,by simp only;omega⟩
theorem dk {o : List Part} {t : List Int} : (apply o t).2 = true ↔ cg o t:=by
 unfold apply
 split<;>simp_all
def gp (s : ByteArray) : Prop:=(1<=s.size/\s.size<=8)/\∀ (i : Nat) (h : i < s.size),97<=s[i].toNat/\s[i].toNat<=122
def bT (e : Entry) : Prop:=(1<=e.client/\e.client<=8)/\(1<=e.seq/\e.seq<=1000000000)/\dp e.o
def j8 (d : Doc) : Prop:=∀ (i : Nat) (h : i < d.seen.length),(1<=d.seen[i].client/\d.seen[i].client<=8)/\(1<=d.seen[i].seq/\d.seen[i].seq<=1000000000)/\(1<=d.seen[i].rev/\d.seen[i].rev<=ae d)/\(∀ h0 : 0 < i,d.seen[i - 1].client < d.seen[i].client)
def aT (d : Doc) : Prop:=gp d.name/\(0<=d.fr/\d.fr<=999999000)/\bX d.text/\d.list.length<=8/\(∀ e∈d.list,bT e)/\(au (d.list.map Entry.o) d.text).isSome = true/\j8 d
open Classical in
noncomputable def bz (d : Doc) (rev : Int) : List Int × Bool:=if aT d/\d.fr<=rev/\rev<=ae d then bH ((d.list.take (rev - d.fr).toNat).map Entry.o) d.text else ([],false)
noncomputable def br (d : Doc) : List Int:=(bz d (ae d)).1
open Classical in
noncomputable def aV (d : Doc) (c : Int) : Seen × Bool:=match d.seen.find? (λs=>decide (s.client = c)) with
 | some s=>(s,true)
 | none=>(⟨0,0,0⟩,false)
noncomputable def dH (r : Rep) : Rep:=⟨r.client,r.seq + 1,r.rev,r.text,true,r.buf,ar (bI r.buf)⟩
open Classical in
noncomputable def bL (r : Rep) : Rep × Call × Bool:=if aD r/\r.has = false/\¬ eB r.buf/\r.seq≠999999999 then (dH r,⟨2,⟨#[]⟩,r.client,r.seq + 1,r.rev,r.buf,[]⟩,true) else (Rep.zero,⟨0,⟨#[]⟩,0,0,0,[],[]⟩,false)
inductive At where
 | k
 | p (c : Int)
 | d
def ats (p : Part) : List At:=if p.kind = 2 then p.signs.map At.p else if p.kind = 3 then List.replicate (psz p) .d else List.replicate (psz p) .k
def ac : List Part->List At
 | []=>[]
 | p :: l=>ats p ++ ac l
theorem am : ∀ (a b : List Part),ac (a ++ b) = ac a ++ ac b
 | [],b=>rfl
 | p :: a,b=>by simp [ac,am a b]
def frA : List At->Nat
 | []=>0
 | .p _ :: l=>frA l
 | _ :: l=>frA l + 1
def toA : List At->Nat
 | []=>0
 | .d :: l=>toA l
 | _ :: l=>toA l + 1
theorem aH : ∀ (a b : List At),frA (a ++ b) = frA a + frA b
 | [],b=>by simp [frA]
 | .p c :: a,b=>by simp [frA,aH a b]
 | .k :: a,b=>by simp [frA,aH a b];omega
 | .d :: a,b=>by simp [frA,aH a b];omega
theorem aP : ∀ (a b : List At),toA (a ++ b) = toA a + toA b
 | [],b=>by simp [toA]
 | .d :: a,b=>by simp [toA,aP a b]
 | .k :: a,b=>by simp [toA,aP a b];omega
 | .p c :: a,b=>by simp [toA,aP a b];omega
theorem hJ : ∀ l : List Int,frA (l.map At.p) = 0
 | []=>rfl
 | c :: l=>by simp [frA,hJ l]
theorem ld : ∀ l : List Int,toA (l.map At.p) = l.length
 | []=>rfl
 | c :: l=>by simp [toA,ld l]
theorem nu : ∀ n : Nat,frA (List.replicate n At.k) = n
 | 0=>rfl
 | n + 1=>by simp [List.replicate_succ,frA,nu n]
theorem lm : ∀ n : Nat,frA (List.replicate n At.d) = n
 | 0=>rfl
 | n + 1=>by simp [List.replicate_succ,frA,lm n]
theorem pX : ∀ n : Nat,toA (List.replicate n At.k) = n
 | 0=>rfl
 | n + 1=>by simp [List.replicate_succ,toA,pX n]
theorem jF : ∀ n : Nat,toA (List.replicate n At.d) = 0
 | 0=>rfl
 | n + 1=>by simp [List.replicate_succ,toA,jF n]
theorem mv {p : Part} (h : ag p) (k : p.kind = 2) : psz p = p.signs.length:=by
 rw [eL k] at h;unfold psz;omega
theorem DN {p : Part} : frA (ats p) = if p.kind = 2 then 0 else psz p:=by
 unfold ats
 split
 ·exact hJ _
 ·split
  ·exact lm _
  ·exact nu _
theorem DM {p : Part} (h : ag p) : toA (ats p) = if p.kind = 3 then 0 else psz p:=by
 unfold ats;by_cases k : p.kind = 2
 ·have : ¬ p.kind = 3:=by omega
  rw [if_pos k,if_neg this,ld,mv h k]
 ·rw [if_neg k]
  split
  ·exact jF _
  ·exact pX _
theorem ez : ∀ (o : List Part),frs o = frA (ac o)
 | []=>rfl
 | p :: o=>by simp only [frs,ac,aH,DN,ez o]
theorem fg : ∀ {o : List Part},(∀ p∈o,ag p)->tos o = toA (ac o)
 | [],_=>rfl
 | p :: o,h=>by
   simp only [tos,ac,aP,DM (h p (List.mem_cons_self ..)),fg (λq hq=>h q (List.mem_cons_of_mem _ hq))]
def nA : List Int->Nat->List At->List At
 | P,n,[]=>P.map At.p ++ List.replicate n .d
 | P,n,.k :: l=>P.map At.p ++ (List.replicate n .d ++ .k :: nA [] 0 l)
 | P,n,.p c :: l=>nA (P ++ [c]) n l
 | P,n,.d :: l=>nA P (n + 1) l
def fk (l : List At) : List At:=nA [] 0 l
theorem u6 : ∀ (l : List At) (P : List Int) (n : Nat),frA (nA P n l) = n + frA l
 | [],P,n=>by simp [nA,frA,aH,hJ,lm]
 | .k :: l,P,n=>by simp [nA,frA,aH,hJ,lm,u6 l]
 | .p c :: l,P,n=>by simp [nA,frA,u6 l]
 | .d :: l,P,n=>by simp [nA,frA,u6 l];omega
theorem u4 : ∀ (l : List At) (P : List Int) (n : Nat),toA (nA P n l) = P.length + toA l
 | [],P,n=>by simp [nA,toA,aP,ld,jF]
 | .k :: l,P,n=>by simp [nA,toA,aP,ld,jF,u4 l]
 | .p c :: l,P,n=>by simp [nA,toA,u4 l];omega
 | .d :: l,P,n=>by simp [nA,toA,u4 l]
theorem u5 : ∀ (Q P : List Int) (n : Nat) (l : List At),nA P n (Q.map At.p ++ l) = nA (P ++ Q) n l
 | [],P,n,l=>by simp
 | c :: Q,P,n,l=>by simp [nA,u5 Q]
theorem u7 : ∀ (m : Nat) (P : List Int) (n : Nat) (l : List At),nA P n (List.replicate m .d ++ l) = nA P (n + m) l
 | 0,P,n,l=>by simp
 | m + 1,P,n,l=>by simp [List.replicate_succ,nA,u7 m];congr 1;omega
theorem BE : ∀ (m : Nat) (l : List At),nA [] 0 (List.replicate m .k ++ l) = List.replicate m .k ++ nA [] 0 l
 | 0,l=>by simp
 | m + 1,l=>by simp [List.replicate_succ,nA,BE m]
def bA (s : List Part × List Int × Int) : List At:=ac s.1 ++ (s.2.1.map At.p ++ List.replicate s.2.2.toNat .d)
theorem sh {L : List Part} {P : List Int} {D : Int} : ac (aL L P D) = bA (L,P,D):=by
 unfold aL bA;rw [am,am]
 congr 1
 congr 1
 ·split
  ·rename_i h;simp [h,ac]
  ·simp [ac,ats]
 ·split
  ·simp [ac,ats,psz]
  ·have : D.toNat = 0:=by omega
   simp [ac,this]
theorem iX : ∀ (L : List Part) (_h : 0 < L.length) (p : Part),ac (L.set (L.length - 1) p) = ac L.dropLast ++ ats p
 | [q],h,p=>by simp [ac]
 | q :: r :: L,h,p=>by
   have ih:=iX (r :: L) (by simp) p;simp only [List.length_cons,Nat.add_sub_cancel] at ih ⊢;rw [List.set_cons_succ,ac,ih];simp [ac]
theorem nT : ∀ (L : List Part) (h : 0 < L.length),ac L = ac L.dropLast ++ ats (L[L.length - 1]'(by omega))
 | [q],h=>by simp [ac]
 | q :: r :: L,h=>by
   have ih:=nT (r :: L) (by simp);simp only [List.length_cons,Nat.add_sub_cancel] at ih ⊢;rw [ac,ih];simp [ac]
theorem AC {L : List Part} {n : Int} (hn : 0 < n) (hL : ∀ q∈L,0<=q.n) (hk : ∀ q∈L,q.kind = 1->q.signs = []) : ac (cP L n) = ac L ++ List.replicate n.toNat .k:=by
 unfold cP
 split
 ·rename_i h
  split
  ·rename_i k
   have h1:=hL _ (List.getElem_mem (show L.length - 1 < L.length by omega));have h2:=hk _ (List.getElem_mem (show L.length - 1 < L.length by omega)) k;rw [iX L h,nT L h,List.append_assoc]
   congr 1
   generalize L[L.length - 1]'(by omega) = q at h1 h2 k;obtain ⟨a,b,c⟩:=q;simp only at h1 h2 k;subst k h2;simp [ats,psz,List.replicate_append_replicate];omega
  ·rw [am]
   simp [ac,ats,psz]
 ·rename_i h
  have : L = []:=List.eq_nil_of_length_eq_zero (by omega);subst this;simp [ac,ats,psz]
theorem lW {L : List Part} {P : List Int} {D : Int} (h : ∀ q∈L,q.kind = 1->q.signs = []) : ∀ q∈aL L P D,q.kind = 1->q.signs = []:=by
 intro q hq hk;unfold aL at hq;rcases List.mem_append.1 hq with hq | hq
 ·exact h q hq hk
 ·rcases List.mem_append.1 hq with hq | hq
  ·split at hq
   ·simp at hq
   ·simp at hq;subst hq;simp at hk
  ·split at hq
   ·simp at hq;subst hq;rfl
   ·simp at hq
theorem tG {L : List Part} {n : Int} (h : ∀ q∈L,q.kind = 1->q.signs = []) : ∀ q∈cP L n,q.kind = 1->q.signs = []:=by
 intro q hq hk;unfold cP at hq
 split at hq
 ·rename_i hl
  split at hq
  ·rename_i k
   rcases List.mem_or_eq_of_mem_set hq with hq | rfl
   ·exact h q hq hk
   ·exact (h (L[L.length - 1]'(by omega)) (List.getElem_mem _) k :)
  ·rcases List.mem_append.1 hq with hq | hq
   ·exact h q hq hk
   ·simp at hq;subst hq;rfl
 ·simp at hq;subst hq;rfl
theorem rP {o : List Part} (ho : ∀ p ∈ o,ag p) : ∀ (i : Nat),i <= o.length -> (∀ q ∈ (bc (o.take i)).1,q.kind = 1 -> q.signs = []) /\ 0 <= (bc (o.take i)).2.2 /\ (∀ q ∈ (bc (o.take i)).1,0 <= q.n) /\
 ∀ l,fk (ac (o.take i) ++ l) = ac (bc (o.take i)).1 ++ nA (bc (o.take i)).2.1 (bc (o.take i)).2.2.toNat l
 | 0,_=>by simp [bc,ac,fk]
 | i + 1,hi=>by
   obtain ⟨h1,h2,h3,h4⟩:=rP ho i (by omega);have hlt : i < o.length:=by omega
   have hq:=(kn ho (i + 1) hi);have hp:=(ho _ (List.getElem_mem hlt));have hb:=hp.bounds;refine ⟨?_,hq.d0,λq hq'=>(hq.q q hq').1,λl=>?_⟩
   ·rw [eM hlt]
    unfold es
    split
    ·exact h1
    ·split
     ·exact h1
     ·split
      ·exact tG (lW h1)
      ·exact h1
   ·rw [<- List.take_append_getElem hlt,am,List.append_assoc,h4,List.take_append_getElem hlt,eM hlt]
    generalize bc (o.take i) = s at h1 h2 h3;generalize o[i] = p at hp hb;obtain ⟨L,P,D⟩:=s;simp only at h1 h2 h3;simp only [ac,List.append_nil];unfold es;by_cases k2 : p.kind = 2
    ·simp only [k2,if_true]
     rw [show ats p = p.signs.map At.p by unfold ats;rw [if_pos k2],u5]
    ·by_cases k3 : p.kind = 3
     ·have hs:=hb.2.2.2.2.2 k2
      have e : (D + p.n).toNat = D.toNat + p.n.toNat:=by omega
      simp only [k3,if_true];rw [show ats p = List.replicate (psz p) .d by unfold ats;rw [if_neg k2,if_pos k3],u7];simp [e,psz,hs]
     ·have k1 : p.kind = 1:=by omega
      have hs:=hb.2.2.2.2.2 k2;have e : ats p = List.replicate p.n.toNat .k:=by unfold ats;rw [if_neg k2,if_neg k3];simp [psz,hs]
      simp only [k2,k3,if_false];rw [e]
      split
      ·rename_i hn
       have hfl : ∀ q∈aL L P D,0<=q.n:=by
        intro q hq';unfold aL at hq';rcases List.mem_append.1 hq' with hq' | hq'
        ·exact h3 q hq'
        ·rcases List.mem_append.1 hq' with hq' | hq'
         ·split at hq'
          ·simp at hq'
          ·simp at hq';subst hq';simp
         ·split at hq'
          ·simp at hq';subst hq';simp;omega
          ·simp at hq'
       simp only;rw [AC hn hfl (lW h1),sh];obtain ⟨m,hm⟩ : ∃ m,p.n.toNat = m + 1:=⟨p.n.toNat - 1,by omega⟩;rw [hm];simp [bA,List.replicate_succ,nA,BE,List.append_assoc]
      ·have : p.n.toNat = 0:=by omega
       simp [this]
theorem d3 {o : List Part} (ho : ∀ p∈o,ag p) : ac (normal o) = fk (ac o):=by
 have h:=(rP ho o.length (Nat.le_refl _)).2.2.2 [];rw [List.take_length,List.append_nil] at h;unfold normal;rw [sh,h];unfold bA;simp [nA]
theorem nc (l : List At) : frA (fk l) = frA l:=by unfold fk;rw [u6];omega
theorem m9 (l : List At) : toA (fk l) = toA l:=by unfold fk;rw [u4];simp
def tA : List At->List At->List At × List At
 | .p c :: a,b=>(.p c :: (tA a b).1,.k :: (tA a b).2)
 | [],.p c :: b=>(.k :: (tA [] b).1,.p c :: (tA [] b).2)
 | .k :: a,.p c :: b=>(.k :: (tA (.k :: a) b).1,.p c :: (tA (.k :: a) b).2)
 | .d :: a,.p c :: b=>(.k :: (tA (.d :: a) b).1,.p c :: (tA (.d :: a) b).2)
 | .k :: a,.k :: b=>(.k :: (tA a b).1,.k :: (tA a b).2)
 | .k :: a,.d :: b=>((tA a b).1,.d :: (tA a b).2)
 | .d :: a,.k :: b=>(.d :: (tA a b).1,(tA a b).2)
 | .d :: a,.d :: b=>tA a b
 | [],_=>([],[])
 | _,[]=>([],[])
termination_by a b=>a.length + b.length
def noP : List At->Bool
 | .p _ :: _=>false
 | _=>true
theorem xQ {c : Int} {a b : List At} : tA (.p c :: a) b = (.p c :: (tA a b).1,.k :: (tA a b).2):=by rw [tA]
theorem oi {c : Int} {a b : List At} (h : noP a = true) : tA a (.p c :: b) = (.k :: (tA a b).1,.p c :: (tA a b).2):=by
 match a,h with
 | [],_=>rw [tA]
 | .k :: a,_=>rw [tA]
 | .d :: a,_=>rw [tA]
theorem By {a b : List At} : ∀ Q : List Int,tA (Q.map At.p ++ a) b = (Q.map At.p ++ (tA a b).1,List.replicate Q.length .k ++ (tA a b).2)
 | []=>by simp
 | c :: Q=>by simp [xQ,By Q,List.replicate_succ]
theorem xP {a b : List At} (h : noP a = true) : ∀ Q : List Int,tA a (Q.map At.p ++ b) = (List.replicate Q.length .k ++ (tA a b).1,Q.map At.p ++ (tA a b).2)
 | []=>by simp
 | c :: Q=>by simp [oi h,xP h Q,List.replicate_succ]
theorem Bz {a b : List At} : ∀ n : Nat,tA (List.replicate n .k ++ a) (List.replicate n .k ++ b) = (List.replicate n .k ++ (tA a b).1,List.replicate n .k ++ (tA a b).2)
 | 0=>by simp
 | n + 1=>by simp [List.replicate_succ,tA,Bz n]
theorem BA {a b : List At} : ∀ n : Nat,tA (List.replicate n .k ++ a) (List.replicate n .d ++ b) = ((tA a b).1,List.replicate n .d ++ (tA a b).2)
 | 0=>by simp
 | n + 1=>by simp [List.replicate_succ,tA,BA n]
theorem BB {a b : List At} : ∀ n : Nat,tA (List.replicate n .d ++ a) (List.replicate n .k ++ b) = (List.replicate n .d ++ (tA a b).1,(tA a b).2)
 | 0=>by simp
 | n + 1=>by simp [List.replicate_succ,tA,BB n]
theorem BC {a b : List At} : ∀ n : Nat,tA (List.replicate n .d ++ a) (List.replicate n .d ++ b) = tA a b
 | 0=>by simp
 | n + 1=>by simp [List.replicate_succ,tA,BC n]
theorem dj : ∀ {x : List Part},(∀ p∈x,ag p)->ac (nxt x) = ac x
 | [],_=>rfl
 | p :: l,h=>by
   have ih:=dj (x:=l) (λq hq=>h q (List.mem_cons_of_mem _ hq));unfold nxt
   split
   ·rename_i hz
    rw [ih,ac]
    have : ats p = []:=by
     have hp:=h p (List.mem_cons_self ..);unfold ats
     split
     ·rename_i k;rw [mv hp k] at hz;simp [List.eq_nil_of_length_eq_zero hz]
     ·split<;>simp [hz]
    simp [this]
   ·rfl
theorem d9 {p : Part} (h : ag p) {n : Nat} (hn : n<=psz p) : ats p = ats (cN p n) ++ ats (aw p n):=by
 have hb:=h.bounds;by_cases k2 : p.kind = 2
 ·unfold ats cN aw
  simp only [k2,if_true];rw [<- List.map_append,List.take_append_drop]
 ·have hs:=hb.2.2.2.2.2 k2
  have hz : psz p = p.n.toNat:=by simp [psz,hs]
  have e : p.n.toNat = n + (p.n - n).toNat:=by omega
  by_cases k3 : p.kind = 3
  ·unfold ats cN aw
   simp only [k3,if_true];simp [psz,hs];omega
  ·unfold ats cN aw
   simp only [k2,if_false,k3];simp [psz,hs];omega
theorem nS {p : Part} (h : ag p) : ats (aw p (psz p)) = []:=by
 have h1:=d9 h (Nat.le_refl (psz p));rw [cf h] at h1
 simpa using h1
theorem vv {p : Part} (_h : ag p) (k : p.kind≠2) : ats p = if p.kind = 3 then List.replicate (psz p) .d else List.replicate (psz p) .k:=by unfold ats;rw [if_neg k]
theorem eW {p : Part} (h : ag p) (k : p.kind≠2) {n : Nat} (hn : n<=psz p) : ats (cN p n) = if p.kind = 3 then List.replicate n .d else List.replicate n .k:=by
 have hs:=h.bounds.2.2.2.2.2 k;have : psz (cN p n) = n:=by unfold psz cN;rw [if_neg k];simp [hs]
 rw [vv (ep h hn) (by simpa using k),this];simp
theorem A4 {p : Part} (h : ag p) (k : p.kind≠2) (hp : 0 < psz p) (l : List At) : noP (ats p ++ l) = true:=by
 rw [vv h k];obtain ⟨m,hm⟩ : ∃ m,psz p = m + 1:=⟨psz p - 1,by omega⟩;rw [hm]
 split<;>simp [List.replicate_succ,noP]
theorem mO {x y : List Part} (hi : TInv x y) (h : db x y = none) : nxt x = []/\nxt y = []:=by
 have hxt:=eQ x;have hyf:=eQ y;have hb:=hi.b;unfold db at h
 cases ex : nxt x with
 | nil=>
   rw [ex] at h hxt
   cases ey : nxt y with
   | nil=>exact ⟨rfl,rfl⟩
   | cons q y'=>
     rw [ey] at hyf;have hp:=cl ey;simp only [ey] at h
     split at h
     ·cases h
     ·rename_i k
      simp [frs,k] at hxt hyf;omega
 | cons p x'=>
   rw [ex] at h hxt;have hp:=cl ex;simp only at h
   split at h
   ·cases h
   ·rename_i k
    cases ey : nxt y with
    | nil=>
      rw [ey] at hyf;simp [frs,k] at hxt hyf;omega
    | cons q y'=>
      simp only [ey] at h
      split at h<;>cases h
theorem xp : ∀ (k : Nat) {x y : List Part},TInv x y->tsz x + tsz y<=k->(ac (xfK k x y).1,ac (xfK k x y).2) = tA (ac x) (ac y)
 | 0,x,y,hi,h=>by
   have hn : db x y = none:=by
    cases hs : db x y with
    | none=>rfl
    | some r=>have:=(cd hi hs).dec;omega
   obtain ⟨e1,e2⟩:=mO hi hn;rw [<- dj hi.px,<- dj hi.py,e1,e2];simp [xfK,ac,tA]
 | k + 1,x,y,hi,h=>by
   rw [xfK]
   cases hs : db x y with
   | none=>
     obtain ⟨e1,e2⟩:=mO hi hs;rw [<- dj hi.px,<- dj hi.py,e1,e2];simp [ac,tA]
   | some r=>
     have hn:=cd hi hs;have hd:=hn.dec;have ih:=xp k hn.inv (by omega);simp only [am];rw [<- dj hi.px,<- dj hi.py];generalize xfK k r.2.1 r.2.2 = Z at ih ⊢;unfold db at hs
     cases ex : nxt x with
     | nil=>
       rw [ex] at hs
       cases ey : nxt y with
       | nil=>simp [ey] at hs
       | cons q y'=>
         have hq:=bY hi.py ey;simp only [ey] at hs
         split at hs
         ·rename_i kq
          cases hs
          simp only [ac,nS hq.1,List.nil_append] at ih;simp only [ac,cf hq.1,List.append_nil];rw [show ats q = q.signs.map At.p by unfold ats;rw [if_pos kq],xP rfl,<- ih];simp [ats,psz]
         ·cases hs
     | cons p x'=>
       rw [ex] at hs;have hp:=bY hi.px ex;have hpp:=cl ex;simp only at hs
       split at hs
       ·rename_i kp
        cases hs
        simp only [ac,nS hp.1,List.nil_append] at ih;simp only [ac,cf hp.1,List.append_nil,dj hi.py];rw [show ats p = p.signs.map At.p by unfold ats;rw [if_pos kp],By,<- ih];simp [ats,psz]
       ·rename_i kp
        cases ey : nxt y with
        | nil=>simp [ey] at hs
        | cons q y'=>
          have hq:=bY hi.py ey;have hqp:=cl ey;simp only [ey] at hs
          split at hs
          ·rename_i kq
           cases hs
           simp only [ac,nS hq.1,List.nil_append] at ih;simp only [ac,cf hq.1,List.append_nil];rw [show ats q = q.signs.map At.p by unfold ats;rw [if_pos kq],xP (A4 hp.1 kp hpp _),<- ih];simp [ats,psz]
          ·rename_i kq
           cases hs
           have hn1 : min (psz p) (psz q)<=psz p:=by omega
           have hn2 : min (psz p) (psz q)<=psz q:=by omega
           simp only [ac] at ih ⊢;rw [d9 hp.1 hn1,d9 hq.1 hn2,eW hp.1 kp hn1,eW hq.1 kq hn2,List.append_assoc,List.append_assoc];have hb1:=hp.1.bounds.1;have hb2:=hq.1.bounds.1;generalize min (psz p) (psz q) = n at ih hn1 hn2 ⊢;by_cases k1 : p.kind = 3<;>by_cases k2 : q.kind = 3
           ·have e1 : ¬ p.kind = 1:=by omega
            have e2 : ¬ q.kind = 1:=by omega
            simp only [k1,k2,if_true,BC,<- ih];simp [ac]
           ·have e1 : ¬ p.kind = 1:=by omega
            have e2 : q.kind = 1:=by omega
            simp only [k1,k2,if_true,if_false,BB,<- ih];simp [ac,e2,eW hp.1 kp hn1,k1]
           ·have e1 : p.kind = 1:=by omega
            have e2 : ¬ q.kind = 1:=by omega
            simp only [k1,k2,if_true,if_false,BA,<- ih];simp [ac,e1,eW hq.1 kq hn2,k2]
           ·have e1 : p.kind = 1:=by omega
            have e2 : q.kind = 1:=by omega
            simp only [k1,k2,if_false,Bz,<- ih];simp [ac,e1,e2,eW hp.1 kp hn1,eW hq.1 kq hn2]
theorem Bx {x y : List Part} (hi : TInv x y) : (ac (xf x y).1,ac (xf x y).2) = tA (ac x) (ac y):=xp _ hi (Nat.le_refl _)
theorem go : ∀ (a b : List At),frA a = frA b->frA (tA a b).1 = toA b/\frA (tA a b).2 = toA a/\toA (tA a b).1 = toA (tA a b).2
 | .p c :: a,b,h=>by
   have ih:=go a b (by simpa [frA] using h);rw [xQ];simp [frA,toA];omega
 | [],.p c :: b,h=>by
   have ih:=go [] b (by simpa [frA] using h);rw [oi rfl];simp [frA,toA] at ih ⊢;omega
 | .k :: a,.p c :: b,h=>by
   have ih:=go (.k :: a) b (by simpa [frA] using h);rw [oi rfl];simp [frA,toA] at ih ⊢;omega
 | .d :: a,.p c :: b,h=>by
   have ih:=go (.d :: a) b (by simpa [frA] using h);rw [oi rfl];simp [frA,toA] at ih ⊢;omega
 | .k :: a,.k :: b,h=>by
   have ih:=go a b (by simpa [frA] using h);rw [tA];simp [frA,toA];omega
 | .k :: a,.d :: b,h=>by
   have ih:=go a b (by simpa [frA] using h);rw [tA];simp [frA,toA];omega
 | .d :: a,.k :: b,h=>by
   have ih:=go a b (by simpa [frA] using h);rw [tA];simp [frA,toA];omega
 | .d :: a,.d :: b,h=>by
   have ih:=go a b (by simpa [frA] using h);rw [tA];simp [toA];omega
 | [],[],h=>by simp [tA,frA,toA]
 | [],.k :: b,h=>by simp [frA] at h
 | [],.d :: b,h=>by simp [frA] at h
 | .k :: a,[],h=>by simp [frA] at h
 | .d :: a,[],h=>by simp [frA] at h
termination_by a b=>a.length + b.length
theorem Bw {x y : List Part} (hi : TInv x y) : (∀ p∈(xf x y).1,ag p)/\∀ p∈(xf x y).2,ag p:=by
 have key : ∀ (k : Nat) {x y : List Part},TInv x y->(∀ p∈(xfK k x y).1,ag p)/\∀ p∈(xfK k x y).2,ag p:=by
  intro k
  induction k with
  | zero=>intro x y hi;simp [xfK]
  | succ k ih=>
    intro x y hi;rw [xfK]
    cases hs : db x y with
    | none=>simp
    | some r=>
      have hn:=cd hi hs;have h2:=ih hn.inv;simp only [List.mem_append];exact ⟨λp hp=>hp.elim (hn.okx p) (h2.1 p),λp hp=>hp.elim (hn.oky p) (h2.2 p)⟩
 exact key _ hi
structure TrOk (a b : List Part) : Prop where
 oka : aK a
 okb : aK b
 from_ : az a = az b
 okx : aK (ab a b).1
 oky : aK (ab a b).2.1
 fx : az (ab a b).1 = bI b
 fy : az (ab a b).2.1 = bI a
 to : bI (ab a b).1 = bI (ab a b).2.1
 ax : ac (ab a b).1 = fk (tA (ac a) (ac b)).1
 ay : ac (ab a b).2.1 = fk (tA (ac a) (ac b)).2
theorem eV {a b : List Part} (h : (ab a b).2.2 = true) : TrOk a b:=by
 unfold ab at h
 split at h
 ·rename_i h1
  split at h
  ·rename_i h2
   have e : ab a b = (normal (xf a b).1,normal (xf a b).2,true):=by unfold ab;rw [if_pos h1,if_pos h2]
   have hi:=pY h1.1 h1.2.1 h1.2.2;have hat:=Bx hi;have hk:=Bw hi;have e1 : ac (xf a b).1 = (tA (ac a) (ac b)).1:=by rw [<- hat]
   have e2 : ac (xf a b).2 = (tA (ac a) (ac b)).2:=by rw [<- hat]
   have l:=go (ac a) (ac b) (by rw [<- ez,<- ez];exact hi.b);have n1:=d3 hk.1;have n2:=d3 hk.2;have f1:=e9 h2.1;have f2:=e9 h2.2;have t1:=jE h2.1;have t2:=jE h2.2;have t3:=jE h1.1;have t4:=jE h1.2.1;rw [ez,n1,nc,e1,l.1] at f1;rw [ez,n2,nc,e2,l.2.1] at f2;rw [fg h2.1.1.1,n1,m9,e1] at t1;rw [fg h2.2.1.1,n2,m9,e2] at t2;rw [fg h1.1.1.1] at t3;rw [fg h1.2.1.1.1] at t4;rw [e1] at n1;rw [e2] at n2;refine ⟨h1.1,h1.2.1,h1.2.2,?_,?_,?_,?_,?_,?_,?_⟩<;>rw [e]
   ·exact h2.1
   ·exact h2.2
   ·simp only;omega
   ·simp only;omega
   ·simp only;have:=l.2.2;omega
   ·exact n1
   ·exact n2
  ·simp at h
 ·simp at h
def cur (o : List Part) (i d : Nat) : List Part:=
 match o.drop i with
 | []=>[]
 | p :: l=>aw p d :: l
theorem qJ {o : List Part} {i d : Nat} (h : o.length<=i) : cur o i d = []:=by unfold cur;rw [List.drop_eq_nil_of_le h]
theorem nG {o : List Part} {i d : Nat} (h : i < o.length) : cur o i d = aw o[i] d :: o.drop (i + 1):=by unfold cur;rw [List.drop_eq_getElem_cons h]
theorem y8 {o : List Part} {i : Nat} : cur o i 0 = o.drop i:=by
 unfold cur
 cases o.drop i with
 | nil=>rfl
 | cons p l=>simp [s8]
theorem za {o : List Part} (ho : ∀ p∈o,ag p) {i : Nat} (h : i < o.length) : nxt (cur o i (psz o[i])) = nxt (cur o (i + 1) 0):=by
 rw [nG h,y8];have:=cM (ho _ (List.getElem_mem h)) (Nat.le_refl _);simp [nxt,this]
theorem y9 {o : List Part} (ho : ∀ p∈o,ag p) {i d : Nat} (h : i < o.length) (hd : d < psz o[i]) : nxt (cur o i d) = cur o i d:=by
 rw [nG h];have:=cM (ho _ (List.getElem_mem h)) (Nat.le_of_lt hd);have h2 : ¬ psz (aw o[i] d) = 0:=by omega
 simp [nxt,h2]
theorem zb {o : List Part} {i d n : Nat} (h : i < o.length) {p : Part} {l : List Part} (hc : cur o i d = p :: l) : aw p n :: l = cur o i (d + n):=by
 rw [nG h] at hc ⊢
 cases hc
 rw [rG]
theorem kF {k j : Nat} {o : AObj} {h : AH} (hne : j≠k) : AH.get ((k,o) :: h) j = AH.get h j:=if_neg hne
theorem eN (p : Part) (h : ag p) : aB Try.prog 52 [.agg p.row] (.one (.c (vi (psz p)) 1)):=by
 refine pci aj Try.func52 (λw0 base=>?_);have hp:=eo h;have e : Go.IntKind.i64.wrap (p.n + (p.signs.length : Int)) = p.n + p.signs.length:=Go.IntWalk.i64_in _ (by omega);rw [hp.1];simp [Part.row,e]
def hdV : List Part->AV
 | []=>.agg [.v (.int .i64 0),.v (.int .i64 0),.nil]
 | p :: _=>.agg [.v (.int .i64 p.kind),.v (.int .i64 p.n),.ro (p.signs.map aN)]
theorem vV {w0 : World} {bF bG : Nat->Prop} {bl : Bool} {st : ASt} {dst : Option Nat} {K : ASt->Prop} {kx b kb : Nat} {l : List Part} (hk : kx + 16 < kb) (hs : ∀ p∈l,ag p)
 (g : st.h.get kx = .vars b 94 [.ro (l.map Part.row)])
 (hK : ∀ h',AH.get h' kx = .vars b 94 [.ro ((nxt l).map Part.row)]->(∀ q,q≠kx->q < kb->AH.get h' q = st.h.get q)->aF ⟨st.n,st.kb,st.t,h'⟩ dst (hdV (nxt l)) K) :
 aa ⟨Try.prog,tt,w0,⟨bF,bG,bl,λ_=>True⟩⟩ 50 [.p kx b 0] st dst K:=by
 refine inl aj Try.func50 kb (λw1 F=>?_);simp;intro b2;have hkk : ¬ kx = kb + 32:=by omega
 have hkk2 : ¬ kb + 32 = kx:=by omega
 refine kX eok (λm : List Part=>nxt m = nxt l/\∀ p∈m,p∈l) (λm=>⟨40,kb,[(0,.p kx b 0),(2,.p (kb + 32) b2 0)],(kx,.vars b 94 [.ro (m.map Part.row)]) :: (kb + 32,.vars b2 83 [.v (.int .i64 0),.v (.int .i64 0),.nil]) :: st.h⟩) (λm=>m.length) l ⟨rfl,λ_ h=>h⟩ (by simp [hkk,g]) (λm hm=>?_)
 ·cases m with
  | nil=>
    have hn : nxt l = []:=by rw [<- hm.1];rfl
    rw [hn] at hK;simp [hkk2];refine hK _ (by simp [hkk]) (λq q1 q2=>?_)
    repeat (first | exact rfl | refine (kF (by omega)).trans ?_)
  | cons p m=>
    have hp:=hs p (hm.2 p (List.mem_cons_self ..));simp [Part.row];refine aa.pure (eN p hp) (by simp [Part.row]) ?_;by_cases hz : psz p = 0
    ·simp [hz,hkk,hkk2]
     refine ⟨m,⟨by rw [<- hm.1];simp [nxt,hz],λq hq=>hm.2 q (List.mem_cons_of_mem _ hq)⟩,by omega,?_⟩;simp [cut];exact List.take_of_length_le (by simp)
    ·have hn : nxt l = p :: m:=by rw [<- hm.1];simp [nxt,hz]
     rw [hn] at hK;have hm0 : ¬ (m.length : Int) + 1 = 0:=by omega
     simp [hz,hkk2,hm0];refine hK _ ?_ (λq q1 q2=>?_)
     ·simp [hkk,Part.row]
     repeat (first | exact rfl | refine (kF (by omega)).trans ?_)
theorem y4 (s : List Int) {n : Nat} (_h : n<=s.length) : cut (s.map aN) 0 n = (s.take n).map aN:=by
 unfold cut
 split
 ·rename_i h2
  rw [List.take_of_length_le (by simp at h2;omega)]
 ·simp [List.map_take]
theorem y7 (s : List Int) {n : Nat} : cut (s.map aN) n (s.length - n) = (s.drop n).map aN:=by
 unfold cut
 split
 ·rename_i h2
  rw [h2.1];simp
 ·rw [List.take_of_length_le (by simp),List.map_drop]
theorem oS {w0 : World} {bF bG : Nat->Prop} {bl : Bool} {st : ASt} {dst : Option Nat} {K : ASt->Prop} {kx b n : Nat} {p : Part} {l : List Part} (hk : kx < 15000) (hp : ag p) (hn : n<=psz p) (hl : l.length<=2 ^ 20)
 (g : st.h.get kx = .vars b 94 [.ro ((p :: l).map Part.row)])
 (hK : ∀ h',AH.get h' kx = .vars b 94 [.ro ((aw p n :: l).map Part.row)]->(∀ q,q≠kx->q < 15000->AH.get h' q = st.h.get q)->aF ⟨st.n,st.kb,st.t,h'⟩ dst (hdV [cN p n]) K) :
 aa ⟨Try.prog,tt,w0,⟨bF,bG,bl,λ_=>True⟩⟩ 53 [.p kx b 0,.v (.int .i64 n)] st dst K:=by
 refine oP aj Try.func53 (by kernel_rfl) rfl rfl rfl (Nat.le_of_ble_eq_true rfl) 20000 (λw1 F=>?_);have hps:=eo hp;have hb:=hp.bounds;have k0 : ¬ kx = 20064:=by omega
 have k1 : ¬ kx = 20080:=by omega
 have k2 : ¬ kx = 20096:=by omega
 have k3 : ¬ kx = 20112:=by omega
 have k4 : ¬ kx = 20608:=by omega
 have j0 : ¬ 20064 = kx:=by omega
 have j1 : ¬ 20080 = kx:=by omega
 have j2 : ¬ 20096 = kx:=by omega
 have j3 : ¬ 20112 = kx:=by omega
 have j4 : ¬ 20608 = kx:=by omega
 simp [g,Part.row,k0];intro b4 b5
 refine aR.cut (λx : Nat × Nat=>⟨48,20000,[(0,.p kx b 0),(1,.v (.int .i64 n)),(4,.p 20064 b4 0),(5,.p 20080 b5 0),(6,.p 20096 x.1 0),(7,.p 20112 x.2 0)],
  (20096,.vars x.1 83 [.v (.int .i64 p.kind),.v (.int .i64 p.n),.ro (p.signs.map aN)]) :: (20112,.vars x.2 83 [.v (.int .i64 p.kind),.v (.int .i64 p.n),.ro (p.signs.map aN)]) :: (20080,.vars b5 83 [.v (.int .i64 p.kind),.v (.int .i64 p.n),.ro (p.signs.map aN)]) :: (20064,.vars b4 83 [.v (.int .i64 0),.v (.int .i64 0),.nil]) :: st.h⟩) ?_ ?_
 ·refine drw eok mix [0,1] [2,3,4,5] (.c 2 2 0 3 (.c 2 3 0 3 (.c 2 4 2 1 (.c 2 5 1 0 (.l 2 0) .s) .s) .s) (.c 2 3 0 3 (.c 2 2 0 3 (.c 2 4 2 1 (.c 2 5 1 0 (.l 2 0) .s) .s) .s) .s)) ?_
  simp;rw [Trc];refine ⟨?_,?_⟩<;>simp
 rintro ⟨b6,b7⟩
 simp;by_cases hk2 : p.kind = 2
 ·simp [hk2]
  refine drw eok mix [0,1,2,3,4,5,6,7,8,10] [9,11] (.c 10 9 962 61 (.c 10 11 61 0 (.l 10 0) .s) .s) ?_;have hns : n<=p.signs.length:=by have:=hb.2.2.2.2.1 hk2;omega
  simp [hns];refine drw eok mix [0,1,3,4,5,6,7,9,10] [2,8,11] (.c 9 2 128 383 (.c 9 8 4 379 (.c 9 11 377 2 (.l 9 2) .s) .s) .s) ?_
  have ct : cut ([vi p.kind,vi p.n,CD.s (p.signs.map aN)] :: l.map Part.row) 1 l.length = l.map Part.row:=by
   simp [cut];exact List.take_of_length_le (by simp)
  have hv : hdV [cN p n] = .agg [.v (.int .i64 2),.v (.int .i64 p.n),.ro ((p.signs.map aN).take n)]:=by simp [hdV,cN,hk2,List.map_take]
  rw [hv] at hK;simp [g,Part.row,k0,k1,k2,k3,k4,j0,j3,ct,y4 p.signs hns,y7 p.signs];intro b8;refine ⟨by omega,λH=>⟨_,sQ (kx:=kx) (b:=b) (T:=94) (cells:=[.sl 20608 H 3 0 (1 + l.length)]) (j:=0) (k:=20608) (sz:=3) (off:=0) (len:=1 + l.length) (H:=H) (rows:=(aw p n).row :: l.map Part.row) (own:=false) ?_ rfl ?_ (by simp;omega),?_⟩⟩
  ·simp [k0]
  ·simp [j4,Part.row,aw,hk2]
  ·refine hK _ ?_ (λq q1 q2=>?_)
   ·simp [cut,Nat.add_comm]
   ·repeat (first | exact rfl | refine (kF (by omega)).trans ?_)
 ·simp [hk2]
  refine drw eok mix [0,1,2,3,4,5,7] [6,8] (.c 7 6 66 61 (.c 7 8 61 0 (.l 7 0) .s) .s) ?_;have e : Go.IntKind.i64.wrap (p.n - (n : Int)) = p.n - n:=Go.IntWalk.i64_in _ (by omega);simp [e];refine drw eok mix [0,1,3,4,5,6,7,9,10] [2,8,11] (.c 9 2 128 383 (.c 9 8 4 379 (.c 9 11 377 2 (.l 9 2) .s) .s) .s) ?_
  have ct : cut ([vi p.kind,vi p.n,CD.s (p.signs.map aN)] :: l.map Part.row) 1 l.length = l.map Part.row:=by
   simp [cut];exact List.take_of_length_le (by simp)
  have hv : hdV [cN p n] = .agg [.v (.int .i64 p.kind),.v (.int .i64 n),.ro (p.signs.map aN)]:=by simp [hdV,cN,hk2]
  rw [hv] at hK;simp [g,Part.row,k0,k1,k2,k3,k4,j0,j3,ct];intro b8;refine ⟨by omega,λH=>⟨_,sQ (kx:=kx) (b:=b) (T:=94) (cells:=[.sl 20608 H 3 0 (1 + l.length)]) (j:=0) (k:=20608) (sz:=3) (off:=0) (len:=1 + l.length) (H:=H) (rows:=(aw p n).row :: l.map Part.row) (own:=false) ?_ rfl ?_ (by simp;omega),?_⟩⟩
  ·simp [k0]
  ·simp [j4,Part.row,aw,hk2]
  ·refine hK _ ?_ (λq q1 q2=>?_)
   ·simp [cut,Nat.add_comm]
   ·repeat (first | exact rfl | refine (kF (by omega)).trans ?_)
theorem sT {w0 : World} {bF bG : Nat->Prop} {bl : Bool} {st : ASt} {dst : Option Nat} {K : ASt->Prop} {kx b : Nat} {p : Part} {l : List Part} (hk : kx < 14000) (hp : ag p) (hl : l.length<=2 ^ 20)
 (g : st.h.get kx = .vars b 94 [.ro ((p :: l).map Part.row)])
 (hK : ∀ h',AH.get h' kx = .vars b 94 [.ro ((aw p (psz p) :: l).map Part.row)]->(∀ q,q≠kx->q < 14000->AH.get h' q = st.h.get q)->aF ⟨st.n,st.kb,st.t,h'⟩ dst (hdV [p]) K) :
 aa ⟨Try.prog,tt,w0,⟨bF,bG,bl,λ_=>True⟩⟩ 51 [.p kx b 0] st dst K:=by
 refine inl aj Try.func51 14000 (λw1 F=>?_);have k0 : ¬ kx = 14032:=by omega
 have j0 : ¬ 14032 = kx:=by omega
 simp [g,Part.row,k0];intro b2;refine aa.pure (eN p hp) (by simp [Part.row]) ?_;simp;refine oS (n:=psz p) (by omega) hp (Nat.le_refl _) hl (by simp [k0,g]) (λh' g1 g2=>?_);have e:=g2 14032 j0 (by omega);simp at e;simp [hdV,e];rw [cf hp];refine hK _ (by simp [g1,k0]) (λq q1 q2=>?_);have hq : ¬ q = 14032:=by omega
 simp [hq,g2 q q1 (by omega)]
structure RS (kx ky bx by_ : Nat) (h0 h : AH) (X Y : List Part) : Prop where
 ne : kx≠ky
 lx : kx < 14000 - 16
 ly : ky < 14000 - 16
 gx : AH.get h kx = .vars bx 94 [.ro (X.map Part.row)]
 gy : AH.get h ky = .vars by_ 94 [.ro (Y.map Part.row)]
 o : ∀ q,q≠kx->q≠ky->q < 14000->AH.get h q = AH.get h0 q
theorem RS.swap {kx ky bx by_ : Nat} {h0 h : AH} {X Y : List Part} (R : RS kx ky bx by_ h0 h X Y) : RS ky kx by_ bx h0 h Y X:=⟨R.ne.symm,R.ly,R.lx,R.gy,R.gx,λq h1 h2=>R.o q h2 h1⟩
section
variable {w0 : World} {bF bG : Nat->Prop} {bl : Bool} {st : ASt} {dst : Option Nat} {K : ASt->Prop} {kx ky bx by_ : Nat} {h0 : AH} {X Y : List Part}
theorem RS.next (R : RS kx ky bx by_ h0 st.h X Y) (hs : ∀ p∈X,ag p) (hK : ∀ h',RS kx ky bx by_ h0 h' (nxt X) Y->aF ⟨st.n,st.kb,st.t,h'⟩ dst (hdV (nxt X)) K) :
 aa ⟨Try.prog,tt,w0,⟨bF,bG,bl,λ_=>True⟩⟩ 50 [.p kx bx 0] st dst K:=by
 have:=R.lx;have:=R.ly;refine vV (l:=X) (kb:=20000) (by omega) hs R.gx (λh1 g1 o1=>hK h1 ⟨R.ne,R.lx,R.ly,g1,by rw [o1 ky R.ne.symm (by omega)];exact R.gy,λq q1 q2 q3=>by rw [o1 q q1 (by omega)];exact R.o q q1 q2 q3⟩)
theorem RS.take {p : Part} {l : List Part} {n : Nat} (R : RS kx ky bx by_ h0 st.h (p :: l) Y) (hp : ag p) (hn : n<=psz p) (hl : l.length<=2 ^ 20) (hK : ∀ h',RS kx ky bx by_ h0 h' (aw p n :: l) Y->aF ⟨st.n,st.kb,st.t,h'⟩ dst (hdV [cN p n]) K) :
 aa ⟨Try.prog,tt,w0,⟨bF,bG,bl,λ_=>True⟩⟩ 53 [.p kx bx 0,.v (.int .i64 n)] st dst K:=by
 have:=R.lx;have:=R.ly;refine oS (by omega) hp hn hl R.gx (λh1 g1 o1=>hK h1 ⟨R.ne,R.lx,R.ly,g1,by rw [o1 ky R.ne.symm (by omega)];exact R.gy,λq q1 q2 q3=>by rw [o1 q q1 (by omega)];exact R.o q q1 q2 q3⟩)
theorem RS.whole {p : Part} {l : List Part} (R : RS kx ky bx by_ h0 st.h (p :: l) Y) (hp : ag p) (hl : l.length<=2 ^ 20) (hK : ∀ h',RS kx ky bx by_ h0 h' (aw p (psz p) :: l) Y->aF ⟨st.n,st.kb,st.t,h'⟩ dst (hdV [p]) K) :
 aa ⟨Try.prog,tt,w0,⟨bF,bG,bl,λ_=>True⟩⟩ 51 [.p kx bx 0] st dst K:=by
 have:=R.lx;have:=R.ly;refine sT (by omega) hp hl R.gx (λh1 g1 o1=>hK h1 ⟨R.ne,R.lx,R.ly,g1,by rw [o1 ky R.ne.symm (by omega)];exact R.gy,λq q1 q2 q3=>by rw [o1 q q1 (by omega)];exact R.o q q1 q2 q3⟩)
end
theorem ji : hdV [] = .agg [.v (.int .i64 0),.v (.int .i64 0),.nil]:=rfl
theorem aO {p : Part} {l : List Part} : hdV (p :: l) = .agg [.v (.int .i64 p.kind),.v (.int .i64 p.n),.ro (p.signs.map aN)]:=rfl
open Go.AM
set_option maxRecDepth 20000
set_option maxHeartbeats 1600000
theorem iT {a b : List Part} (h : ¬ (aK a/\aK b/\bI a = az b)) : aM a b = ([],false):=by unfold aM;rw [if_neg h]
theorem qB {a b : List Part} (h1 : aK a) (h2 : aK b) (h3 : bI a = az b) : (aK (normal (cmp a b))->aM a b = (normal (cmp a b),true))/\(¬ aK (normal (cmp a b))->aM a b = ([],false)):=by
 unfold aM;rw [if_pos ⟨h1,h2,h3⟩];exact ⟨λh=>by rw [if_pos h],λh=>by rw [if_neg h]⟩
theorem oy (a b : List Part) (ha : nL aC a<=2 ^ 40) (hb : nL aC b<=2 ^ 40) : aB Try.prog 31 [.c (.s (a.map Part.row)),.c (.s (b.map Part.row))] (.tup [.c (.s ((aM a b).1.map Part.row)) 3,.c (.v (.bool (aM a b).2)) 1]):=by
 refine pci aj Try.func31 (λw0 base=>?_);simp;refine aa.pure (bq a ha) (by simp) ?_;by_cases c1 : aK a
 rotate_left
 ·have e:=iT (a:=a) (b:=b) (λh=>c1 h.1)
  have e2 : dc (aK a) = false:=by rw [bg];exact c1
  simp [e2,e]
 simp [c1];refine aa.pure (bq b hb) (by simp) ?_;by_cases c2 : aK b
 rotate_left
 ·have e:=iT (a:=a) (b:=b) (λh=>c2 h.2.1)
  have e2 : dc (aK b) = false:=by rw [bg];exact c2
  simp [e2,e]
 simp [c2];refine aa.pure (gY a ha) (by simp) ?_;simp;refine aa.pure (cu b hb) (by simp) ?_;by_cases c3 : bI a = az b
 rotate_left
 ·have e:=iT (a:=a) (b:=b) (λh=>c3 h.2.2)
  simp [c3,e]
 have hf:=qB c1 c2 c3;simp [c3];intro bx by_;have t1:=pV c1;have t2:=pV c2
 refine aI eok (λx : List Part × List Part × List Part × Hd=>CInv x.1 x.2.1/\x.2.2.1 ++ cmp x.1 x.2.1 = cmp a b/\(∀ p∈x.2.2.1,ag p)/\x.2.2.1.length + (tsz x.1 + tsz x.2.1)<=800/\x.1.length<=1000/\x.2.1.length<=1000)
  (λx=>⟨98,0,[(6,.p 464 bx 0),(7,.p 512 by_ 0),(8,.sl 5000 x.2.2.2 3 0 x.2.2.1.length)],
  [(464,.vars bx 94 [.ro (x.1.map Part.row)]),(512,.vars by_ 94 [.ro (x.2.1.map Part.row)]),(5000,.rows x.2.2.2 3 (x.2.2.1.map Part.row) false)]⟩) (λx=>tsz x.1 + tsz x.2.1) (a,b,[],none)
  ⟨vr c1 c2 c3,by simp,by simp,by simp;omega,by have:=c1.1.2;simp only;omega,by have:=c2.1.2;simp only;omega⟩ (by simp) (λx hx=>Ent.refl ?_)
 obtain ⟨X,Y,L,H⟩:=x;obtain ⟨hi,hcmp,hL,hlen,hlx,hly⟩:=hx;simp only at hi hcmp hL hlen hlx hly ⊢;have xl:=mB X;have yl:=mB Y;obtain ⟨h0,hh0⟩ : ∃ h0 : AH,[(464,.vars bx 94 [.ro (X.map Part.row)]),(512,.vars by_ 94 [.ro (Y.map Part.row)]),(5000,.rows H 3 (L.map Part.row) false)] = h0:=⟨_,rfl⟩;have R : RS 464 512 bx by_ h0 h0 X Y:=⟨by decide,by decide,by decide,by rw [<- hh0];simp,by rw [<- hh0];simp,λ_ _ _ _=>rfl⟩;have g5 : AH.get h0 5000 = .rows H 3 (L.map Part.row) false:=by rw [<- hh0];simp
 rw [hh0]
 clear hh0
 simp;refine R.next hi.px (λh1 R=>?_);have okx : ∀ p∈nxt X,ag p:=λp hp=>hi.px p (ge hp)
 have oky : ∀ p∈nxt Y,ag p:=λp hp=>hi.py p (ge hp)
 have hxt:=mA X;have hyf:=eQ Y;have hbal:=hi.b
 cases ex : nxt X with
 | nil=>
   rw [ex] at R;simp [ji];refine R.swap.next hi.py (λh2 R=>?_);have R:=R.swap
   cases ey : nxt Y with
   | nil=>
     have hc : cmp X Y = []:=sB (by simp [d6,ex,ey]);simp [ji];rw [hc,List.append_nil] at hcmp;have e5:=R.o 5000 (by decide) (by decide) (by decide);refine aa.pure (kl L hL (by omega)) (by simp [e5,g5]) ?_;simp;intro H2;rw [hcmp] at hL hlen ⊢;refine aa.pure (bq (normal (cmp a b)) (by have:=jh hL;omega)) (by simp) ?_;by_cases c4 : aK (normal (cmp a b))
     ·have e:=hf.1 c4
      simp [c4,e]
     ·have e:=hf.2 c4
      have e2 : dc (aK (normal (cmp a b))) = false:=by rw [bg];exact c4
      simp [e2,e]
   | cons q y'=>
     rw [ey] at R;have hq:=(bY hi.py ey).1;have hqb:=hq.bounds;have q0 : ¬ q.kind = 0:=by omega
     simp [aO,q0];refine R.next (by simp) (λh3 R=>?_);simp only [nxt] at R;simp [nxt,ji];refine R.swap.next (by rw [<- ey];exact oky) (λh4 R=>?_);have R:=R.swap;rw [<- ey,cr,ey] at R;rw [<- ey,cr,ey];by_cases q2 : q.kind = 2
     ·simp [aO,q2]
      refine R.swap.whole hq (by simp [ey] at yl;omega) (λh5 R=>?_);have R:=R.swap;have e5:=R.o 5000 (by decide) (by decide) (by decide);have hc : d6 X Y = some ([cN q (psz q)],[],aw q (psz q) :: y'):=by simp [d6,ex,ey,q2]
      rw [cf hq] at hc;have hn:=cY hi hc;have hcm:=iV hi hc;simp [aO,e5,g5];intro b1;refine ⟨by omega,λH2=>Ent.refl ⟨[],aw q (psz q) :: y',L ++ [q],⟨hn.inv,by rw [<- hcmp,hcm,List.append_assoc],?_,?_,?_,?_⟩,hn.dec,H2,?_⟩⟩
      ·intro r hr
       rcases List.mem_append.1 hr with hr | hr
       ·exact hL r hr
       ·exact hn.ok r hr
      ·have:=hn.dec
       simp at this ⊢;omega
      ·simp
      ·simp [ey] at yl ⊢;omega
      ·simp [R.gx,R.gy,Part.row,q2]
     ·exfalso
      have:=cl ey;rw [ex] at hxt;rw [ey] at hyf;simp [tos,frs,q2] at hxt hyf;omega
 | cons p x'=>
   rw [ex] at R;have hp:=(bY hi.px ex).1;have hpb:=hp.bounds;have p0 : ¬ p.kind = 0:=by omega
   simp [aO,p0];refine R.next (by rw [<- ex];exact okx) (λh3 R=>?_);rw [<- ex,cr,ex] at R;rw [<- ex,cr,ex];by_cases p3 : p.kind = 3
   ·simp [aO,p3]
    refine R.whole hp (by simp [ex] at xl;omega) (λh5 R=>?_);have e5:=R.o 5000 (by decide) (by decide) (by decide);have hc : d6 X Y = some ([cN p (psz p)],aw p (psz p) :: x',Y):=by simp [d6,ex,p3]
    rw [cf hp] at hc;have hn:=cY hi hc;have hcm:=iV hi hc;simp [aO,e5,g5];intro b1;refine ⟨by omega,λH2=>Ent.refl ⟨aw p (psz p) :: x',Y,L ++ [p],⟨hn.inv,by rw [<- hcmp,hcm,List.append_assoc],?_,?_,?_,?_⟩,hn.dec,H2,?_⟩⟩
    ·intro r hr
     rcases List.mem_append.1 hr with hr | hr
     ·exact hL r hr
     ·exact hn.ok r hr
    ·have:=hn.dec
     simp at this ⊢;omega
    ·simp [ex] at xl ⊢;omega
    ·exact hly
    ·simp [R.gx,R.gy,Part.row,p3]
   ·simp [aO,p3]
    refine R.swap.next hi.py (λh4 R=>?_);have R:=R.swap
    cases ey : nxt Y with
    | nil=>
      exfalso
      have:=cl ex;rw [ex] at hxt;rw [ey] at hyf;simp [tos,frs,p3] at hxt hyf;omega
    | cons q y'=>
      rw [ey] at R;have hq:=(bY hi.py ey).1;have hqb:=hq.bounds;by_cases q2 : q.kind = 2
      ·simp [aO,q2]
       refine R.swap.whole hq (by simp [ey] at yl;omega) (λh5 R=>?_);have R:=R.swap;have e5:=R.o 5000 (by decide) (by decide) (by decide);have hc : d6 X Y = some ([cN q (psz q)],p :: x',aw q (psz q) :: y'):=by simp [d6,ex,ey,p3,q2]
       rw [cf hq] at hc;have hn:=cY hi hc;have hcm:=iV hi hc;simp [aO,e5,g5];intro b1;refine ⟨by omega,λH2=>Ent.refl ⟨p :: x',aw q (psz q) :: y',L ++ [q],⟨hn.inv,by rw [<- hcmp,hcm,List.append_assoc],?_,?_,?_,?_⟩,hn.dec,H2,?_⟩⟩
       ·intro r hr
        rcases List.mem_append.1 hr with hr | hr
        ·exact hL r hr
        ·exact hn.ok r hr
       ·have:=hn.dec
        simp at this ⊢;omega
       ·simp [ex] at xl ⊢;omega
       ·simp [ey] at yl ⊢;omega
       ·simp [R.gx,R.gy,Part.row,q2]
      ·simp [aO,q2]
       refine R.next (by rw [<- ex];exact okx) (λh5 R=>?_);rw [<- ex,cr,ex] at R;rw [<- ex,cr,ex];simp [aO];refine aa.pure (eN p hp) (by simp [Part.row]) ?_;simp;refine R.swap.next (by rw [<- ey];exact oky) (λh6 R=>?_);have R:=R.swap;rw [<- ey,cr,ey] at R;rw [<- ey,cr,ey];simp [aO];refine aa.pure (eN q hq) (by simp [Part.row]) ?_;simp;rw [q5];obtain ⟨n,hn⟩ : ∃ n,min (psz p) (psz q) = n:=⟨_,rfl⟩;rw [hn];simp;refine R.take hp (n:=n) (by omega) (by simp [ex] at xl;omega) (λh7 R=>?_);rw [aO];obtain ⟨pc,hpc⟩ : ∃ pc,cN p n = pc:=⟨_,rfl⟩;have pk : pc.kind = p.kind:=by rw [<- hpc];simp
       rw [hpc];simp;refine R.swap.take hq (n:=n) (by omega) (by simp [ey] at yl;omega) (λh8 R=>?_);have R:=R.swap;rw [aO];obtain ⟨qc,hqc⟩ : ∃ qc,cN q n = qc:=⟨_,rfl⟩;have qk : qc.kind = q.kind:=by rw [<- hqc];simp
       rw [hqc];have e5:=R.o 5000 (by decide) (by decide) (by decide);have hc : d6 X Y = some (if q.kind = 1 then [pc] else if p.kind = 1 then [qc] else [],aw p n :: x',aw q n :: y'):=by simp [d6,ex,ey,p3,q2,hn,hpc,hqc]
       have hnx:=cY hi hc;have hcm:=iV hi hc;have hok:=hnx.ok;have hdec:=hnx.dec;have hlx2 : (aw p n :: x').length<=1000:=by simp [ex] at xl ⊢;omega
       have hly2 : (aw q n :: y').length<=1000:=by simp [ey] at yl ⊢;omega
       simp only at hcm hok hdec;simp;intro b1 b2;by_cases q1 : q.kind = 1
       ·simp only [q1,if_true] at hcm hok
        simp [qk,q1,pk,e5,g5];intro b3;refine ⟨by omega,λH2=>Ent.refl ⟨aw p n :: x',aw q n :: y',L ++ [pc],⟨hnx.inv,by rw [<- hcmp,hcm,List.append_assoc],?_,?_,hlx2,hly2⟩,hdec,H2,?_⟩⟩
        ·intro r hr
         rcases List.mem_append.1 hr with hr | hr
         ·exact hL r hr
         ·exact hok r hr
        ·simp;omega
        ·simp [R.gx,R.gy,Part.row,pk]
       ·by_cases p1 : p.kind = 1
        ·simp only [q1,p1,if_true,if_false] at hcm hok
         simp [qk,q1,pk,p1,e5,g5];intro b3;refine ⟨by omega,λH2=>Ent.refl ⟨aw p n :: x',aw q n :: y',L ++ [qc],⟨hnx.inv,by rw [<- hcmp,hcm,List.append_assoc],?_,?_,hlx2,hly2⟩,hdec,H2,?_⟩⟩
         ·intro r hr
          rcases List.mem_append.1 hr with hr | hr
          ·exact hL r hr
          ·exact hok r hr
         ·simp;omega
         ·simp [R.gx,R.gy,Part.row,qk]
        ·simp only [q1,p1,if_false,List.nil_append] at hcm hok
         simp [qk,q1,pk,p1];refine Ent.refl ⟨aw p n :: x',aw q n :: y',L,⟨hnx.inv,by rw [<- hcmp,hcm],hL,by omega,hlx2,hly2⟩,hdec,H,?_⟩;simp [R.gx,R.gy,e5,g5]
end Go.Proofs.Ytoldjebobgocpaa
