import Derived.Test.YtoldjebobgocpaaGreatPH
import Derived.Test.YtoldjebobgocpaaGreatPF
import Derived.Test.YtoldjebobgocpaaGreatPG
import Derived.Test.YtoldjebobgocpaaGreatNA
namespace Go.Proofs.YtoldjebobgocpaaGreat
open Go.AM
set_option maxRecDepth 20000
def Pn (o : List Part) : Nat:=bn (ah o)
theorem f0 : ∀ (a b : List At),frA a = frA b->bn (tA a b).1 = bn a/\bn (tA a b).2 = bn b
 | .p c :: a, b, h => by
   have:=f0 a b (by simpa [frA] using h);rw [Ca];simp [bn,this]
 | [], .p c :: b, h => by
   have:=f0 [] b (by simpa [frA] using h);rw [u6 rfl];simp only [bn,this.2];exact ⟨this.1,trivial⟩
 | .k :: a, .p c :: b, h => by
   have:=f0 (.k :: a) b (by simpa [frA] using h);rw [u6 rfl];simp only [bn,this.2];exact ⟨this.1,trivial⟩
 | .d :: a, .p c :: b, h => by
   have:=f0 (.d :: a) b (by simpa [frA] using h);rw [u6 rfl];simp only [bn,this.2];exact ⟨this.1,trivial⟩
 | .k :: a, .k :: b, h => by
   have:=f0 a b (by simpa [frA] using h);rw [tA];simpa [bn] using this
 | .d :: a, .k :: b, h => by
   have:=f0 a b (by simpa [frA] using h);rw [tA];simpa [bn] using this
 | .k :: a, .d :: b, h => by
   have:=f0 a b (by simpa [frA] using h);rw [tA];simpa [bn] using this
 | .d :: a, .d :: b, h => by
   have:=f0 a b (by simpa [frA] using h);rw [tA];simpa [bn] using this
 | [],[],_=>by simp [tA,bn]
 | [],.k :: b,h=>by simp [frA] at h
 | [],.d :: b,h=>by simp [frA] at h
 | .k :: a,[],h=>by simp [frA] at h
 | .d :: a,[],h=>by simp [frA] at h
termination_by a b=>a.length + b.length
theorem ld (l : List At) : bn (fZ l) = bn l:=by
 have:=(oQ l [] 0).1;unfold fZ;simpa using this
theorem rR : ∀ a : List At,toA a<=frA a + bn a
 | []=>by simp [toA]
 | .k :: a=>by have:=rR a;simp only [toA,frA,bn];omega
 | .p c :: a=>by have:=rR a;simp only [toA,frA,bn];omega
 | .d :: a=>by have:=rR a;simp only [toA,frA,bn];omega
theorem Cy {o : List Part} (h : aH o) : cA o<=aD o + Pn o:=by
 have h1:=im h;have h2:=il h;have:=rR (ah o);unfold Pn;omega
theorem rO {a b : List Part} (h : (ac a b).2.2 = true) : Pn (ac a b).1 = Pn a/\Pn (ac a b).2.1 = Pn b:=by
 have o:=hI h;have f1:=im o.oka;have f2:=im o.okb;have ff:=o.from_;have:=f0 (ah a) (ah b) (by omega);unfold Pn;rw [o.ax,o.ay,ld,ld];exact this
def ln : List Int->Nat
 | []=>0
 | x :: t=>(if 0<=x then 1 else 0) + ln t
theorem rv : ∀ (n : Nat) (t : List Int),ln (t.drop n)<=ln t
 | 0,t=>by simp
 | n + 1,[]=>by simp
 | n + 1,x :: t=>by have:=rv n t;simp only [List.drop_succ_cons,ln];omega
theorem kr : ∀ (a : List At) (t : List Int),ln (apA a t)<=bn a + ln t
 | [],t=>by simp [apA,ln]
 | .k :: a,[]=>by have:=kr a [];simpa [apA,bn] using this
 | .k :: a,x :: t=>by have:=kr a t;simp only [apA,bn,ln];omega
 | .p c :: a,t=>by have:=kr a t;simp only [apA,bn,ln];split<;>omega
 | .d :: a,t=>by have:=kr a (t.drop 1);have:=rv 1 t;simp only [apA,bn];omega
theorem gF : ∀ (a : List At) (n : Nat),(∀ c,At.p c∈a->0<=c)->ln (apA a (List.replicate n (-1))) = bn a
 | [],n,_=>by simp [apA,ln,bn]
 | .k :: a, 0, h => by
   have:=gF a 0 (λc hc=>h c (List.mem_cons_of_mem _ hc))
   simpa [apA,bn] using this
 | .k :: a, n + 1, h => by
   have:=gF a n (λc hc=>h c (List.mem_cons_of_mem _ hc))
   simpa [List.replicate_succ,apA,bn,ln] using this
 | .p c :: a, n, h => by
   have:=gF a n (λc hc=>h c (List.mem_cons_of_mem _ hc));have h0:=h c (List.mem_cons_self ..);simp only [apA,bn,ln,this,if_pos h0];omega
 | .d :: a, n, h => by
   have:=gF a (n - 1) (λc hc=>h c (List.mem_cons_of_mem _ hc))
   simpa [apA,bn] using this
theorem uG : ∀ n : Nat,ln (List.replicate n (-1)) = 0
 | 0=>rfl
 | n + 1=>by simp [List.replicate_succ,ln,uG n]
theorem Dn {p : Part} (h : ai p) {c : Int} (hc : At.p c∈ats p) : 0<=c:=by
 unfold ats at hc
 split at hc
 ·obtain ⟨x,hx,e⟩:=List.mem_map.1 hc
  cases e
  rcases h with ⟨h1,-,h2⟩ | ⟨-,-,-,h2⟩
  ·rw [h2] at hx;cases hx
  ·exact (h2 _ hx).1.1
 ·split at hc
  ·have:=(List.mem_replicate.1 hc).2;cases this
  ·have:=(List.mem_replicate.1 hc).2;cases this
theorem rA : ∀ {o : List Part},(∀ p∈o,ai p)->∀ c,At.p c∈ah o->0<=c
 | [],_,c,hc=>by cases hc
 | p :: o, h, c, hc => by
   unfold ah at hc;rcases List.mem_append.1 hc with hc | hc
   ·exact Dn (h p (List.mem_cons_self ..)) hc
   ·exact rA (λq hq=>h q (List.mem_cons_of_mem _ hq)) c hc
theorem GJ {a b : List Part} (ha : aH a) (hb : aH b) (h : cA a = aD b) : Pn (aT a b).1<=Pn a + Pn b:=by
 have hi:=sM ha hb h;have c:=Bj _ hi (Nat.le_refl _);have f1:=im ha;have t1:=il hb;have g1:=ha.2.1;have g2:=hb.2.2;have n:=AE c.ok (by rw [gw,c.fr];omega) (by rw [ix c.ok,c.to];omega);have e : aT a b = (normal (cmp a b),true):=by unfold aT;rw [if_pos ⟨ha,hb,h⟩,if_pos n.1]
 rw [e];unfold Pn;simp only;rw [dP c.ok,ld];have k1:=gF (ah (cmp a b)) (frA (ah a)) (rA c.ok);have k2:=c.ap (List.replicate (frA (ah a)) (-1)) (by simp);have k3:=kr (ah b) (apA (ah a) (List.replicate (frA (ah a)) (-1)));have k4:=kr (ah a) (List.replicate (frA (ah a)) (-1));have k5:=uG (frA (ah a));rw [k2] at k1;omega
theorem sw {o : List Part} (h : idle o) : Pn o = 0:=(mg.1 h).2.1
theorem yd {n : Int} (h0 : 0<=n) (h1 : n<=200) : Pn (aU n) = 0:=sw (fQ h0 h1).2.2.2
def kz : List Entry->Nat
 | []=>0
 | e :: l=>Pn e.o + kz l
theorem jp : ∀ (a b : List Entry),kz (a ++ b) = kz a + kz b
 | [],b=>by simp [kz]
 | e :: a,b=>by simp only [List.cons_append,kz,jp a b];omega
theorem Bu {o : List Part} {t : List Int} (h : cP o t) : (apply o t).1.length<=t.length + Pn o:=by
 have h1:=(di h).2;have h2:=Cy h.1;have h3:=h.2.2;omega
theorem u4 {d : Doc} (h : aK d) {rev : Int} (h1 : d.fr<=rev) (hl : (rev - d.fr).toNat < d.list.length) :
 cP (d.list[(rev - d.fr).toNat]).o (aR d rev).1/\aR d (rev + 1) = ((apply (d.list[(rev - d.fr).toNat]).o (aR d rev).1).1,true):=by
 have hh:=aI h;obtain ⟨k1,k2,k3,k4⟩:=dD h h1 (by omega);obtain ⟨m1,m2,m3,m4⟩:=dD h (rev:=rev + 1) (by omega) (by omega);have e : (rev + 1 - d.fr).toNat = (rev - d.fr).toNat + 1:=by omega
 rw [e,<- List.take_append_getElem hl,List.map_append,dz,k2] at m2;simp only [List.map_cons,List.map_nil,Option.bind_some,ak] at m2
 split at m2
 ·rename_i ha
  injection m2 with m2
  exact ⟨cR.1 ha,Prod.ext m2.symm m1⟩
 ·cases m2
theorem uA {c s r x : Int} : ∀ l : List Seen,(aN c s r l).find? (λy=>decide (y.client = x)) = if x = c then some ⟨c,s,r⟩ else l.find? (λy=>decide (y.client = x))
 | [] => by
   by_cases h : x = c
   ·subst h;simp [aN]
   ·have : ¬ c = x:=λe=>h e.symm
    simp [aN,h,this]
 | y :: l => by
   unfold aN;have ih:=uA (c:=c) (s:=s) (r:=r) (x:=x) l;by_cases h : x = c
   ·subst h
    by_cases h1 : y.client < x
    ·have h2 : ¬ y.client = x:=by omega
     rw [if_pos h1,List.find?_cons_of_neg (by simpa using h2),ih,if_pos rfl,if_pos rfl]
    ·rw [if_neg h1,if_pos rfl]
     split<;>simp
   ·have hc : ¬ c = x:=λe=>h e.symm
    rw [if_neg h] at ih ⊢;by_cases h1 : y.client < c
    ·rw [if_pos h1,List.find?_cons,List.find?_cons,ih]
    ·rw [if_neg h1]
     split
     ·rename_i h2
      have h3 : ¬ y.client = x:=by omega
      rw [List.find?_cons_of_neg (by simpa using hc),List.find?_cons_of_neg (by simpa using h3)]
     ·rw [List.find?_cons_of_neg (by simpa using hc)]
theorem mI (d : Doc) (e : Entry) (x : Int) : (aG (ao d e) x).1 = if x = e.client then ⟨e.client,e.seq,ab d + 1⟩ else (aG d x).1:=by
 have hs : (ao d e).seen = aN e.client e.seq (ab d + 1) d.seen:=by unfold ao;split<;>rfl
 unfold aG;rw [hs,uA];by_cases h : x = e.client
 ·rw [if_pos h,if_pos h]
 ·rw [if_neg h,if_neg h]
def DIn (d : Doc) : Prop:=∀ (j : Nat) (e : Entry),d.list[j]? = some e->e.seq<=(aG d e.client).1.seq/\(e.seq = (aG d e.client).1.seq->(aG d e.client).1.rev = d.fr + j + 1)
theorem j8 {d : Doc} (h : aK d) (e : Entry) : ∃ k : Nat,k <= 1 /\ (ao d e).fr = d.fr + k /\ (ao d e).list = (d.list ++ [e]).drop k /\ (k = 0 -> (ao d e).text = d.text) /\
 (k = 1->∃ h0 : 0 < d.list.length,(ao d e).text = (apply (d.list[0]).o d.text).1):=by
 have hh:=aI h;unfold ao
 split
 ·exact ⟨0,by omega,by simp,by simp,λ_=>rfl,λh=>by omega⟩
 ·refine ⟨1,by omega,by simp,rfl,λh=>by omega,λ_=>⟨by omega,?_⟩⟩
  simp only;rw [List.getElem_append_left (by omega)]
theorem Cp {d : Doc} (h : aK d) (hi : DIn d) {e : Entry} (he : e.seq = (aG d e.client).1.seq + 1) : DIn (ao d e):=by
 obtain ⟨k,hk,h1,h2,-,-⟩:=j8 h e;have hh:=aI h;intro j x hx;rw [h2,List.getElem?_drop] at hx;rw [mI,h1];by_cases c : k + j < d.list.length
 ·rw [List.getElem?_append_left c] at hx
  obtain ⟨a1,a2⟩:=hi _ x hx;by_cases q : x.client = e.client
  ·rw [if_pos q]
   rw [q] at a1;exact ⟨by simp only;omega,λe2=>by simp only at e2;omega⟩
  ·rw [if_neg q]
   exact ⟨a1,λe2=>by have:=a2 e2;omega⟩
 ·by_cases c2 : k + j = d.list.length
  ·rw [c2,List.getElem?_append_right (Nat.le_refl _)] at hx
   simp at hx;subst hx;rw [if_pos rfl];exact ⟨Int.le_refl _,λ_=>by simp only;omega⟩
  ·rw [List.getElem?_append_right (by omega)] at hx
   have : (d.list ++ [e]).length<=k + j:=by rw [List.length_append,List.length_singleton];omega
   rw [List.getElem?_eq_none (by rw [List.length_singleton];omega)] at hx
   cases hx
theorem xA {d : Doc} (h : aK d) {e : Entry} (hp : aK (ao d e)) {rev : Int} (h1 : (ao d e).fr<=rev) (h2 : rev<=ab d) : aR (ao d e) rev = aR d rev:=by
 obtain ⟨k,hk,k1,k2,k3,k4⟩:=j8 h e;have hh:=aI h;have hd:=(iQ h e).1;rw [gl ⟨hp,h1,by omega⟩,gl ⟨h,by omega,h2⟩,k1,k2];obtain ⟨n,hn⟩ : ∃ n,(rev - d.fr).toNat = n:=⟨_,rfl⟩;have hnl : n<=d.list.length:=by omega
 rw [show (rev - (d.fr + (k : Int))).toNat = n - k by omega,hn];rcases Nat.eq_zero_or_pos k with hz | hz
 ·subst hz
  rw [k3 rfl,List.drop_zero,Nat.sub_zero,List.take_append_of_le_length hnl]
 ·have hk1 : k = 1:=by omega
  subst hk1;obtain ⟨h0,k5⟩:=k4 rfl;obtain ⟨m,rfl⟩ : ∃ m,n = m + 1:=⟨n - 1,by omega⟩
  obtain ⟨y,L,hL⟩ : ∃ y L,d.list = y :: L:=by
   cases hx : d.list with
   | nil=>rw [hx] at h0;simp at h0
   | cons y L=>exact ⟨y,L,rfl⟩
  have ht:=h.2.2.1;have hs:=h.2.2.2.2.2.1;have hy : (d.list[0]) = y:=by simp [hL]
  rw [hy] at k5;rw [hL] at hnl hs ⊢;rw [k5];simp only [List.cons_append,List.drop_succ_cons,List.drop_zero,Nat.add_sub_cancel,List.take_succ_cons,List.map_cons];rw [List.take_append_of_le_length (by simpa using hnl)];rw [List.map_cons,ak] at hs
  have ha : (apply y.o d.text).2 = true:=by
   by_cases q : (apply y.o d.text).2 = true
   ·exact q
   ·rw [if_neg q] at hs;cases hs
  have ht2:=(di (cR.1 ha)).1;unfold br;rw [if_pos ht2,if_pos ht,ak,if_pos ha]
theorem An {d : Doc} (h : aK d) (e : Entry) : (ao d e).text.length + kz (ao d e).list<=d.text.length + kz d.list + Pn e.o:=by
 obtain ⟨k,hk,k1,k2,k3,k4⟩:=j8 h e;rcases Nat.eq_zero_or_pos k with hz | hz
 ·subst hz
  rw [k2,k3 rfl,List.drop_zero,jp];simp only [kz];omega
 ·have hk1 : k = 1:=by omega
  subst hk1;obtain ⟨h0,k5⟩:=k4 rfl
  obtain ⟨y,L,hL⟩ : ∃ y L,d.list = y :: L:=by
   cases hx : d.list with
   | nil=>rw [hx] at h0;simp at h0
   | cons y L=>exact ⟨y,L,rfl⟩
  have hy : (d.list[0]) = y:=by simp [hL]
  have hs:=h.2.2.2.2.2.1;rw [hL,List.map_cons,ak] at hs
  have ha : (apply y.o d.text).2 = true:=by
   by_cases q : (apply y.o d.text).2 = true
   ·exact q
   ·rw [if_neg q] at hs;cases hs
  have:=Bu (cR.1 ha);rw [hy] at k5;rw [k2,k5,hL];simp only [List.cons_append,List.drop_succ_cons,List.drop_zero,kz,jp];omega
theorem rT {d : Doc} (h : aK d) : aR d d.fr = (d.text,true):=by
 have hh:=aI h;unfold aR;rw [if_pos ⟨h,by omega,by omega⟩];simp [br,h.2.2.1,ak]
theorem lK {r : Rep} {s : Seen} (h : r.seq = s.seq) (h2 : ¬ (r.has = true/\s.rev<=r.rev)) : bU r s:=by unfold bU;rw [if_pos h];exact h2
def nz (c s : Int) : List Entry->List Part->Prop
 | [],_=>False
 | e :: l,v=>(e.client = c/\e.seq = s/\e.o = v)\/(¬ (e.client = c/\e.seq = s)/\(ac e.o v).2.2 = true/\nz c s l (ac e.o v).2.1)
theorem pE {c s : Int} {m : List Entry} : ∀ {l : List Entry} {v : List Part},nz c s l v->nz c s (l ++ m) v
 | e :: l, v, h => by
   rcases h with h | ⟨h1,h2,h3⟩
   ·exact .inl h
   ·exact .inr ⟨h1,h2,pE h3⟩
theorem rC {c s : Int} : ∀ {l : List Entry} {v : List Part},nz c s l v->∃ (j : Nat) (e : Entry),l[j]? = some e/\e.client = c/\e.seq = s
 | e :: l, v, h => by
   rcases h with h | ⟨h1,h2,h3⟩
   ·exact ⟨0,e,rfl,h.1,h.2.1⟩
   ·obtain ⟨j,x,h4,h5⟩:=rC h3
    exact ⟨j + 1,x,by simpa using h4,h5⟩
theorem rD {c s : Int} {v' : List Part} : ∀ {l : List Entry} {v : List Part},dW (l.map Entry.o) v = some v'->(∀ e∈l,¬ (e.client = c/\e.seq = s))->nz c s (l ++ [⟨c,s,v'⟩]) v
 | [], v, h, _ => by
   simp only [List.map_nil,dW,Option.some.injEq] at h;exact .inl ⟨rfl,rfl,h.symm⟩
 | e :: l, v, h, hn => by
   rw [List.map_cons,dW] at h
   split at h
   ·rename_i ht
    exact .inr ⟨hn e (List.mem_cons_self ..),ht,rD h (λx hx=>hn x (List.mem_cons_of_mem _ hx))⟩
   ·cases h
theorem As : ∀ {l : List (List Part)} {v v' : List Part},dW l v = some v'->Pn v' = Pn v
 | [],v,v',h=>by simp only [dW,Option.some.injEq] at h;rw [h]
 | a :: l, v, v', h => by
   rw [dW] at h
   split at h
   ·rename_i ht
    rw [As h,(rO ht).2]
   ·cases h
def gq (d : Doc) (r : Rep) : Prop:=r.has = true/\r.seq = (aG d r.client).1.seq
def RIn (d : Doc) (r : Rep) : Prop:=gq d r->d.fr<=r.rev->nz r.client r.seq (d.list.drop (r.rev - d.fr).toNat) r.sent
def NIn (n : Net) : Prop:=eA n/\DIn n.d/\∀ r∈n.reps,RIn n.d r
open Classical in
noncomputable def pend (d : Doc) (r : Rep) : Nat:=(if gq d r then 0 else Pn r.sent) + Pn r.buf
noncomputable def fU (d : Doc) : List Rep->Nat
 | []=>0
 | r :: l=>pend d r + fU d l
noncomputable def tot (n : Net) : Nat:=n.d.text.length + kz n.d.list + fU n.d n.reps
theorem ot (d : Doc) : ∀ {l : List Rep} {i : Nat} (h : i < l.length) (x : Rep),fU d (l.set i x) + pend d l[i] = fU d l + pend d x
 | r :: l,0,h,x=>by simp only [List.set_cons_zero,fU,List.getElem_cons_zero];omega
 | r :: l, i + 1, h, x => by
   have:=ot d (l:=l) (i:=i) (by simpa using h) x;simp only [List.set_cons_succ,fU,List.getElem_cons_succ];omega
theorem tj (d : Doc) : ∀ {l : List Rep} {i : Nat} (h : i < l.length),pend d l[i]<=fU d l
 | r :: l,0,h=>by simp only [fU,List.getElem_cons_zero];omega
 | r :: l, i + 1, h => by
   have:=tj d (l:=l) (i:=i) (by simpa using h);simp only [fU,List.getElem_cons_succ];omega
theorem qE {d d' : Doc} : ∀ {l : List Rep},(∀ r∈l,pend d' r = pend d r)->fU d' l = fU d l
 | [],_=>rfl
 | r :: l, h => by
   rw [fU,fU,h r (List.mem_cons_self ..),qE (λx hx=>h x (List.mem_cons_of_mem _ hx))]
theorem r9 {d : Doc} {r : Rep} (h : r.has = false) : ¬ gq d r:=λq=>by have:=q.1;rw [h] at this;cases this
theorem FK {r : Rep} (h : ar r) (h1 : r.has = false) : Pn r.sent = 0:=by
 have:=h.2.2.2.2.2.2.2.2;rw [h1] at this;exact sw (by simpa using this)
theorem lQ {d : Doc} {r : Rep} (h : ar r) (h1 : r.has = false) : pend d r = Pn r.buf:=by
 unfold pend;rw [if_neg (r9 h1),FK h h1];omega
theorem Ar {d : Doc} {r : Rep} (h : gq d r) : pend d r = Pn r.buf:=by unfold pend;rw [if_pos h];omega
theorem oK {d : Doc} {r : Rep} (h : ¬ gq d r) : pend d r = Pn r.sent + Pn r.buf:=by unfold pend;rw [if_neg h]
theorem oD {r : Rep} {s : Seen} (h : ¬ r.seq = s.seq) (h2 : r.has = true/\r.seq = s.seq + 1) : bU r s:=by unfold bU;rw [if_neg h];exact h2
theorem u5 {r : Rep} {e : Entry} (h : (aW r e).2 = true) : (ar r /\ bg e /\ cP e.o r.text) /\
 ((kM r e /\ e.o = r.sent /\ aW r e = (dA r (apply e.o r.text).1, true) /\ ar (dA r (apply e.o r.text).1)) \/
  (¬ kM r e /\ (ac e.o r.sent).2.2 = true /\ (ac (ac e.o r.sent).1 r.buf).2.2 = true /\
   aW r e = (cD r (apply e.o r.text).1 (ac e.o r.sent).2.1 (ac (ac e.o r.sent).1 r.buf).2.1,true)/\ar (cD r (apply e.o r.text).1 (ac e.o r.sent).2.1 (ac (ac e.o r.sent).1 r.buf).2.1))):=by
 have key : ∀ x : Rep,(eq x).2 = true->ar x:=λx hx=>Classical.byContradiction λc=>by rw [ec c] at hx;cases hx
 have c : ar r/\bg e/\cP e.o r.text:=Classical.byContradiction λc=>by rw [eh c] at h;cases h
 refine ⟨c,?_⟩;by_cases a : kM r e
 ·by_cases eo : e.o = r.sent
  ·have e1:=(gf c a).1 eo
   rw [e1] at h;have k:=key _ h;exact .inl ⟨a,eo,by rw [e1,cC k],k⟩
  ·rw [(gf c a).2 eo] at h;cases h
 ·by_cases t : (ac e.o r.sent).2.2 = true/\(ac (ac e.o r.sent).1 r.buf).2.2 = true
  ·have e1:=(fH c a).1 t
   rw [e1] at h;have k:=key _ h;exact .inr ⟨a,t.1,t.2,by rw [e1,cC k],k⟩
  ·rw [(fH c a).2 t] at h;cases h
structure TIn (d : Doc) (i : Nat) (r : Rep) : Prop where
 at_ : cH d i r
 fr : d.fr<=r.rev
 inn : RIn d r
structure TSt (d : Doc) (r x : Rep) (m : Nat) : Prop where
 rev : x.rev = r.rev + m
 has : x.has = true->r.has = true
 idle : idle r.buf->idle x.buf
 seq : x.seq = r.seq
 client : x.client = r.client
 pend : pend d x<=pend d r
theorem FJ {d : Doc} {r : Rep} (h : bU r (aG d r.client).1) (hle : r.seq<=(aG d r.client).1.seq) : r.seq = (aG d r.client).1.seq:=by
 unfold bU at h
 split at h
 ·assumption
 ·omega
theorem B9 {d : Doc} {i : Nat} {r : Rep} (h : aK d) (hi : DIn d) (t : TIn d i r) {p : Nat} (hp : (r.rev - d.fr).toNat = p) (hl : p < d.list.length) (hy : (aW r d.list[p]).2 = true) :
 TIn d i (aW r d.list[p]).1/\TSt d r (aW r d.list[p]).1 1:=by
 have hh:=aI h;obtain ⟨a1,a2,a3,a4,a5⟩:=t.at_;have hf:=t.fr;subst hp;obtain ⟨s1,s2⟩:=u4 h hf hl;have htx:=a4 (dD h hf a3).1;rw [htx] at s2;have hin:=t.inn;have hget : d.list[(r.rev - d.fr).toNat]? = some d.list[(r.rev - d.fr).toNat]:=List.getElem?_eq_getElem hl;have hdrop : d.list.drop (r.rev - d.fr).toNat = d.list[(r.rev - d.fr).toNat] :: d.list.drop ((r.rev - d.fr).toNat + 1):=List.drop_eq_getElem_cons hl;obtain ⟨i1,i2⟩:=hi _ _ hget;unfold RIn at hin;rw [hdrop] at hin;obtain ⟨e,he⟩ : ∃ e,d.list[(r.rev - d.fr).toNat] = e:=⟨_,rfl⟩;rw [he] at hy s2 hin i1 i2 ⊢;obtain ⟨c,⟨k1,k2,k3,k4⟩ | ⟨k1,k2,k3,k4,k5⟩⟩:=u5 hy
 ·rw [k3]
  have hcl:=k1.2.1;have hsq:=k1.2.2;have hseq : r.seq = (aG d r.client).1.seq:=FJ a5 (by rw [hcl] at i1;omega);refine ⟨⟨⟨k4,a2,by simp only [dA];omega,λ_=>by simp only [dA];rw [s2],?_⟩,by simp only [dA];omega,λq=>absurd q (r9 rfl)⟩,⟨rfl,λq=>by simp [dA] at q,λq=>q,rfl,rfl,?_⟩⟩
  ·show bU (dA r _) (aG d r.client).1
   unfold bU dA;simp only;rw [if_pos hseq];simp
  ·rw [lQ k4 rfl]
   show Pn r.buf<=_
   unfold pend;omega
 ·rw [k4]
  have hown : ∀ x,gq d (cD r (apply e.o r.text).1 x (ac (ac e.o r.sent).1 r.buf).2.1) ↔ gq d r:=λx=>Iff.rfl
  have hmv : gq d r->nz r.client r.seq (d.list.drop ((r.rev - d.fr).toNat + 1)) (ac e.o r.sent).2.1:=λq=>by
   rcases hin q hf with h1 | ⟨-,-,h1⟩
   ·exact absurd ⟨q.1,h1.1,h1.2.1⟩ k1
   ·exact h1
  have e1 : (r.rev + 1 - d.fr).toNat = (r.rev - d.fr).toNat + 1:=by omega
  refine ⟨⟨⟨k5,a2,by simp only [cD];omega,λ_=>by simp only [cD];rw [s2],?_⟩,by simp only [cD];omega,λq _=>?_⟩,⟨rfl,λq=>q,λq=>nT k3 q,rfl,rfl,?_⟩⟩
  ·show bU (cD r _ _ _) (aG d r.client).1
   unfold bU at a5;by_cases q : r.seq = (aG d r.client).1.seq
   ·rw [if_pos q] at a5
    refine lK q ?_
    rintro ⟨h1,h2⟩
    obtain ⟨j,x,h3,h4,h5⟩:=rC (hmv ⟨h1,q⟩);rw [List.getElem?_drop] at h3;have:=(hi _ _ h3).2 (by rw [h4,h5,q]);rw [h4] at this;simp only [cD] at h2;omega
   ·rw [if_neg q] at a5
    exact oD q a5
  ·show nz r.client r.seq (d.list.drop (r.rev + 1 - d.fr).toNat) (ac e.o r.sent).2.1
   rw [e1];exact hmv q
  ·unfold pend
   have p1:=(rO k2).2;have p2:=(rO k3).2;by_cases q : gq d r
   ·rw [if_pos ((hown _).2 q),if_pos q]
    show 0 + Pn (ac (ac e.o r.sent).1 r.buf).2.1<=_
    omega
   ·rw [if_neg (λz=>q ((hown _).1 z)),if_neg q]
    show Pn (ac e.o r.sent).2.1 + Pn (ac (ac e.o r.sent).1 r.buf).2.1<=_
    omega
theorem Bx {d : Doc} {i : Nat} (h : aK d) (hi : DIn d) : ∀ (m : Nat) {r x : Rep},TIn d i r->cj r ((d.list.drop (r.rev - d.fr).toNat).take m) = some x->TIn d i x/\TSt d r x (min m (d.list.length - (r.rev - d.fr).toNat))
 | 0, r, x, t, hx => by
   simp only [List.take_zero,cj,Option.some.injEq] at hx;subst hx;refine ⟨t,⟨?_,λq=>q,λq=>q,rfl,rfl,Nat.le_refl _⟩⟩;simp
 | m + 1, r, x, t, hx => by
   by_cases hl : (r.rev - d.fr).toNat < d.list.length
   ·rw [List.drop_eq_getElem_cons hl,List.take_succ_cons,cj] at hx
    split at hx
    ·rename_i hy
     obtain ⟨t1,u1⟩:=B9 h hi t rfl hl hy;have e1 : ((aW r d.list[(r.rev - d.fr).toNat]).1.rev - d.fr).toNat = (r.rev - d.fr).toNat + 1:=by rw [u1.rev];have:=t.fr;omega
     have:=Bx h hi m t1 (x:=x);rw [e1] at this;obtain ⟨t2,u2⟩:=this hx;refine ⟨t2,⟨?_,λq=>u1.has (u2.has q),λq=>u2.idle (u1.idle q),by rw [u2.seq,u1.seq],by rw [u2.client,u1.client],Nat.le_trans u2.pend u1.pend⟩⟩;rw [u2.rev,u1.rev];omega
    ·cases hx
   ·rw [List.drop_eq_nil_of_le (by omega)] at hx
    simp only [List.take_nil,cj,Option.some.injEq] at hx;subst hx;refine ⟨t,⟨?_,λq=>q,λq=>q,rfl,rfl,Nat.le_refl _⟩⟩;rw [show min (m + 1) (d.list.length - (r.rev - d.fr).toNat) = 0 by omega];simp
theorem tp {d : Doc} {c s b : Int} {o : List Part} (h : (bf d c s b o).2.2 = 0) (hs : s = (aG d c).1.seq + 1) :
 ∃ v,(bf d c s b o).1 = ao d ⟨c,s,v⟩/\d.fr<=b/\b<=ab d/\aH o/\aD o = (aR d b).1.length/\dW ((d.list.drop (b - d.fr).toNat).map Entry.o) (ba o) = some v:=by
 unfold bf at h ⊢
 split at h
 ·rename_i h1
  rw [if_pos h1];rw [if_neg (by omega)] at h ⊢;rw [if_pos (by omega)] at h ⊢
  split at h
  ·rename_i h2
   rw [if_pos h2]
   split at h
   ·simp at h
   ·rename_i h3
    rw [if_neg h3];refine ⟨_,rfl,?_⟩;unfold bX at h2 ⊢
    split at h2
    ·rename_i c1
     rw [if_pos c1]
     split at h2
     ·simp at h2
     ·rename_i c2
      rw [if_neg c2]
      split at h2
      ·simp at h2
      ·rename_i c3
       rw [if_neg c3]
       split at h2
       ·rename_i c4
        rw [if_pos c4]
        split at h2
        ·rename_i c5
         rw [if_pos c5];refine ⟨by omega,by omega,c1.2,c4,?_⟩;unfold eB at c5 ⊢;rw [if_pos c1.2] at c5 ⊢
         cases hx : dW ((d.list.drop (b - d.fr).toNat).map Entry.o) (ba o) with
         | none=>rw [hx] at c5;simp at c5
         | some v=>rfl
        ·simp at h2
       ·simp at h2
    ·simp at h2
  ·rename_i h2;exact absurd h h2
 ·simp at h
structure Wait (d : Doc) (i : Nat) (r : Rep) : Prop where
 ok : ar r
 client : r.client = i + 1
 has : r.has = true
 rev : r.rev<=ab d
 text : (aR d r.rev).2 = true->(aR d r.rev).1 = r.text
 seq : r.seq = (aG d r.client).1.seq + 1
structure Dlv (d : Doc) (i : Nat) (r : Rep) (D : Doc) : Prop where
 ok : aK D
 inn : DIn D
 at_ : cH D i r
 rin : RIn D r
 put : D.text.length + kz D.list + pend D r<=d.text.length + kz d.list + (Pn r.sent + Pn r.buf)
 head : ab d<=ab D/\ab D<=ab d + 1
 old : D.fr<=d.fr + 1/\d.fr<=D.fr
 oth : ∀ (j : Nat) (x : Rep),x.client≠r.client->cH d j x->RIn d x->cH D j x/\RIn D x/\pend D x = pend d x
theorem xH {o : List Part} (h : cK o) : ba o = o:=h.2
theorem pf {d : Doc} {i : Nat} {r : Rep} (h : aK d) (hi : DIn d) (w : Wait d i r) : Dlv d i r (dZ d (du r))/\((bf d r.client r.seq r.rev r.sent).2.2 = 0->gq (dZ d (du r)) r):=by
 have hno : ¬ gq d r:=λq=>by have:=q.2;have:=w.seq;omega
 have hat : cH d i r:=⟨w.ok,w.client,w.rev,w.text,oD (λq=>by have:=w.seq;omega) ⟨w.has,w.seq⟩⟩;by_cases hc : (bf d r.client r.seq r.rev r.sent).2.2 = 0
 rotate_left
 ·have e : dZ d (du r) = d:=by
   unfold dZ du;simp only;rw [if_neg hc]
  rw [e];refine ⟨⟨h,hi,hat,λq=>absurd q hno,?_,by omega,by omega,λj x _ h1 h2=>⟨h1,h2,rfl⟩⟩,λq=>absurd q hc⟩;rw [oK hno];omega
 obtain ⟨v,e1,e2,e3,e4,e5,e6⟩:=tp hc w.seq;have hsn : cK r.sent:=w.ok.2.2.2.2.1;rw [xH hsn] at e6
 have e : dZ d (du r) = ao d ⟨r.client,r.seq,v⟩:=by
  unfold dZ du;simp only;rw [if_pos hc,e1]
 have hD : aK (ao d ⟨r.client,r.seq,v⟩):=by have:=(qo h hc).1;rwa [e1] at this
 have hhd:=(iQ h ⟨r.client,r.seq,v⟩).1;have hh:=aI h;have hH:=aI hD;obtain ⟨k,hk,k1,k2,-,-⟩:=j8 h ⟨r.client,r.seq,v⟩;have hsum:=An h ⟨r.client,r.seq,v⟩;have hsn1:=mI d ⟨r.client,r.seq,v⟩ r.client;rw [if_pos rfl] at hsn1;simp only at hsn1 hsum;have hPv:=As e6;have hown : gq (ao d ⟨r.client,r.seq,v⟩) r:=⟨w.has,by rw [hsn1]⟩;rw [e]
 have hdr : ∀ x : Rep,(ao d ⟨r.client,r.seq,v⟩).fr<=x.rev->x.rev<=ab d->(ao d ⟨r.client,r.seq,v⟩).list.drop (x.rev - (ao d ⟨r.client,r.seq,v⟩).fr).toNat = d.list.drop (x.rev - d.fr).toNat ++ [⟨r.client,r.seq,v⟩]:=λx hx hx2=>by
  rw [k2,List.drop_drop,show k + (x.rev - (ao d ⟨r.client,r.seq,v⟩).fr).toNat = (x.rev - d.fr).toNat by omega,List.drop_append_of_le_length (by omega)]
 have htx : ∀ x : Rep,x.rev<=ab d->((aR d x.rev).2 = true->(aR d x.rev).1 = x.text)->(aR (ao d ⟨r.client,r.seq,v⟩) x.rev).2 = true->(aR (ao d ⟨r.client,r.seq,v⟩) x.rev).1 = x.text:=λx hx hy hz=>by
  by_cases q : (ao d ⟨r.client,r.seq,v⟩).fr<=x.rev
  ·rw [xA h hD q hx] at hz ⊢
   exact hy hz
  ·rw [gi (λz=>q z.2.1)] at hz;cases hz
 refine ⟨⟨hD,Cp h hi (e:=⟨r.client,r.seq,v⟩) w.seq,⟨w.ok,w.client,by have:=w.rev;omega,htx r w.rev w.text,?_⟩,λ_ q=>?_,?_,by omega,by omega,λj x hx h1 h2=>?_⟩,λ_=>hown⟩
 ·rw [hsn1]
  exact lK rfl (λq=>by have h1:=q.2;have h2:=w.rev;simp only at h1;omega)
 ·rw [hdr r q w.rev]
  refine rD e6 (λx hx hq=>?_);obtain ⟨j,hj,rfl⟩:=List.getElem_of_mem hx
  have hg : d.list[(r.rev - d.fr).toNat + j]? = some (d.list.drop (r.rev - d.fr).toNat)[j]:=by
   rw [<- List.getElem?_drop,List.getElem?_eq_getElem hj]
  have:=(hi _ _ hg).1;rw [hq.1] at this;have:=w.seq;omega
 ·rw [Ar hown];omega
 ·have hsx : (aG (ao d ⟨r.client,r.seq,v⟩) x.client).1 = (aG d x.client).1:=by rw [mI,if_neg (by simpa using hx)]
  obtain ⟨x1,x2,x3,x4,x5⟩:=h1;have hox : gq (ao d ⟨r.client,r.seq,v⟩) x ↔ gq d x:=by unfold gq;rw [hsx]
  refine ⟨⟨x1,x2,by omega,htx x x3 x4,by rw [hsx];exact x5⟩,λq1 q2=>?_,?_⟩
  ·rw [hdr x q2 x3]
   exact pE (h2 (hox.1 q1) (by omega))
  ·unfold pend
   by_cases q : gq d x
   ·rw [if_pos q,if_pos (hox.2 q)]
   ·rw [if_neg q,if_neg (λz=>q (hox.1 z))]
structure Step (n n' : Net) (P : Nat) : Prop where
 inn : NIn n'
 tot : tot n'<=tot n + P
 head : ab n.d<=ab n'.d/\ab n'.d<=ab n.d + 1
 seq : ∀ k,(∀ r∈n.reps,r.seq<=k)->∀ r∈n'.reps,r.seq<=k + 1
 len : n'.reps.length = n.reps.length
theorem Step.same {n : Net} (N : NIn n) {P : Nat} : Step n n P:=⟨N,by omega,by omega,λk h r hr=>by have:=h r hr;omega,rfl⟩
theorem lE {n : Net} (N : NIn n) {i : Nat} (hi : i < n.reps.length) {x : Rep} {P : Nat} (h1 : cH n.d i x) (h2 : RIn n.d x) (h3 : pend n.d x<=pend n.d n.reps[i] + P) (h4 : x.seq<=n.reps[i].seq + 1) : Step n (dI n i x) P:=by
 obtain ⟨⟨n1,n2,n3⟩,n4,n5⟩:=N;have hs:=ot n.d hi x;refine ⟨⟨⟨n1,by simpa [dI] using n2,λj hj=>?_⟩,n4,λr hr=>?_⟩,?_,by simp only [dI];omega,λk hk r hr=>?_,by simp [dI]⟩
 ·simp only [dI] at hj ⊢
  by_cases c : j = i
  ·subst c;rw [List.getElem_set_self];exact h1
  ·rw [List.getElem_set_ne (λe=>c e.symm)]
   exact n3 j (by simpa using hj)
 ·rcases List.mem_or_eq_of_mem_set hr with hr | rfl
  ·exact n5 r hr
  ·exact h2
 ·unfold tot dI
  simp only;omega
 ·rcases List.mem_or_eq_of_mem_set hr with hr | rfl
  ·have:=hk r hr;omega
  ·have:=hk _ (List.getElem_mem hi);omega
theorem tu {n : Net} (N : NIn n) {i : Nat} (hi : i < n.reps.length) {x : Rep} {D : Doc} (hx : x.client = n.reps[i].client) (V : Dlv n.d i x D) (h3 : Pn x.sent + Pn x.buf<=pend n.d n.reps[i]) (h4 : x.seq<=n.reps[i].seq + 1) : Step n ⟨D,n.reps.set i x⟩ 0:=by
 obtain ⟨⟨n1,n2,n3⟩,n4,n5⟩:=N
 have hne : ∀ j,∀ hj : j < n.reps.length,j≠i->n.reps[j].client≠x.client:=λj hj c=>by
  have a:=(n3 j hj).2.1;have b:=(n3 i hi).2.1;omega
 have hs:=ot D hi x
 have hsum : fU D n.reps + pend n.d n.reps[i] = fU n.d n.reps + pend D n.reps[i]:=by
  have key : ∀ (l : List Rep) (k : Nat) (hk : k < l.length),(∀ j,∀ hj : j < l.length,j≠k->pend D l[j] = pend n.d l[j])->fU D l + pend n.d l[k] = fU n.d l + pend D l[k]:=by
   intro l
   induction l with
   | nil=>intro k hk;simp at hk
   | cons r l ih =>
     intro k hk hj
     cases k with
     | zero =>
       have : fU D l = fU n.d l:=qE (λy hy=>by
        obtain ⟨j,hj2,rfl⟩:=List.getElem_of_mem hy;exact hj (j + 1) (by simpa using hj2) (by omega))
       simp only [fU,List.getElem_cons_zero,this];omega
     | succ k =>
       have:=ih k (by simpa using hk) (λj hj2 hne=>hj (j + 1) (by simpa using hj2) (by omega));have h0:=hj 0 (by simp) (by omega);simp only [List.getElem_cons_zero] at h0;simp only [fU,List.getElem_cons_succ,h0];omega
  exact key n.reps i hi (λj hj c=>(V.oth j _ (hne j hj c) (n3 j hj) (n5 _ (List.getElem_mem hj))).2.2)
 have hput:=V.put;refine ⟨⟨⟨V.ok,by simpa using n2,λj hj=>?_⟩,V.inn,λr hr=>?_⟩,?_,V.head,λk hk r hr=>?_,by simp⟩
 ·simp only at hj ⊢
  by_cases c : j = i
  ·subst c;rw [List.getElem_set_self];exact V.at_
  ·rw [List.getElem_set_ne (λe=>c e.symm)]
   have hj2 : j < n.reps.length:=by simpa using hj
   exact (V.oth j _ (hne j hj2 c) (n3 j hj2) (n5 _ (List.getElem_mem hj2))).1
 ·simp only at hr ⊢
  obtain ⟨j,hj,rfl⟩:=List.getElem_of_mem hr;by_cases c : j = i
  ·subst c;rw [List.getElem_set_self];exact V.rin
  ·rw [List.getElem_set_ne (λe=>c e.symm)]
   have hj2 : j < n.reps.length:=by simpa using hj
   exact (V.oth j _ (hne j hj2 c) (n3 j hj2) (n5 _ (List.getElem_mem hj2))).2.1
 ·unfold tot
  simp only;omega
 ·rcases List.mem_or_eq_of_mem_set hr with hr | rfl
  ·have:=hk r hr;omega
  ·have:=hk _ (List.getElem_mem hi);omega
theorem Cl {n : Net} (N : NIn n) {i : Nat} (hi : i < n.reps.length) (hf : n.d.fr<=n.reps[i].rev) : TIn n.d i n.reps[i]:=⟨N.1.2.2 i hi,hf,N.2.2 _ (List.getElem_mem hi)⟩
theorem qK {d : Doc} {i : Nat} {r : Rep} (h : cH d i r) (c : ar r/\r.has = false/\¬ idle r.buf/\r.seq≠999999999) : Wait d i (cd r):=by
 obtain ⟨h1,h2,h3,h4,h5⟩:=h;refine ⟨Cc c.1 c.2.1 c.2.2.2,h2,rfl,h3,h4,?_⟩
 have : r.seq = (aG d r.client).1.seq:=by
  unfold bU at h5
  split at h5
  ·assumption
  ·exact absurd h5.1 (by rw [c.2.1];simp)
 simp only [cd];omega
theorem qM {r : Rep} (h : ar r) : Pn (cd r).sent + Pn (cd r).buf = Pn r.buf:=by
 have h1:=h.2.2.2.2.2.1.1;have h2:=yd (n:=cA r.buf) (by have:=il h1;omega) h1.2.2
 show Pn r.buf + Pn (aU (cA r.buf)) = _
 omega
theorem A0 {d : Doc} {i : Nat} {r : Rep} (h : cH d i r) (hh : r.has = true) (hn : ¬ gq d r) : Wait d i r:=by
 obtain ⟨h1,h2,h3,h4,h5⟩:=h;refine ⟨h1,h2,hh,h3,h4,?_⟩;unfold bU at h5
 split at h5
 ·rename_i q;exact absurd ⟨hh,q⟩ hn
 ·exact h5.2
theorem Cr {d : Doc} {r : Rep} (_h : aK d) (hi : ar r) (ho : gq d r) : dZ d (du r) = d:=by
 have:=hi;unfold dZ
 split
 ·show (bf d r.client r.seq r.rev r.sent).1 = d
  unfold bf
  split
  ·rw [if_pos ho.2.symm]
  ·rename_i h1 h2
   exfalso
   have h1 : (bf d r.client r.seq r.rev r.sent).2.2 = 0:=h1;unfold bf at h1;rw [if_neg h2] at h1;simp at h1
 ·rfl
theorem Dq {n : Net} (N : NIn n) {i : Nat} (hi : i < n.reps.length) : cH n.d i (fd n.d n.reps[i])/\(fd n.d n.reps[i]).has = false/\(fd n.d n.reps[i]).rev = ab n.d/\idle (fd n.d n.reps[i]).buf/\(fd n.d n.reps[i]).seq<=n.reps[i].seq/\Pn (fd n.d n.reps[i]).buf = 0:=by
 have hd:=N.1.1;have hy:=sU N.1 hi;have hh:=aI hd;obtain ⟨h1,h2,h3,h4,h5⟩:=N.1.2.2 i hi
 have hx : ar (bp n.reps[i].client (aG n.d n.reps[i].client).1.seq (ab n.d) (aV n.d)):=Classical.byContradiction λc=>by
  unfold bN at hy;rw [ec c] at hy;cases hy
 have e : fd n.d n.reps[i] = bp n.reps[i].client (aG n.d n.reps[i].client).1.seq (ab n.d) (aV n.d):=by
  unfold fd bN;rw [cC hx]
 have ht:=(gX hd).2;have hk:=fQ (n:=((aV n.d).length : Int)) (by omega) (by have:=ht.1;omega)
 have hs : (aG n.d n.reps[i].client).1.seq<=n.reps[i].seq:=by
  unfold bU at h5
  split at h5<;>omega
 rw [e];refine ⟨⟨hx,h2,Int.le_refl _,λ_=>rfl,?_⟩,rfl,rfl,hk.2.2.2,hs,sw hk.2.2.2⟩;exact lK rfl (λq=>by simp [bp] at q)
theorem vU {r : Rep} {o : List Part} (h : (dg r o).2 = true) : ar r/\(aT r.buf o).2 = true/\(dg r o).1 = cM r (aT r.buf o).1/\ar (cM r (aT r.buf o).1)/\Pn (aT r.buf o).1<=Pn r.buf + Pn o:=by
 have c : ar r/\(aT r.buf o).2 = true:=Classical.byContradiction λc=>by rw [gO c] at h;cases h
 rw [gg c] at h;have hx : ar (cM r (aT r.buf o).1):=Classical.byContradiction λc=>by rw [ec c] at h;cases h
 refine ⟨c.1,c.2,by rw [gg c,cC hx],hx,?_⟩;have c2:=c.2;unfold aT at c2
 split at c2
 ·rename_i q
  exact GJ q.1 q.2.1 q.2.2
 ·simp at c2
theorem Bb {n : Net} (N : NIn n) (e : Event) : ((dk n e).2 = 0/\Step n (dk n e).1 (Pn e.o))\/((dk n e).1 = n/\1<=(dk n e).2/\(dk n e).2<=12):=by
 by_cases hev : yk n e
 rotate_left
 ·rw [mV hev];exact .inr ⟨rfl,by simp,by simp⟩
 obtain ⟨i,hi⟩ : ∃ i : Nat,e.who = i:=⟨e.who.toNat,by have:=hev.2.1;omega⟩;have hl : i < n.reps.length:=by have:=hev.2.1;omega
 rw [lk hev hi hl];have hat:=N.1.2.2 i hl;have hrin:=N.2.2 _ (List.getElem_mem hl);unfold vT;by_cases k1 : e.kind = 1
 ·rw [if_pos k1]
  split
  ·rename_i hy
   obtain ⟨a1,a2,a3,a4,a5⟩:=vU hy;rw [a3];refine .inl ⟨rfl,lE N hl ⟨a4,hat.2.1,hat.2.2.1,hat.2.2.2.1,hat.2.2.2.2⟩ hrin ?_ (by simp only [cM];omega)⟩;have : ∀ q : Prop,(gq n.d (cM n.reps[i] (aT n.reps[i].buf e.o).1) ↔ gq n.d n.reps[i]):=λ_=>Iff.rfl
   unfold pend;by_cases q : gq n.d n.reps[i]
   ·rw [if_pos ((this True).2 q),if_pos q]
    show 0 + Pn (aT n.reps[i].buf e.o).1<=_
    omega
   ·rw [if_neg (λz=>q ((this True).1 z)),if_neg q]
    show Pn n.reps[i].sent + Pn (aT n.reps[i].buf e.o).1<=_
    omega
  ·exact .inr ⟨rfl,by simp,by simp⟩
 rw [if_neg k1];by_cases k2 : e.kind = 2
 ·rw [if_pos k2]
  split
  ·rename_i hy
   have c : ar n.reps[i]/\n.reps[i].has = false/\¬ idle n.reps[i].buf/\n.reps[i].seq≠999999999:=Classical.byContradiction λc=>by rw [cw c] at hy;cases hy
   rw [fc c];have st:=tu N hl (x:=cd n.reps[i]) rfl (pf N.1.1 N.2.1 (qK hat c)).1 (by rw [qM c.1,lQ c.1 c.2.1];exact Nat.le_refl _) (by simp only [cd];omega);exact .inl ⟨rfl,⟨st.inn,Nat.le_trans (m:=tot n + 0) st.tot (by omega),st.head,st.seq,st.len⟩⟩
  ·exact .inr ⟨rfl,by simp,by simp⟩
 rw [if_neg k2];by_cases k3 : e.kind = 3
 ·rw [if_pos k3]
  split
  ·rename_i hy
   have c : ar n.reps[i]/\n.reps[i].has = false/\¬ idle n.reps[i].buf/\n.reps[i].seq≠999999999:=Classical.byContradiction λc=>by rw [cw c] at hy;cases hy
   rw [fc c];have w:=qK hat c;have hno : ¬ gq n.d (cd n.reps[i]):=λq=>by have:=q.2;have:=w.seq;omega
   have hatS : cH n.d i (cd n.reps[i]):=⟨w.ok,w.client,w.rev,w.text,oD (λq=>by have:=w.seq;omega) ⟨rfl,w.seq⟩⟩;have st:=lE N hl (P:=Pn e.o) hatS (λq=>absurd q hno) (by rw [oK hno,qM c.1,lQ c.1 c.2.1];omega) (Int.le_refl (n.reps[i].seq + 1));exact .inl ⟨rfl,st⟩
  ·exact .inr ⟨rfl,by simp,by simp⟩
 rw [if_neg k3];by_cases k4 : e.kind = 4
 ·rw [if_pos k4]
  split
  ·rename_i hy
   have c : ar n.reps[i]/\n.reps[i].has = true:=Classical.byContradiction λc=>by unfold aP at hy;rw [if_neg c] at hy;cases hy
   have er : aP n.reps[i] = (du n.reps[i],true):=by unfold aP;rw [if_pos c]
   rw [er];refine .inl ⟨rfl,?_⟩;simp only;by_cases q : gq n.d n.reps[i]
   ·rw [Cr N.1.1 c.1 q];exact Step.same N
   ·have st:=tu N hl (x:=n.reps[i]) rfl (pf N.1.1 N.2.1 (A0 hat c.2 q)).1 (by rw [oK q];exact Nat.le_refl _) (by omega)
    rw [List.set_getElem_self] at st;exact ⟨st.inn,Nat.le_trans (m:=tot n + 0) st.tot (by omega),st.head,st.seq,st.len⟩
  ·exact .inr ⟨rfl,by simp,by simp⟩
 rw [if_neg k4];by_cases k5 : e.kind = 5
 ·rw [if_pos k5]
  unfold eV;by_cases m0 : e.n < 0
  ·rw [if_pos m0];simp
  rw [if_neg m0];have hh:=aI N.1.1;have hrev:=hat.2.2.1
  have hfe : cZ n.d n.reps[i].rev = if n.reps[i].rev < n.d.fr then ([],3) else (n.d.list.drop (n.reps[i].rev - n.d.fr).toNat,0):=by
   unfold cZ;rw [if_pos N.1.1,if_neg (by omega)]
  rw [hfe];by_cases q : n.reps[i].rev < n.d.fr
  ·rw [if_pos q];simp
  rw [if_neg q,if_pos rfl];simp only;by_cases hy : (cq n.reps[i] ((n.d.list.drop (n.reps[i].rev - n.d.fr).toNat).take e.n.toNat)).2 = true
  ·rw [if_pos hy,if_pos rfl]
   refine .inl ⟨rfl,?_⟩;unfold cq at hy ⊢;rw [if_pos hat.1] at hy ⊢
   cases hx : cj n.reps[i] ((n.d.list.drop (n.reps[i].rev - n.d.fr).toNat).take e.n.toNat) with
   | none=>rw [hx] at hy;simp at hy
   | some x =>
     obtain ⟨t,u⟩:=Bx N.1.1 N.2.1 _ (Cl N hl (by omega)) hx;have st:=lE N hl (P:=Pn e.o) t.at_ t.inn (by have:=u.pend;omega) (by rw [u.seq];omega);exact st
  ·rw [if_neg hy,if_neg (by simp)]
   exact .inr ⟨rfl,by simp,by simp⟩
 rw [if_neg k5];obtain ⟨a1,a2,a3,a4,a5,a6⟩:=Dq N hl;refine .inl ⟨rfl,lE N hl a1 (λq=>absurd q (r9 a2)) ?_ (by omega)⟩;rw [lQ a1.1 a2,a6];omega
set_option maxHeartbeats 1600000
def lY (n : Net) : Prop:=∀ r∈n.reps,co r = aV n.d
theorem vQ (r : Rep) (h : bc r<=2 ^ 30) : (co r).length<=2 ^ 40:=by
 unfold co
 split
 ·have:=sT [r.sent,r.buf] r.text
  unfold bc at h;omega
 ·simp
theorem jG (n : Net) (hl : eX n<=2 ^ 30) : aj Tryz.prog 60 [.agg n.row] (.one (.c (vb (lY n)) 1)):=by
 refine pci ae Tryz.func60 (λw0 base=>?_);obtain ⟨d,l⟩:=n;unfold eX at hl;simp only at hl;have hle:=bL (f:=bc) (B:=2 ^ 30) (l:=l) (by omega);simp [Net.row];intro b1
 refine aw eok (λi : Nat=>i<=l.length/\∀ r∈l.take i,co r = aV d) (λi=>⟨20,0,[(1,.p 16 b1 0),(8,.v (.int .i64 i)),(7,.v (.int .i64 l.length)),(6,.ro (l.map Rep.row))],
  [(16,.vars b1 92 [.v (.string d.name),.v (.int .i64 d.fr),.ro (d.text.map aB),.ro (d.list.map Entry.row),.ro (d.seen.map Seen.row),.ro (l.map Rep.row)])]⟩) (λi=>l.length - i) 0 (by simp) (by simp) (λi hi=>Ent.refl ?_)
 by_cases hlt : i < l.length
 ·have hm:=dy (f:=bc) (B:=2 ^ 30) (l:=l) (by omega) (List.getElem_mem hlt)
  obtain ⟨r,hr⟩ : ∃ r,l[i] = r:=⟨_,rfl⟩;have hmem : r∈l:=hr ▸ List.getElem_mem hlt;rw [hr] at hm;have hlen:=vQ r hm;simp [hlt,hr,Rep.row];intro b4;refine aY.quiet eok mix (by kernel_rfl) ?_;simp;refine ⟨_,_,gW r hm,by simp [Rep.row],?_⟩;simp;refine ⟨_,_,jH d (by omega),by simp [Doc.row],?_⟩;simp;refine ⟨_,_,fp (co r) (aV d) hlen,by simp,?_⟩;by_cases c1 : co r = aV d
  ·simp [c1]
   refine Ent.refl ⟨i + 1,⟨by omega,iS (P:=λr=>co r = aV d) hlt hi.2 (by rw [hr];exact c1)⟩,by omega,?_⟩;simp;exact az (by omega)
  ·have h3 : ¬ lY ⟨d,l⟩:=λh=>c1 (h r hmem)
   simp [c1,ag h3]
 ·have h3 : lY ⟨d,l⟩:=λr hr=>hi.2 r (by rw [List.take_of_length_le (by omega)];exact hr)
  simp [hlt,h3]
structure SN (n : Net) (k : Int) : Prop where
 inn : NIn n
 tot : tot n<=200
 head : ab n.d<=k
 seq : ∀ r∈n.reps,r.seq<=k
theorem SN.step {n n' : Net} {k : Int} (S : SN n k) (s : Step n n' 0) : SN n' (k + 1):=⟨s.inn,by have:=s.tot;have:=S.tot;omega,by have:=s.head;have:=S.head;omega,s.seq k S.seq⟩
theorem SN.up {n : Net} {k k' : Int} (S : SN n k) (h : k<=k') : SN n k':=⟨S.inn,S.tot,by have:=S.head;omega,λr hr=>by have:=S.seq r hr;omega⟩
theorem SN.ev {n : Net} {k : Int} (S : SN n k) {e : Event} (he : e.o = []) : SN (dk n e).1 (k + 1):=by
 rcases Bb S.inn e with h | h
 ·have s:=h.2
  rw [he] at s;exact S.step s
 ·rw [h.1];exact S.up (by omega)
theorem SN.room {n : Net} {k : Int} (S : SN n k) {i : Nat} (hi : i < n.reps.length) : n.d.text.length + kz n.d.list + pend n.d n.reps[i]<=200:=by
 have h1 : n.d.text.length + kz n.d.list + fU n.d n.reps<=200:=S.tot;have h2:=tj n.d hi;omega
theorem pn {r : Rep} (h : dv r) : co r = r.text:=by
 have h1:=(Ak h.1).1;have hs : idle r.sent:=by have:=h.1.2.2.2.2.2.2.2.2;rw [h.2.1] at this;simpa using this
 have e1:=w8 hs (oH h.1);have f2:=wB h.1;rw [e1] at f2;have e2:=w8 h.2.2 f2;rw [h1];unfold rt;rw [e1,e2]
theorem oG {n : Net} (h : eA n) (c : gM n) : lY n:=λr hr=>by
 obtain ⟨i,hi,rfl⟩:=List.getElem_of_mem hr;obtain ⟨a1,a2⟩:=c _ (List.getElem_mem hi);rw [pn a1];have hh:=aI h.1;have b:=(h.2.2 i hi).2.2.2.1;rw [a2] at b;exact (b (dD h.1 (by omega) (Int.le_refl _)).1).symm
theorem wL {n : Net} (h : eA n) : ∀ r∈n.reps,dv r->(aR n.d r.rev).2 = true->co r = (aR n.d r.rev).1:=λr hr c ht=>by
 obtain ⟨i,hi,rfl⟩:=List.getElem_of_mem hr;rw [pn c];exact ((h.2.2 i hi).2.2.2.1 ht).symm
theorem F7 {name : ByteArray} {t : List Int} {many : Int} (hn : es name) (ht : bY t) (hm : 1<=many/\many<=4) : (en name t many).2 = true/\NIn (en name t many).1/\tot (en name t many).1 = t.length/\ab (en name t many).1.d = 0/\∀ r∈(en name t many).1.reps,r.seq = 0:=by
 have d0 : aK (fS name t):=⟨hn,by simp [fS],ht,by simp [fS],by simp [fS],by simp [fS,ak],λi h=>by simp [fS] at h⟩;have ed : dY name t = (fS name t,true):=by unfold dY;rw [if_pos d0]
 rw [ny ⟨by rw [ed],hm.1,hm.2⟩,ed];simp only;have hk:=fQ (n:=(t.length : Int)) (by omega) (by have:=ht.1;omega)
 have r0 : ∀ c : Int,1<=c/\c<=8->ar (bp c 0 0 t):=λc hc=>
  ⟨by simp only [bp];omega,by simp [bp],by simp [bp],ht,hk.1,hk.1,hk.2.1,by simp only [bp];rw [hk.2.1,hk.2.2.1],by simpa [bp] using hk.2.2.2⟩
 have hd0 : ab (fS name t) = 0:=by have:=(aI d0).1;simpa [fS] using this
 have tx0 : aR (fS name t) 0 = (t,true):=rT d0;have seen0 : ∀ c,aG (fS name t) c = (⟨0,0,0⟩,false):=λc=>by simp [aG,fS]
 have hget : ∀ j,∀ hj : j < (dX t many.toNat).length,(dX t many.toNat)[j] = bp ((j : Int) + 1) 0 0 t:=λj hj=>by
  have hj2 : j < many.toNat:=by rw [eJ] at hj;exact hj
  have h1 : (dX t many.toNat)[j]? = some (bN ((j : Int) + 1) 0 0 t).1:=by
   unfold dX;rw [List.getElem?_map,List.getElem?_range hj2];rfl
  rw [List.getElem?_eq_getElem hj] at h1
  injection h1 with h1
  rw [h1];unfold bN;rw [cC (r0 _ (by omega))]
 have hP : ∀ c,Pn (bp c 0 0 t).buf = 0:=λc=>sw hk.2.2.2
 refine ⟨trivial,⟨⟨d0,by rw [eJ];omega,λj hj=>?_⟩,λj e he=>by simp [fS] at he,λr hr=>?_⟩,?_,hd0,λr hr=>?_⟩
 ·simp only at hj ⊢
  rw [hget j hj];have hj2 : j < many.toNat:=by rw [eJ] at hj;exact hj
  refine ⟨r0 _ (by omega),rfl,by simp only [bp];omega,λ_=>by simp only [bp];rw [tx0],lK (by rw [seen0];rfl) (by simp [bp])⟩
 ·simp only at hr ⊢
  obtain ⟨j,hj,rfl⟩:=List.getElem_of_mem hr;rw [hget j hj];exact λq=>absurd q (r9 rfl)
 ·unfold tot
  have : fU (fS name t) (dX t many.toNat) = 0:=by
   have key : ∀ l : List Rep,(∀ r∈l,pend (fS name t) r = 0)->fU (fS name t) l = 0:=by
    intro l
    induction l with
    | nil=>intro _;rfl
    | cons r l ih=>intro h;rw [fU,h r (List.mem_cons_self ..),ih (λx hx=>h x (List.mem_cons_of_mem _ hx))]
   refine key _ (λr hr=>?_);obtain ⟨j,hj,rfl⟩:=List.getElem_of_mem hr;have hj2 : j < many.toNat:=by rw [eJ] at hj;exact hj
   rw [hget j hj,lQ (r0 _ (by omega)) rfl,hP]
  simp only;rw [this];simp [fS,kz]
 ·obtain ⟨j,hj,rfl⟩:=List.getElem_of_mem hr
  rw [hget j hj];rfl
set_option maxHeartbeats 3200000
theorem ru (n : Net) (hl : eX n<=2 ^ 30) : aj Tryz.prog 141 [.agg n.row] (.one (.agg n.res)):=by
 refine pci ae Tryz.func141 (λw0 base=>?_);obtain ⟨d,l⟩:=n;unfold eX at hl;simp only at hl;have hle:=bL (f:=bc) (B:=2 ^ 30) (l:=l) (by omega);simp [Net.row];intro b1 b2;refine aa.pure (m5 d (by omega)) (by simp [Doc.row]) ?_;simp [Doc.res];intro H2 H3 H4 b3
 refine aw eok (λx : Nat × Hd=>x.1<=l.length) (λx=>⟨26,0,[(13,.v (.int .i64 x.1)),(12,.v (.int .i64 l.length)),(11,.ro (l.map Rep.row)),(3,.p 48 b3 0),(2,.p 32 b2 0)],
  [(48, .vars b3 92 [.v (.string d.name), .v (.int .i64 d.fr), .sl 130 H2 1 0 d.text.length, .sl 131 H3 3 0 d.list.length, .sl 132 H4 3 0 d.seen.length, .sl 5000 x.2 7 0 x.1]), (32, .vars b2 92 [.v (.string ⟨#[]⟩), .v (.int .i64 0), .nil, .nil, .nil, .nil]),
   (130,.rows H2 1 (d.text.map aB) true),(131,.rows H3 3 (d.list.map Entry.row) true),(132,.rows H4 3 (d.seen.map Seen.row) true),(5000,.rows x.2 7 ((l.take x.1).map Rep.row) true)]⟩) (λx=>l.length - x.1) (0,none) (by simp) (by simp) (λx hi=>Ent.refl ?_)
 obtain ⟨i,H⟩:=x;simp only at hi ⊢;by_cases hlt : i < l.length
 ·have hm:=dy (f:=bc) (B:=2 ^ 30) (l:=l) (by omega) (List.getElem_mem hlt)
  have e1 : min i l.length = i:=by omega
  simp [hlt,Rep.row];intro b5;refine drw eok mix [0,1,2,6] [3,4,5,7] (.c 4 3 2 13 (.c 4 4 0 13 (.c 4 5 4 9 (.c 4 7 9 0 (.l 4 0) .s) .s) .s) .s) ?_;simp
  try intros
  refine aa.pure (ij l[i] hm) (by simp [Rep.row]) ?_;simp [Rep.res]
  try intros
  simp [e1];refine ⟨by omega,λH'=>Ent.refl ⟨i + 1,by omega,by omega,H',?_⟩⟩;simp;exact ⟨az (by omega),eI (f:=Rep.row) hlt⟩
 ·have hm : i = l.length:=by omega
  subst hm;simp [Net.res]
theorem xY (n : Net) (hl : eX n<=2 ^ 30) : aj Tryz.prog 317 [.agg n.row] (.one (.agg n.res)):=by
 refine pci ae Tryz.func317 (λw0 base=>?_);obtain ⟨d,l⟩:=n;unfold eX at hl;simp only at hl;have hle:=bL (f:=bc) (B:=2 ^ 30) (l:=l) (by omega);simp [Net.row];intro b1 b2;refine aa.pure (ka d (by omega)) (by simp [Doc.row]) ?_;simp [Doc.res];intro H2 H3 H4 b3
 refine aw eok (λx : Nat × Hd=>x.1<=l.length) (λx=>⟨26,0,[(13,.v (.int .i64 x.1)),(12,.v (.int .i64 l.length)),(11,.ro (l.map Rep.row)),(3,.p 48 b3 0),(2,.p 32 b2 0)],
  [(48, .vars b3 92 [.v (.string d.name), .v (.int .i64 d.fr), .sl 130 H2 1 0 d.text.length, .sl 131 H3 3 0 d.list.length, .sl 132 H4 3 0 d.seen.length, .sl 5000 x.2 7 0 x.1]), (32, .vars b2 92 [.v (.string ⟨#[]⟩), .v (.int .i64 0), .nil, .nil, .nil, .nil]),
   (130,.rows H2 1 (d.text.map aB) true),(131,.rows H3 3 (d.list.map Entry.row) true),(132,.rows H4 3 (d.seen.map Seen.row) true),(5000,.rows x.2 7 ((l.take x.1).map Rep.row) true)]⟩) (λx=>l.length - x.1) (0,none) (by simp) (by simp) (λx hi=>Ent.refl ?_)
 obtain ⟨i,H⟩:=x;simp only at hi ⊢;by_cases hlt : i < l.length
 ·have hm:=dy (f:=bc) (B:=2 ^ 30) (l:=l) (by omega) (List.getElem_mem hlt)
  have e1 : min i l.length = i:=by omega
  simp [hlt,Rep.row];intro b5;refine drw eok mix [0,1,2,6] [3,4,5,7] (.c 4 3 2 13 (.c 4 4 0 13 (.c 4 5 4 9 (.c 4 7 9 0 (.l 4 0) .s) .s) .s) .s) ?_;simp
  try intros
  refine aa.pure (ic l[i] hm) (by simp [Rep.row]) ?_;simp [Rep.res]
  try intros
  simp [e1];refine ⟨by omega,λH'=>Ent.refl ⟨i + 1,by omega,by omega,H',?_⟩⟩;simp;exact ⟨az (by omega),eI (f:=Rep.row) hlt⟩
 ·have hm : i = l.length:=by omega
  subst hm;simp [Net.res]
theorem mY {l : List Entry} {k : Nat} (_h : k<=l.length) : cut (l.map Entry.row) 0 k = (l.take k).map Entry.row:=by
 rw [dV,List.drop_zero,<- List.map_take]
theorem uD {d : Doc} {rev : Int} {B : Nat} (h : nL bI d.list<=B) : nL bI (cZ d rev).1<=B:=by
 unfold cZ
 split
 ·split
  ·simp [nL,ca]
  ·split
   ·simp [nL,ca]
   ·exact l6 h
 ·simp [nL,ca]
theorem th {α : Type} (l : List α) (m : Nat) : l.take (min m l.length) = l.take m:=by
 rcases Nat.le_total m l.length with h | h
 ·rw [Nat.min_eq_left h]
 ·rw [Nat.min_eq_right h,List.take_of_length_le (Nat.le_refl _),List.take_of_length_le h]
theorem vJ (n : Net) (hl : eX n<=2 ^ 30) (r : Rep) (hr : bc r<=2 ^ 28) (many : Int) : aj Tryz.prog 146 [.agg n.row,.agg r.row,.c (vi many)] (.tup [.agg (eV n.d r many).1.res,.c (vi (eV n.d r many).2) 1]):=by
 refine pci ae Tryz.func146 (λw0 base=>?_);obtain ⟨d,l⟩:=n;unfold eX at hl;simp only at hl;simp [Net.row,Rep.row];intro b3 b4 b6;by_cases c1 : many < 0
 ·simp [c1,eV,Rep.res,Rep.zero]
 obtain ⟨m,rfl⟩ : ∃ m : Nat,many = m:=⟨many.toNat,by omega⟩
 have e : eV d r m = if (cZ d r.rev).2 = 0 then (if (cq r ((cZ d r.rev).1.take m)).2 = true then ((cq r ((cZ d r.rev).1.take m)).1,0) else (Rep.zero,1)) else (Rep.zero,(cZ d r.rev).2):=by
  unfold eV;rw [if_neg c1];rfl
 simp;refine aa.pure (um d (by omega) r.rev) (by simp [Doc.row]) ?_;have hn:=uD (rev:=r.rev) (bO (d:=d) (B:=2 ^ 30) (by omega)).1;generalize cZ d r.rev = R at e hn ⊢;obtain ⟨L,code⟩:=R;simp only at e hn ⊢;simp;intro H1;by_cases c2 : code = 0
 rotate_left
 ·rw [if_neg c2] at e
  simp [c2,e,Rep.res,Rep.zero]
 rw [if_pos c2] at e;have hL:=bL hn;have hk : min m L.length<=L.length:=Nat.min_le_right ..;have hc:=sk r hr (L.take (min m L.length)) (by have:=oc (k:=min m L.length) hn;omega);rw [th] at hc;have hcut:=mY hk;rw [th] at hcut;generalize cq r (L.take m) = Q at e hc;obtain ⟨x_,ok⟩:=Q;simp only at e hc;simp [c2];refine iY (λx : Hd × Hd × Hd × Nat=>[(10,.p 160 x.2.2.2 0),(11,.v (.bool ok))]) (λx=>[(160,.vars x.2.2.2 103 [.v (.int .i64 x_.client),.v (.int .i64 x_.seq),.v (.int .i64 x_.rev),.sl 563 x.1 1 0 x_.text.length,.v (.bool x_.has),.sl 565 x.2.1 3 0 x_.sent.length,.sl 566 x.2.2.1 3 0 x_.buf.length]),(563,.rows x.1 1 (x_.text.map aB) true),(565,.rows x.2.1 3 (x_.sent.map Part.row) true),(566,.rows x.2.2.1 3 (x_.buf.map Part.row) true)]) [6] ?_ ?_
 ·refine drw eok mix [0,1,2,3,4,5,6] [7,8,9,10,11,12,13] (.c 7 7 65 62 (.c 7 8 0 62 (.c 7 9 0 62 (.c 7 10 0 62 (.c 7 11 0 62 (.c 7 12 62 0 (.c 7 13 0 0 (.l 7 0) .s) .s) .s) .s) .s) .s) (.c 7 11 0 127 (.c 7 7 65 62 (.c 7 8 0 62 (.c 7 9 0 62 (.c 7 10 0 62 (.c 7 12 62 0 (.c 7 13 0 0 (.l 7 0) .s) .s) .s) .s) .s) .s) .s)) ?_
  simp [sY,hk]
  try intros
  repeat' first
   | (refine aa.pure (hc) (by simp [Rep.row,hcut,hk]) ?_;simp [Rep.res];try intros)
   | (rw [Trc];refine ⟨?_,?_⟩<;>(try simp [sY,hk])<;>try intros)
 rintro ⟨G3,G5,G6,b10⟩
 simp
 cases ok with
 | false=>simp at e;simp [e,Rep.res,Rep.zero]
 | true=>simp at e;simp [e,Rep.res]
set_option maxHeartbeats 6400000
theorem oZ {d : Doc} (h : aK d) : (aV d).length<=200:=by
 have h9:=(dD h (rev:=ab d) (by have:=aI h;omega) (Int.le_refl _)).2.2.1.1;unfold aV;exact h9
theorem cQ {l : List Rep} {i : Nat} {a b c d e f g : CD} : ∀ row∈(l.map Rep.row).set i [a,b,c,d,e,f,g],row.length = 7:=by
 intro row h;rcases List.mem_or_eq_of_mem_set h with h | rfl
 ·rw [List.mem_map] at h
  obtain ⟨a,-,rfl⟩:=h;rfl
 ·rfl
theorem nw {r : Rep} (h : bc r<=2 ^ 20) : nL al (bV r).2.1.o<=2 ^ 22:=by
 by_cases c : ar r/\r.has = false/\¬ idle r.buf/\r.seq≠999999999
 ·rw [fc c]
  unfold bc at h
  show nL al r.buf<=_
  omega
 ·rw [cw c];simp [Call.zero,nL,ca]
theorem kS {r : Rep} (h : bc r<=2 ^ 20) : nL al (aP r).1.o<=2 ^ 22:=by
 unfold bc at h;unfold aP
 split
 ·show nL al r.sent<=_
  omega
 ·simp [Call.zero,nL,ca]
theorem ul (n : Net) (hl : eX n<=2 ^ 28) (e : Event) (he : jB e<=2 ^ 40) : aj Tryz.prog 51 [.agg n.row,.agg e.row] (.tup [.agg (dk n e).1.res,.c (vi (dk n e).2) 1]):=by
 refine pci ae Tryz.func51 (λw0 base=>?_);obtain ⟨d,l⟩:=n;obtain ⟨kind,who,many,o⟩:=e;have hl0:=hl;unfold eX at hl;unfold jB at he;simp only at hl he;have hle:=bL (f:=bc) (B:=2 ^ 28) (l:=l) (by omega);simp [Net.row,Event.row];intro b2 b3 b4;refine aa.pure (ru ⟨d,l⟩ (by omega)) (by simp [Net.row]) ?_;simp [Net.res];intro H2 H3 H4 H5 b6;refine aa.pure (jF ⟨d,l⟩ (by omega)) (by simp [Net.row]) ?_;have hno : ¬ yk ⟨d,l⟩ ⟨kind,who,many,o⟩->dk ⟨d,l⟩ ⟨kind,who,many,o⟩ = (⟨d,l⟩,1):=mV;by_cases c1 : eA ⟨d,l⟩
 rotate_left
 ·have e:=hno (λh=>c1 h.1)
  simp [ag c1,e]
 have ew : Go.IntKind.i64.wrap ((l.length : Int) - 1) = (l.length : Int) - 1:=Go.IntWalk.i64_in _ (by omega);simp [c1,ew];refine aa.pure (bm who 0 ((l.length : Int) - 1)) (by simp) ?_;by_cases c2 : 0<=who/\who<=(l.length : Int) - 1
 rotate_left
 ·have e:=hno (λh=>c2 (by have:=h.2.1;simp only at this;omega))
  simp [ag c2,e]
 simp [c2];refine aa.pure (bm kind 1 6) (by simp) ?_;by_cases c3 : 1<=kind/\kind<=6
 rotate_left
 ·have e:=hno (λh=>c3 h.2.2)
  simp [ag c3,e]
 obtain ⟨i,rfl⟩ : ∃ i : Nat,who = i:=⟨who.toNat,by omega⟩;have hi : i < l.length:=by omega
 have e : dk ⟨d,l⟩ ⟨kind,i,many,o⟩ = vT ⟨d,l⟩ i l[i] ⟨kind,i,many,o⟩:=lk (e:=⟨kind,i,many,o⟩) ⟨c1,by simp only;omega,c3⟩ rfl hi;have hm:=lM (c1.2.2 i hi).1;have hdn:=sI c1.1;have anew:=sU c1 hi;simp only at hm anew;simp [c3];refine aa.pure (ru ⟨d,l⟩ (by omega)) (by simp [Net.row]) ?_;simp [Net.res,hi];intro K2 K3 K4 K5 b7 b11;unfold vT at e;simp only at e;generalize hr : l[i] = r at e hm anew;have hk : kind = 1\/kind = 2\/kind = 3\/kind = 4\/kind = 5\/kind = 6:=by omega
 rcases hk with rfl | rfl | rfl | rfl | rfl | rfl
 ·-- an edit
  have hc:=qe r (by omega) o he;generalize dg r o = R at e hc;obtain ⟨x_,ok⟩:=R;simp at e hc;simp;refine drw eok mix [0,1,2,3,4,5,10] [6,7,8,9,11,12] (.c 7 6 10 117 (.c 7 7 0 117 (.c 7 8 0 117 (.c 7 9 0 117 (.c 7 11 117 0 (.c 7 12 0 0 (.l 7 0) .s) .s) .s) .s) .s) .s) ?_;simp [hi,hr,Rep.row]
  try intros
  refine aa.pure (hc) (by simp [Rep.row]) ?_;simp [Rep.res,hi]
  try intros
  cases ok with
  | false=>simp at e;simp [e]
  | true=>simp at e;simp [e,dI,Rep.row];exact cQ
 ·-- sent
  have hcn:=nw hm;have hc:=kO r hm;generalize bV r = R at e hc hcn;obtain ⟨x_,c_,ok⟩:=R;simp at e hc hcn;simp [hi,hr,Rep.row];refine aa.pure hc (by simp [Rep.row]) ?_;simp [Rep.res,Call.res,hi];intros
  cases ok with
  | false=>simp at e;simp [e]
  | true=>
  simp at e;simp;refine inl ae Tryz.func144 20000 (λw1 F=>?_);simp;intros;have hs:=md d (by omega) c_.client c_.seq c_.n c_.o (by omega);unfold dZ at e;generalize bf d c_.client c_.seq c_.n c_.o = S at e hs;obtain ⟨D,rev,code⟩:=S;simp only at e hs;refine iY (λx : Hd × Hd × Hd × Nat=>[(4,.p 20064 x.2.2.2 0),(5,.v (.int .i64 rev)),(6,.v (.int .i64 code))]) (λx=>[(20064,.vars x.2.2.2 89 [.v (.string D.name),.v (.int .i64 D.fr),.sl 20322 x.1 1 0 D.text.length,.sl 20323 x.2.1 3 0 D.list.length,.sl 20324 x.2.2.1 3 0 D.seen.length]),(20322,.rows x.1 1 (D.text.map aB) true),(20323,.rows x.2.1 3 (D.list.map Entry.row) true),(20324,.rows x.2.2.1 3 (D.seen.map Seen.row) true)]) [0,3] ?_ ?_
  ·refine drw eok mix [0,1,2,3,4,5,6,7,8,9,10,11] [12,13,14,15,16,17,18,19,20] (.c 12 12 341 3754 (.c 12 13 0 3754 (.c 12 14 0 3754 (.c 12 15 0 3754 (.c 12 16 0 3754 (.c 12 17 0 3754 (.c 12 18 3754 0 (.c 12 19 0 0 (.c 12 20 0 0 (.l 12 0) .s) .s) .s) .s) .s) .s) .s) .s) (.c 12 17 0 4095 (.c 12 12 341 3754 (.c 12 13 0 3754 (.c 12 14 0 3754 (.c 12 15 0 3754 (.c 12 16 0 3754 (.c 12 18 3754 0 (.c 12 19 0 0 (.c 12 20 0 0 (.l 12 0) .s) .s) .s) .s) .s) .s) .s) .s) .s)) ?_
   simp
   try intros
   repeat' first
    | (refine aa.pure (hs) (by simp [Doc.row]) ?_;simp [Doc.res];try intros)
    | (rw [Trc];refine ⟨?_,?_⟩<;>(try simp)<;>try intros)
  rintro ⟨G2,G3,G4,bd⟩
  simp;by_cases hz : code = 0
  ·rw [if_pos hz] at e
   simp [hz,e,Rep.row];exact cQ
  ·rw [if_neg hz] at e
   simp [hz,e,Rep.row];exact cQ
 ·-- lost
  have hc:=kO r hm;generalize bV r = R at e hc;obtain ⟨x_,c_,ok⟩:=R;simp at e hc;simp [hi,hr,Rep.row];refine aa.pure hc (by simp [Rep.row]) ?_;simp [Rep.res,Call.res,hi];intros
  cases ok with
  | false=>simp at e;simp [e]
  | true=>simp at e;simp [e,dI,Rep.row];exact cQ
 ·-- again
  have hcn:=kS hm;have hc:=nR r hm;generalize aP r = R at e hc hcn;obtain ⟨c_,ok⟩:=R;simp at e hc hcn;simp [hi,hr,Rep.row];refine aa.pure hc (by simp [Rep.row]) ?_;simp [Call.res];intros
  cases ok with
  | false=>simp at e;simp [e]
  | true=>
  simp at e;simp;refine inl ae Tryz.func144 20000 (λw1 F=>?_);simp;intros;have hs:=md d (by omega) c_.client c_.seq c_.n c_.o (by omega);unfold dZ at e;generalize bf d c_.client c_.seq c_.n c_.o = S at e hs;obtain ⟨D,rev,code⟩:=S;simp only at e hs;refine iY (λx : Hd × Hd × Hd × Nat=>[(4,.p 20064 x.2.2.2 0),(5,.v (.int .i64 rev)),(6,.v (.int .i64 code))]) (λx=>[(20064,.vars x.2.2.2 89 [.v (.string D.name),.v (.int .i64 D.fr),.sl 20322 x.1 1 0 D.text.length,.sl 20323 x.2.1 3 0 D.list.length,.sl 20324 x.2.2.1 3 0 D.seen.length]),(20322,.rows x.1 1 (D.text.map aB) true),(20323,.rows x.2.1 3 (D.list.map Entry.row) true),(20324,.rows x.2.2.1 3 (D.seen.map Seen.row) true)]) [0,3] ?_ ?_
  ·refine drw eok mix [0,1,2,3,4,5,6,7,8,9,10,11] [12,13,14,15,16,17,18,19,20] (.c 12 12 341 3754 (.c 12 13 0 3754 (.c 12 14 0 3754 (.c 12 15 0 3754 (.c 12 16 0 3754 (.c 12 17 0 3754 (.c 12 18 3754 0 (.c 12 19 0 0 (.c 12 20 0 0 (.l 12 0) .s) .s) .s) .s) .s) .s) .s) .s) (.c 12 17 0 4095 (.c 12 12 341 3754 (.c 12 13 0 3754 (.c 12 14 0 3754 (.c 12 15 0 3754 (.c 12 16 0 3754 (.c 12 18 3754 0 (.c 12 19 0 0 (.c 12 20 0 0 (.l 12 0) .s) .s) .s) .s) .s) .s) .s) .s) .s)) ?_
   simp
   try intros
   repeat' first
    | (refine aa.pure (hs) (by simp [Doc.row]) ?_;simp [Doc.res];try intros)
    | (rw [Trc];refine ⟨?_,?_⟩<;>(try simp)<;>try intros)
  rintro ⟨G2,G3,G4,bd⟩
  simp;by_cases hz : code = 0
  ·rw [if_pos hz] at e
   simp [hz,e]
  ·rw [if_neg hz] at e
   simp [hz,e]
 ·-- polled
  have hc:=vJ ⟨d,l⟩ (by omega) r (by omega) many;simp only at hc;generalize eV d r many = R at e hc;obtain ⟨x_,code⟩:=R;simp at e hc;simp;refine drw eok mix [0,1,2,3,4,5,6,7,8,9,14] [10,11,12,13,15,16] (.c 11 10 522 1525 (.c 11 11 0 1525 (.c 11 12 0 1525 (.c 11 13 0 1525 (.c 11 15 1525 0 (.c 11 16 0 0 (.l 11 0) .s) .s) .s) .s) .s) .s) ?_;simp [hi,hr,Rep.row]
  try intros
  refine aa.pure (hc) (by simp [Net.row,Rep.row]) ?_;simp [Rep.res,hi]
  try intros
  by_cases hz : code = 0
  ·rw [if_pos hz] at e;simp [hz,e,dI,Rep.row];exact cQ
  ·rw [if_neg hz] at e;simp [hz,e]
 ·-- anew
  have hsc:=ge d (by omega) r.client;have hx:=sj r.client (aG d r.client).1.seq (ab d) (aV d) (by have:=oZ (d:=d) c1.1;omega);unfold fd at e;generalize bN r.client (aG d r.client).1.seq (ab d) (aV d) = R at e hx anew;generalize aG d r.client = S at hsc hx;obtain ⟨sn,there⟩:=S;obtain ⟨x_,ok⟩:=R;simp at e hx anew;simp;refine iY (λx : Nat=>[(12,.p 192 x 0),(13,.v (.bool there))]) (λx=>[(192,.vars x 188 [.v (.int .i64 sn.client),.v (.int .i64 sn.seq),.v (.int .i64 sn.rev)])]) [2,3,4,5,6,7,8,9,10,11] ?_ ?_
  ·refine drw eok mix [0,1,2,3,4,5] [6,7,8,9,10,11,12] (.c 6 6 17 46 (.c 6 7 0 46 (.c 6 8 0 46 (.c 6 9 0 46 (.c 6 10 0 46 (.c 6 11 46 0 (.c 6 12 0 0 (.l 6 0) .s) .s) .s) .s) .s) .s) (.c 6 10 0 63 (.c 6 6 17 46 (.c 6 7 0 46 (.c 6 8 0 46 (.c 6 9 0 46 (.c 6 11 46 0 (.c 6 12 0 0 (.l 6 0) .s) .s) .s) .s) .s) .s) .s)) ?_
   simp [hi,hr,Rep.row]
   try intros
   repeat' first
    | (refine aa.pure (hsc) (by simp [Doc.row]) ?_;simp [Seen.res];try intros)
    | (rw [Trc];refine ⟨?_,?_⟩<;>(try simp [hi,hr,Rep.row])<;>try intros)
  rintro bs
  simp;refine drw eok mix [0,1,2,3,4,5,6,7,8,10,11,17] [9,12,13,14,15,16,18,19] (.c 12 9 8 4087 (.c 12 12 2 4085 (.c 12 13 160 3925 (.c 12 14 0 3925 (.c 12 15 0 3925 (.c 12 16 0 3925 (.c 12 18 3925 0 (.c 12 19 0 0 (.l 12 0) .s) .s) .s) .s) .s) .s) .s) .s) ?_;simp [hi,hr,Rep.row]
  try intros
  refine aa.pure (bQ d) (by simp [Doc.row]) ?_;simp [hi,hr,Rep.row]
  try intros
  refine aa.pure (jH d (by omega)) (by simp [Doc.row]) ?_;simp [hi,hr,Rep.row]
  try intros
  refine aa.pure (hx) (by simp) ?_;simp [Rep.res,hi]
  try intros
  simp [anew,e,dI,Rep.row];exact cQ
end Go.Proofs.YtoldjebobgocpaaGreat
