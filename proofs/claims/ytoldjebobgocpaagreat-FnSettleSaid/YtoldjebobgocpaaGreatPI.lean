import Derived.Test.YtoldjebobgocpaaGreatPH
import Derived.Test.YtoldjebobgocpaaGreatPF
import Derived.Test.YtoldjebobgocpaaGreatPG
namespace Go.Proofs.YtoldjebobgocpaaGreat
open Go.AM
set_option maxRecDepth 20000
theorem CH (n : Net) (i : Nat) (r : Rep) (e : Event) : (jm n i r e).1.reps.length = n.reps.length:=by
 unfold jm bZ
 split
 ·split<;>simp
 ·split
  ·split<;>simp
  ·split
   ·split<;>simp
   ·split
    ·split<;>simp
    ·split
     ·split<;>simp
     ·simp
theorem p9 (n : Net) (e : Event) : (aL n e).1.reps.length = n.reps.length:=by
 unfold aL
 split
 ·exact CH ..
 ·rfl
noncomputable def lC (n : Net) (i : Nat) : Bool:=match n.reps[i]? with
 | some r=>r.has
 | none=>false
noncomputable def fb (n : Net) (i : Nat) : Net:=if lC n i = true then (aL n ⟨4,i,0,[]⟩).1 else n
noncomputable def eh (n : Net) (i : Nat) : Net:=(aL (fb n i) ⟨2,i,0,[]⟩).1
noncomputable def ib (n : Net) (i : Nat) : Net × Int:=aL (eh n i) ⟨5,i,8,[]⟩
noncomputable def jM (n : Net) (i : Nat) : Net:=if (ib n i).2 = 3 then (aL (ib n i).1 ⟨6,i,0,[]⟩).1 else (ib n i).1
noncomputable def aD (n : Net) : Nat->Net
 | 0=>n
 | i + 1=>jM (aD n i) i
noncomputable def aU (n : Net) : Nat->Net
 | 0=>n
 | k + 1=>aD (aU n k) n.reps.length
open Classical in
noncomputable def gd (n : Net) : Net × Bool:=if dh n then (aU n 6,dc (eV (aU n 6))) else (Net.zero,false)
theorem yK (n : Net) (i : Nat) : (fb n i).reps.length = n.reps.length:=by unfold fb;split<;>simp [p9]
theorem AA (n : Net) (i : Nat) : (jM n i).reps.length = n.reps.length:=by
 unfold jM ib eh
 split<;>simp [p9,yK]
theorem fg (n : Net) : ∀ i,(aD n i).reps.length = n.reps.length
 | 0=>rfl
 | i + 1=>by unfold aD;rw [AA,fg n i]
theorem pC (n : Net) : ∀ k,(aU n k).reps.length = n.reps.length
 | 0=>rfl
 | k + 1=>by unfold aU;rw [fg,pC n k]
theorem Az {n : Net} {i B : Nat} (hB : 2 ^ 26<=B) (h : dw n<=B) : dw (fb n i)<=B/\dw (eh n i)<=B/\dw (ib n i).1<=B/\dw (jM n i)<=B:=by
 have h1 : dw (fb n i)<=B:=by
  unfold fb
  split
  ·exact mX _ hB h
  ·exact h
 have h2 : dw (eh n i)<=B:=mX _ hB h1;have h3 : dw (ib n i).1<=B:=mX _ hB h2;refine ⟨h1,h2,h3,?_⟩;unfold jM
 split
 ·exact mX _ hB h3
 ·exact h3
theorem nB {n : Net} {B : Nat} (hB : 2 ^ 26<=B) (h : dw n<=B) : ∀ i,dw (aD n i)<=B
 | 0=>h
 | i + 1=>(Az hB (nB hB h i)).2.2.2
theorem uK {n : Net} {B : Nat} (hB : 2 ^ 26<=B) (h : dw n<=B) : ∀ k,dw (aU n k)<=B
 | 0=>h
 | k + 1=>nB hB (uK hB h k) _
def Pn (o : List Part) : Nat:=br (ag o)
theorem f5 : ∀ (a b : List At),frA a = frA b->br (tA a b).1 = br a/\br (tA a b).2 = br b
 | .p c :: a, b, h => by
   have:=f5 a b (by simpa [frA] using h);rw [DH];simp [br,this]
 | [], .p c :: b, h => by
   have:=f5 [] b (by simpa [frA] using h);rw [v3 rfl];simp only [br,this.2];exact ⟨this.1,trivial⟩
 | .k :: a, .p c :: b, h => by
   have:=f5 (.k :: a) b (by simpa [frA] using h);rw [v3 rfl];simp only [br,this.2];exact ⟨this.1,trivial⟩
 | .d :: a, .p c :: b, h => by
   have:=f5 (.d :: a) b (by simpa [frA] using h);rw [v3 rfl];simp only [br,this.2];exact ⟨this.1,trivial⟩
 | .k :: a, .k :: b, h => by
   have:=f5 a b (by simpa [frA] using h);rw [tA];simpa [br] using this
 | .d :: a, .k :: b, h => by
   have:=f5 a b (by simpa [frA] using h);rw [tA];simpa [br] using this
 | .k :: a, .d :: b, h => by
   have:=f5 a b (by simpa [frA] using h);rw [tA];simpa [br] using this
 | .d :: a, .d :: b, h => by
   have:=f5 a b (by simpa [frA] using h);rw [tA];simpa [br] using this
 | [],[],_=>by simp [tA,br]
 | [],.k :: b,h=>by simp [frA] at h
 | [],.d :: b,h=>by simp [frA] at h
 | .k :: a,[],h=>by simp [frA] at h
 | .d :: a,[],h=>by simp [frA] at h
termination_by a b=>a.length + b.length
theorem lR (l : List At) : br (gj l) = br l:=by
 have:=(pN l [] 0).1;unfold gj;simpa using this
theorem nt : ∀ a : List At,toA a<=frA a + br a
 | []=>by simp [toA]
 | .k :: a=>by have:=nt a;simp only [toA,frA,br];omega
 | .p c :: a=>by have:=nt a;simp only [toA,frA,br];omega
 | .d :: a=>by have:=nt a;simp only [toA,frA,br];omega
theorem yf {o : List Part} (h : aK o) : cN o<=az o + Pn o:=by
 have h1:=gX h;have h2:=fH h;have:=nt (ag o);unfold Pn;omega
theorem iV {a b : List Part} (h : (ac a b).2.2 = true) : Pn (ac a b).1 = Pn a/\Pn (ac a b).2.1 = Pn b:=by
 have o:=d8 h;have f1:=gX o.oka;have f2:=gX o.okb;have ff:=o.from_;have:=f5 (ag a) (ag b) (by omega);unfold Pn;rw [o.ax,o.ay,lR,lR];exact this
theorem gq {a b : List Part} (ha : aK a) (hb : aK b) (h : az a = az b) (hs : az a + (Pn a + Pn b : Nat)<=200) :
 (ac a b).2.2 = true/\cI (ac a b).1/\cI (ac a b).2.1:=by
 have hi:=mf ha hb h;have hat:=Fd hi;have hk:=Aq hi;have e1 : ag (xf a b).1 = (tA (ag a) (ag b)).1:=by rw [<- hat]
 have e2 : ag (xf a b).2 = (tA (ag a) (ag b)).2:=by rw [<- hat]
 have hfr : frA (ag a) = frA (ag b):=by rw [<- e8,<- e8];exact hi.b
 have l:=iu (ag a) (ag b) hfr;have lc:=f5 (ag a) (ag b) hfr;have lt:=nt (tA (ag a) (ag b)).1;have lb:=nt (ag b);have t3:=fH ha;have t4:=fH hb;have t5:=gX ha;have g1:=ha.2.2;have g2:=hb.2.2;unfold Pn at hs;have n1:=pL hk.1 (by rw [e8,e1,l.1];omega) (by rw [gK hk.1,e1];omega);have n2:=pL hk.2 (by rw [e8,e2,l.2.1];omega) (by rw [gK hk.2,e2,<- l.2.2];omega);have e : ac a b = (normal (xf a b).1,normal (xf a b).2,true):=by unfold ac;rw [if_pos ⟨ha,hb,h⟩,if_pos ⟨n1.1,n2.1⟩]
 have hnn : ∀ {z : List Part},(∀ p∈z,ai p)->aK (normal z)->cI (normal z):=by
  intro z hz ho;have hx:=dL hz;refine ⟨ho,?_⟩;unfold bf;rw [if_pos ho,fW ho.1.1,hx,fW hz];unfold gj;rw [r9]
 rw [e];exact ⟨rfl,hnn hk.1 n1.1,hnn hk.2 n2.1⟩
def lY : List Int->Nat
 | []=>0
 | x :: t=>(if 0<=x then 1 else 0) + lY t
theorem sx : ∀ (n : Nat) (t : List Int),lY (t.drop n)<=lY t
 | 0,t=>by simp
 | n + 1,[]=>by simp
 | n + 1,x :: t=>by have:=sx n t;simp only [List.drop_succ_cons,lY];omega
theorem kY : ∀ (a : List At) (t : List Int),lY (apA a t)<=br a + lY t
 | [],t=>by simp [apA,lY]
 | .k :: a,[]=>by have:=kY a [];simpa [apA,br] using this
 | .k :: a,x :: t=>by have:=kY a t;simp only [apA,br,lY];omega
 | .p c :: a,t=>by have:=kY a t;simp only [apA,br,lY];split<;>omega
 | .d :: a,t=>by have:=kY a (t.drop 1);have:=sx 1 t;simp only [apA,br];omega
theorem gZ : ∀ (a : List At) (n : Nat),(∀ c,At.p c∈a->0<=c)->lY (apA a (List.replicate n (-1))) = br a
 | [],n,_=>by simp [apA,lY,br]
 | .k :: a, 0, h => by
   have:=gZ a 0 (λc hc=>h c (List.mem_cons_of_mem _ hc))
   simpa [apA,br] using this
 | .k :: a, n + 1, h => by
   have:=gZ a n (λc hc=>h c (List.mem_cons_of_mem _ hc))
   simpa [List.replicate_succ,apA,br,lY] using this
 | .p c :: a, n, h => by
   have:=gZ a n (λc hc=>h c (List.mem_cons_of_mem _ hc));have h0:=h c (List.mem_cons_self ..);simp only [apA,br,lY,this,if_pos h0];omega
 | .d :: a, n, h => by
   have:=gZ a (n - 1) (λc hc=>h c (List.mem_cons_of_mem _ hc))
   simpa [apA,br] using this
theorem vF : ∀ n : Nat,lY (List.replicate n (-1)) = 0
 | 0=>rfl
 | n + 1=>by simp [List.replicate_succ,lY,vF n]
theorem EK {p : Part} (h : ai p) {c : Int} (hc : At.p c∈ats p) : 0<=c:=by
 unfold ats at hc
 split at hc
 ·obtain ⟨x,hx,e⟩:=List.mem_map.1 hc
  cases e
  rcases h with ⟨h1,-,h2⟩ | ⟨-,-,-,h2⟩
  ·rw [h2] at hx;cases hx
  ·exact (h2 _ hx).1.1
 ·split at hc
  ·have:=(List.mem_replicate.1 hc).2;cases this
  ·have:=(List.mem_replicate.1 hc).2;cases this
theorem sC : ∀ {o : List Part},(∀ p∈o,ai p)->∀ c,At.p c∈ag o->0<=c
 | [],_,c,hc=>by cases hc
 | p :: o, h, c, hc => by
   unfold ag at hc;rcases List.mem_append.1 hc with hc | hc
   ·exact EK (h p (List.mem_cons_self ..)) hc
   ·exact sC (λq hq=>h q (List.mem_cons_of_mem _ hq)) c hc
theorem Iu {a b : List Part} (ha : aK a) (hb : aK b) (h : cN a = az b) : Pn (aW a b).1<=Pn a + Pn b:=by
 have hi:=tP ha hb h;have c:=CQ _ hi (Nat.le_refl _);have f1:=gX ha;have t1:=fH hb;have g1:=ha.2.1;have g2:=hb.2.2;have n:=pL c.ok (by rw [e8,c.fr];omega) (by rw [gK c.ok,c.to];omega);have e : aW a b = (normal (cmp a b),true):=by unfold aW;rw [if_pos ⟨ha,hb,h⟩,if_pos n.1]
 rw [e];unfold Pn;simp only;rw [dL c.ok,lR];have k1:=gZ (ag (cmp a b)) (frA (ag a)) (sC c.ok);have k2:=c.ap (List.replicate (frA (ag a)) (-1)) (by simp);have k3:=kY (ag b) (apA (ag a) (List.replicate (frA (ag a)) (-1)));have k4:=kY (ag a) (List.replicate (frA (ag a)) (-1));have k5:=vF (frA (ag a));rw [k2] at k1;omega
theorem tw {o : List Part} (h : idle o) : Pn o = 0:=(mT.1 h).2.1
theorem zu {n : Int} (h0 : 0<=n) (h1 : n<=200) : Pn (aZ n) = 0:=tw (eD h0 h1).2.2.2
def eO : List Entry->Nat
 | []=>0
 | e :: l=>Pn e.o + eO l
theorem ic : ∀ (a b : List Entry),eO (a ++ b) = eO a + eO b
 | [],b=>by simp [eO]
 | e :: a,b=>by simp only [List.cons_append,eO,ic a b];omega
theorem qx {o : List Part} {t : List Int} (h : di o t) : (apply o t).1.length<=t.length + Pn o:=by
 have h1:=(cu h).2;have h2:=yf h.1;have h3:=h.2.2;omega
theorem yu : ∀ (l : List Entry) (t u : List Int),aj (l.map Entry.o) t = some u->u.length<=t.length + eO l
 | [],t,u,h=>by simp only [List.map_nil,aj,Option.some.injEq] at h;subst h;simp [eO]
 | e :: l, t, u, h => by
   rw [List.map_cons,aj] at h
   split at h
   ·rename_i ha
    have h1:=yu l _ u h;have h2:=qx (cK.1 ha);simp only [eO];omega
   ·cases h
theorem rG {d : Doc} (h : aJ d) {rev : Int} (h1 : d.fr<=rev) (h2 : rev<=ab d) : (bc d rev).1.length<=d.text.length + eO (d.list.take (rev - d.fr).toNat):=
 yu _ _ _ (cD h h1 h2).2.1
theorem pi {d : Doc} (h : aJ d) {rev : Int} (h1 : d.fr<=rev) (hl : (rev - d.fr).toNat < d.list.length) :
 di (d.list[(rev - d.fr).toNat]).o (bc d rev).1/\bc d (rev + 1) = ((apply (d.list[(rev - d.fr).toNat]).o (bc d rev).1).1,true):=by
 have hh:=aI h;obtain ⟨k1,k2,k3,k4⟩:=cD h h1 (by omega);obtain ⟨m1,m2,m3,m4⟩:=cD h (rev:=rev + 1) (by omega) (by omega);have e : (rev + 1 - d.fr).toNat = (rev - d.fr).toNat + 1:=by omega
 rw [e,<- List.take_append_getElem hl,List.map_append,dN,k2] at m2;simp only [List.map_cons,List.map_nil,Option.bind_some,aj] at m2
 split at m2
 ·rename_i ha
  injection m2 with m2
  exact ⟨cK.1 ha,Prod.ext m2.symm m1⟩
 ·cases m2
theorem vy {c s r x : Int} : ∀ l : List Seen,(aR c s r l).find? (λy=>decide (y.client = x)) = if x = c then some ⟨c,s,r⟩ else l.find? (λy=>decide (y.client = x))
 | [] => by
   by_cases h : x = c
   ·subst h;simp [aR]
   ·have : ¬ c = x:=λe=>h e.symm
    simp [aR,h,this]
 | y :: l => by
   unfold aR;have ih:=vy (c:=c) (s:=s) (r:=r) (x:=x) l;by_cases h : x = c
   ·subst h
    by_cases h1 : y.client < x
    ·have h2 : ¬ y.client = x:=by omega
     rw [if_pos h1,List.find?_cons_of_neg (by simpa using h2),ih,if_pos rfl,if_pos rfl]
    ·rw [if_neg h1,if_pos rfl]
     split<;>simp
   ·have hc : ¬ c = x:=λe=>h e.symm
    rw [if_neg h] at ih ⊢;by_cases h1 : y.client < c
    ·rw [if_pos h1,List.find?_cons,List.find?_cons,ih]
    ·rw [if_neg h1]
     split
     ·rename_i h2
      have h3 : ¬ y.client = x:=by omega
      rw [List.find?_cons_of_neg (by simpa using hc),List.find?_cons_of_neg (by simpa using h3)]
     ·rw [List.find?_cons_of_neg (by simpa using hc)]
theorem nx (d : Doc) (e : Entry) (x : Int) : (aG (ao d e) x).1 = if x = e.client then ⟨e.client,e.seq,ab d + 1⟩ else (aG d x).1:=by
 have hs : (ao d e).seen = aR e.client e.seq (ab d + 1) d.seen:=by unfold ao;split<;>rfl
 unfold aG;rw [hs,vy];by_cases h : x = e.client
 ·rw [if_pos h,if_pos h]
 ·rw [if_neg h,if_neg h]
def DIn (d : Doc) : Prop:=∀ (j : Nat) (e : Entry),d.list[j]? = some e->e.seq<=(aG d e.client).1.seq/\(e.seq = (aG d e.client).1.seq->(aG d e.client).1.rev = d.fr + j + 1)
theorem kL {d : Doc} (h : aJ d) (e : Entry) : ∃ k : Nat,k <= 1 /\ (ao d e).fr = d.fr + k /\ (ao d e).list = (d.list ++ [e]).drop k /\ (k = 0 -> (ao d e).text = d.text) /\
 (k = 1->∃ h0 : 0 < d.list.length,(ao d e).text = (apply (d.list[0]).o d.text).1):=by
 have hh:=aI h;unfold ao
 split
 ·exact ⟨0,by omega,by simp,by simp,λ_=>rfl,λh=>by omega⟩
 ·refine ⟨1,by omega,by simp,rfl,λh=>by omega,λ_=>⟨by omega,?_⟩⟩
  simp only;rw [List.getElem_append_left (by omega)]
theorem DW {d : Doc} (h : aJ d) (hi : DIn d) {e : Entry} (he : e.seq = (aG d e.client).1.seq + 1) : DIn (ao d e):=by
 obtain ⟨k,hk,h1,h2,-,-⟩:=kL h e;have hh:=aI h;intro j x hx;rw [h2,List.getElem?_drop] at hx;rw [nx,h1];by_cases c : k + j < d.list.length
 ·rw [List.getElem?_append_left c] at hx
  obtain ⟨a1,a2⟩:=hi _ x hx;by_cases q : x.client = e.client
  ·rw [if_pos q]
   rw [q] at a1;exact ⟨by simp only;omega,λe2=>by simp only at e2;omega⟩
  ·rw [if_neg q]
   exact ⟨a1,λe2=>by have:=a2 e2;omega⟩
 ·by_cases c2 : k + j = d.list.length
  ·rw [c2,List.getElem?_append_right (Nat.le_refl _)] at hx
   simp at hx;subst hx;rw [if_pos rfl];exact ⟨Int.le_refl _,λ_=>by simp only;omega⟩
  ·rw [List.getElem?_append_right (by omega)] at hx
   have : (d.list ++ [e]).length<=k + j:=by rw [List.length_append,List.length_singleton];omega
   rw [List.getElem?_eq_none (by rw [List.length_singleton];omega)] at hx
   cases hx
theorem yV {d : Doc} (h : aJ d) {e : Entry} (hp : aJ (ao d e)) {rev : Int} (h1 : (ao d e).fr<=rev) (h2 : rev<=ab d) : bc (ao d e) rev = bc d rev:=by
 obtain ⟨k,hk,k1,k2,k3,k4⟩:=kL h e;have hh:=aI h;have hd:=(jn h e).1;rw [gL ⟨hp,h1,by omega⟩,gL ⟨h,by omega,h2⟩,k1,k2];obtain ⟨n,hn⟩ : ∃ n,(rev - d.fr).toNat = n:=⟨_,rfl⟩;have hnl : n<=d.list.length:=by omega
 rw [show (rev - (d.fr + (k : Int))).toNat = n - k by omega,hn];rcases Nat.eq_zero_or_pos k with hz | hz
 ·subst hz
  rw [k3 rfl,List.drop_zero,Nat.sub_zero,List.take_append_of_le_length hnl]
 ·have hk1 : k = 1:=by omega
  subst hk1;obtain ⟨h0,k5⟩:=k4 rfl;obtain ⟨m,rfl⟩ : ∃ m,n = m + 1:=⟨n - 1,by omega⟩
  obtain ⟨y,L,hL⟩ : ∃ y L,d.list = y :: L:=by
   cases hx : d.list with
   | nil=>rw [hx] at h0;simp at h0
   | cons y L=>exact ⟨y,L,rfl⟩
  have ht:=h.2.2.1;have hs:=h.2.2.2.2.2.1;have hy : (d.list[0]) = y:=by simp [hL]
  rw [hy] at k5;rw [hL] at hnl hs ⊢;rw [k5];simp only [List.cons_append,List.drop_succ_cons,List.drop_zero,Nat.add_sub_cancel,List.take_succ_cons,List.map_cons];rw [List.take_append_of_le_length (by simpa using hnl)];rw [List.map_cons,aj] at hs
  have ha : (apply y.o d.text).2 = true:=by
   by_cases q : (apply y.o d.text).2 = true
   ·exact q
   ·rw [if_neg q] at hs;cases hs
  have ht2:=(cu (cK.1 ha)).1;unfold bI;rw [if_pos ht2,if_pos ht,aj,if_pos ha]
theorem BS {d : Doc} (h : aJ d) (e : Entry) : (ao d e).text.length + eO (ao d e).list<=d.text.length + eO d.list + Pn e.o:=by
 obtain ⟨k,hk,k1,k2,k3,k4⟩:=kL h e;rcases Nat.eq_zero_or_pos k with hz | hz
 ·subst hz
  rw [k2,k3 rfl,List.drop_zero,ic];simp only [eO];omega
 ·have hk1 : k = 1:=by omega
  subst hk1;obtain ⟨h0,k5⟩:=k4 rfl
  obtain ⟨y,L,hL⟩ : ∃ y L,d.list = y :: L:=by
   cases hx : d.list with
   | nil=>rw [hx] at h0;simp at h0
   | cons y L=>exact ⟨y,L,rfl⟩
  have hy : (d.list[0]) = y:=by simp [hL]
  have hs:=h.2.2.2.2.2.1;rw [hL,List.map_cons,aj] at hs
  have ha : (apply y.o d.text).2 = true:=by
   by_cases q : (apply y.o d.text).2 = true
   ·exact q
   ·rw [if_neg q] at hs;cases hs
  have:=qx (cK.1 ha);rw [hy] at k5;rw [k2,k5,hL];simp only [List.cons_append,List.drop_succ_cons,List.drop_zero,eO,ic];omega
theorem dup {n : Net} {i : Nat} (h : i < n.reps.length) : bZ n i n.reps[i] = n:=by
 unfold bZ;rw [List.set_getElem_self]
theorem zC {d : Doc} (h : aJ d) : cJ d (ab d) = ([],0):=by
 have hh:=aI h;unfold cJ;rw [if_pos h,if_neg (by omega),if_neg (by omega)];rw [List.drop_of_length_le (by omega)]
theorem oz {r : Rep} (h : ar r) : bH r [] = (r,true):=by unfold bH bQ;rw [if_pos h]
def CX (n : Net) (i : Nat) : Prop:=∃ h : i < n.reps.length,n.reps[i].has = false/\idle n.reps[i].buf/\n.reps[i].rev = ab n.d
theorem jl {n : Net} (h : dh n) {i : Nat} (hi : i < n.reps.length) {k : Int} (hk : 1<=k/\k<=6) (m : Int) (o : List Part) : xe n ⟨k,i,m,o⟩:=⟨h,⟨by simp only;omega,by simp only;omega⟩,hk⟩
theorem xQ {n : Net} {i : Nat} (h : dh n) (hi : i < n.reps.length) (h1 : idle n.reps[i].buf) : (aL n ⟨2,i,0,[]⟩) = (n,1):=by
 rw [dn (jl h hi (by omega) _ _) rfl hi];unfold jm;simp only;rw [bV (λq=>q.2.2.1 h1)];simp
theorem BU {n : Net} {i : Nat} (h : dh n) (hi : i < n.reps.length) {l : List Entry} (hf : cJ n.d n.reps[i].rev = (l,0)) (hl : l.length<=8) (ha : (bH n.reps[i] l).2 = true) : aL n ⟨5,i,8,[]⟩ = (bZ n i (bH n.reps[i] l).1,0):=by
 rw [dn (jl h hi (by omega) _ _) rfl hi];unfold jm dH;simp only;have e : l.take 8 = l:=List.take_of_length_le hl;rw [hf];simp [e,ha]
theorem yI {n : Net} (h : dh n) {i : Nat} (c : CX n i) : jM n i = n:=by
 obtain ⟨hi,c1,c2,c3⟩:=c;have hr:=(h.2.2 i hi).1;have a : fb n i = n:=by unfold fb lC;simp [hi,c1]
 have b : eh n i = n:=by unfold eh;rw [a,xQ h hi c2]
 have e : ib n i = (n,0):=by
  unfold ib;rw [b,BU h hi (l:=[]) (by rw [c3];exact zC h.1) (by simp) (by rw [oz hr]),oz hr,dup]
 unfold jM;rw [e];simp
theorem pE {n : Net} (h : dh n) (c : ∀ i,i < n.reps.length->CX n i) : ∀ i,i<=n.reps.length->aD n i = n
 | 0,_=>rfl
 | i + 1,hi=>by rw [aD,pE h c i (by omega)];exact yI h (c i (by omega))
theorem jW {n : Net} (h : dh n) (c : ∀ i,i < n.reps.length->CX n i) : ∀ k,aU n k = n
 | 0=>rfl
 | k + 1=>by rw [aU,jW h c k];exact pE h c _ (Nat.le_refl _)
theorem pD (n : Net) (j : Nat) : ∀ k,aU n (j + k) = aU (aU n j) k
 | 0=>rfl
 | k + 1 => by
   have hl : (aU n j).reps.length = n.reps.length:=by
    have key : ∀ j,(aU n j).reps.length = n.reps.length:=by
     intro j
     induction j with
     | zero=>rfl
     | succ j ih=>rw [aU,fg,ih]
    exact key j
   rw [<- Nat.add_assoc,aU,aU,pD n j k,hl]
theorem sT {d : Doc} (h : aJ d) : bc d d.fr = (d.text,true):=by
 have hh:=aI h;unfold bc;rw [if_pos ⟨h,by omega,by omega⟩];simp [bI,h.2.2.1,aj]
theorem ms {r : Rep} {s : Seen} (h : r.seq = s.seq) (h2 : ¬ (r.has = true/\s.rev<=r.rev)) : cg r s:=by unfold cg;rw [if_pos h];exact h2
def na (c s : Int) : List Entry->List Part->Prop
 | [],_=>False
 | e :: l,v=>(e.client = c/\e.seq = s/\e.o = v)\/(¬ (e.client = c/\e.seq = s)/\(ac e.o v).2.2 = true/\na c s l (ac e.o v).2.1)
theorem qB {c s : Int} {m : List Entry} : ∀ {l : List Entry} {v : List Part},na c s l v->na c s (l ++ m) v
 | e :: l, v, h => by
   rcases h with h | ⟨h1,h2,h3⟩
   ·exact .inl h
   ·exact .inr ⟨h1,h2,qB h3⟩
theorem sE {c s : Int} : ∀ {l : List Entry} {v : List Part},na c s l v->∃ (j : Nat) (e : Entry),l[j]? = some e/\e.client = c/\e.seq = s
 | e :: l, v, h => by
   rcases h with h | ⟨h1,h2,h3⟩
   ·exact ⟨0,e,rfl,h.1,h.2.1⟩
   ·obtain ⟨j,x,h4,h5⟩:=sE h3
    exact ⟨j + 1,x,by simpa using h4,h5⟩
theorem yE {c s : Int} : ∀ {l : List Entry} {v : List Part},na c s l v->Pn v<=eO l
 | e :: l, v, h => by
   rcases h with ⟨-,-,rfl⟩ | ⟨h1,h2,h3⟩
   ·simp [eO]
   ·have:=yE h3
    rw [(iV h2).2] at this;simp only [eO];omega
theorem sF {c s : Int} {v' : List Part} : ∀ {l : List Entry} {v : List Part},dR (l.map Entry.o) v = some v'->(∀ e∈l,¬ (e.client = c/\e.seq = s))->na c s (l ++ [⟨c,s,v'⟩]) v
 | [], v, h, _ => by
   simp only [List.map_nil,dR,Option.some.injEq] at h;exact .inl ⟨rfl,rfl,h.symm⟩
 | e :: l, v, h, hn => by
   rw [List.map_cons,dR] at h
   split at h
   ·rename_i ht
    exact .inr ⟨hn e (List.mem_cons_self ..),ht,sF h (λx hx=>hn x (List.mem_cons_of_mem _ hx))⟩
   ·cases h
theorem BY : ∀ {l : List (List Part)} {v v' : List Part},dR l v = some v'->Pn v' = Pn v
 | [],v,v',h=>by simp only [dR,Option.some.injEq] at h;rw [h]
 | a :: l, v, v', h => by
   rw [dR] at h
   split at h
   ·rename_i ht
    rw [BY h,(iV ht).2]
   ·cases h
def fL (d : Doc) (r : Rep) : Prop:=r.has = true/\r.seq = (aG d r.client).1.seq
def RIn (d : Doc) (r : Rep) : Prop:=fL d r->d.fr<=r.rev->na r.client r.seq (d.list.drop (r.rev - d.fr).toNat) r.sent
def NIn (n : Net) : Prop:=dh n/\DIn n.d/\∀ r∈n.reps,RIn n.d r
open Classical in
noncomputable def pend (d : Doc) (r : Rep) : Nat:=(if fL d r then 0 else Pn r.sent) + Pn r.buf
noncomputable def gm (d : Doc) : List Rep->Nat
 | []=>0
 | r :: l=>pend d r + gm d l
noncomputable def tot (n : Net) : Nat:=n.d.text.length + eO n.d.list + gm n.d n.reps
theorem pl (d : Doc) : ∀ {l : List Rep} {i : Nat} (h : i < l.length) (x : Rep),gm d (l.set i x) + pend d l[i] = gm d l + pend d x
 | r :: l,0,h,x=>by simp only [List.set_cons_zero,gm,List.getElem_cons_zero];omega
 | r :: l, i + 1, h, x => by
   have:=pl d (l:=l) (i:=i) (by simpa using h) x;simp only [List.set_cons_succ,gm,List.getElem_cons_succ];omega
theorem ur (d : Doc) : ∀ {l : List Rep} {i : Nat} (h : i < l.length),pend d l[i]<=gm d l
 | r :: l,0,h=>by simp only [gm,List.getElem_cons_zero];omega
 | r :: l, i + 1, h => by
   have:=ur d (l:=l) (i:=i) (by simpa using h);simp only [gm,List.getElem_cons_succ];omega
theorem rJ {d d' : Doc} : ∀ {l : List Rep},(∀ r∈l,pend d' r = pend d r)->gm d' l = gm d l
 | [],_=>rfl
 | r :: l, h => by
   rw [gm,gm,h r (List.mem_cons_self ..),rJ (λx hx=>h x (List.mem_cons_of_mem _ hx))]
theorem ta {d : Doc} {r : Rep} (h : r.has = false) : ¬ fL d r:=λq=>by have:=q.1;rw [h] at this;cases this
theorem Hc {r : Rep} (h : ar r) (h1 : r.has = false) : Pn r.sent = 0:=by
 have:=h.2.2.2.2.2.2.2.2;rw [h1] at this;exact tw (by simpa using this)
theorem kN {d : Doc} {r : Rep} (h : ar r) (h1 : r.has = false) : pend d r = Pn r.buf:=by
 unfold pend;rw [if_neg (ta h1),Hc h h1];omega
theorem uS {d : Doc} {r : Rep} (h : fL d r) : pend d r = Pn r.buf:=by unfold pend;rw [if_pos h];omega
theorem j5 {d : Doc} {r : Rep} (h : ¬ fL d r) : pend d r = Pn r.sent + Pn r.buf:=by unfold pend;rw [if_neg h]
theorem pz {r : Rep} {s : Seen} (h : ¬ r.seq = s.seq) (h2 : r.has = true/\r.seq = s.seq + 1) : cg r s:=by unfold cg;rw [if_neg h];exact h2
theorem v2 {r : Rep} {e : Entry} (h : (aO r e).2 = true) : (ar r /\ bg e /\ di e.o r.text) /\
 ((j9 r e /\ e.o = r.sent /\ aO r e = (cw r (apply e.o r.text).1, true) /\ ar (cw r (apply e.o r.text).1)) \/
  (¬ j9 r e /\ (ac e.o r.sent).2.2 = true /\ (ac (ac e.o r.sent).1 r.buf).2.2 = true /\
   aO r e = (co r (apply e.o r.text).1 (ac e.o r.sent).2.1 (ac (ac e.o r.sent).1 r.buf).2.1,true)/\ar (co r (apply e.o r.text).1 (ac e.o r.sent).2.1 (ac (ac e.o r.sent).1 r.buf).2.1))):=by
 have key : ∀ x : Rep,(eN x).2 = true->ar x:=λx hx=>Classical.byContradiction λc=>by rw [ez c] at hx;cases hx
 have c : ar r/\bg e/\di e.o r.text:=Classical.byContradiction λc=>by rw [eF c] at h;cases h
 refine ⟨c,?_⟩;by_cases a : j9 r e
 ·by_cases eo : e.o = r.sent
  ·have e1:=(fG c a).1 eo
   rw [e1] at h;have k:=key _ h;exact .inl ⟨a,eo,by rw [e1,cz k],k⟩
  ·rw [(fG c a).2 eo] at h;cases h
 ·by_cases t : (ac e.o r.sent).2.2 = true/\(ac (ac e.o r.sent).1 r.buf).2.2 = true
  ·have e1:=(eT c a).1 t
   rw [e1] at h;have k:=key _ h;exact .inr ⟨a,t.1,t.2,by rw [e1,cz k],k⟩
  ·rw [(eT c a).2 t] at h;cases h
structure TIn (d : Doc) (i : Nat) (r : Rep) : Prop where
 at_ : cT d i r
 fr : d.fr<=r.rev
 inn : RIn d r
structure TSt (d : Doc) (r x : Rep) (m : Nat) : Prop where
 rev : x.rev = r.rev + m
 has : x.has = true->r.has = true
 idle : idle r.buf->idle x.buf
 seq : x.seq = r.seq
 client : x.client = r.client
 pend : pend d x<=pend d r
theorem BG {d : Doc} {r : Rep} (h : cg r (aG d r.client).1) (hle : r.seq<=(aG d r.client).1.seq) : r.seq = (aG d r.client).1.seq:=by
 unfold cg at h
 split at h
 ·assumption
 ·omega
theorem xO {d : Doc} {i : Nat} {r : Rep} (h : aJ d) (hi : DIn d) (t : TIn d i r) {p : Nat} (hp : (r.rev - d.fr).toNat = p) (hl : p < d.list.length) (hy : (aO r d.list[p]).2 = true) :
 TIn d i (aO r d.list[p]).1/\TSt d r (aO r d.list[p]).1 1:=by
 have hh:=aI h;obtain ⟨a1,a2,a3,a4,a5⟩:=t.at_;have hf:=t.fr;subst hp;obtain ⟨s1,s2⟩:=pi h hf hl;have htx:=a4 (cD h hf a3).1;rw [htx] at s2;have hin:=t.inn;have hget : d.list[(r.rev - d.fr).toNat]? = some d.list[(r.rev - d.fr).toNat]:=List.getElem?_eq_getElem hl;have hdrop : d.list.drop (r.rev - d.fr).toNat = d.list[(r.rev - d.fr).toNat] :: d.list.drop ((r.rev - d.fr).toNat + 1):=List.drop_eq_getElem_cons hl;obtain ⟨i1,i2⟩:=hi _ _ hget;unfold RIn at hin;rw [hdrop] at hin;obtain ⟨e,he⟩ : ∃ e,d.list[(r.rev - d.fr).toNat] = e:=⟨_,rfl⟩;rw [he] at hy s2 hin i1 i2 ⊢;obtain ⟨c,⟨k1,k2,k3,k4⟩ | ⟨k1,k2,k3,k4,k5⟩⟩:=v2 hy
 ·rw [k3]
  have hcl:=k1.2.1;have hsq:=k1.2.2;have hseq : r.seq = (aG d r.client).1.seq:=BG a5 (by rw [hcl] at i1;omega);refine ⟨⟨⟨k4,a2,by simp only [cw];omega,λ_=>by simp only [cw];rw [s2],?_⟩,by simp only [cw];omega,λq=>absurd q (ta rfl)⟩,⟨rfl,λq=>by simp [cw] at q,λq=>q,rfl,rfl,?_⟩⟩
  ·show cg (cw r _) (aG d r.client).1
   unfold cg cw;simp only;rw [if_pos hseq];simp
  ·rw [kN k4 rfl]
   show Pn r.buf<=_
   unfold pend;omega
 ·rw [k4]
  have hown : ∀ x,fL d (co r (apply e.o r.text).1 x (ac (ac e.o r.sent).1 r.buf).2.1) ↔ fL d r:=λx=>Iff.rfl
  have hmv : fL d r->na r.client r.seq (d.list.drop ((r.rev - d.fr).toNat + 1)) (ac e.o r.sent).2.1:=λq=>by
   rcases hin q hf with h1 | ⟨-,-,h1⟩
   ·exact absurd ⟨q.1,h1.1,h1.2.1⟩ k1
   ·exact h1
  have e1 : (r.rev + 1 - d.fr).toNat = (r.rev - d.fr).toNat + 1:=by omega
  refine ⟨⟨⟨k5,a2,by simp only [co];omega,λ_=>by simp only [co];rw [s2],?_⟩,by simp only [co];omega,λq _=>?_⟩,⟨rfl,λq=>q,λq=>jJ k3 q,rfl,rfl,?_⟩⟩
  ·show cg (co r _ _ _) (aG d r.client).1
   unfold cg at a5;by_cases q : r.seq = (aG d r.client).1.seq
   ·rw [if_pos q] at a5
    refine ms q ?_
    rintro ⟨h1,h2⟩
    obtain ⟨j,x,h3,h4,h5⟩:=sE (hmv ⟨h1,q⟩);rw [List.getElem?_drop] at h3;have:=(hi _ _ h3).2 (by rw [h4,h5,q]);rw [h4] at this;simp only [co] at h2;omega
   ·rw [if_neg q] at a5
    exact pz q a5
  ·show na r.client r.seq (d.list.drop (r.rev + 1 - d.fr).toNat) (ac e.o r.sent).2.1
   rw [e1];exact hmv q
  ·unfold pend
   have p1:=(iV k2).2;have p2:=(iV k3).2;by_cases q : fL d r
   ·rw [if_pos ((hown _).2 q),if_pos q]
    show 0 + Pn (ac (ac e.o r.sent).1 r.buf).2.1<=_
    omega
   ·rw [if_neg (λz=>q ((hown _).1 z)),if_neg q]
    show Pn (ac e.o r.sent).2.1 + Pn (ac (ac e.o r.sent).1 r.buf).2.1<=_
    omega
theorem xv {d : Doc} {i : Nat} (h : aJ d) (hi : DIn d) : ∀ (m : Nat) {r x : Rep},TIn d i r->bQ r ((d.list.drop (r.rev - d.fr).toNat).take m) = some x->TIn d i x/\TSt d r x (min m (d.list.length - (r.rev - d.fr).toNat))
 | 0, r, x, t, hx => by
   simp only [List.take_zero,bQ,Option.some.injEq] at hx;subst hx;refine ⟨t,⟨?_,λq=>q,λq=>q,rfl,rfl,Nat.le_refl _⟩⟩;simp
 | m + 1, r, x, t, hx => by
   by_cases hl : (r.rev - d.fr).toNat < d.list.length
   ·rw [List.drop_eq_getElem_cons hl,List.take_succ_cons,bQ] at hx
    split at hx
    ·rename_i hy
     obtain ⟨t1,u1⟩:=xO h hi t rfl hl hy;have e1 : ((aO r d.list[(r.rev - d.fr).toNat]).1.rev - d.fr).toNat = (r.rev - d.fr).toNat + 1:=by rw [u1.rev];have:=t.fr;omega
     have:=xv h hi m t1 (x:=x);rw [e1] at this;obtain ⟨t2,u2⟩:=this hx;refine ⟨t2,⟨?_,λq=>u1.has (u2.has q),λq=>u2.idle (u1.idle q),by rw [u2.seq,u1.seq],by rw [u2.client,u1.client],Nat.le_trans u2.pend u1.pend⟩⟩;rw [u2.rev,u1.rev];omega
    ·cases hx
   ·rw [List.drop_eq_nil_of_le (by omega)] at hx
    simp only [List.take_nil,bQ,Option.some.injEq] at hx;subst hx;refine ⟨t,⟨?_,λq=>q,λq=>q,rfl,rfl,Nat.le_refl _⟩⟩;rw [show min (m + 1) (d.list.length - (r.rev - d.fr).toNat) = 0 by omega];simp
theorem uv {d : Doc} {c s b : Int} {o : List Part} (h : (a8 d c s b o).2.2 = 0) (hs : s = (aG d c).1.seq + 1) :
 ∃ v,(a8 d c s b o).1 = ao d ⟨c,s,v⟩/\d.fr<=b/\b<=ab d/\aK o/\az o = (bc d b).1.length/\dR ((d.list.drop (b - d.fr).toNat).map Entry.o) (bf o) = some v:=by
 unfold a8 at h ⊢
 split at h
 ·rename_i h1
  rw [if_pos h1];rw [if_neg (by omega)] at h ⊢;rw [if_pos (by omega)] at h ⊢
  split at h
  ·rename_i h2
   rw [if_pos h2]
   split at h
   ·simp at h
   ·rename_i h3
    rw [if_neg h3];refine ⟨_,rfl,?_⟩;unfold bW at h2 ⊢
    split at h2
    ·rename_i c1
     rw [if_pos c1]
     split at h2
     ·simp at h2
     ·rename_i c2
      rw [if_neg c2]
      split at h2
      ·simp at h2
      ·rename_i c3
       rw [if_neg c3]
       split at h2
       ·rename_i c4
        rw [if_pos c4]
        split at h2
        ·rename_i c5
         rw [if_pos c5];refine ⟨by omega,by omega,c1.2,c4,?_⟩;unfold eG at c5 ⊢;rw [if_pos c1.2] at c5 ⊢
         cases hx : dR ((d.list.drop (b - d.fr).toNat).map Entry.o) (bf o) with
         | none=>rw [hx] at c5;simp at c5
         | some v=>rfl
        ·simp at h2
       ·simp at h2
    ·simp at h2
  ·rename_i h2;exact absurd h h2
 ·simp at h
structure Wait (d : Doc) (i : Nat) (r : Rep) : Prop where
 ok : ar r
 client : r.client = i + 1
 has : r.has = true
 rev : r.rev<=ab d
 text : (bc d r.rev).2 = true->(bc d r.rev).1 = r.text
 seq : r.seq = (aG d r.client).1.seq + 1
structure Dlv (d : Doc) (i : Nat) (r : Rep) (D : Doc) : Prop where
 ok : aJ D
 inn : DIn D
 at_ : cT D i r
 rin : RIn D r
 put : D.text.length + eO D.list + pend D r<=d.text.length + eO d.list + (Pn r.sent + Pn r.buf)
 head : ab d<=ab D/\ab D<=ab d + 1
 old : D.fr<=d.fr + 1/\d.fr<=D.fr
 oth : ∀ (j : Nat) (x : Rep),x.client≠r.client->cT d j x->RIn d x->cT D j x/\RIn D x/\pend D x = pend d x
theorem r5 {o : List Part} (h : cI o) : bf o = o:=h.2
theorem jo {d : Doc} {i : Nat} {r : Rep} (h : aJ d) (hi : DIn d) (w : Wait d i r) : Dlv d i r (db d (cV r))/\((a8 d r.client r.seq r.rev r.sent).2.2 = 0->fL (db d (cV r)) r):=by
 have hno : ¬ fL d r:=λq=>by have:=q.2;have:=w.seq;omega
 have hat : cT d i r:=⟨w.ok,w.client,w.rev,w.text,pz (λq=>by have:=w.seq;omega) ⟨w.has,w.seq⟩⟩;by_cases hc : (a8 d r.client r.seq r.rev r.sent).2.2 = 0
 rotate_left
 ·have e : db d (cV r) = d:=by
   unfold db cV;simp only;rw [if_neg hc]
  rw [e];refine ⟨⟨h,hi,hat,λq=>absurd q hno,?_,by omega,by omega,λj x _ h1 h2=>⟨h1,h2,rfl⟩⟩,λq=>absurd q hc⟩;rw [j5 hno];omega
 obtain ⟨v,e1,e2,e3,e4,e5,e6⟩:=uv hc w.seq;have hsn : cI r.sent:=w.ok.2.2.2.2.1;rw [r5 hsn] at e6
 have e : db d (cV r) = ao d ⟨r.client,r.seq,v⟩:=by
  unfold db cV;simp only;rw [if_pos hc,e1]
 have hD : aJ (ao d ⟨r.client,r.seq,v⟩):=by have:=(rn h hc).1;rwa [e1] at this
 have hhd:=(jn h ⟨r.client,r.seq,v⟩).1;have hh:=aI h;have hH:=aI hD;obtain ⟨k,hk,k1,k2,-,-⟩:=kL h ⟨r.client,r.seq,v⟩;have hsum:=BS h ⟨r.client,r.seq,v⟩;have hsn1:=nx d ⟨r.client,r.seq,v⟩ r.client;rw [if_pos rfl] at hsn1;simp only at hsn1 hsum;have hPv:=BY e6;have hown : fL (ao d ⟨r.client,r.seq,v⟩) r:=⟨w.has,by rw [hsn1]⟩;rw [e]
 have hdr : ∀ x : Rep,(ao d ⟨r.client,r.seq,v⟩).fr<=x.rev->x.rev<=ab d->(ao d ⟨r.client,r.seq,v⟩).list.drop (x.rev - (ao d ⟨r.client,r.seq,v⟩).fr).toNat = d.list.drop (x.rev - d.fr).toNat ++ [⟨r.client,r.seq,v⟩]:=λx hx hx2=>by
  rw [k2,List.drop_drop,show k + (x.rev - (ao d ⟨r.client,r.seq,v⟩).fr).toNat = (x.rev - d.fr).toNat by omega,List.drop_append_of_le_length (by omega)]
 have htx : ∀ x : Rep,x.rev<=ab d->((bc d x.rev).2 = true->(bc d x.rev).1 = x.text)->(bc (ao d ⟨r.client,r.seq,v⟩) x.rev).2 = true->(bc (ao d ⟨r.client,r.seq,v⟩) x.rev).1 = x.text:=λx hx hy hz=>by
  by_cases q : (ao d ⟨r.client,r.seq,v⟩).fr<=x.rev
  ·rw [yV h hD q hx] at hz ⊢
   exact hy hz
  ·rw [gG (λz=>q z.2.1)] at hz;cases hz
 refine ⟨⟨hD,DW h hi (e:=⟨r.client,r.seq,v⟩) w.seq,⟨w.ok,w.client,by have:=w.rev;omega,htx r w.rev w.text,?_⟩,λ_ q=>?_,?_,by omega,by omega,λj x hx h1 h2=>?_⟩,λ_=>hown⟩
 ·rw [hsn1]
  exact ms rfl (λq=>by have h1:=q.2;have h2:=w.rev;simp only at h1;omega)
 ·rw [hdr r q w.rev]
  refine sF e6 (λx hx hq=>?_);obtain ⟨j,hj,rfl⟩:=List.getElem_of_mem hx
  have hg : d.list[(r.rev - d.fr).toNat + j]? = some (d.list.drop (r.rev - d.fr).toNat)[j]:=by
   rw [<- List.getElem?_drop,List.getElem?_eq_getElem hj]
  have:=(hi _ _ hg).1;rw [hq.1] at this;have:=w.seq;omega
 ·rw [uS hown];omega
 ·have hsx : (aG (ao d ⟨r.client,r.seq,v⟩) x.client).1 = (aG d x.client).1:=by rw [nx,if_neg (by simpa using hx)]
  obtain ⟨x1,x2,x3,x4,x5⟩:=h1;have hox : fL (ao d ⟨r.client,r.seq,v⟩) x ↔ fL d x:=by unfold fL;rw [hsx]
  refine ⟨⟨x1,x2,by omega,htx x x3 x4,by rw [hsx];exact x5⟩,λq1 q2=>?_,?_⟩
  ·rw [hdr x q2 x3]
   exact qB (h2 (hox.1 q1) (by omega))
  ·unfold pend
   by_cases q : fL d x
   ·rw [if_pos q,if_pos (hox.2 q)]
   ·rw [if_neg q,if_neg (λz=>q (hox.1 z))]
structure Step (n n' : Net) (P : Nat) : Prop where
 inn : NIn n'
 tot : tot n'<=tot n + P
 head : ab n.d<=ab n'.d/\ab n'.d<=ab n.d + 1
 seq : ∀ k,(∀ r∈n.reps,r.seq<=k)->∀ r∈n'.reps,r.seq<=k + 1
 len : n'.reps.length = n.reps.length
theorem Step.same {n : Net} (N : NIn n) {P : Nat} : Step n n P:=⟨N,by omega,by omega,λk h r hr=>by have:=h r hr;omega,rfl⟩
theorem mh {n : Net} (N : NIn n) {i : Nat} (hi : i < n.reps.length) {x : Rep} {P : Nat} (h1 : cT n.d i x) (h2 : RIn n.d x) (h3 : pend n.d x<=pend n.d n.reps[i] + P) (h4 : x.seq<=n.reps[i].seq + 1) : Step n (bZ n i x) P:=by
 obtain ⟨⟨n1,n2,n3⟩,n4,n5⟩:=N;have hs:=pl n.d hi x;refine ⟨⟨⟨n1,by simpa [bZ] using n2,λj hj=>?_⟩,n4,λr hr=>?_⟩,?_,by simp only [bZ];omega,λk hk r hr=>?_,by simp [bZ]⟩
 ·simp only [bZ] at hj ⊢
  by_cases c : j = i
  ·subst c;rw [List.getElem_set_self];exact h1
  ·rw [List.getElem_set_ne (λe=>c e.symm)]
   exact n3 j (by simpa using hj)
 ·rcases List.mem_or_eq_of_mem_set hr with hr | rfl
  ·exact n5 r hr
  ·exact h2
 ·unfold tot bZ
  simp only;omega
 ·rcases List.mem_or_eq_of_mem_set hr with hr | rfl
  ·have:=hk r hr;omega
  ·have:=hk _ (List.getElem_mem hi);omega
theorem ux {n : Net} (N : NIn n) {i : Nat} (hi : i < n.reps.length) {x : Rep} {D : Doc} (hx : x.client = n.reps[i].client) (V : Dlv n.d i x D) (h3 : Pn x.sent + Pn x.buf<=pend n.d n.reps[i]) (h4 : x.seq<=n.reps[i].seq + 1) : Step n ⟨D,n.reps.set i x⟩ 0:=by
 obtain ⟨⟨n1,n2,n3⟩,n4,n5⟩:=N
 have hne : ∀ j,∀ hj : j < n.reps.length,j≠i->n.reps[j].client≠x.client:=λj hj c=>by
  have a:=(n3 j hj).2.1;have b:=(n3 i hi).2.1;omega
 have hs:=pl D hi x
 have hsum : gm D n.reps + pend n.d n.reps[i] = gm n.d n.reps + pend D n.reps[i]:=by
  have key : ∀ (l : List Rep) (k : Nat) (hk : k < l.length),(∀ j,∀ hj : j < l.length,j≠k->pend D l[j] = pend n.d l[j])->gm D l + pend n.d l[k] = gm n.d l + pend D l[k]:=by
   intro l
   induction l with
   | nil=>intro k hk;simp at hk
   | cons r l ih =>
     intro k hk hj
     cases k with
     | zero =>
       have : gm D l = gm n.d l:=rJ (λy hy=>by
        obtain ⟨j,hj2,rfl⟩:=List.getElem_of_mem hy;exact hj (j + 1) (by simpa using hj2) (by omega))
       simp only [gm,List.getElem_cons_zero,this];omega
     | succ k =>
       have:=ih k (by simpa using hk) (λj hj2 hne=>hj (j + 1) (by simpa using hj2) (by omega));have h0:=hj 0 (by simp) (by omega);simp only [List.getElem_cons_zero] at h0;simp only [gm,List.getElem_cons_succ,h0];omega
  exact key n.reps i hi (λj hj c=>(V.oth j _ (hne j hj c) (n3 j hj) (n5 _ (List.getElem_mem hj))).2.2)
 have hput:=V.put;refine ⟨⟨⟨V.ok,by simpa using n2,λj hj=>?_⟩,V.inn,λr hr=>?_⟩,?_,V.head,λk hk r hr=>?_,by simp⟩
 ·simp only at hj ⊢
  by_cases c : j = i
  ·subst c;rw [List.getElem_set_self];exact V.at_
  ·rw [List.getElem_set_ne (λe=>c e.symm)]
   have hj2 : j < n.reps.length:=by simpa using hj
   exact (V.oth j _ (hne j hj2 c) (n3 j hj2) (n5 _ (List.getElem_mem hj2))).1
 ·simp only at hr ⊢
  obtain ⟨j,hj,rfl⟩:=List.getElem_of_mem hr;by_cases c : j = i
  ·subst c;rw [List.getElem_set_self];exact V.rin
  ·rw [List.getElem_set_ne (λe=>c e.symm)]
   have hj2 : j < n.reps.length:=by simpa using hj
   exact (V.oth j _ (hne j hj2 c) (n3 j hj2) (n5 _ (List.getElem_mem hj2))).2.1
 ·unfold tot
  simp only;omega
 ·rcases List.mem_or_eq_of_mem_set hr with hr | rfl
  ·have:=hk r hr;omega
  ·have:=hk _ (List.getElem_mem hi);omega
theorem xY {n : Net} (N : NIn n) {i : Nat} (hi : i < n.reps.length) (hf : n.d.fr<=n.reps[i].rev) : TIn n.d i n.reps[i]:=⟨N.1.2.2 i hi,hf,N.2.2 _ (List.getElem_mem hi)⟩
theorem nv {d : Doc} {i : Nat} {r : Rep} (h : cT d i r) (c : ar r/\r.has = false/\¬ idle r.buf/\r.seq≠999999999) : Wait d i (bR r):=by
 obtain ⟨h1,h2,h3,h4,h5⟩:=h;refine ⟨DJ c.1 c.2.1 c.2.2.2,h2,rfl,h3,h4,?_⟩
 have : r.seq = (aG d r.client).1.seq:=by
  unfold cg at h5
  split at h5
  ·assumption
  ·exact absurd h5.1 (by rw [c.2.1];simp)
 simp only [bR];omega
theorem rP {r : Rep} (h : ar r) : Pn (bR r).sent + Pn (bR r).buf = Pn r.buf:=by
 have h1:=h.2.2.2.2.2.1.1;have h2:=zu (n:=cN r.buf) (by have:=fH h1;omega) h1.2.2
 show Pn r.buf + Pn (aZ (cN r.buf)) = _
 omega
theorem vq {d : Doc} {i : Nat} {r : Rep} (h : cT d i r) (hh : r.has = true) (hn : ¬ fL d r) : Wait d i r:=by
 obtain ⟨h1,h2,h3,h4,h5⟩:=h;refine ⟨h1,h2,hh,h3,h4,?_⟩;unfold cg at h5
 split at h5
 ·rename_i q;exact absurd ⟨hh,q⟩ hn
 ·exact h5.2
theorem ye {d : Doc} {r : Rep} (_h : aJ d) (hi : ar r) (ho : fL d r) : db d (cV r) = d:=by
 have:=hi;unfold db
 split
 ·show (a8 d r.client r.seq r.rev r.sent).1 = d
  unfold a8
  split
  ·rw [if_pos ho.2.symm]
  ·rename_i h1 h2
   exfalso
   have h1 : (a8 d r.client r.seq r.rev r.sent).2.2 = 0:=h1;unfold a8 at h1;rw [if_neg h2] at h1;simp at h1
 ·rfl
theorem yC {n : Net} (N : NIn n) {i : Nat} (hi : i < n.reps.length) : cT n.d i (eM n.d n.reps[i])/\(eM n.d n.reps[i]).has = false/\(eM n.d n.reps[i]).rev = ab n.d/\idle (eM n.d n.reps[i]).buf/\(eM n.d n.reps[i]).seq<=n.reps[i].seq/\Pn (eM n.d n.reps[i]).buf = 0:=by
 have hd:=N.1.1;have hy:=tX N.1 hi;have hh:=aI hd;obtain ⟨h1,h2,h3,h4,h5⟩:=N.1.2.2 i hi
 have hx : ar (bD n.reps[i].client (aG n.d n.reps[i].client).1.seq (ab n.d) (aV n.d)):=Classical.byContradiction λc=>by
  unfold bK at hy;rw [ez c] at hy;cases hy
 have e : eM n.d n.reps[i] = bD n.reps[i].client (aG n.d n.reps[i].client).1.seq (ab n.d) (aV n.d):=by
  unfold eM bK;rw [cz hx]
 have ht:=(gc hd).2;have hk:=eD (n:=((aV n.d).length : Int)) (by omega) (by have:=ht.1;omega)
 have hs : (aG n.d n.reps[i].client).1.seq<=n.reps[i].seq:=by
  unfold cg at h5
  split at h5<;>omega
 rw [e];refine ⟨⟨hx,h2,Int.le_refl _,λ_=>rfl,?_⟩,rfl,rfl,hk.2.2.2,hs,tw hk.2.2.2⟩;exact ms rfl (λq=>by simp [bD] at q)
theorem xg {r : Rep} {o : List Part} (h : (cU r o).2 = true) : ar r/\(aW r.buf o).2 = true/\(cU r o).1 = da r (aW r.buf o).1/\ar (da r (aW r.buf o).1)/\Pn (aW r.buf o).1<=Pn r.buf + Pn o:=by
 have c : ar r/\(aW r.buf o).2 = true:=Classical.byContradiction λc=>by rw [im c] at h;cases h
 rw [gE c] at h;have hx : ar (da r (aW r.buf o).1):=Classical.byContradiction λc=>by rw [ez c] at h;cases h
 refine ⟨c.1,c.2,by rw [gE c,cz hx],hx,?_⟩;have c2:=c.2;unfold aW at c2
 split at c2
 ·rename_i q
  exact Iu q.1 q.2.1 q.2.2
 ·simp at c2
theorem Fl {n : Net} (N : NIn n) (e : Event) : ((aL n e).2 = 0/\Step n (aL n e).1 (Pn e.o))\/((aL n e).1 = n/\1<=(aL n e).2/\(aL n e).2<=12):=by
 by_cases hev : xe n e
 rotate_left
 ·rw [nP hev];exact .inr ⟨rfl,by simp,by simp⟩
 obtain ⟨i,hi⟩ : ∃ i : Nat,e.who = i:=⟨e.who.toNat,by have:=hev.2.1;omega⟩;have hl : i < n.reps.length:=by have:=hev.2.1;omega
 rw [dn hev hi hl];have hat:=N.1.2.2 i hl;have hrin:=N.2.2 _ (List.getElem_mem hl);unfold jm;by_cases k1 : e.kind = 1
 ·rw [if_pos k1]
  split
  ·rename_i hy
   obtain ⟨a1,a2,a3,a4,a5⟩:=xg hy;rw [a3];refine .inl ⟨rfl,mh N hl ⟨a4,hat.2.1,hat.2.2.1,hat.2.2.2.1,hat.2.2.2.2⟩ hrin ?_ (by simp only [da];omega)⟩;have : ∀ q : Prop,(fL n.d (da n.reps[i] (aW n.reps[i].buf e.o).1) ↔ fL n.d n.reps[i]):=λ_=>Iff.rfl
   unfold pend;by_cases q : fL n.d n.reps[i]
   ·rw [if_pos ((this True).2 q),if_pos q]
    show 0 + Pn (aW n.reps[i].buf e.o).1<=_
    omega
   ·rw [if_neg (λz=>q ((this True).1 z)),if_neg q]
    show Pn n.reps[i].sent + Pn (aW n.reps[i].buf e.o).1<=_
    omega
  ·exact .inr ⟨rfl,by simp,by simp⟩
 rw [if_neg k1];by_cases k2 : e.kind = 2
 ·rw [if_pos k2]
  split
  ·rename_i hy
   have c : ar n.reps[i]/\n.reps[i].has = false/\¬ idle n.reps[i].buf/\n.reps[i].seq≠999999999:=Classical.byContradiction λc=>by rw [bV c] at hy;cases hy
   rw [dZ c];have st:=ux N hl (x:=bR n.reps[i]) rfl (jo N.1.1 N.2.1 (nv hat c)).1 (by rw [rP c.1,kN c.1 c.2.1];exact Nat.le_refl _) (by simp only [bR];omega);exact .inl ⟨rfl,⟨st.inn,Nat.le_trans (m:=tot n + 0) st.tot (by omega),st.head,st.seq,st.len⟩⟩
  ·exact .inr ⟨rfl,by simp,by simp⟩
 rw [if_neg k2];by_cases k3 : e.kind = 3
 ·rw [if_pos k3]
  split
  ·rename_i hy
   have c : ar n.reps[i]/\n.reps[i].has = false/\¬ idle n.reps[i].buf/\n.reps[i].seq≠999999999:=Classical.byContradiction λc=>by rw [bV c] at hy;cases hy
   rw [dZ c];have w:=nv hat c;have hno : ¬ fL n.d (bR n.reps[i]):=λq=>by have:=q.2;have:=w.seq;omega
   have hatS : cT n.d i (bR n.reps[i]):=⟨w.ok,w.client,w.rev,w.text,pz (λq=>by have:=w.seq;omega) ⟨rfl,w.seq⟩⟩;have st:=mh N hl (P:=Pn e.o) hatS (λq=>absurd q hno) (by rw [j5 hno,rP c.1,kN c.1 c.2.1];omega) (Int.le_refl (n.reps[i].seq + 1));exact .inl ⟨rfl,st⟩
  ·exact .inr ⟨rfl,by simp,by simp⟩
 rw [if_neg k3];by_cases k4 : e.kind = 4
 ·rw [if_pos k4]
  split
  ·rename_i hy
   have c : ar n.reps[i]/\n.reps[i].has = true:=Classical.byContradiction λc=>by unfold aP at hy;rw [if_neg c] at hy;cases hy
   have er : aP n.reps[i] = (cV n.reps[i],true):=by unfold aP;rw [if_pos c]
   rw [er];refine .inl ⟨rfl,?_⟩;simp only;by_cases q : fL n.d n.reps[i]
   ·rw [ye N.1.1 c.1 q];exact Step.same N
   ·have st:=ux N hl (x:=n.reps[i]) rfl (jo N.1.1 N.2.1 (vq hat c.2 q)).1 (by rw [j5 q];exact Nat.le_refl _) (by omega)
    rw [List.set_getElem_self] at st;exact ⟨st.inn,Nat.le_trans (m:=tot n + 0) st.tot (by omega),st.head,st.seq,st.len⟩
  ·exact .inr ⟨rfl,by simp,by simp⟩
 rw [if_neg k4];by_cases k5 : e.kind = 5
 ·rw [if_pos k5]
  unfold dH;by_cases m0 : e.n < 0
  ·rw [if_pos m0];simp
  rw [if_neg m0];have hh:=aI N.1.1;have hrev:=hat.2.2.1
  have hfe : cJ n.d n.reps[i].rev = if n.reps[i].rev < n.d.fr then ([],3) else (n.d.list.drop (n.reps[i].rev - n.d.fr).toNat,0):=by
   unfold cJ;rw [if_pos N.1.1,if_neg (by omega)]
  rw [hfe];by_cases q : n.reps[i].rev < n.d.fr
  ·rw [if_pos q];simp
  rw [if_neg q,if_pos rfl];simp only;by_cases hy : (bH n.reps[i] ((n.d.list.drop (n.reps[i].rev - n.d.fr).toNat).take e.n.toNat)).2 = true
  ·rw [if_pos hy,if_pos rfl]
   refine .inl ⟨rfl,?_⟩;unfold bH at hy ⊢;rw [if_pos hat.1] at hy ⊢
   cases hx : bQ n.reps[i] ((n.d.list.drop (n.reps[i].rev - n.d.fr).toNat).take e.n.toNat) with
   | none=>rw [hx] at hy;simp at hy
   | some x =>
     obtain ⟨t,u⟩:=xv N.1.1 N.2.1 _ (xY N hl (by omega)) hx;have st:=mh N hl (P:=Pn e.o) t.at_ t.inn (by have:=u.pend;omega) (by rw [u.seq];omega);exact st
  ·rw [if_neg hy,if_neg (by simp)]
   exact .inr ⟨rfl,by simp,by simp⟩
 rw [if_neg k5];obtain ⟨a1,a2,a3,a4,a5,a6⟩:=yC N hl;refine .inl ⟨rfl,mh N hl a1 (λq=>absurd q (ta a2)) ?_ (by omega)⟩;rw [kN a1.1 a2,a6];omega
set_option maxHeartbeats 1600000
def j6 (n : Net) : Prop:=∀ r∈n.reps,dm r = aV n.d
theorem w9 (r : Rep) (h : aX r<=2 ^ 30) : (dm r).length<=2 ^ 40:=by
 unfold dm
 split
 ·have:=tW [r.sent,r.buf] r.text
  unfold aX at h;omega
 ·simp
theorem pV (n : Net) (hl : dw n<=2 ^ 30) : ak Tryz.prog 60 [.agg n.row] (.one (.c (vb (j6 n)) 1)):=by
 refine pci ae Tryz.func60 (λw0 base=>?_);obtain ⟨d,l⟩:=n;unfold dw at hl;simp only at hl;have hle:=cj (f:=aX) (B:=2 ^ 30) (l:=l) (by omega);simp [Net.row];intro b1
 refine aw eok (λi : Nat=>i<=l.length/\∀ r∈l.take i,dm r = aV d) (λi=>⟨20,0,[(1,.p 16 b1 0),(8,.v (.int .i64 i)),(7,.v (.int .i64 l.length)),(6,.ro (l.map Rep.row))],
  [(16,.vars b1 92 [.v (.string d.name),.v (.int .i64 d.fr),.ro (d.text.map aE),.ro (d.list.map Entry.row),.ro (d.seen.map Seen.row),.ro (l.map Rep.row)])]⟩) (λi=>l.length - i) 0 (by simp) (by simp) (λi hi=>Ent.refl ?_)
 by_cases hlt : i < l.length
 ·have hm:=dM (f:=aX) (B:=2 ^ 30) (l:=l) (by omega) (List.getElem_mem hlt)
  obtain ⟨r,hr⟩ : ∃ r,l[i] = r:=⟨_,rfl⟩;have hmem : r∈l:=hr ▸ List.getElem_mem hlt;rw [hr] at hm;have hlen:=w9 r hm;simp [hlt,hr,Rep.row];intro b4;refine a9.quiet eok mix (by kernel_rfl) ?_;simp;refine ⟨_,_,rc r hm,by simp [Rep.row],?_⟩;simp;refine ⟨_,_,kf d (by omega),by simp [Doc.row],?_⟩;simp;refine ⟨_,_,gH (dm r) (aV d) hlen,by simp,?_⟩;by_cases c1 : dm r = aV d
  ·simp [c1]
   refine Ent.refl ⟨i + 1,⟨by omega,jq (P:=λr=>dm r = aV d) hlt hi.2 (by rw [hr];exact c1)⟩,by omega,?_⟩;simp;exact aB (by omega)
  ·have h3 : ¬ j6 ⟨d,l⟩:=λh=>c1 (h r hmem)
   simp [c1,ah h3]
 ·have h3 : j6 ⟨d,l⟩:=λr hr=>hi.2 r (by rw [List.take_of_length_le (by omega)];exact hr)
  simp [hlt,h3]
end Go.Proofs.YtoldjebobgocpaaGreat
