import Derived.Test.YtoldjebobgocpaaGreatPF
import Derived.Test.YtoldjebobgocpaaGreatPD
import Derived.Test.YtoldjebobgocpaaGreatPC
import Derived.Test.YtoldjebobgocpaaGreatPA
namespace Go.Proofs.YtoldjebobgocpaaGreat
open Go.AM
set_option maxRecDepth 20000
def Ring.zero : Ring:=⟨0,0,false,[]⟩
def Hub.zero : Hub:=⟨false,[],[],0⟩
def Wld.zero : Wld:=⟨Hub.zero,[],[],[],0⟩
def aY (room rev : Int) : Ring:=⟨room,rev + 1,false,[]⟩
open Classical in
noncomputable def cW (room rev : Int) : Ring × Bool:=if aX (aY room rev) then (aY room rev,true) else (Ring.zero,false)
open Classical in
noncomputable def bS (r : Ring) (e : Entry) : Ring:=
 if aX r/\bj e/\r.out = false then (if (r.list.length : Int) = r.cap then ⟨r.cap,r.next,true,[]⟩ else ⟨r.cap,r.next,r.out,r.list ++ [e]⟩) else r
open Classical in
noncomputable def a9 (r : Ring) (n : Int) : Ring × List Entry × Int:=
 if aX r/\1<=n then (if r.out = true then (r,[],9) else (⟨r.cap,r.next + (min n.toNat r.list.length : Nat),r.out,r.list.drop n.toNat⟩,r.list.take n.toNat,0)) else (r,[],1)
open Classical in
noncomputable def bq (r : Ring) (rev : Int) : Ring × Bool:=if aX r then cW r.cap rev else (Ring.zero,false)
noncomputable def fC (d : Doc) : List Doc->List Doc
 | []=>[d]
 | x :: l=>open Classical in if sLt x.name d.name then x :: fC d l else d :: x :: l
open Classical in
noncomputable def aW (h : Hub) (name : ByteArray) (t : List Int) : Hub × Int:=
 if ak h/\aL (dq name t) then
  (if h.shut = true then (Hub.zero,12) else if 0<=az h.docs name then (Hub.zero,7) else if h.docs.length = 5 then (Hub.zero,10) else (⟨h.shut,fC (dq name t) h.docs,h.subs,h.last⟩,0))
 else (Hub.zero,1)
noncomputable def cP (name : ByteArray) (e : Entry) (s : Sub) : Sub:=open Classical in if s.doc = name then ⟨s.id,s.doc,bS s.r e⟩ else s
noncomputable def ci (h : Hub) (name : ByteArray) (k : Nat) (d0 d : Doc) : Hub:=
 ⟨h.shut,h.docs.set k d,if ac d > ac d0 then (match d.list.getLast? with | some e=>h.subs.map (cP name e) | none=>h.subs) else h.subs,h.last⟩
open Classical in
noncomputable def aE (h : Hub) (name : ByteArray) (client seq base : Int) (o : List Part) : Hub × Int × Int:=
 if ak h then
  if h.shut = true then (Hub.zero,0,12) else
  match h.docs[(az h.docs name).toNat]? with
  | some d0=>if 0<=az h.docs name then
   (if (bo d0 client seq base o).2.2 = 0 then (ci h name (az h.docs name).toNat d0 (bo d0 client seq base o).1,(bo d0 client seq base o).2.1,0) else (Hub.zero,0,(bo d0 client seq base o).2.2))
   else (Hub.zero,0,6)
  | none=>(Hub.zero,0,6)
 else (Hub.zero,0,1)
open Classical in
noncomputable def ap (h : Hub) (name : ByteArray) (room : Int) : Hub × Int × Int:=
 if ak h/\(1<=room/\room<=6) then
  if h.shut = true then (Hub.zero,0,12) else
  match h.docs[(az h.docs name).toNat]? with
  | some d=>if 0<=az h.docs name then
   (if h.subs.length = 6\/h.last = 1000000000 then (Hub.zero,0,10) else (⟨h.shut,h.docs,h.subs ++ [⟨h.last + 1,name,(cW room (ac d)).1⟩],h.last + 1⟩,h.last + 1,0))
   else (Hub.zero,0,6)
  | none=>(Hub.zero,0,6)
 else (Hub.zero,0,1)
open Classical in
noncomputable def bg (h : Hub) (id n : Int) : Hub × List Entry × Int:=
 if ak h/\1<=n then
  match h.subs[(eg h.subs id).toNat]? with
  | some s=>if 0<=eg h.subs id then
   (if (a9 s.r n).2.2 = 0 then (⟨h.shut,h.docs,h.subs.set (eg h.subs id).toNat ⟨s.id,s.doc,(a9 s.r n).1⟩,h.last⟩,(a9 s.r n).2.1,0) else (Hub.zero,[],(a9 s.r n).2.2))
   else (Hub.zero,[],8)
  | none=>(Hub.zero,[],8)
 else (Hub.zero,[],1)
open Classical in
noncomputable def aH (h : Hub) (id : Int) : Hub × List Int × Int × Int:=
 if ak h then
  match h.subs[(eg h.subs id).toNat]? with
  | some s=>if 0<=eg h.subs id then
   (match h.docs[(az h.docs s.doc).toNat]? with
   | some d=>(⟨h.shut,h.docs,h.subs.set (eg h.subs id).toNat ⟨s.id,s.doc,(bq s.r (ac d)).1⟩,h.last⟩,cL d,ac d,0)
   | none=>(Hub.zero,[],0,8))
   else (Hub.zero,[],0,8)
  | none=>(Hub.zero,[],0,8)
 else (Hub.zero,[],0,1)
open Classical in
noncomputable def bL (h : Hub) : Hub × Int:=if ak h then (if h.shut = true then (Hub.zero,12) else (⟨true,h.docs,h.subs,h.last⟩,0)) else (Hub.zero,1)
def bI (code : Int) : Answer:=⟨code,0,[],[]⟩
open Classical in
noncomputable def iK (h : Hub) (c : Call) : Answer:=
 if h.shut = true then bI 12 else
 match h.docs[(az h.docs c.doc).toNat]? with
 | some d=>if 0<=az h.docs c.doc then (if c.kind = 4 then ⟨0,ac d,cL d,[]⟩ else ⟨(fi d c.n).2,0,[],(fi d c.n).1⟩) else bI 6
 | none=>bI 6
open Classical in
noncomputable def fDo (h : Hub) (c : Call) : Hub × Answer:=
 if ak h/\be c then
  if c.kind = 1 then (if (aW h c.doc c.text).2 = 0 then ((aW h c.doc c.text).1,bI 0) else (h,bI (aW h c.doc c.text).2))
  else if c.kind = 2 then (if (aE h c.doc c.client c.seq c.n c.o).2.2 = 0 then ((aE h c.doc c.client c.seq c.n c.o).1,⟨0,(aE h c.doc c.client c.seq c.n c.o).2.1,[],[]⟩) else (h,bI (aE h c.doc c.client c.seq c.n c.o).2.2))
  else if c.kind = 3\/c.kind = 4 then (h,iK h c)
  else if c.kind = 5 then (if (ap h c.doc c.n).2.2 = 0 then ((ap h c.doc c.n).1,⟨0,(ap h c.doc c.n).2.1,[],[]⟩) else (h,bI (ap h c.doc c.n).2.2))
  else if c.kind = 6 then (if (bg h c.client c.n).2.2 = 0 then ((bg h c.client c.n).1,⟨0,0,[],(bg h c.client c.n).2.1⟩) else (h,bI (bg h c.client c.n).2.2))
  else if c.kind = 7 then (if (aH h c.client).2.2.2 = 0 then ((aH h c.client).1,⟨0,(aH h c.client).2.2.1,(aH h c.client).2.1,[]⟩) else (h,bI (aH h c.client).2.2.2))
  else (if (bL h).2 = 0 then ((bL h).1,bI 0) else (h,bI (bL h).2))
 else (h,bI 1)
open Classical in
noncomputable def dM (h : Hub) (n : Int) : Wld × Bool:=if ak h/\(1<=n/\n<=4) then (⟨h,List.replicate n.toNat (-1),[],[],0⟩,true) else (Wld.zero,false)
def cA (c : Call) (step : Int) : Task:=⟨c,0,step,-1,-1,Answer.zero⟩
open Classical in
noncomputable def d6 (w : Wld) (c : Call) : Wld × Bool:=if (ar w/\be c)/\¬ w.tasks.length = 10/\¬ w.step = 1000000 then (⟨w.h,w.locks,w.queues,w.tasks ++ [cA c w.step],w.step + 1⟩,true) else (Wld.zero,false)
open Classical in
noncomputable def eM (t : Task) : Int:=if t.pc = 0 then (if t.c.kind = 2 then 4 else if aM t.c.kind then 3 else 2) else if t.pc = 1 then (if t.c.kind = 2 then 3 else if aM t.c.kind then 2 else 1) else if t.pc = 2 then 2 else if t.pc = 3 then 1 else 0
noncomputable def lQ : List Task->Int
 | []=>0
 | t :: l=>eM t + lQ l
open Classical in
noncomputable def dN (w : Wld) : Int:=if ar w then lQ w.tasks else 0
theorem IC (t : Task) : 0<=eM t/\eM t<=4:=by
 unfold eM
 repeat' split
 all_goals omega
theorem oV : ∀ l : List Task,0<=lQ l/\lQ l<=4 * l.length
 | []=>by simp [lQ]
 | t :: l => by
   have:=oV l;have:=IC t;simp only [lQ,List.length_cons];omega
def chn (L : List Part) : Prop:=∀ i,∀ h : i + 1 < L.length,L[i].kind≠L[i + 1].kind
theorem Cd : chn []:=λi h=>by simp at h
theorem GO {p : Part} {L : List Part} (h : chn (p :: L)) : chn L/\∀ h0 : 0 < L.length,p.kind≠L[0].kind:=by
 refine ⟨λi hi=>?_,λh0=>?_⟩
 ·have:=h (i + 1) (by simp;omega)
  simpa using this
 ·have:=h 0 (by simp;omega)
  simpa using this
theorem mz {L : List Part} {p : Part} (h : chn L) (hp : ∀ h : 0 < L.length,(L[L.length - 1]'(by omega)).kind≠p.kind) : chn (L ++ [p]):=by
 intro i hi;simp at hi;by_cases c : i + 1 < L.length
 ·rw [List.getElem_append_left (by omega),List.getElem_append_left c];exact h i c
 ·have h0 : 0 < L.length:=by omega
  have:=hp h0;rw [List.getElem_append_left (by omega),List.getElem_append_right (by omega)];have e : i = L.length - 1:=by omega
  subst e
  simpa using this
theorem I5 {L : List Part} {i : Nat} {p : Part} (h : chn L) (hi : i < L.length) (hk : p.kind = L[i].kind) : chn (L.set i p):=by
 intro j hj;simp at hj;have h1:=h j hj;rw [List.getElem_set,List.getElem_set]
 split
 ·rename_i e;subst e
  rw [if_neg (by omega),hk];exact h1
 ·split
  ·rename_i e;subst e;rw [hk];exact h1
  ·exact h1
def FW (L : List Part) : Prop:=∀ h : 0 < L.length,(L[L.length - 1]'(by omega)).kind = 1
theorem sj {L : List Part} {p : Part} : (((L ++ [p])[(L ++ [p]).length - 1]'(by simp))).kind = p.kind:=by simp
theorem va {L : List Part} {P : List Int} {D : Int} (h : chn L) (hl : FW L) : chn (aJ L P D):=by
 unfold aJ
 split
 ·split
  ·rw [List.nil_append]
   exact mz h λh0=>by rw [hl h0];simp
  ·simpa using h
 ·have h1 : chn (L ++ [⟨2,0,P⟩]):=mz h λh0=>by rw [hl h0];simp
  split
  ·rw [<- List.append_assoc]
   exact mz h1 λh0=>by rw [sj];simp
  ·simpa using h1
theorem F5 {L : List Part} {n : Int} (h : chn L) : chn (bP L n)/\FW (bP L n):=by
 unfold bP
 split
 ·rename_i h0
  split
  ·rename_i hk
   refine ⟨I5 h (by omega) hk.symm,λh1=>?_⟩;simp
  ·rename_i hk
   refine ⟨mz h λ_=>hk,λh1=>?_⟩;rw [sj]
 ·exact ⟨mz (L:=[]) Cd (λh=>by simp at h),λ_=>rfl⟩
theorem uU (o : List Part) : ∀ (i : Nat),i<=o.length->chn (a8 (o.take i)).1/\FW (a8 (o.take i)).1
 | 0, _ => by
   simp only [a8,List.take_zero,List.foldl_nil];exact ⟨Cd,λh=>by simp at h⟩
 | i + 1, hi => by
   obtain ⟨h1,h2⟩:=uU o i (by omega);rw [gg (show i < o.length by omega)];generalize a8 (o.take i) = s at h1 h2;unfold dg
   split
   ·exact ⟨h1,h2⟩
   ·split
    ·exact ⟨h1,h2⟩
    ·split
     ·exact F5 (va h1 h2)
     ·exact ⟨h1,h2⟩
theorem Ae (o : List Part) : chn (normal o):=by
 obtain ⟨h1,h2⟩:=uU o o.length (Nat.le_refl _);rw [List.take_length] at h1 h2;exact va h1 h2
def ug : At->List Part->List Part
 | .k,[]=>[⟨1,1,[]⟩]
 | .k,p :: l=>if p.kind = 1 then ⟨1,p.n + 1,[]⟩ :: l else ⟨1,1,[]⟩ :: p :: l
 | .d,[]=>[⟨3,1,[]⟩]
 | .d,p :: l=>if p.kind = 3 then ⟨3,p.n + 1,[]⟩ :: l else ⟨3,1,[]⟩ :: p :: l
 | .p c,[]=>[⟨2,0,[c]⟩]
 | .p c,p :: l=>if p.kind = 2 then ⟨2,0,c :: p.signs⟩ :: l else ⟨2,0,[c]⟩ :: p :: l
def grp (l : List At) : List Part:=l.foldr ug []
theorem Gk {L : List Part} (h : ∀ h0 : 0 < L.length,L[0].kind≠1) : ∀ n : Nat,(List.replicate (n + 1) At.k).foldr ug L = ⟨1,(n : Int) + 1,[]⟩ :: L
 | 0 => by
   cases L with
   | nil=>rfl
   | cons p l=>have:=h (by simp);simp at this;simp [ug,this]
 | n + 1 => by
   rw [List.replicate_succ,List.foldr_cons,Gk h n];simp [ug]
theorem Gl {L : List Part} (h : ∀ h0 : 0 < L.length,L[0].kind≠3) : ∀ n : Nat,(List.replicate (n + 1) At.d).foldr ug L = ⟨3,(n : Int) + 1,[]⟩ :: L
 | 0 => by
   cases L with
   | nil=>rfl
   | cons p l=>have:=h (by simp);simp at this;simp [ug,this]
 | n + 1 => by
   rw [List.replicate_succ,List.foldr_cons,Gl h n];simp [ug]
theorem Gj {L : List Part} (h : ∀ h0 : 0 < L.length,L[0].kind≠2) : ∀ (Q : List Int) (c : Int),((c :: Q).map At.p).foldr ug L = ⟨2,0,c :: Q⟩ :: L
 | [], c => by
   cases L with
   | nil=>rfl
   | cons p l=>have:=h (by simp);simp at this;simp [ug,this]
 | d :: Q, c => by
   rw [List.map_cons,List.foldr_cons,Gj h Q d];simp [ug]
theorem u9 : ∀ {L : List Part},(∀ q∈L,Shp q)->chn L->grp (aT L) = L
 | [],_,_=>rfl
 | p :: L, hs, hc => by
   obtain ⟨h1,h2⟩:=GO hc;have ih:=u9 (λq hq=>hs q (List.mem_cons_of_mem _ hq)) h1;have hp:=hs p (List.mem_cons_self ..);unfold grp at ih ⊢;rw [aT,List.foldr_append,ih];have hpos:=hp.pos;have hn:=hp.n;unfold ats;obtain ⟨kd,n,sg⟩:=p;by_cases k2 : kd = 2
   ·subst k2
    obtain ⟨e1,-⟩:=hp.put rfl;simp only at e1;subst e1;simp only [if_true]
    cases sg with
    | nil=>simp [psz] at hpos
    | cons c Q=>exact Gj (λh0=>by have:=h2 h0;simpa using this.symm) Q c
   ·have e1:=hp.run k2
    simp only at e1 hn;subst e1;have hz : psz ⟨kd,n,[]⟩ = n.toNat:=by simp [psz]
    rw [hz] at hpos;obtain ⟨m,hm⟩ : ∃ m,n.toNat = m + 1:=⟨n.toNat - 1,by omega⟩;have hnm : n = (m : Int) + 1:=by omega
    rw [hz,hm,if_neg k2];by_cases k3 : kd = 3
    ·subst k3
     simp only [if_true];rw [Gl (λh0=>by have:=h2 h0;simpa using this.symm),hnm]
    ·have k1 : kd = 1:=by rcases hp.k with h | h | h<;>simp only at h<;>omega
     subst k1;rw [if_neg (by simp),Gk (λh0=>by have:=h2 h0;simpa using this.symm),hnm]
theorem yr : ∀ (l : List At) (P : List Int) (n : Nat),nA [] 0 (nA P n l) = nA P n l
 | [], P, n => by
   have h2:=BU n P 0 [];rw [List.append_nil,Nat.zero_add] at h2;rw [nA,BS,List.nil_append,h2,nA]
 | .k :: l, P, n => by
   rw [nA,BS,BU,List.nil_append,Nat.zero_add,nA,yr l]
 | .p c :: l,P,n=>by rw [nA,yr l]
 | .d :: l,P,n=>by rw [nA,yr l]
theorem kY {o : List Part} (h : ∀ p∈o,am p) : normal o = grp (lO (aT o)):=by
 rw [<- gU h,u9 (rZ h) (Ae o)]
theorem tV {o : List Part} (h : bJ o) : normal (normal o) = normal o:=by
 have h2:=(pN h).1;rw [kY h2.1.1,gU h.1.1,kY h.1.1];unfold lO;rw [yr]
theorem tZ {o : List Part} (h : bJ o) : f0 (normal o):=by
 have h2:=(pN h).1;refine ⟨h2,?_⟩;unfold bT;rw [if_pos h2,tV h]
theorem tY {o : List Part} (h : bJ o) : f0 (bT o):=by
 have e : bT o = normal o:=by unfold bT;rw [if_pos h]
 rw [e];exact tZ h
theorem rW : ∀ (l : List (List Part)) (v v' : List Part),f0 v->iJ l v = some v'->f0 v'
 | [],v,v',h,e=>by simp only [iJ,Option.some.injEq] at e;exact e ▸ h
 | a :: l, v, v', h, e => by
   rw [iJ] at e
   split at e
   ·rename_i ht
    refine rW l _ v' ?_ e;unfold aC at ht ⊢
    split at ht
    ·rename_i h1
     split at ht
     ·rename_i h2
      rw [if_pos h1,if_pos h2];have hi:=ra h1.1 h1.2.1 h1.2.2;have hk:=JA hi;simp only;refine ⟨h2.2,?_⟩;unfold bT;rw [if_pos h2.2,kY h2.2.1.1,gU hk.2];unfold lO;rw [yr];exact (kY hk.2).symm
     ·simp at ht
    ·simp at ht
   ·cases e
theorem AU {l : List (List Part)} {b : List Part} (h : (gk l b).2 = true) : f0 (gk l b).1:=by
 unfold gk at h ⊢
 split at h
 ·rename_i hb
  rw [if_pos hb]
  cases e : iJ l (bT b) with
  | none=>rw [e] at h;simp at h
  | some v=>exact rW l _ v (tY hb) e
 ·simp at h
theorem lz {d : Doc} (h : aL d) (e : Entry) : ac (aZ d e) = ac d + 1/\(aZ d e).list.getLast? = some e:=by
 obtain ⟨h1,h2,h3,h4⟩:=aU h;unfold aZ
 split
 ·refine ⟨?_,by simp⟩
  unfold ac;simp only [List.length_append,List.length_cons,List.length_nil];rw [Go.IntWalk.i64_in _ (by omega),Go.IntWalk.i64_in _ (by omega)];omega
 ·refine ⟨?_,?_⟩
  ·unfold ac
   simp only [List.length_append,List.length_cons,List.length_nil,List.length_drop];rw [Go.IntWalk.i64_in _ (by omega),Go.IntWalk.i64_in _ (by omega)];omega
  ·have hl : d.list.length = 8:=by omega
   rw [List.getLast?_drop];rw [if_neg (by rw [List.length_append,List.length_singleton];omega)];simp
theorem kz {α : Type} {R : α->α->Prop} (tr : ∀ a b c,R a b->R b c->R a c) : ∀ {l : List α},(∀ i,∀ h : i < l.length,∀ h0 : 0 < i,R (l[i - 1]'(by omega)) l[i])->l.Pairwise R
 | [],_=>.nil
 | [a],_=>by simp
 | a :: b :: l, h => by
   have ih:=kz tr (l:=b :: l) (λi hi h0=>by
    have:=h (i + 1) (by simp at hi ⊢;omega) (by omega);obtain ⟨j,rfl⟩ : ∃ j,i = j + 1:=⟨i - 1,by omega⟩
    simpa using this)
   have hab : R a b:=by have:=h 1 (by simp) (by omega);simpa using this
   refine List.pairwise_cons.2 ⟨λc hc=>?_,ih⟩;rcases List.mem_cons.1 hc with rfl | hc
   ·exact hab
   ·exact tr _ _ _ hab ((List.pairwise_cons.1 ih).1 c hc)
theorem nj {α : Type} {R : α->α->Prop} {l : List α} (h : l.Pairwise R) : ∀ i,∀ h : i < l.length,∀ h0 : 0 < i,R (l[i - 1]'(by omega)) l[i]:=
 λi hi h0=>(List.pairwise_iff_getElem.1 h) (i - 1) i (by omega) hi (by omega)
def OU (R : Int) (s : Seen) : Prop:=(1<=s.client/\s.client<=8)/\(1<=s.seq/\s.seq<=1000000000)/\(1<=s.rev/\s.rev<=R)
theorem qn {d : Doc} : oK d ↔ (∀ s∈d.seen,OU (ac d) s)/\d.seen.Pairwise λa b=>a.client < b.client:=by
 constructor
 ·intro h
  refine ⟨λs hs=>?_,kz (R:=λa b : Seen=>a.client < b.client) (λ_ _ _=>Int.lt_trans) λi hi h0=>(h i hi).2.2.2 h0⟩;obtain ⟨i,hi,rfl⟩:=List.getElem_of_mem hs;obtain ⟨h1,h2,h3,-⟩:=h i hi;exact ⟨h1,h2,h3⟩
 ·rintro ⟨h1,h2⟩ i hi
  obtain ⟨a,b,c⟩:=h1 _ (List.getElem_mem hi);exact ⟨a,b,c,λh0=>nj h2 i hi h0⟩
theorem l6 {c s r : Int} : ∀ {l : List Seen} {x : Seen},x∈bd c s r l->x = ⟨c,s,r⟩\/x∈l
 | [],x,h=>by simp [bd] at h;exact .inl h
 | y :: l, x, h => by
   unfold bd at h
   split at h
   ·rcases List.mem_cons.1 h with h | h
    ·exact .inr (by simp [h])
    ·rcases l6 h with h | h
     ·exact .inl h
     ·exact .inr (List.mem_cons_of_mem _ h)
   ·split at h
    ·rcases List.mem_cons.1 h with h | h
     ·exact .inl h
     ·exact .inr (List.mem_cons_of_mem _ h)
    ·rcases List.mem_cons.1 h with h | h
     ·exact .inl h
     ·exact .inr h
theorem rM {c s r : Int} : ∀ {l : List Seen},(l.Pairwise λa b=>a.client < b.client)->(bd c s r l).Pairwise λa b=>a.client < b.client
 | [],_=>by simp [bd]
 | y :: l, h => by
   obtain ⟨h1,h2⟩:=List.pairwise_cons.1 h;unfold bd
   split
   ·rename_i hc
    refine List.pairwise_cons.2 ⟨λx hx=>?_,rM h2⟩;rcases l6 hx with rfl | hx
    ·exact hc
    ·exact h1 x hx
   ·split
    ·rename_i hc
     exact List.pairwise_cons.2 ⟨λx hx=>by have:=h1 x hx;simp only;omega,h2⟩
    ·refine List.pairwise_cons.2 ⟨λx hx=>?_,h⟩
     rcases List.mem_cons.1 hx with rfl | hx
     ·simp only;omega
     ·have:=h1 x hx;simp only;omega
theorem A1 {d : Doc} (h : aL d) {e : Entry} (he : bj e) (hf : iu e.o (cL d)) (hr : ac d < 999999000) : aL (aZ d e):=by
 have hh:=aU h;have hp:=(lz h e).1;obtain ⟨t1,t2⟩:=nN h;obtain ⟨g1,g2,g3,g4,g5,g6,g7⟩:=h
 have hap : (aw ((d.list ++ [e]).map Entry.o) d.text).isSome = true:=by
  rw [List.map_append,fw,t1];simp only [Option.bind_some,List.map_cons,List.map_nil,aw];rw [if_pos (jb.2 hf)];rfl
 have hse : oK (aZ d e):=by
  rw [qn,hp];obtain ⟨s1,s2⟩:=qn.1 g7;have e1 : (aZ d e).seen = bd e.client e.seq (ac d + 1) d.seen:=by unfold aZ;split<;>rfl
  rw [e1];refine ⟨λx hx=>?_,rM s2⟩;rcases l6 hx with rfl | hx
  ·exact ⟨he.1,he.2.1,by simp only;omega⟩
  ·obtain ⟨a,b,c⟩:=s1 x hx
   exact ⟨a,b,by omega⟩
 have hen : ∀ x∈d.list ++ [e],bj x:=λx hx=>by
  rcases List.mem_append.1 hx with hx | hx
  ·exact g5 x hx
  ·simp at hx;subst hx;exact he
 unfold aZ at hse ⊢
 split
 ·rename_i hl
  rw [if_pos hl] at hse;exact ⟨g1,g2,g3,by simp;omega,hen,hap,hse⟩
 ·rename_i hl
  rw [if_neg hl] at hse
  obtain ⟨x,l',hx⟩ : ∃ x l',d.list ++ [e] = x :: l':=by
   cases hd : d.list ++ [e] with
   | nil=>simp at hd
   | cons x l'=>exact ⟨x,l',rfl⟩
  have hlen : l'.length = d.list.length:=by have:=congrArg List.length hx;simp at this;omega
  simp only [hx] at hse hap hen ⊢;simp only [List.getElem_cons_zero,List.drop_one,List.tail_cons] at hse ⊢;rw [List.map_cons,aw] at hap
  split at hap
  ·rename_i ha
   exact ⟨g1,by simp only;omega,(iX (jb.1 ha)).1,by simp only;omega,λy hy=>hen y (List.mem_cons_of_mem _ hy),hap,hse⟩
  ·simp at hap
theorem wM (d : Doc) (e : Entry) : (aZ d e).name = d.name:=by unfold aZ;split<;>rfl
theorem nO {d : Doc} {client seq base : Int} {o : List Part} (h : aL d) (hc : (bo d client seq base o).2.2 = 0) :
 aL (bo d client seq base o).1/\(bo d client seq base o).1.name = d.name/\((bo d client seq base o).1 = d\/
  ∃ e,bj e/\e.client = client/\e.seq = seq/\(bo d client seq base o).1 = aZ d e/\iu e.o (cL d)/\ac d < 999999000):=by
 unfold bo at hc ⊢
 split at hc
 ·rename_i hs
  rw [if_pos hs]
  split at hc
  ·rename_i h1
   rw [if_pos h1];exact ⟨h,rfl,.inl rfl⟩
  ·rename_i h1
   rw [if_neg h1]
   split at hc
   ·rename_i h2
    rw [if_pos h2]
    split at hc
    ·rename_i h3
     rw [if_pos h3]
     split at hc
     ·simp at hc
     ·rename_i h4
      rw [if_neg h4]
      have key : f0 (cm d base o).1/\iu (cm d base o).1 (cL d):=by
       unfold cm at h3 ⊢
       split at h3
       ·rename_i c1
        rw [if_pos c1]
        split at h3
        ·simp at h3
        ·rename_i c2
         rw [if_neg c2]
         split at h3
         ·simp at h3
         ·rename_i c3
          rw [if_neg c3]
          split at h3
          ·rename_i c4
           rw [if_pos c4]
           split at h3
           ·rename_i c5
            rw [if_pos c5];exact ⟨AU c5,pd c1.1 c1.2 (by omega) (by omega) c4 c5⟩
           ·simp at h3
          ·simp at h3
       ·simp at h3
      have he : bj ⟨client,seq,(cm d base o).1⟩:=⟨hs.2.1,hs.2.2.1,key.1⟩;exact ⟨A1 h he key.2 (by omega),wM _ _,.inr ⟨_,he,rfl,rfl,rfl,key.2,by omega⟩⟩
    ·rename_i h3;exact absurd hc h3
   ·simp at hc
 ·simp at hc
theorem sH {d : Doc} {client seq base : Int} {o : List Part} (h : aL d) (hc : (bo d client seq base o).2.2 = 0) :
 (bo d client seq base o).1 = d\/∃ e,ac (bo d client seq base o).1 = ac d + 1/\(bo d client seq base o).1.list.getLast? = some e:=by
 obtain ⟨-,-,h1 | ⟨e,-,-,-,h2,-⟩⟩:=nO h hc
 ·exact .inl h1
 ·rw [h2];exact .inr ⟨e,lz h e⟩
theorem iS {room rev : Int} (h : aX (aY room rev)) : cW room rev = (aY room rev,true):=by unfold cW;rw [if_pos h]
theorem mr {room rev : Int} (h : ¬ aX (aY room rev)) : cW room rev = (Ring.zero,false):=by unfold cW;rw [if_neg h]
theorem l8 (room rev : Int) : cC (aY room rev) = 0:=by simp [cC,aY,nL,bO]
theorem sJ (room rev : Int) : cC (cW room rev).1 = 0:=by
 unfold cW
 split
 ·exact l8 _ _
 ·simp [Ring.zero,cC,nL,bO]
theorem lr {r : Ring} {e : Entry} (h : ¬ (aX r/\bj e/\r.out = false)) : bS r e = r:=by unfold bS;rw [if_neg h]
theorem jo {r : Ring} {e : Entry} (h : aX r/\bj e/\r.out = false) (hc : (r.list.length : Int) = r.cap) : bS r e = ⟨r.cap,r.next,true,[]⟩:=by unfold bS;rw [if_pos h,if_pos hc]
theorem jn {r : Ring} {e : Entry} (h : aX r/\bj e/\r.out = false) (hc : ¬ (r.list.length : Int) = r.cap) : bS r e = ⟨r.cap,r.next,r.out,r.list ++ [e]⟩:=by unfold bS;rw [if_pos h,if_neg hc]
theorem yY (r : Ring) (e : Entry) : cC (bS r e)<=cC r + aS e + 1:=by
 unfold bS
 split
 ·split
  ·simp [cC,nL,bO]
  ·simp only [cC]
   rw [eN];simp [nL,bO];omega
 ·omega
theorem pb {r : Ring} {n : Int} (h : ¬ (aX r/\1<=n)) : a9 r n = (r,[],1):=by unfold a9;rw [if_neg h]
theorem ka {r : Ring} {n : Int} (h : aX r/\1<=n) (ho : r.out = true) : a9 r n = (r,[],9):=by unfold a9;rw [if_pos h,if_pos ho]
theorem j9 {r : Ring} {n : Int} (h : aX r/\1<=n) (ho : r.out = false) {k : Nat} (hk : k = min n.toNat r.list.length) : a9 r n = (⟨r.cap,r.next + k,r.out,r.list.drop k⟩,r.list.take k,0):=by
 unfold a9;rw [if_pos h,if_neg (by rw [ho];simp)];subst hk;rcases Nat.le_total n.toNat r.list.length with h1 | h1
 ·rw [Nat.min_eq_left h1]
 ·rw [Nat.min_eq_right h1,List.drop_eq_nil_of_le h1,List.drop_eq_nil_of_le (Nat.le_refl _),List.take_of_length_le h1,List.take_of_length_le (Nat.le_refl _)]
theorem yZ (r : Ring) (n : Int) : cC (a9 r n).1<=cC r/\nL aS (a9 r n).2.1<=cC r:=by
 unfold a9
 split
 ·split
  ·simp [nL,bO]
  ·refine ⟨?_,vY (Nat.le_refl _)⟩
   show nL aS (r.list.drop n.toNat)<=nL aS r.list
   have h:=eN (f:=aS) (r.list.take n.toNat) (r.list.drop n.toNat);rw [List.take_append_drop] at h;omega
 ·simp [nL,bO]
theorem iE {r : Ring} {rev : Int} (h : aX r) : bq r rev = cW r.cap rev:=by unfold bq;rw [if_pos h]
theorem mq {r : Ring} {rev : Int} (h : ¬ aX r) : bq r rev = (Ring.zero,false):=by unfold bq;rw [if_neg h]
theorem br (l : List Doc) (name : ByteArray) : (∃ k : Nat,∃ h : k < l.length,az l name = k/\l[k].name = name)\/az l name = -1:=by
 rcases eF (λd : Doc=>d.name = name) l with ⟨k,h,e,hp,-⟩ | ⟨e,-⟩
 ·exact .inl ⟨k,h,e,hp⟩
 ·exact .inr e
theorem fm (l : List Sub) (id : Int) : (∃ k : Nat,∃ h : k < l.length,eg l id = k/\l[k].id = id)\/eg l id = -1:=by
 rcases eF (λs : Sub=>s.id = id) l with ⟨k,h,e,hp,-⟩ | ⟨e,-⟩
 ·exact .inl ⟨k,h,e,hp⟩
 ·exact .inr e
theorem ch {h : Hub} (c : ak h) {k : Nat} (hk : k < h.docs.length) : aL h.docs[k]:=(c.2.2.2.1 k hk).1
theorem rf {h : Hub} (c : ak h) {k : Nat} (hk : k < h.subs.length) : aX h.subs[k].r/\∃ j : Nat,∃ _ : j < h.docs.length,az h.docs h.subs[k].doc = j:=by
 obtain ⟨-,h2,-,j,hj,e,-⟩:=c.2.2.2.2 k hk;exact ⟨h2,j,hj,e⟩
theorem gl {h : Hub} {name : ByteArray} {t : List Int} (c : ¬ (ak h/\aL (dq name t))) : aW h name t = (Hub.zero,1):=by unfold aW;rw [if_neg c]
theorem nS {h : Hub} {name : ByteArray} {t : List Int} (c : ak h/\aL (dq name t)) (s : h.shut = true) : aW h name t = (Hub.zero,12):=by unfold aW;rw [if_pos c,if_pos s]
theorem nT {h : Hub} {name : ByteArray} {t : List Int} (c : ak h/\aL (dq name t)) (s : ¬ h.shut = true) (i : 0<=az h.docs name) : aW h name t = (Hub.zero,7):=by unfold aW;rw [if_pos c,if_neg s,if_pos i]
theorem nU {h : Hub} {name : ByteArray} {t : List Int} (c : ak h/\aL (dq name t)) (s : ¬ h.shut = true) (i : ¬ 0<=az h.docs name) (f : h.docs.length = 5) : aW h name t = (Hub.zero,10):=by unfold aW;rw [if_pos c,if_neg s,if_neg i,if_pos f]
theorem pf {h : Hub} {name : ByteArray} {t : List Int} (c : ak h/\aL (dq name t)) (s : ¬ h.shut = true) (i : ¬ 0<=az h.docs name) (f : ¬ h.docs.length = 5) : aW h name t = (⟨h.shut,fC (dq name t) h.docs,h.subs,h.last⟩,0):=by
 unfold aW;rw [if_pos c,if_neg s,if_neg i,if_neg f]
noncomputable def dh (name : ByteArray) : List Doc->Nat
 | []=>0
 | x :: l=>open Classical in if sLt x.name name then dh name l + 1 else 0
theorem m9 (d : Doc) : ∀ l : List Doc,fC d l = l.take (dh d.name l) ++ d :: l.drop (dh d.name l)
 | []=>by simp [fC,dh]
 | x :: l => by
   unfold fC dh
   split
   ·rw [m9 d l];simp
   ·simp
theorem mv (name : ByteArray) : ∀ l : List Doc,dh name l<=l.length
 | []=>by simp [dh]
 | x :: l => by
   unfold dh
   split
   ·have:=mv name l;simp;omega
   ·omega
theorem mw {name : ByteArray} : ∀ {l : List Doc} {k : Nat},k<=dh name l->∀ hk : k < l.length,sLt l[k].name name ↔ k < dh name l
 | x :: l, 0, _, _ => by
   unfold dh
   split
   ·rename_i h;simpa using h
   ·rename_i h;simpa using h
 | x :: l, k + 1, h, hk => by
   unfold dh at h ⊢
   split at h
   ·rename_i hx
    rw [if_pos hx];have:=mw (name:=name) (l:=l) (k:=k) (by omega) (by simpa using hk);simp only [List.getElem_cons_succ];rw [this];omega
   ·omega
theorem ke {h : Hub} {name : ByteArray} {client seq base : Int} {o : List Part} (c : ¬ ak h) : aE h name client seq base o = (Hub.zero,0,1):=by unfold aE;rw [if_neg c]
theorem iF {h : Hub} {name : ByteArray} {client seq base : Int} {o : List Part} (c : ak h) (s : h.shut = true) : aE h name client seq base o = (Hub.zero,0,12):=by unfold aE;rw [if_pos c,if_pos s]
theorem iG {h : Hub} {name : ByteArray} {client seq base : Int} {o : List Part} (c : ak h) (s : ¬ h.shut = true) (i : az h.docs name = -1) : aE h name client seq base o = (Hub.zero,0,6):=by
 unfold aE;rw [if_pos c,if_neg s,i]
 split
 ·rw [if_neg (by omega)]
 ·rfl
theorem kf {h : Hub} {name : ByteArray} {client seq base : Int} {o : List Part} (c : ak h) (s : ¬ h.shut = true) {k : Nat} (hk : k < h.docs.length) (i : az h.docs name = k) :
 aE h name client seq base o = if (bo h.docs[k] client seq base o).2.2 = 0 then (ci h name k h.docs[k] (bo h.docs[k] client seq base o).1,(bo h.docs[k] client seq base o).2.1,0) else (Hub.zero,0,(bo h.docs[k] client seq base o).2.2):=by
 unfold aE;rw [if_pos c,if_neg s,i];simp only [Int.toNat_natCast];rw [List.getElem?_eq_getElem hk];simp only;rw [if_pos (by omega)]
theorem en {h : Hub} {name : ByteArray} {room : Int} (c : ¬ (ak h/\(1<=room/\room<=6))) : ap h name room = (Hub.zero,0,1):=by unfold ap;rw [if_neg c]
theorem f5 {h : Hub} {name : ByteArray} {room : Int} (c : ak h/\(1<=room/\room<=6)) (s : h.shut = true) : ap h name room = (Hub.zero,0,12):=by unfold ap;rw [if_pos c,if_pos s]
theorem f9 {h : Hub} {name : ByteArray} {room : Int} (c : ak h/\(1<=room/\room<=6)) (s : ¬ h.shut = true) (i : az h.docs name = -1) : ap h name room = (Hub.zero,0,6):=by
 unfold ap;rw [if_pos c,if_neg s,i]
 split
 ·rw [if_neg (by omega)]
 ·rfl
theorem gZ {h : Hub} {name : ByteArray} {room : Int} (c : ak h/\(1<=room/\room<=6)) (s : ¬ h.shut = true) {k : Nat} (hk : k < h.docs.length) (i : az h.docs name = k) :
 ap h name room = if h.subs.length = 6\/h.last = 1000000000 then (Hub.zero,0,10) else (⟨h.shut,h.docs,h.subs ++ [⟨h.last + 1,name,(cW room (ac h.docs[k])).1⟩],h.last + 1⟩,h.last + 1,0):=by
 unfold ap;rw [if_pos c,if_neg s,i];simp only [Int.toNat_natCast];rw [List.getElem?_eq_getElem hk];simp only;rw [if_pos (by omega)]
theorem iB {h : Hub} {id n : Int} (c : ¬ (ak h/\1<=n)) : bg h id n = (Hub.zero,[],1):=by unfold bg;rw [if_neg c]
theorem kl {h : Hub} {id n : Int} (c : ak h/\1<=n) (i : eg h.subs id = -1) : bg h id n = (Hub.zero,[],8):=by
 unfold bg;rw [if_pos c,i]
 split
 ·rw [if_neg (by omega)]
 ·rfl
theorem ms {h : Hub} {id n : Int} (c : ak h/\1<=n) {k : Nat} (hk : k < h.subs.length) (i : eg h.subs id = k) :
 bg h id n = if (a9 h.subs[k].r n).2.2 = 0 then (⟨h.shut,h.docs,h.subs.set k ⟨h.subs[k].id,h.subs[k].doc,(a9 h.subs[k].r n).1⟩,h.last⟩,(a9 h.subs[k].r n).2.1,0) else (Hub.zero,[],(a9 h.subs[k].r n).2.2):=by
 unfold bg;rw [if_pos c,i];simp only [Int.toNat_natCast];rw [List.getElem?_eq_getElem hk];simp only;rw [if_pos (by omega)]
theorem kg {h : Hub} {id : Int} (c : ¬ ak h) : aH h id = (Hub.zero,[],0,1):=by unfold aH;rw [if_neg c]
theorem iH {h : Hub} {id : Int} (c : ak h) (i : eg h.subs id = -1) : aH h id = (Hub.zero,[],0,8):=by
 unfold aH;rw [if_pos c,i]
 split
 ·rw [if_neg (by omega)]
 ·rfl
theorem kj {h : Hub} {id : Int} (c : ak h) {k : Nat} (hk : k < h.subs.length) (i : eg h.subs id = k) {j : Nat} (hj : j < h.docs.length) (e : az h.docs h.subs[k].doc = j) :
 aH h id = (⟨h.shut,h.docs,h.subs.set k ⟨h.subs[k].id,h.subs[k].doc,(bq h.subs[k].r (ac h.docs[j])).1⟩,h.last⟩,cL h.docs[j],ac h.docs[j],0):=by
 unfold aH;rw [if_pos c,i];simp only [Int.toNat_natCast];rw [List.getElem?_eq_getElem hk];simp only;rw [if_pos (by omega),e];simp only [Int.toNat_natCast];rw [List.getElem?_eq_getElem hj]
theorem qJ {h : Hub} (c : ¬ ak h) : bL h = (Hub.zero,1):=by unfold bL;rw [if_neg c]
theorem nP {h : Hub} (c : ak h) (s : h.shut = true) : bL h = (Hub.zero,12):=by unfold bL;rw [if_pos c,if_pos s]
theorem pe {h : Hub} (c : ak h) (s : ¬ h.shut = true) : bL h = (⟨true,h.docs,h.subs,h.last⟩,0):=by unfold bL;rw [if_pos c,if_neg s]
theorem sM {h : Hub} {c : Call} (s : h.shut = true) : iK h c = bI 12:=by unfold iK;rw [if_pos s]
theorem sN {h : Hub} {c : Call} (s : ¬ h.shut = true) (i : az h.docs c.doc = -1) : iK h c = bI 6:=by
 unfold iK;rw [if_neg s,i]
 split
 ·rw [if_neg (by omega)]
 ·rfl
theorem y1 {h : Hub} {c : Call} (s : ¬ h.shut = true) {k : Nat} (hk : k < h.docs.length) (i : az h.docs c.doc = k) :
 iK h c = if c.kind = 4 then ⟨0,ac h.docs[k],cL h.docs[k],[]⟩ else ⟨(fi h.docs[k] c.n).2,0,[],(fi h.docs[k] c.n).1⟩:=by
 unfold iK;rw [if_neg s,i];simp only [Int.toNat_natCast];rw [List.getElem?_eq_getElem hk];simp only;rw [if_pos (by omega)]
theorem mO {l : List Doc} {i : Nat} {a b c d e : CD} : ∀ row∈(l.map Doc.row).set i [a,b,c,d,e],row.length = 5:=by
 intro row h;rcases List.mem_or_eq_of_mem_set h with h | rfl
 ·rw [List.mem_map] at h
  obtain ⟨a,-,rfl⟩:=h;rfl
 ·rfl
theorem pJ {l : List Sub} {i : Nat} {a b c d e f : CD} : ∀ row∈(l.map Sub.row).set i [a,b,c,d,e,f],row.length = 6:=by
 intro row h;rcases List.mem_or_eq_of_mem_set h with h | rfl
 ·rw [List.mem_map] at h
  obtain ⟨a,-,rfl⟩:=h;rfl
 ·rfl
theorem El {a b : UInt8} : a < b ↔ a.toNat < b.toNat:=UInt8.lt_iff_toNat_lt
theorem vo : ∀ x : List UInt8,Go.Op.bytesLess x x = false
 | []=>rfl
 | a :: x => by
   have h : ¬ a < a:=by rw [El];omega
   rw [Go.Op.bytesLess,vo x];simp [h]
theorem zc : ∀ x y z : List UInt8,Go.Op.bytesLess x y = true->Go.Op.bytesLess y z = true->Go.Op.bytesLess x z = true
 | [],[],_,h,_=>by simp [Go.Op.bytesLess] at h
 | _ :: _,[],_,h,_=>by simp [Go.Op.bytesLess] at h
 | _,_ :: _,[],_,h=>by simp [Go.Op.bytesLess] at h
 | [],_ :: _,_ :: _,_,_=>rfl
 | a :: x, b :: y, c :: z, h1, h2 => by
   rw [Go.Op.bytesLess] at h1 h2 ⊢;simp only [Bool.or_eq_true,Bool.and_eq_true,decide_eq_true_eq,beq_iff_eq] at h1 h2 ⊢;rcases h1 with h1 | ⟨rfl,h1⟩
   ·rcases h2 with h2 | ⟨rfl,h2⟩
    ·rw [El] at h1 h2 ⊢;exact .inl (by omega)
    ·exact .inl h1
   ·rcases h2 with h2 | ⟨rfl,h2⟩
    ·exact .inl h2
    ·exact .inr ⟨rfl,zc x y z h1 h2⟩
theorem GV : ∀ x y : List UInt8,Go.Op.bytesLess x y = true\/x = y\/Go.Op.bytesLess y x = true
 | [],[]=>.inr (.inl rfl)
 | [],_ :: _=>.inl rfl
 | _ :: _,[]=>.inr (.inr rfl)
 | a :: x, b :: y => by
   rw [Go.Op.bytesLess,Go.Op.bytesLess];simp only [Bool.or_eq_true,Bool.and_eq_true,decide_eq_true_eq,beq_iff_eq,List.cons.injEq];by_cases h1 : a < b
   ·exact .inl (.inl h1)
   ·by_cases h2 : a = b
    ·rcases GV x y with h | h | h
     ·exact .inl (.inr ⟨h2,h⟩)
     ·exact .inr (.inl ⟨h2,h⟩)
     ·exact .inr (.inr (.inr ⟨h2.symm,h⟩))
    ·have h3 : b < a:=by
      rw [El] at h1 ⊢;have : a.toNat≠b.toNat:=λh=>h2 (UInt8.toNat_inj.1 h)
      omega
     exact .inr (.inr (.inl h3))
theorem DL {a b : ByteArray} (h : a.toList = b.toList) : a = b:=by
 rw [ByteArray.toList_eq,ByteArray.toList_eq] at h;obtain ⟨⟨a⟩⟩:=a;obtain ⟨⟨b⟩⟩:=b;simp only at h;rw [h]
theorem kU (a : ByteArray) : ¬ sLt a a:=by unfold sLt;rw [vo];simp
theorem mN {a b c : ByteArray} (h1 : sLt a b) (h2 : sLt b c) : sLt a c:=zc _ _ _ h1 h2
theorem BB {a b : ByteArray} (h1 : ¬ sLt a b) (h2 : a≠b) : sLt b a:=by
 rcases GV a.toList b.toList with h | h | h
 ·exact absurd h h1
 ·exact absurd (DL h) h2
 ·exact h
def pj (a b : Doc) : Prop:=sLt a.name b.name
def ML (l : List Doc) : Prop:=(∀ d∈l,aL d)/\l.Pairwise pj
def Rt (docs : List Doc) (last : Int) (s : Sub) : Prop:=(1<=s.id/\s.id<=last)/\aX s.r/\∃ d∈docs,d.name = s.doc/\(s.r.out = false->s.r.next + s.r.list.length = ac d + 1)
def Bx (a b : Sub) : Prop:=a.id < b.id
theorem p6 {l : List Doc} (hp : l.Pairwise pj) {k : Nat} (hk : k < l.length) : az l l[k].name = k:=
 lv hk rfl (λj hj hjl e=>by
  have h1 : pj l[j] l[k]:=List.pairwise_iff_getElem.1 hp j k hjl hk hj;unfold pj at h1;rw [show l[j].name = l[k].name from e] at h1;exact kU _ h1)
theorem Cc {l : List Doc} (hp : l.Pairwise pj) {a b : Doc} (ha : a∈l) (hb : b∈l) (h : a.name = b.name) : a = b:=by
 obtain ⟨i,hi,rfl⟩:=List.getElem_of_mem ha;obtain ⟨j,hj,rfl⟩:=List.getElem_of_mem hb;have e1:=p6 hp hi;have e2:=p6 hp hj;rw [h,e2] at e1;have : i = j:=by omega
 subst this;rfl
theorem lA {l : List Doc} {name : ByteArray} : 0<=az l name ↔ ∃ d∈l,d.name = name:=by
 constructor
 ·intro h
  rcases br l name with ⟨k,hk,-,hn⟩ | e
  ·exact ⟨_,List.getElem_mem hk,hn⟩
  ·omega
 ·rintro ⟨d,hd,hn⟩
  rcases eF (λd : Doc=>d.name = name) l with ⟨k,hk,e,-⟩ | ⟨-,h⟩
  ·unfold az;omega
  ·obtain ⟨i,hi,rfl⟩:=List.getElem_of_mem hd
   exact absurd hn (h i hi)
theorem gX {h : Hub} : ak h ↔ h.docs.length<=5/\h.subs.length<=6/\(0<=h.last/\h.last<=1000000000)/\ML h.docs/\(∀ s∈h.subs,Rt h.docs h.last s)/\h.subs.Pairwise Bx:=by
 constructor
 ·rintro ⟨h1,h2,h3,h4,h5⟩
  refine ⟨h1,h2,h3,⟨λd hd=>?_,kz (R:=pj) (λ_ _ _=>mN) λi hi h0=>(h4 i hi).2 h0⟩,λs hs=>?_,kz (R:=Bx) (λ_ _ _=>Int.lt_trans) λi hi h0=>(h5 i hi).2.2.1 h0⟩
  ·obtain ⟨i,hi,rfl⟩:=List.getElem_of_mem hd
   exact (h4 i hi).1
  ·obtain ⟨i,hi,rfl⟩:=List.getElem_of_mem hs
   obtain ⟨g1,g2,-,k,hk,e,g3⟩:=h5 i hi;refine ⟨g1,g2,h.docs[k],List.getElem_mem hk,?_,g3⟩;rcases br h.docs h.subs[i].doc with ⟨j,hj,e',hn⟩ | e'
   ·have : j = k:=by omega
    subst this;exact hn
   ·omega
 ·rintro ⟨h1,h2,h3,⟨h4,h5⟩,h6,h7⟩
  refine ⟨h1,h2,h3,λi hi=>⟨h4 _ (List.getElem_mem hi),λh0=>nj h5 i hi h0⟩,λi hi=>?_⟩;obtain ⟨g1,g2,d,hd,hn,g3⟩:=h6 _ (List.getElem_mem hi);obtain ⟨k,hk,rfl⟩:=List.getElem_of_mem hd;refine ⟨g1,g2,λh0=>nj h7 i hi h0,k,hk,?_,g3⟩;rw [<- hn];exact p6 h5 hk
theorem jr {d x : Doc} : ∀ {l : List Doc},x∈fC d l ↔ x = d\/x∈l
 | []=>by simp [fC]
 | y :: l => by
   unfold fC
   split
   ·rw [List.mem_cons,jr (l:=l),List.mem_cons]
    constructor
    ·rintro (h | h | h)
     ·exact .inr (.inl h)
     ·exact .inl h
     ·exact .inr (.inr h)
    ·rintro (h | h | h)
     ·exact .inr (.inl h)
     ·exact .inl h
     ·exact .inr (.inr h)
   ·rw [List.mem_cons]
theorem vj {d : Doc} : ∀ {l : List Doc},l.Pairwise pj->(∀ x∈l,x.name≠d.name)->(fC d l).Pairwise pj
 | [],_,_=>by simp [fC]
 | y :: l, h, hn => by
   obtain ⟨h1,h2⟩:=List.pairwise_cons.1 h;unfold fC
   split
   ·rename_i hc
    refine List.pairwise_cons.2 ⟨λx hx=>?_,vj h2 (λx hx=>hn x (List.mem_cons_of_mem _ hx))⟩;rcases jr.1 hx with rfl | hx
    ·exact hc
    ·exact h1 x hx
   ·rename_i hc
    have h3 : pj d y:=BB hc (hn y (List.mem_cons_self ..));refine List.pairwise_cons.2 ⟨λx hx=>?_,h⟩;rcases List.mem_cons.1 hx with rfl | hx
    ·exact h3
    ·exact mN h3 (h1 x hx)
theorem sV (d : Doc) : ∀ l : List Doc,(fC d l).length = l.length + 1
 | []=>rfl
 | y :: l => by
   unfold fC
   split
   ·simp [sV d l]
   ·rfl
def fQ (a b : List Doc) : Prop:=∀ name,(∃ d∈a,d.name = name)->∃ d∈b,d.name = name
theorem Il {h : Hub} (c : ak h) {name : ByteArray} {t : List Int} (hd : aL (dq name t)) (hi : ¬ 0<=az h.docs name) (hl : ¬ h.docs.length = 5) : ak ⟨h.shut,fC (dq name t) h.docs,h.subs,h.last⟩:=by
 rw [gX] at c ⊢;obtain ⟨h1,h2,h3,⟨h4,h5⟩,h6,h7⟩:=c;have hn : ∀ x∈h.docs,x.name≠(dq name t).name:=λx hx e=>hi (lA.2 ⟨x,hx,e⟩)
 refine ⟨by rw [sV];omega,h2,h3,⟨λd hx=>?_,vj h5 hn⟩,λs hs=>?_,h7⟩
 ·rcases jr.1 hx with rfl | hx
  ·exact hd
  ·exact h4 d hx
 ·obtain ⟨g1,g2,d,hx,g3⟩:=h6 s hs
  exact ⟨g1,g2,d,jr.2 (.inr hx),g3⟩
theorem xS {r : Ring} (h : aX r) {e : Entry} (he : bj e) : aX (bS r e)/\((bS r e).out = false->r.out = false/\(bS r e).next = r.next/\(bS r e).list.length = r.list.length + 1):=by
 by_cases c : r.out = false
 ·obtain ⟨g1,g2,g3,g4,g5⟩:=h
  by_cases f : (r.list.length : Int) = r.cap
  ·rw [jo ⟨⟨g1,g2,g3,g4,g5⟩,he,c⟩ f]
   exact ⟨⟨by simp,g2,g3,by simp only [List.length_nil];omega,by simp⟩,by simp⟩
  ·rw [jn ⟨⟨g1,g2,g3,g4,g5⟩,he,c⟩ f]
   refine ⟨⟨λx hx=>?_,g2,g3,by simp only [List.length_append,List.length_cons,List.length_nil];omega,by rw [c];simp⟩,λ_=>⟨c,rfl,by simp⟩⟩;rcases List.mem_append.1 hx with hx | hx
   ·exact g1 x hx
   ·simp at hx;subst hx;exact he
 ·rw [lr (λh=>c h.2.2)]
  exact ⟨h,λh=>absurd h c⟩
theorem vQ {α β : Type} {R : β->β->Prop} {f : α->β} {l : List α} {k : Nat} {x : α} (hk : k < l.length) (hf : f x = f l[k]) (h : l.Pairwise λa b=>R (f a) (f b)) : (l.set k x).Pairwise λa b=>R (f a) (f b):=by
 have h1 : (l.map f).Pairwise R:=List.pairwise_map.2 h
 have e : (l.set k x).map f = l.map f:=by
  rw [List.map_set,hf];refine List.ext_getElem (by simp) (λj h1 h2=>?_);rw [List.getElem_set]
  split
  ·rename_i e;subst e;simp
  ·rfl
 rw [<- e] at h1;exact List.pairwise_map.1 h1
theorem Ah {α : Type} {l : List α} {k : Nat} {x y : α} (hk : k < l.length) (hy : y∈l) (hne : y≠l[k]) : y∈l.set k x:=by
 obtain ⟨j,hj,rfl⟩:=List.getElem_of_mem hy;have hjk : k≠j:=λe=>by subst e;exact hne rfl
 have : (l.set k x)[j]'(by simpa using hj) = l[j]:=by rw [List.getElem_set_ne hjk]
 rw [<- this];exact List.getElem_mem _
theorem r9 {α : Type} {l : List α} {k : Nat} {x : α} (hk : k < l.length) : x∈l.set k x:=List.mem_set hk x
theorem DH {h : Hub} (c : ak h) {name : ByteArray} {k : Nat} (hk : k < h.docs.length) (hn : h.docs[k].name = name) {D : Doc} (hD : aL D) (hDn : D.name = h.docs[k].name)
 (hor : D = h.docs[k]\/∃ e,bj e/\ac D = ac h.docs[k] + 1/\D.list.getLast? = some e) : ak (ci h name k h.docs[k] D)/\fQ h.docs (ci h name k h.docs[k] D).docs:=by
 rcases hor with rfl | ⟨e,he,hr,hg⟩
 ·have e1 : ci h name k h.docs[k] h.docs[k] = h:=by
   unfold ci;rw [if_neg (by omega),List.set_getElem_self]
  rw [e1];exact ⟨c,λ_ h=>h⟩
 ·have e1 : ci h name k h.docs[k] D = ⟨h.shut,h.docs.set k D,h.subs.map (cP name e),h.last⟩:=by
   unfold ci;rw [if_pos (by omega),hg]
  rw [e1];rw [gX] at c ⊢;obtain ⟨h1,h2,h3,⟨h4,h5⟩,h6,h7⟩:=c;have hkeep : ∀ d∈h.docs,d.name≠name->d∈h.docs.set k D:=λd hd hne=>Ah hk hd (λe=>hne (by rw [e,hn]))
  refine ⟨⟨by simpa using h1,by simpa using h2,h3,⟨λd hd=>?_,vQ (f:=Doc.name) (R:=sLt) hk hDn h5⟩,λs hs=>?_,?_⟩,?_⟩
  ·rcases List.mem_or_eq_of_mem_set hd with hd | rfl
   ·exact h4 d hd
   ·exact hD
  ·rw [List.mem_map] at hs
   obtain ⟨s,hs,rfl⟩:=hs;obtain ⟨g1,g2,d,hd,hdn,g3⟩:=h6 s hs;unfold cP
   split
   ·rename_i hc
    have hu : d = h.docs[k]:=Cc h5 hd (List.getElem_mem hk) (by rw [hdn,hc,hn]);subst hu;obtain ⟨p1,p2⟩:=xS g2 he;refine ⟨g1,p1,D,r9 hk,by rw [hDn,hdn],λho=>?_⟩;obtain ⟨q1,q2,q3⟩:=p2 ho;have:=g3 q1;simp only at q2 q3 ⊢;omega
   ·rename_i hc
    exact ⟨g1,g2,d,hkeep d hd (λe=>hc (by rw [<- hdn,e])),hdn,g3⟩
  ·rw [List.pairwise_map]
   refine h7.imp ?_;intro a b hab;have ea : ∀ s : Sub,(cP name e s).id = s.id:=λs=>by unfold cP;split<;>rfl
   unfold Bx;rw [ea,ea];exact hab
  ·rintro nm ⟨d,hd,hdn⟩
   by_cases hc : d.name = name
   ·exact ⟨D,r9 hk,by rw [hDn,hn,<- hc,hdn]⟩
   ·exact ⟨d,hkeep d hd hc,hdn⟩
theorem vG {h : Hub} (c : ak h) {room : Int} (hr : 1<=room/\room<=6) {k : Nat} (hk : k < h.docs.length) (hl : ¬ (h.subs.length = 6\/h.last = 1000000000)) :
 ak ⟨h.shut,h.docs,h.subs ++ [⟨h.last + 1,h.docs[k].name,(cW room (ac h.docs[k])).1⟩],h.last + 1⟩:=by
 have hh:=aU (ch c hk);have hring : aX (aY room (ac h.docs[k])):=⟨by simp [aY],hr,by simp only [aY];omega,by simp only [aY,List.length_nil];omega,by simp [aY]⟩;rw [iS hring];rw [gX] at c ⊢;obtain ⟨h1,h2,h3,h4,h6,h7⟩:=c;refine ⟨h1,by simp only [List.length_append,List.length_cons,List.length_nil];omega,by simp only;omega,h4,λs hs=>?_,?_⟩
 ·rcases List.mem_append.1 hs with hs | hs
  ·obtain ⟨g1,g2⟩:=h6 s hs
   exact ⟨by simp only;omega,g2⟩
  ·simp at hs
   subst hs;exact ⟨by simp only;omega,hring,_,List.getElem_mem hk,rfl,λ_=>by simp [aY]⟩
 ·rw [List.pairwise_append]
  refine ⟨h7,by simp,λa ha b hb=>?_⟩;simp at hb;subst hb;have:=(h6 a ha).1;unfold Bx;simp only;omega
theorem uB {h : Hub} (c : ak h) {k : Nat} (hk : k < h.subs.length) {r : Ring} (hr : aX r) (hd : ∀ d∈h.docs,d.name = h.subs[k].doc->(h.subs[k].r.out = false->h.subs[k].r.next + h.subs[k].r.list.length = ac d + 1)->r.out = false->r.next + r.list.length = ac d + 1) :
 ak ⟨h.shut,h.docs,h.subs.set k ⟨h.subs[k].id,h.subs[k].doc,r⟩,h.last⟩:=by
 rw [gX] at c ⊢;obtain ⟨h1,h2,h3,h4,h6,h7⟩:=c;refine ⟨h1,by simpa using h2,h3,h4,λs hs=>?_,vQ (f:=Sub.id) (R:=λa b : Int=>a < b) hk rfl h7⟩;rcases List.mem_or_eq_of_mem_set hs with hs | rfl
 ·exact h6 s hs
 ·obtain ⟨g1,g2,d,hx,hn,g3⟩:=h6 _ (List.getElem_mem hk)
  exact ⟨g1,hr,d,hx,hn,hd d hx hn g3⟩
theorem mt {h : Hub} {name : ByteArray} {t : List Int} (hz : (aW h name t).2 = 0) : ak (aW h name t).1/\fQ h.docs (aW h name t).1.docs:=by
 unfold aW at hz ⊢
 split at hz
 ·rename_i c
  rw [if_pos c]
  split at hz
  ·simp at hz
  ·rename_i c1
   rw [if_neg c1]
   split at hz
   ·simp at hz
   ·rename_i c2
    rw [if_neg c2]
    split at hz
    ·simp at hz
    ·rename_i c3
     rw [if_neg c3];exact ⟨Il c.1 c.2 c2 c3,λnm ⟨d,hd,e⟩=>⟨d,jr.2 (.inr hd),e⟩⟩
 ·simp at hz
theorem fL {h : Hub} {name : ByteArray} {client seq base : Int} {o : List Part} (hz : (aE h name client seq base o).2.2 = 0) : ak (aE h name client seq base o).1/\fQ h.docs (aE h name client seq base o).1.docs:=by
 by_cases c : ak h
 rotate_left
 ·rw [ke c] at hz;simp at hz
 by_cases s : h.shut = true
 ·rw [iF c s] at hz;simp at hz
 rcases br h.docs name with ⟨k,hk,e,hn⟩ | e;rotate_left
 ·rw [iG c s e] at hz;simp at hz
 rw [kf c s hk e] at hz ⊢
 split at hz
 ·rename_i h0
  rw [if_pos h0];obtain ⟨d1,d2,d3⟩:=nO (ch c hk) h0;refine DH c hk hn d1 d2 ?_;rcases d3 with d3 | ⟨e,he,-,-,d3,-⟩
  ·exact .inl d3
  ·rw [d3];exact .inr ⟨e,he,lz (ch c hk) e⟩
 ·rename_i h0;exact absurd hz h0
theorem kI {h : Hub} {name : ByteArray} {room : Int} (hz : (ap h name room).2.2 = 0) : ak (ap h name room).1/\fQ h.docs (ap h name room).1.docs:=by
 by_cases c : ak h/\(1<=room/\room<=6)
 rotate_left
 ·rw [en c] at hz;simp at hz
 by_cases s : h.shut = true
 ·rw [f5 c s] at hz;simp at hz
 rcases br h.docs name with ⟨k,hk,e,hn⟩ | e;rotate_left
 ·rw [f9 c s e] at hz;simp at hz
 rw [gZ c s hk e] at hz ⊢
 split at hz
 ·simp at hz
 ·rename_i hl
  rw [if_neg hl];subst hn;exact ⟨vG c.1 c.2 hk hl,λ_ h=>h⟩
theorem qK {h : Hub} {id n : Int} (hz : (bg h id n).2.2 = 0) : ak (bg h id n).1/\fQ h.docs (bg h id n).1.docs:=by
 by_cases c : ak h/\1<=n
 rotate_left
 ·rw [iB c] at hz;simp at hz
 rcases fm h.subs id with ⟨k,hk,e,-⟩ | e;rotate_left
 ·rw [kl c e] at hz;simp at hz
 rw [ms c hk e] at hz ⊢
 split at hz
 ·rename_i h0
  rw [if_pos h0];refine ⟨?_,λ_ h=>h⟩;have hro:=(rf c.1 hk).1;obtain ⟨g1,g2,g3,g4,g5⟩:=hro;have hsub:=(gX.1 c.1).2.2.2.2.1 _ (List.getElem_mem hk);obtain ⟨-,-,d0,hd0,hn0,hnx⟩:=hsub;obtain ⟨i0,hi0,rfl⟩:=List.getElem_of_mem hd0;have hh:=aU (ch c.1 hi0)
  cases ho : h.subs[k].r.out with
  | true=>rw [ka ⟨⟨g1,g2,g3,g4,g5⟩,c.2⟩ ho] at h0;simp at h0
  | false=>
  rw [j9 ⟨⟨g1,g2,g3,g4,g5⟩,c.2⟩ ho rfl];have hk1 : min n.toNat h.subs[k].r.list.length<=h.subs[k].r.list.length:=Nat.min_le_right _ _;have hnx:=hnx ho;generalize min n.toNat h.subs[k].r.list.length = m at hk1;refine uB c.1 hk ⟨λx hx=>g1 x (List.mem_of_mem_drop hx),g2,by simp only;omega,by simp only [List.length_drop];omega,by simp only;rw [ho];simp⟩ ?_;intro d hd hdn hnext _;have:=hnext ho;simp only [List.length_drop];omega
 ·rename_i h0;exact absurd hz h0
theorem nR {h : Hub} {id : Int} (hz : (aH h id).2.2.2 = 0) : ak (aH h id).1/\fQ h.docs (aH h id).1.docs:=by
 by_cases c : ak h
 rotate_left
 ·rw [kg c] at hz;simp at hz
 rcases fm h.subs id with ⟨k,hk,e,-⟩ | e;rotate_left
 ·rw [iH c e] at hz;simp at hz
 obtain ⟨hro,j,hj,ej⟩:=rf c hk;rw [kj c hk e hj ej];refine ⟨?_,λ_ h=>h⟩;have hh:=aU (ch c hj)
 have hjn : h.docs[j].name = h.subs[k].doc:=by
  rcases br h.docs h.subs[k].doc with ⟨i,hi,e',hn⟩ | e'
  ·have : i = j:=by omega
   subst this;exact hn
  ·omega
 have hring : aX (aY h.subs[k].r.cap (ac h.docs[j])):=⟨by simp [aY],hro.2.1,by simp only [aY];omega,by have:=hro.2.1;simp only [aY,List.length_nil];omega,by simp [aY]⟩;rw [iE hro,iS hring];refine uB c hk hring ?_;intro d hd hdn _ _;have:=Cc (gX.1 c).2.2.2.1.2 hd (List.getElem_mem hj) (by rw [hdn,hjn]);subst this;simp [aY]
theorem y3 {h : Hub} (hz : (bL h).2 = 0) : ak (bL h).1/\fQ h.docs (bL h).1.docs:=by
 unfold bL at hz ⊢
 split at hz
 ·rename_i c
  rw [if_pos c]
  split at hz
  ·simp at hz
  ·rename_i c1
   rw [if_neg c1];exact ⟨c,λ_ h=>h⟩
 ·simp at hz
theorem oj {h : Hub} (c : ak h) (k : Call) : ak (fDo h k).1/\fQ h.docs (fDo h k).1.docs:=by
 have same : ak h/\fQ h.docs h.docs:=⟨c,λ_ h=>h⟩;unfold fDo
 split
 ·split
  ·split
   ·rename_i z;exact mt z
   ·exact same
  ·split
   ·split
    ·rename_i z;exact fL z
    ·exact same
   ·split
    ·exact same
    ·split
     ·split
      ·rename_i z;exact kI z
      ·exact same
     ·split
      ·split
       ·rename_i z;exact qK z
       ·exact same
      ·split
       ·split
        ·rename_i z;exact nR z
        ·exact same
       ·split
        ·rename_i z;exact y3 z
        ·exact same
 ·exact same
set_option maxHeartbeats 3200000
theorem dm (h : Hub) (hl : bW h<=2 ^ 40) (name : ByteArray) : ai Tryz.prog 80 [.agg h.row,.c (.v (.string name))] (.one (.c (vi (az h.docs name)) 1)):=by
 refine pci ae Tryz.func80 (λw0 base=>?_);obtain ⟨sh,l,subs,last⟩:=h;unfold bW at hl;simp only at hl;have hle:=aK (f:=ce) (B:=2 ^ 40) (l:=l) (by omega);simp [Hub.row];intro b2 b3;refine inl ae Tryz.func175 20000 (λw1 F=>?_);simp
 refine aB.intro eok (λi : Nat=>i<=l.length/\∀ j,j < i->∀ hj : j < l.length,¬ l[j].name = name) (λi=>⟨19,20000,[(8,.v (.int .i64 i)),(7,.v (.int .i64 l.length)),(0,.ro (l.map Doc.row)),(1,.clo 176 [.p 48 b3 0])],
  [(48,.vars b3 9 [.v (.string name)])]⟩) (λi=>l.length - i) 0 (by simp) (by simp) (λi hi=>?_)
 by_cases hlt : i < l.length
 ·simp [hlt]
  refine inl ae Tryz.func176 40000 (λw2 F2=>?_);simp [Doc.row];intro b;by_cases c : l[i].name = name
  ·have e : az l name = i:=lv hlt c hi.2
   simp [c,e]
  ·simp [c]
   exact ⟨i + 1,⟨by omega,λj hj hjl=>by
    by_cases hji : j = i
    ·subst hji;exact c
    ·exact hi.2 j (by omega) hjl⟩,by omega,ag (by omega)⟩
 ·have e : az l name = -1:=iZ (λj hj=>hi.2 j (by omega) hj)
  simp [hlt,e]
theorem dj (h : Hub) (hl : bW h<=2 ^ 40) (name : ByteArray) : ai Tryz.prog 167 [.agg h.row,.c (.v (.string name))] (.one (.c (vi (az h.docs name)) 1)):=by
 refine pci ae Tryz.func167 (λw0 base=>?_);obtain ⟨sh,l,subs,last⟩:=h;unfold bW at hl;simp only at hl;have hle:=aK (f:=ce) (B:=2 ^ 40) (l:=l) (by omega);simp [Hub.row];intro b2;refine aB.intro eok (λi : Nat=>i<=l.length/\∀ j,j < i->∀ hj : j < l.length,¬ l[j].name = name) (λi=>⟨21,0,[(10,.v (.int .i64 i)),(9,.v (.int .i64 l.length)),(8,.ro (l.map Doc.row)),(1,.v (.string name))],[]⟩) (λi=>l.length - i) 0 (by simp) (by simp) (λi hi=>?_);by_cases hlt : i < l.length
 ·simp [hlt,Doc.row]
  intro b;by_cases c : l[i].name = name
  ·have e : az l name = i:=lv hlt c hi.2
   simp [c,e]
  ·simp [c]
   exact ⟨i + 1,⟨by omega,λj hj hjl=>by
    by_cases hji : j = i
    ·subst hji;exact c
    ·exact hi.2 j (by omega) hjl⟩,by omega,ag (by omega)⟩
 ·have e : az l name = -1:=iZ (λj hj=>hi.2 j (by omega) hj)
  simp [hlt,e]
theorem fq (r : Ring) (hl : cC r<=2 ^ 40) : ai Tryz.prog 200 [.agg r.row] (.one (.c (vb (aX r)) 1)):=by
 refine pci ae Tryz.func200 (λw0 base=>?_);obtain ⟨cp,nx,out,l⟩:=r;unfold cC at hl;simp only at hl;have hle:=aK hl;simp [Ring.row];intro b1;refine aa.pure (aO cp 1 6) (by simp) ?_;by_cases c1 : 1<=cp/\cp<=6
 rotate_left
 ·have h : ¬ aX ⟨cp,nx,out,l⟩:=λh=>c1 h.2.1
  simp [ab c1,ab h]
 simp [c1];refine aa.pure (aO nx 1 1000000000) (by simp) ?_;by_cases c2 : 1<=nx/\nx<=1000000000
 rotate_left
 ·have h : ¬ aX ⟨cp,nx,out,l⟩:=λh=>c2 h.2.2.1
  simp [ab c2,ab h]
 simp [c2];by_cases c3 : (l.length : Int)<=cp
 rotate_left
 ·have h : ¬ aX ⟨cp,nx,out,l⟩:=λh=>c3 h.2.2.2.1
  have c3' : cp < (l.length : Int):=by omega
  simp [c3',ab h]
 have c3' : ¬ cp < (l.length : Int):=by omega
 simp [c3']
 have hcase : out = false\/(out = true/\l = [])\/(out = true/\0 < l.length):=by
  cases out with
  | false=>exact .inl rfl
  | true =>
    cases l with
    | nil=>exact .inr (.inl ⟨rfl,rfl⟩)
    | cons a l=>exact .inr (.inr ⟨rfl,by simp⟩)
 rcases hcase with rfl | ⟨rfl,rfl⟩ | ⟨rfl,c4⟩
 ·simp
  refine aB.intro eok (λi : Nat=>i<=l.length/\∀ e∈l.take i,bj e) (λi=>⟨44,0,[(36,.v (.int .i64 i)),(35,.v (.int .i64 l.length)),(34,.ro (l.map Entry.row))],[]⟩) (λi=>l.length - i) 0 (by simp) (by simp) (λi hi=>?_);by_cases hlt : i < l.length
  ·have hm:=el hl hlt
   simp [hlt,Entry.row];intro b4;refine aa.pure (j6 l[i] (by omega)) (by simp [Entry.row]) ?_;by_cases c5 : bj l[i]
   ·simp [c5]
    exact ⟨i + 1,⟨by omega,iY hlt hi.2 c5⟩,by omega,ag (by omega)⟩
   ·have h : ¬ aX ⟨cp,nx,false,l⟩:=λh=>c5 (h.1 _ (List.getElem_mem hlt))
    simp [ab c5,ab h]
  ·have h : aX ⟨cp,nx,false,l⟩:=⟨jO (l:=l) (by omega) hi.2,c1,c2,c3,by simp⟩
   simp [hlt,h]
 ·have h : aX ⟨cp,nx,true,[]⟩:=⟨by simp,c1,c2,c3,by simp⟩
  simp;refine aB.intro eok (λi : Nat=>i = 0) (λi=>⟨44,0,[(36,.v (.int .i64 0)),(35,.v (.int .i64 0)),(34,.ro ([] : List (List CD)))],[]⟩) (λi=>0) 0 (by simp) (by simp) (λi hi=>?_);simp [h]
 ·have h : ¬ aX ⟨cp,nx,true,l⟩:=λh=>h.2.2.2.2 ⟨rfl,c4⟩
  have c4' : 0 < (l.length : Int):=by omega
  simp [c4,ab h]
theorem gu (r : Ring) (hl : cC r<=2 ^ 40) : ai Tryz.prog 192 [.agg r.row] (.one (.c (vb (aX r)) 1)):=by
 refine pci ae Tryz.func192 (λw0 base=>?_);obtain ⟨cp,nx,out,l⟩:=r;unfold cC at hl;simp only at hl;have hle:=aK hl;simp [Ring.row];intro b1
 refine aB.intro eok (λi : Nat=>i<=l.length/\∀ e∈l.take i,bj e) (λi=>⟨43,0,[(8,.v (.int .i64 i)),(7,.v (.int .i64 l.length)),(6,.ro (l.map Entry.row)),(1,.p 16 b1 0)],
  [(16,.vars b1 157 [.v (.int .i64 cp),.v (.int .i64 nx),.v (.bool out),.ro (l.map Entry.row)])]⟩) (λi=>l.length - i) 0 (by simp) (by simp) (λi hi=>?_)
 by_cases hlt : i < l.length
 ·have hm:=el hl hlt
  simp [hlt,Entry.row];intro b4;refine aa.pure (jV l[i] (by omega)) (by simp [Entry.row]) ?_;by_cases c5 : bj l[i]
  ·simp [c5]
   exact ⟨i + 1,⟨by omega,iY hlt hi.2 c5⟩,by omega,ag (by omega)⟩
  ·have h : ¬ aX ⟨cp,nx,out,l⟩:=λh=>c5 (h.1 _ (List.getElem_mem hlt))
   simp [ab c5,ab h]
 have c0 : ∀ e∈l,bj e:=jO (by omega) hi.2;simp [hlt];refine aa.pure (cI cp 1 6) (by simp) ?_;by_cases c1 : 1<=cp/\cp<=6
 rotate_left
 ·have h : ¬ aX ⟨cp,nx,out,l⟩:=λh=>c1 h.2.1
  simp [ab c1,ab h]
 simp [c1];refine aa.pure (cI nx 1 1000000000) (by simp) ?_;by_cases c2 : 1<=nx/\nx<=1000000000
 rotate_left
 ·have h : ¬ aX ⟨cp,nx,out,l⟩:=λh=>c2 h.2.2.1
  simp [ab c2,ab h]
 simp [c2];by_cases c3 : (l.length : Int)<=cp
 rotate_left
 ·have h : ¬ aX ⟨cp,nx,out,l⟩:=λh=>c3 h.2.2.2.1
  simp [c3,ab h]
 simp [c3]
 cases out with
 | false =>
   have h : aX ⟨cp,nx,false,l⟩:=⟨c0,c1,c2,c3,by simp⟩;simp [h]
 | true =>
   by_cases c4 : (l.length : Int) = 0
   ·have h : aX ⟨cp,nx,true,l⟩:=⟨c0,c1,c2,c3,λh=>by have:=h.2;simp only at this;omega⟩
    simp [c4,h]
   ·have h : ¬ aX ⟨cp,nx,true,l⟩:=λh=>h.2.2.2.2 ⟨rfl,by simp only;omega⟩
    have c4' : ¬ l = []:=λh=>c4 (by rw [h];rfl)
    simp [c4',ab h]
end Go.Proofs.YtoldjebobgocpaaGreat
