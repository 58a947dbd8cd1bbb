import Derived.Test.YtoldjebobgocpaaGreatPF
import Derived.Test.YtoldjebobgocpaaGreatPD
import Derived.Test.YtoldjebobgocpaaGreatPC
import Derived.Test.YtoldjebobgocpaaGreatPA
namespace Go.Proofs.YtoldjebobgocpaaGreat
open Go.AM
set_option maxRecDepth 20000
def Ring.zero : Ring:=⟨0,0,false,[]⟩
def Hub.zero : Hub:=⟨false,[],[],0⟩
def Wld.zero : Wld:=⟨Hub.zero,[],[],[],0⟩
def aY (room rev : Int) : Ring:=⟨room,rev + 1,false,[]⟩
open Classical in
noncomputable def db (room rev : Int) : Ring × Bool:=if aX (aY room rev) then (aY room rev,true) else (Ring.zero,false)
open Classical in
noncomputable def bU (r : Ring) (e : Entry) : Ring:=
 if aX r/\bn e/\r.out = false then (if (r.list.length : Int) = r.cap then ⟨r.cap,r.next,true,[]⟩ else ⟨r.cap,r.next,r.out,r.list ++ [e]⟩) else r
open Classical in
noncomputable def be (r : Ring) (n : Int) : Ring × List Entry × Int:=
 if aX r/\1<=n then (if r.out = true then (r,[],9) else (⟨r.cap,r.next + (min n.toNat r.list.length : Nat),r.out,r.list.drop n.toNat⟩,r.list.take n.toNat,0)) else (r,[],1)
open Classical in
noncomputable def bu (r : Ring) (rev : Int) : Ring × Bool:=if aX r then db r.cap rev else (Ring.zero,false)
noncomputable def fO (d : Doc) : List Doc->List Doc
 | []=>[d]
 | x :: l=>open Classical in if sLt x.name d.name then x :: fO d l else d :: x :: l
open Classical in
noncomputable def ba (h : Hub) (name : ByteArray) (t : List Int) : Hub × Int:=
 if an h/\aL (dy name t) then
  (if h.shut = true then (Hub.zero,12) else if 0<=ar h.docs name then (Hub.zero,7) else if h.docs.length = 5 then (Hub.zero,10) else (⟨h.shut,fO (dy name t) h.docs,h.subs,h.last⟩,0))
 else (Hub.zero,1)
noncomputable def cV (name : ByteArray) (e : Entry) (s : Sub) : Sub:=open Classical in if s.doc = name then ⟨s.id,s.doc,bU s.r e⟩ else s
noncomputable def cm (h : Hub) (name : ByteArray) (k : Nat) (d0 d : Doc) : Hub:=
 ⟨h.shut,h.docs.set k d,if ac d > ac d0 then (match d.list.getLast? with | some e=>h.subs.map (cV name e) | none=>h.subs) else h.subs,h.last⟩
open Classical in
noncomputable def aG (h : Hub) (name : ByteArray) (client seq base : Int) (o : List Part) : Hub × Int × Int:=
 if an h then
  if h.shut = true then (Hub.zero,0,12) else
  match h.docs[(ar h.docs name).toNat]? with
  | some d0=>if 0<=ar h.docs name then
   (if (bJ d0 client seq base o).2.2 = 0 then (cm h name (ar h.docs name).toNat d0 (bJ d0 client seq base o).1,(bJ d0 client seq base o).2.1,0) else (Hub.zero,0,(bJ d0 client seq base o).2.2))
   else (Hub.zero,0,6)
  | none=>(Hub.zero,0,6)
 else (Hub.zero,0,1)
open Classical in
noncomputable def aw (h : Hub) (name : ByteArray) (room : Int) : Hub × Int × Int:=
 if an h/\(1<=room/\room<=6) then
  if h.shut = true then (Hub.zero,0,12) else
  match h.docs[(ar h.docs name).toNat]? with
  | some d=>if 0<=ar h.docs name then
   (if h.subs.length = 6\/h.last = 1000000000 then (Hub.zero,0,10) else (⟨h.shut,h.docs,h.subs ++ [⟨h.last + 1,name,(db room (ac d)).1⟩],h.last + 1⟩,h.last + 1,0))
   else (Hub.zero,0,6)
  | none=>(Hub.zero,0,6)
 else (Hub.zero,0,1)
open Classical in
noncomputable def bC (h : Hub) (id n : Int) : Hub × List Entry × Int:=
 if an h/\1<=n then
  match h.subs[(et h.subs id).toNat]? with
  | some s=>if 0<=et h.subs id then
   (if (be s.r n).2.2 = 0 then (⟨h.shut,h.docs,h.subs.set (et h.subs id).toNat ⟨s.id,s.doc,(be s.r n).1⟩,h.last⟩,(be s.r n).2.1,0) else (Hub.zero,[],(be s.r n).2.2))
   else (Hub.zero,[],8)
  | none=>(Hub.zero,[],8)
 else (Hub.zero,[],1)
open Classical in
noncomputable def aM (h : Hub) (id : Int) : Hub × List Int × Int × Int:=
 if an h then
  match h.subs[(et h.subs id).toNat]? with
  | some s=>if 0<=et h.subs id then
   (match h.docs[(ar h.docs s.doc).toNat]? with
   | some d=>(⟨h.shut,h.docs,h.subs.set (et h.subs id).toNat ⟨s.id,s.doc,(bu s.r (ac d)).1⟩,h.last⟩,cR d,ac d,0)
   | none=>(Hub.zero,[],0,8))
   else (Hub.zero,[],0,8)
  | none=>(Hub.zero,[],0,8)
 else (Hub.zero,[],0,1)
open Classical in
noncomputable def bX (h : Hub) : Hub × Int:=if an h then (if h.shut = true then (Hub.zero,12) else (⟨true,h.docs,h.subs,h.last⟩,0)) else (Hub.zero,1)
def bK (code : Int) : Answer:=⟨code,0,[],[]⟩
open Classical in
noncomputable def jS (h : Hub) (c : Call) : Answer:=
 if h.shut = true then bK 12 else
 match h.docs[(ar h.docs c.doc).toNat]? with
 | some d=>if 0<=ar h.docs c.doc then (if c.kind = 4 then ⟨0,ac d,cR d,[]⟩ else ⟨(ge d c.n).2,0,[],(ge d c.n).1⟩) else bK 6
 | none=>bK 6
open Classical in
noncomputable def fDo (h : Hub) (c : Call) : Hub × Answer:=
 if an h/\bm c then
  if c.kind = 1 then (if (ba h c.doc c.text).2 = 0 then ((ba h c.doc c.text).1,bK 0) else (h,bK (ba h c.doc c.text).2))
  else if c.kind = 2 then (if (aG h c.doc c.client c.seq c.n c.o).2.2 = 0 then ((aG h c.doc c.client c.seq c.n c.o).1,⟨0,(aG h c.doc c.client c.seq c.n c.o).2.1,[],[]⟩) else (h,bK (aG h c.doc c.client c.seq c.n c.o).2.2))
  else if c.kind = 3\/c.kind = 4 then (h,jS h c)
  else if c.kind = 5 then (if (aw h c.doc c.n).2.2 = 0 then ((aw h c.doc c.n).1,⟨0,(aw h c.doc c.n).2.1,[],[]⟩) else (h,bK (aw h c.doc c.n).2.2))
  else if c.kind = 6 then (if (bC h c.client c.n).2.2 = 0 then ((bC h c.client c.n).1,⟨0,0,[],(bC h c.client c.n).2.1⟩) else (h,bK (bC h c.client c.n).2.2))
  else if c.kind = 7 then (if (aM h c.client).2.2.2 = 0 then ((aM h c.client).1,⟨0,(aM h c.client).2.2.1,(aM h c.client).2.1,[]⟩) else (h,bK (aM h c.client).2.2.2))
  else (if (bX h).2 = 0 then ((bX h).1,bK 0) else (h,bK (bX h).2))
 else (h,bK 1)
open Classical in
noncomputable def eW (h : Hub) (n : Int) : Wld × Bool:=if an h/\(1<=n/\n<=4) then (⟨h,List.replicate n.toNat (-1),[],[],0⟩,true) else (Wld.zero,false)
def dw (c : Call) (step : Int) : Task:=⟨c,0,step,-1,-1,Answer.zero⟩
open Classical in
noncomputable def fe (w : Wld) (c : Call) : Wld × Bool:=if (ao w/\bm c)/\¬ w.tasks.length = 10/\¬ w.step = 1000000 then (⟨w.h,w.locks,w.queues,w.tasks ++ [dw c w.step],w.step + 1⟩,true) else (Wld.zero,false)
open Classical in
noncomputable def eR (t : Task) : Int:=if t.pc = 0 then (if t.c.kind = 2 then 4 else if aK t.c.kind then 3 else 2) else if t.pc = 1 then (if t.c.kind = 2 then 3 else if aK t.c.kind then 2 else 1) else if t.pc = 2 then 2 else if t.pc = 3 then 1 else 0
noncomputable def lX : List Task->Int
 | []=>0
 | t :: l=>eR t + lX l
open Classical in
noncomputable def dQ (w : Wld) : Int:=if ao w then lX w.tasks else 0
theorem Iy (t : Task) : 0<=eR t/\eR t<=4:=by
 unfold eR
 repeat' split
 all_goals omega
theorem oX : ∀ l : List Task,0<=lX l/\lX l<=4 * l.length
 | []=>by simp [lX]
 | t :: l => by
   have:=oX l;have:=Iy t;simp only [lX,List.length_cons];omega
def chn (L : List Part) : Prop:=∀ i,∀ h : i + 1 < L.length,L[i].kind≠L[i + 1].kind
theorem Ca : chn []:=λi h=>by simp at h
theorem GL {p : Part} {L : List Part} (h : chn (p :: L)) : chn L/\∀ h0 : 0 < L.length,p.kind≠L[0].kind:=by
 refine ⟨λi hi=>?_,λh0=>?_⟩
 ·have:=h (i + 1) (by simp;omega)
  simpa using this
 ·have:=h 0 (by simp;omega)
  simpa using this
theorem mI {L : List Part} {p : Part} (h : chn L) (hp : ∀ h : 0 < L.length,(L[L.length - 1]'(by omega)).kind≠p.kind) : chn (L ++ [p]):=by
 intro i hi;simp at hi;by_cases c : i + 1 < L.length
 ·rw [List.getElem_append_left (by omega),List.getElem_append_left c];exact h i c
 ·have h0 : 0 < L.length:=by omega
  have:=hp h0;rw [List.getElem_append_left (by omega),List.getElem_append_right (by omega)];have e : i = L.length - 1:=by omega
  subst e
  simpa using this
theorem I1 {L : List Part} {i : Nat} {p : Part} (h : chn L) (hi : i < L.length) (hk : p.kind = L[i].kind) : chn (L.set i p):=by
 intro j hj;simp at hj;have h1:=h j hj;rw [List.getElem_set,List.getElem_set]
 split
 ·rename_i e;subst e
  rw [if_neg (by omega),hk];exact h1
 ·split
  ·rename_i e;subst e;rw [hk];exact h1
  ·exact h1
def FO (L : List Part) : Prop:=∀ h : 0 < L.length,(L[L.length - 1]'(by omega)).kind = 1
theorem sP {L : List Part} {p : Part} : (((L ++ [p])[(L ++ [p]).length - 1]'(by simp))).kind = p.kind:=by simp
theorem vv {L : List Part} {P : List Int} {D : Int} (h : chn L) (hl : FO L) : chn (aJ L P D):=by
 unfold aJ
 split
 ·split
  ·rw [List.nil_append]
   exact mI h λh0=>by rw [hl h0];simp
  ·simpa using h
 ·have h1 : chn (L ++ [⟨2,0,P⟩]):=mI h λh0=>by rw [hl h0];simp
  split
  ·rw [<- List.append_assoc]
   exact mI h1 λh0=>by rw [sP];simp
  ·simpa using h1
theorem FV {L : List Part} {n : Int} (h : chn L) : chn (bS L n)/\FO (bS L n):=by
 unfold bS
 split
 ·rename_i h0
  split
  ·rename_i hk
   refine ⟨I1 h (by omega) hk.symm,λh1=>?_⟩;simp
  ·rename_i hk
   refine ⟨mI h λ_=>hk,λh1=>?_⟩;rw [sP]
 ·exact ⟨mI (L:=[]) Ca (λh=>by simp at h),λ_=>rfl⟩
theorem vf (o : List Part) : ∀ (i : Nat),i<=o.length->chn (a9 (o.take i)).1/\FO (a9 (o.take i)).1
 | 0, _ => by
   simp only [a9,List.take_zero,List.foldl_nil];exact ⟨Ca,λh=>by simp at h⟩
 | i + 1, hi => by
   obtain ⟨h1,h2⟩:=vf o i (by omega);rw [gj (show i < o.length by omega)];generalize a9 (o.take i) = s at h1 h2;unfold dm
   split
   ·exact ⟨h1,h2⟩
   ·split
    ·exact ⟨h1,h2⟩
    ·split
     ·exact FV (vv h1 h2)
     ·exact ⟨h1,h2⟩
theorem Af (o : List Part) : chn (normal o):=by
 obtain ⟨h1,h2⟩:=vf o o.length (Nat.le_refl _);rw [List.take_length] at h1 h2;exact vv h1 h2
def uw : At->List Part->List Part
 | .k,[]=>[⟨1,1,[]⟩]
 | .k,p :: l=>if p.kind = 1 then ⟨1,p.n + 1,[]⟩ :: l else ⟨1,1,[]⟩ :: p :: l
 | .d,[]=>[⟨3,1,[]⟩]
 | .d,p :: l=>if p.kind = 3 then ⟨3,p.n + 1,[]⟩ :: l else ⟨3,1,[]⟩ :: p :: l
 | .p c,[]=>[⟨2,0,[c]⟩]
 | .p c,p :: l=>if p.kind = 2 then ⟨2,0,c :: p.signs⟩ :: l else ⟨2,0,[c]⟩ :: p :: l
def grp (l : List At) : List Part:=l.foldr uw []
theorem Gi {L : List Part} (h : ∀ h0 : 0 < L.length,L[0].kind≠1) : ∀ n : Nat,(List.replicate (n + 1) At.k).foldr uw L = ⟨1,(n : Int) + 1,[]⟩ :: L
 | 0 => by
   cases L with
   | nil=>rfl
   | cons p l=>have:=h (by simp);simp at this;simp [uw,this]
 | n + 1 => by
   rw [List.replicate_succ,List.foldr_cons,Gi h n];simp [uw]
theorem Gj {L : List Part} (h : ∀ h0 : 0 < L.length,L[0].kind≠3) : ∀ n : Nat,(List.replicate (n + 1) At.d).foldr uw L = ⟨3,(n : Int) + 1,[]⟩ :: L
 | 0 => by
   cases L with
   | nil=>rfl
   | cons p l=>have:=h (by simp);simp at this;simp [uw,this]
 | n + 1 => by
   rw [List.replicate_succ,List.foldr_cons,Gj h n];simp [uw]
theorem Gh {L : List Part} (h : ∀ h0 : 0 < L.length,L[0].kind≠2) : ∀ (Q : List Int) (c : Int),((c :: Q).map At.p).foldr uw L = ⟨2,0,c :: Q⟩ :: L
 | [], c => by
   cases L with
   | nil=>rfl
   | cons p l=>have:=h (by simp);simp at this;simp [uw,this]
 | d :: Q, c => by
   rw [List.map_cons,List.foldr_cons,Gh h Q d];simp [uw]
theorem vr : ∀ {L : List Part},(∀ q∈L,Shp q)->chn L->grp (aU L) = L
 | [],_,_=>rfl
 | p :: L, hs, hc => by
   obtain ⟨h1,h2⟩:=GL hc;have ih:=vr (λq hq=>hs q (List.mem_cons_of_mem _ hq)) h1;have hp:=hs p (List.mem_cons_self ..);unfold grp at ih ⊢;rw [aU,List.foldr_append,ih];have hpos:=hp.pos;have hn:=hp.n;unfold ats;obtain ⟨kd,n,sg⟩:=p;by_cases k2 : kd = 2
   ·subst k2
    obtain ⟨e1,-⟩:=hp.put rfl;simp only at e1;subst e1;simp only [if_true]
    cases sg with
    | nil=>simp [psz] at hpos
    | cons c Q=>exact Gh (λh0=>by have:=h2 h0;simpa using this.symm) Q c
   ·have e1:=hp.run k2
    simp only at e1 hn;subst e1;have hz : psz ⟨kd,n,[]⟩ = n.toNat:=by simp [psz]
    rw [hz] at hpos;obtain ⟨m,hm⟩ : ∃ m,n.toNat = m + 1:=⟨n.toNat - 1,by omega⟩;have hnm : n = (m : Int) + 1:=by omega
    rw [hz,hm,if_neg k2];by_cases k3 : kd = 3
    ·subst k3
     simp only [if_true];rw [Gj (λh0=>by have:=h2 h0;simpa using this.symm),hnm]
    ·have k1 : kd = 1:=by rcases hp.k with h | h | h<;>simp only at h<;>omega
     subst k1;rw [if_neg (by simp),Gi (λh0=>by have:=h2 h0;simpa using this.symm),hnm]
theorem yx : ∀ (l : List At) (P : List Int) (n : Nat),nA [] 0 (nA P n l) = nA P n l
 | [], P, n => by
   have h2:=BO n P 0 [];rw [List.append_nil,Nat.zero_add] at h2;rw [nA,BM,List.nil_append,h2,nA]
 | .k :: l, P, n => by
   rw [nA,BM,BO,List.nil_append,Nat.zero_add,nA,yx l]
 | .p c :: l,P,n=>by rw [nA,yx l]
 | .d :: l,P,n=>by rw [nA,yx l]
theorem lm {o : List Part} (h : ∀ p∈o,ap p) : normal o = grp (lW (aU o)):=by
 rw [<- hI h,vr (sF h) (Af o)]
theorem uj {o : List Part} (h : bN o) : normal (normal o) = normal o:=by
 have h2:=(pV h).1;rw [lm h2.1.1,hI h.1.1,lm h.1.1];unfold lW;rw [yx]
theorem um {o : List Part} (h : bN o) : gb (normal o):=by
 have h2:=(pV h).1;refine ⟨h2,?_⟩;unfold bV;rw [if_pos h2,uj h]
theorem ul {o : List Part} (h : bN o) : gb (bV o):=by
 have e : bV o = normal o:=by unfold bV;rw [if_pos h]
 rw [e];exact um h
theorem sC : ∀ (l : List (List Part)) (v v' : List Part),gb v->iP l v = some v'->gb v'
 | [],v,v',h,e=>by simp only [iP,Option.some.injEq] at e;exact e ▸ h
 | a :: l, v, v', h, e => by
   rw [iP] at e
   split at e
   ·rename_i ht
    refine sC l _ v' ?_ e;unfold aC at ht ⊢
    split at ht
    ·rename_i h1
     split at ht
     ·rename_i h2
      rw [if_pos h1,if_pos h2];have hi:=rE h1.1 h1.2.1 h1.2.2;have hk:=Jw hi;simp only;refine ⟨h2.2,?_⟩;unfold bV;rw [if_pos h2.2,lm h2.2.1.1,hI hk.2];unfold lW;rw [yx];exact (lm hk.2).symm
     ·simp at ht
    ·simp at ht
   ·cases e
theorem AQ {l : List (List Part)} {b : List Part} (h : (gr l b).2 = true) : gb (gr l b).1:=by
 unfold gr at h ⊢
 split at h
 ·rename_i hb
  rw [if_pos hb]
  cases e : iP l (bV b) with
  | none=>rw [e] at h;simp at h
  | some v=>exact sC l _ v (ul hb) e
 ·simp at h
theorem lJ {d : Doc} (h : aL d) (e : Entry) : ac (a8 d e) = ac d + 1/\(a8 d e).list.getLast? = some e:=by
 obtain ⟨h1,h2,h3,h4⟩:=aV h;unfold a8
 split
 ·refine ⟨?_,by simp⟩
  unfold ac;simp only [List.length_append,List.length_cons,List.length_nil];rw [Go.IntWalk.i64_in _ (by omega),Go.IntWalk.i64_in _ (by omega)];omega
 ·refine ⟨?_,?_⟩
  ·unfold ac
   simp only [List.length_append,List.length_cons,List.length_nil,List.length_drop];rw [Go.IntWalk.i64_in _ (by omega),Go.IntWalk.i64_in _ (by omega)];omega
  ·have hl : d.list.length = 8:=by omega
   rw [List.getLast?_drop];rw [if_neg (by rw [List.length_append,List.length_singleton];omega)];simp
theorem kI {α : Type} {R : α->α->Prop} (tr : ∀ a b c,R a b->R b c->R a c) : ∀ {l : List α},(∀ i,∀ h : i < l.length,∀ h0 : 0 < i,R (l[i - 1]'(by omega)) l[i])->l.Pairwise R
 | [],_=>.nil
 | [a],_=>by simp
 | a :: b :: l, h => by
   have ih:=kI tr (l:=b :: l) (λi hi h0=>by
    have:=h (i + 1) (by simp at hi ⊢;omega) (by omega);obtain ⟨j,rfl⟩ : ∃ j,i = j + 1:=⟨i - 1,by omega⟩
    simpa using this)
   have hab : R a b:=by have:=h 1 (by simp) (by omega);simpa using this
   refine List.pairwise_cons.2 ⟨λc hc=>?_,ih⟩;rcases List.mem_cons.1 hc with rfl | hc
   ·exact hab
   ·exact tr _ _ _ hab ((List.pairwise_cons.1 ih).1 c hc)
theorem nu {α : Type} {R : α->α->Prop} {l : List α} (h : l.Pairwise R) : ∀ i,∀ h : i < l.length,∀ h0 : 0 < i,R (l[i - 1]'(by omega)) l[i]:=
 λi hi h0=>(List.pairwise_iff_getElem.1 h) (i - 1) i (by omega) hi (by omega)
def OM (R : Int) (s : Seen) : Prop:=(1<=s.client/\s.client<=8)/\(1<=s.seq/\s.seq<=1000000000)/\(1<=s.rev/\s.rev<=R)
theorem qG {d : Doc} : oK d ↔ (∀ s∈d.seen,OM (ac d) s)/\d.seen.Pairwise λa b=>a.client < b.client:=by
 constructor
 ·intro h
  refine ⟨λs hs=>?_,kI (R:=λa b : Seen=>a.client < b.client) (λ_ _ _=>Int.lt_trans) λi hi h0=>(h i hi).2.2.2 h0⟩;obtain ⟨i,hi,rfl⟩:=List.getElem_of_mem hs;obtain ⟨h1,h2,h3,-⟩:=h i hi;exact ⟨h1,h2,h3⟩
 ·rintro ⟨h1,h2⟩ i hi
  obtain ⟨a,b,c⟩:=h1 _ (List.getElem_mem hi);exact ⟨a,b,c,λh0=>nu h2 i hi h0⟩
theorem me {c s r : Int} : ∀ {l : List Seen} {x : Seen},x∈bf c s r l->x = ⟨c,s,r⟩\/x∈l
 | [],x,h=>by simp [bf] at h;exact .inl h
 | y :: l, x, h => by
   unfold bf at h
   split at h
   ·rcases List.mem_cons.1 h with h | h
    ·exact .inr (by simp [h])
    ·rcases me h with h | h
     ·exact .inl h
     ·exact .inr (List.mem_cons_of_mem _ h)
   ·split at h
    ·rcases List.mem_cons.1 h with h | h
     ·exact .inl h
     ·exact .inr (List.mem_cons_of_mem _ h)
    ·rcases List.mem_cons.1 h with h | h
     ·exact .inl h
     ·exact .inr h
theorem sk {c s r : Int} : ∀ {l : List Seen},(l.Pairwise λa b=>a.client < b.client)->(bf c s r l).Pairwise λa b=>a.client < b.client
 | [],_=>by simp [bf]
 | y :: l, h => by
   obtain ⟨h1,h2⟩:=List.pairwise_cons.1 h;unfold bf
   split
   ·rename_i hc
    refine List.pairwise_cons.2 ⟨λx hx=>?_,sk h2⟩;rcases me hx with rfl | hx
    ·exact hc
    ·exact h1 x hx
   ·split
    ·rename_i hc
     exact List.pairwise_cons.2 ⟨λx hx=>by have:=h1 x hx;simp only;omega,h2⟩
    ·refine List.pairwise_cons.2 ⟨λx hx=>?_,h⟩
     rcases List.mem_cons.1 hx with rfl | hx
     ·simp only;omega
     ·have:=h1 x hx;simp only;omega
theorem AX {d : Doc} (h : aL d) {e : Entry} (he : bn e) (hf : iB e.o (cR d)) (hr : ac d < 999999000) : aL (a8 d e):=by
 have hh:=aV h;have hp:=(lJ h e).1;obtain ⟨t1,t2⟩:=nS h;obtain ⟨g1,g2,g3,g4,g5,g6,g7⟩:=h
 have hap : (az ((d.list ++ [e]).map Entry.o) d.text).isSome = true:=by
  rw [List.map_append,fL,t1];simp only [Option.bind_some,List.map_cons,List.map_nil,az];rw [if_pos (ji.2 hf)];rfl
 have hse : oK (a8 d e):=by
  rw [qG,hp];obtain ⟨s1,s2⟩:=qG.1 g7;have e1 : (a8 d e).seen = bf e.client e.seq (ac d + 1) d.seen:=by unfold a8;split<;>rfl
  rw [e1];refine ⟨λx hx=>?_,sk s2⟩;rcases me hx with rfl | hx
  ·exact ⟨he.1,he.2.1,by simp only;omega⟩
  ·obtain ⟨a,b,c⟩:=s1 x hx
   exact ⟨a,b,by omega⟩
 have hen : ∀ x∈d.list ++ [e],bn x:=λx hx=>by
  rcases List.mem_append.1 hx with hx | hx
  ·exact g5 x hx
  ·simp at hx;subst hx;exact he
 unfold a8 at hse ⊢
 split
 ·rename_i hl
  rw [if_pos hl] at hse;exact ⟨g1,g2,g3,by simp;omega,hen,hap,hse⟩
 ·rename_i hl
  rw [if_neg hl] at hse
  obtain ⟨x,l',hx⟩ : ∃ x l',d.list ++ [e] = x :: l':=by
   cases hd : d.list ++ [e] with
   | nil=>simp at hd
   | cons x l'=>exact ⟨x,l',rfl⟩
  have hlen : l'.length = d.list.length:=by have:=congrArg List.length hx;simp at this;omega
  simp only [hx] at hse hap hen ⊢;simp only [List.getElem_cons_zero,List.drop_one,List.tail_cons] at hse ⊢;rw [List.map_cons,az] at hap
  split at hap
  ·rename_i ha
   exact ⟨g1,by simp only;omega,(je (ji.1 ha)).1,by simp only;omega,λy hy=>hen y (List.mem_cons_of_mem _ hy),hap,hse⟩
  ·simp at hap
theorem xb (d : Doc) (e : Entry) : (a8 d e).name = d.name:=by unfold a8;split<;>rfl
theorem nT {d : Doc} {client seq base : Int} {o : List Part} (h : aL d) (hc : (bJ d client seq base o).2.2 = 0) :
 aL (bJ d client seq base o).1/\(bJ d client seq base o).1.name = d.name/\((bJ d client seq base o).1 = d\/
  ∃ e,bn e/\e.client = client/\e.seq = seq/\(bJ d client seq base o).1 = a8 d e/\iB e.o (cR d)/\ac d < 999999000):=by
 unfold bJ at hc ⊢
 split at hc
 ·rename_i hs
  rw [if_pos hs]
  split at hc
  ·rename_i h1
   rw [if_pos h1];exact ⟨h,rfl,.inl rfl⟩
  ·rename_i h1
   rw [if_neg h1]
   split at hc
   ·rename_i h2
    rw [if_pos h2]
    split at hc
    ·rename_i h3
     rw [if_pos h3]
     split at hc
     ·simp at hc
     ·rename_i h4
      rw [if_neg h4]
      have key : gb (cK d base o).1/\iB (cK d base o).1 (cR d):=by
       unfold cK at h3 ⊢
       split at h3
       ·rename_i c1
        rw [if_pos c1]
        split at h3
        ·simp at h3
        ·rename_i c2
         rw [if_neg c2]
         split at h3
         ·simp at h3
         ·rename_i c3
          rw [if_neg c3]
          split at h3
          ·rename_i c4
           rw [if_pos c4]
           split at h3
           ·rename_i c5
            rw [if_pos c5];exact ⟨AQ c5,pg c1.1 c1.2 (by omega) (by omega) c4 c5⟩
           ·simp at h3
          ·simp at h3
       ·simp at h3
      have he : bn ⟨client,seq,(cK d base o).1⟩:=⟨hs.2.1,hs.2.2.1,key.1⟩;exact ⟨AX h he key.2 (by omega),xb _ _,.inr ⟨_,he,rfl,rfl,rfl,key.2,by omega⟩⟩
    ·rename_i h3;exact absurd hc h3
   ·simp at hc
 ·simp at hc
theorem s9 {d : Doc} {client seq base : Int} {o : List Part} (h : aL d) (hc : (bJ d client seq base o).2.2 = 0) :
 (bJ d client seq base o).1 = d\/∃ e,ac (bJ d client seq base o).1 = ac d + 1/\(bJ d client seq base o).1.list.getLast? = some e:=by
 obtain ⟨-,-,h1 | ⟨e,-,-,-,h2,-⟩⟩:=nT h hc
 ·exact .inl h1
 ·rw [h2];exact .inr ⟨e,lJ h e⟩
theorem jc {room rev : Int} (h : aX (aY room rev)) : db room rev = (aY room rev,true):=by unfold db;rw [if_pos h]
theorem mC {room rev : Int} (h : ¬ aX (aY room rev)) : db room rev = (Ring.zero,false):=by unfold db;rw [if_neg h]
theorem mg (room rev : Int) : cP (aY room rev) = 0:=by simp [cP,aY,nL,bR]
theorem tc (room rev : Int) : cP (db room rev).1 = 0:=by
 unfold db
 split
 ·exact mg _ _
 ·simp [Ring.zero,cP,nL,bR]
theorem lG {r : Ring} {e : Entry} (h : ¬ (aX r/\bn e/\r.out = false)) : bU r e = r:=by unfold bU;rw [if_neg h]
theorem jy {r : Ring} {e : Entry} (h : aX r/\bn e/\r.out = false) (hc : (r.list.length : Int) = r.cap) : bU r e = ⟨r.cap,r.next,true,[]⟩:=by unfold bU;rw [if_pos h,if_pos hc]
theorem jx {r : Ring} {e : Entry} (h : aX r/\bn e/\r.out = false) (hc : ¬ (r.list.length : Int) = r.cap) : bU r e = ⟨r.cap,r.next,r.out,r.list ++ [e]⟩:=by unfold bU;rw [if_pos h,if_neg hc]
theorem y7 (r : Ring) (e : Entry) : cP (bU r e)<=cP r + aQ e + 1:=by
 unfold bU
 split
 ·split
  ·simp [cP,nL,bR]
  ·simp only [cP]
   rw [eV];simp [nL,bR];omega
 ·omega
theorem pf {r : Ring} {n : Int} (h : ¬ (aX r/\1<=n)) : be r n = (r,[],1):=by unfold be;rw [if_neg h]
theorem kt {r : Ring} {n : Int} (h : aX r/\1<=n) (ho : r.out = true) : be r n = (r,[],9):=by unfold be;rw [if_pos h,if_pos ho]
theorem kr {r : Ring} {n : Int} (h : aX r/\1<=n) (ho : r.out = false) {k : Nat} (hk : k = min n.toNat r.list.length) : be r n = (⟨r.cap,r.next + k,r.out,r.list.drop k⟩,r.list.take k,0):=by
 unfold be;rw [if_pos h,if_neg (by rw [ho];simp)];subst hk;rcases Nat.le_total n.toNat r.list.length with h1 | h1
 ·rw [Nat.min_eq_left h1]
 ·rw [Nat.min_eq_right h1,List.drop_eq_nil_of_le h1,List.drop_eq_nil_of_le (Nat.le_refl _),List.take_of_length_le h1,List.take_of_length_le (Nat.le_refl _)]
theorem y8 (r : Ring) (n : Int) : cP (be r n).1<=cP r/\nL aQ (be r n).2.1<=cP r:=by
 unfold be
 split
 ·split
  ·simp [nL,bR]
  ·refine ⟨?_,wd (Nat.le_refl _)⟩
   show nL aQ (r.list.drop n.toNat)<=nL aQ r.list
   have h:=eV (f:=aQ) (r.list.take n.toNat) (r.list.drop n.toNat);rw [List.take_append_drop] at h;omega
 ·simp [nL,bR]
theorem iK {r : Ring} {rev : Int} (h : aX r) : bu r rev = db r.cap rev:=by unfold bu;rw [if_pos h]
theorem mB {r : Ring} {rev : Int} (h : ¬ aX r) : bu r rev = (Ring.zero,false):=by unfold bu;rw [if_neg h]
theorem bD (l : List Doc) (name : ByteArray) : (∃ k : Nat,∃ h : k < l.length,ar l name = k/\l[k].name = name)\/ar l name = -1:=by
 rcases eM (λd : Doc=>d.name = name) l with ⟨k,h,e,hp,-⟩ | ⟨e,-⟩
 ·exact .inl ⟨k,h,e,hp⟩
 ·exact .inr e
theorem fB (l : List Sub) (id : Int) : (∃ k : Nat,∃ h : k < l.length,et l id = k/\l[k].id = id)\/et l id = -1:=by
 rcases eM (λs : Sub=>s.id = id) l with ⟨k,h,e,hp,-⟩ | ⟨e,-⟩
 ·exact .inl ⟨k,h,e,hp⟩
 ·exact .inr e
theorem cj {h : Hub} (c : an h) {k : Nat} (hk : k < h.docs.length) : aL h.docs[k]:=(c.2.2.2.1 k hk).1
theorem rI {h : Hub} (c : an h) {k : Nat} (hk : k < h.subs.length) : aX h.subs[k].r/\∃ j : Nat,∃ _ : j < h.docs.length,ar h.docs h.subs[k].doc = j:=by
 obtain ⟨-,h2,-,j,hj,e,-⟩:=c.2.2.2.2 k hk;exact ⟨h2,j,hj,e⟩
theorem gt {h : Hub} {name : ByteArray} {t : List Int} (c : ¬ (an h/\aL (dy name t))) : ba h name t = (Hub.zero,1):=by unfold ba;rw [if_neg c]
theorem nW {h : Hub} {name : ByteArray} {t : List Int} (c : an h/\aL (dy name t)) (s : h.shut = true) : ba h name t = (Hub.zero,12):=by unfold ba;rw [if_pos c,if_pos s]
theorem nX {h : Hub} {name : ByteArray} {t : List Int} (c : an h/\aL (dy name t)) (s : ¬ h.shut = true) (i : 0<=ar h.docs name) : ba h name t = (Hub.zero,7):=by unfold ba;rw [if_pos c,if_neg s,if_pos i]
theorem nY {h : Hub} {name : ByteArray} {t : List Int} (c : an h/\aL (dy name t)) (s : ¬ h.shut = true) (i : ¬ 0<=ar h.docs name) (f : h.docs.length = 5) : ba h name t = (Hub.zero,10):=by unfold ba;rw [if_pos c,if_neg s,if_neg i,if_pos f]
theorem pj {h : Hub} {name : ByteArray} {t : List Int} (c : an h/\aL (dy name t)) (s : ¬ h.shut = true) (i : ¬ 0<=ar h.docs name) (f : ¬ h.docs.length = 5) : ba h name t = (⟨h.shut,fO (dy name t) h.docs,h.subs,h.last⟩,0):=by
 unfold ba;rw [if_pos c,if_neg s,if_neg i,if_neg f]
noncomputable def du (name : ByteArray) : List Doc->Nat
 | []=>0
 | x :: l=>open Classical in if sLt x.name name then du name l + 1 else 0
theorem nj (d : Doc) : ∀ l : List Doc,fO d l = l.take (du d.name l) ++ d :: l.drop (du d.name l)
 | []=>by simp [fO,du]
 | x :: l => by
   unfold fO du
   split
   ·rw [nj d l];simp
   ·simp
theorem mF (name : ByteArray) : ∀ l : List Doc,du name l<=l.length
 | []=>by simp [du]
 | x :: l => by
   unfold du
   split
   ·have:=mF name l;simp;omega
   ·omega
theorem mG {name : ByteArray} : ∀ {l : List Doc} {k : Nat},k<=du name l->∀ hk : k < l.length,sLt l[k].name name ↔ k < du name l
 | x :: l, 0, _, _ => by
   unfold du
   split
   ·rename_i h;simpa using h
   ·rename_i h;simpa using h
 | x :: l, k + 1, h, hk => by
   unfold du at h ⊢
   split at h
   ·rename_i hx
    rw [if_pos hx];have:=mG (name:=name) (l:=l) (k:=k) (by omega) (by simpa using hk);simp only [List.getElem_cons_succ];rw [this];omega
   ·omega
theorem ku {h : Hub} {name : ByteArray} {client seq base : Int} {o : List Part} (c : ¬ an h) : aG h name client seq base o = (Hub.zero,0,1):=by unfold aG;rw [if_neg c]
theorem iL {h : Hub} {name : ByteArray} {client seq base : Int} {o : List Part} (c : an h) (s : h.shut = true) : aG h name client seq base o = (Hub.zero,0,12):=by unfold aG;rw [if_pos c,if_pos s]
theorem iM {h : Hub} {name : ByteArray} {client seq base : Int} {o : List Part} (c : an h) (s : ¬ h.shut = true) (i : ar h.docs name = -1) : aG h name client seq base o = (Hub.zero,0,6):=by
 unfold aG;rw [if_pos c,if_neg s,i]
 split
 ·rw [if_neg (by omega)]
 ·rfl
theorem kw {h : Hub} {name : ByteArray} {client seq base : Int} {o : List Part} (c : an h) (s : ¬ h.shut = true) {k : Nat} (hk : k < h.docs.length) (i : ar h.docs name = k) :
 aG h name client seq base o = if (bJ h.docs[k] client seq base o).2.2 = 0 then (cm h name k h.docs[k] (bJ h.docs[k] client seq base o).1,(bJ h.docs[k] client seq base o).2.1,0) else (Hub.zero,0,(bJ h.docs[k] client seq base o).2.2):=by
 unfold aG;rw [if_pos c,if_neg s,i];simp only [Int.toNat_natCast];rw [List.getElem?_eq_getElem hk];simp only;rw [if_pos (by omega)]
theorem eA {h : Hub} {name : ByteArray} {room : Int} (c : ¬ (an h/\(1<=room/\room<=6))) : aw h name room = (Hub.zero,0,1):=by unfold aw;rw [if_neg c]
theorem gc {h : Hub} {name : ByteArray} {room : Int} (c : an h/\(1<=room/\room<=6)) (s : h.shut = true) : aw h name room = (Hub.zero,0,12):=by unfold aw;rw [if_pos c,if_pos s]
theorem gd {h : Hub} {name : ByteArray} {room : Int} (c : an h/\(1<=room/\room<=6)) (s : ¬ h.shut = true) (i : ar h.docs name = -1) : aw h name room = (Hub.zero,0,6):=by
 unfold aw;rw [if_pos c,if_neg s,i]
 split
 ·rw [if_neg (by omega)]
 ·rfl
theorem ig {h : Hub} {name : ByteArray} {room : Int} (c : an h/\(1<=room/\room<=6)) (s : ¬ h.shut = true) {k : Nat} (hk : k < h.docs.length) (i : ar h.docs name = k) :
 aw h name room = if h.subs.length = 6\/h.last = 1000000000 then (Hub.zero,0,10) else (⟨h.shut,h.docs,h.subs ++ [⟨h.last + 1,name,(db room (ac h.docs[k])).1⟩],h.last + 1⟩,h.last + 1,0):=by
 unfold aw;rw [if_pos c,if_neg s,i];simp only [Int.toNat_natCast];rw [List.getElem?_eq_getElem hk];simp only;rw [if_pos (by omega)]
theorem iF {h : Hub} {id n : Int} (c : ¬ (an h/\1<=n)) : bC h id n = (Hub.zero,[],1):=by unfold bC;rw [if_neg c]
theorem kB {h : Hub} {id n : Int} (c : an h/\1<=n) (i : et h.subs id = -1) : bC h id n = (Hub.zero,[],8):=by
 unfold bC;rw [if_pos c,i]
 split
 ·rw [if_neg (by omega)]
 ·rfl
theorem mD {h : Hub} {id n : Int} (c : an h/\1<=n) {k : Nat} (hk : k < h.subs.length) (i : et h.subs id = k) :
 bC h id n = if (be h.subs[k].r n).2.2 = 0 then (⟨h.shut,h.docs,h.subs.set k ⟨h.subs[k].id,h.subs[k].doc,(be h.subs[k].r n).1⟩,h.last⟩,(be h.subs[k].r n).2.1,0) else (Hub.zero,[],(be h.subs[k].r n).2.2):=by
 unfold bC;rw [if_pos c,i];simp only [Int.toNat_natCast];rw [List.getElem?_eq_getElem hk];simp only;rw [if_pos (by omega)]
theorem kz {h : Hub} {id : Int} (c : ¬ an h) : aM h id = (Hub.zero,[],0,1):=by unfold aM;rw [if_neg c]
theorem iN {h : Hub} {id : Int} (c : an h) (i : et h.subs id = -1) : aM h id = (Hub.zero,[],0,8):=by
 unfold aM;rw [if_pos c,i]
 split
 ·rw [if_neg (by omega)]
 ·rfl
theorem kA {h : Hub} {id : Int} (c : an h) {k : Nat} (hk : k < h.subs.length) (i : et h.subs id = k) {j : Nat} (hj : j < h.docs.length) (e : ar h.docs h.subs[k].doc = j) :
 aM h id = (⟨h.shut,h.docs,h.subs.set k ⟨h.subs[k].id,h.subs[k].doc,(bu h.subs[k].r (ac h.docs[j])).1⟩,h.last⟩,cR h.docs[j],ac h.docs[j],0):=by
 unfold aM;rw [if_pos c,i];simp only [Int.toNat_natCast];rw [List.getElem?_eq_getElem hk];simp only;rw [if_pos (by omega),e];simp only [Int.toNat_natCast];rw [List.getElem?_eq_getElem hj]
theorem q9 {h : Hub} (c : ¬ an h) : bX h = (Hub.zero,1):=by unfold bX;rw [if_neg c]
theorem nU {h : Hub} (c : an h) (s : h.shut = true) : bX h = (Hub.zero,12):=by unfold bX;rw [if_pos c,if_pos s]
theorem pi {h : Hub} (c : an h) (s : ¬ h.shut = true) : bX h = (⟨true,h.docs,h.subs,h.last⟩,0):=by unfold bX;rw [if_pos c,if_neg s]
theorem tg {h : Hub} {c : Call} (s : h.shut = true) : jS h c = bK 12:=by unfold jS;rw [if_pos s]
theorem th {h : Hub} {c : Call} (s : ¬ h.shut = true) (i : ar h.docs c.doc = -1) : jS h c = bK 6:=by
 unfold jS;rw [if_neg s,i]
 split
 ·rw [if_neg (by omega)]
 ·rfl
theorem y9 {h : Hub} {c : Call} (s : ¬ h.shut = true) {k : Nat} (hk : k < h.docs.length) (i : ar h.docs c.doc = k) :
 jS h c = if c.kind = 4 then ⟨0,ac h.docs[k],cR h.docs[k],[]⟩ else ⟨(ge h.docs[k] c.n).2,0,[],(ge h.docs[k] c.n).1⟩:=by
 unfold jS;rw [if_neg s,i];simp only [Int.toNat_natCast];rw [List.getElem?_eq_getElem hk];simp only;rw [if_pos (by omega)]
theorem mX {l : List Doc} {i : Nat} {a b c d e : CD} : ∀ row∈(l.map Doc.row).set i [a,b,c,d,e],row.length = 5:=by
 intro row h;rcases List.mem_or_eq_of_mem_set h with h | rfl
 ·rw [List.mem_map] at h
  obtain ⟨a,-,rfl⟩:=h;rfl
 ·rfl
theorem pS {l : List Sub} {i : Nat} {a b c d e f : CD} : ∀ row∈(l.map Sub.row).set i [a,b,c,d,e,f],row.length = 6:=by
 intro row h;rcases List.mem_or_eq_of_mem_set h with h | rfl
 ·rw [List.mem_map] at h
  obtain ⟨a,-,rfl⟩:=h;rfl
 ·rfl
theorem D9 {a b : UInt8} : a < b ↔ a.toNat < b.toNat:=UInt8.lt_iff_toNat_lt
theorem vE : ∀ x : List UInt8,Go.Op.bytesLess x x = false
 | []=>rfl
 | a :: x => by
   have h : ¬ a < a:=by rw [D9];omega
   rw [Go.Op.bytesLess,vE x];simp [h]
theorem zh : ∀ x y z : List UInt8,Go.Op.bytesLess x y = true->Go.Op.bytesLess y z = true->Go.Op.bytesLess x z = true
 | [],[],_,h,_=>by simp [Go.Op.bytesLess] at h
 | _ :: _,[],_,h,_=>by simp [Go.Op.bytesLess] at h
 | _,_ :: _,[],_,h=>by simp [Go.Op.bytesLess] at h
 | [],_ :: _,_ :: _,_,_=>rfl
 | a :: x, b :: y, c :: z, h1, h2 => by
   rw [Go.Op.bytesLess] at h1 h2 ⊢;simp only [Bool.or_eq_true,Bool.and_eq_true,decide_eq_true_eq,beq_iff_eq] at h1 h2 ⊢;rcases h1 with h1 | ⟨rfl,h1⟩
   ·rcases h2 with h2 | ⟨rfl,h2⟩
    ·rw [D9] at h1 h2 ⊢;exact .inl (by omega)
    ·exact .inl h1
   ·rcases h2 with h2 | ⟨rfl,h2⟩
    ·exact .inl h2
    ·exact .inr ⟨rfl,zh x y z h1 h2⟩
theorem GS : ∀ x y : List UInt8,Go.Op.bytesLess x y = true\/x = y\/Go.Op.bytesLess y x = true
 | [],[]=>.inr (.inl rfl)
 | [],_ :: _=>.inl rfl
 | _ :: _,[]=>.inr (.inr rfl)
 | a :: x, b :: y => by
   rw [Go.Op.bytesLess,Go.Op.bytesLess];simp only [Bool.or_eq_true,Bool.and_eq_true,decide_eq_true_eq,beq_iff_eq,List.cons.injEq];by_cases h1 : a < b
   ·exact .inl (.inl h1)
   ·by_cases h2 : a = b
    ·rcases GS x y with h | h | h
     ·exact .inl (.inr ⟨h2,h⟩)
     ·exact .inr (.inl ⟨h2,h⟩)
     ·exact .inr (.inr (.inr ⟨h2.symm,h⟩))
    ·have h3 : b < a:=by
      rw [D9] at h1 ⊢;have : a.toNat≠b.toNat:=λh=>h2 (UInt8.toNat_inj.1 h)
      omega
     exact .inr (.inr (.inl h3))
theorem DA {a b : ByteArray} (h : a.toList = b.toList) : a = b:=by
 rw [ByteArray.toList_eq,ByteArray.toList_eq] at h;obtain ⟨⟨a⟩⟩:=a;obtain ⟨⟨b⟩⟩:=b;simp only at h;rw [h]
theorem lg (a : ByteArray) : ¬ sLt a a:=by unfold sLt;rw [vE];simp
theorem mW {a b c : ByteArray} (h1 : sLt a b) (h2 : sLt b c) : sLt a c:=zh _ _ _ h1 h2
theorem Bw {a b : ByteArray} (h1 : ¬ sLt a b) (h2 : a≠b) : sLt b a:=by
 rcases GS a.toList b.toList with h | h | h
 ·exact absurd h h1
 ·exact absurd (DA h) h2
 ·exact h
def po (a b : Doc) : Prop:=sLt a.name b.name
def ME (l : List Doc) : Prop:=(∀ d∈l,aL d)/\l.Pairwise po
def Rp (docs : List Doc) (last : Int) (s : Sub) : Prop:=(1<=s.id/\s.id<=last)/\aX s.r/\∃ d∈docs,d.name = s.doc/\(s.r.out = false->s.r.next + s.r.list.length = ac d + 1)
def Bq (a b : Sub) : Prop:=a.id < b.id
theorem qn {l : List Doc} (hp : l.Pairwise po) {k : Nat} (hk : k < l.length) : ar l l[k].name = k:=
 jT hk rfl (λj hj hjl e=>by
  have h1 : po l[j] l[k]:=List.pairwise_iff_getElem.1 hp j k hjl hk hj;unfold po at h1;rw [show l[j].name = l[k].name from e] at h1;exact lg _ h1)
theorem B7 {l : List Doc} (hp : l.Pairwise po) {a b : Doc} (ha : a∈l) (hb : b∈l) (h : a.name = b.name) : a = b:=by
 obtain ⟨i,hi,rfl⟩:=List.getElem_of_mem ha;obtain ⟨j,hj,rfl⟩:=List.getElem_of_mem hb;have e1:=qn hp hi;have e2:=qn hp hj;rw [h,e2] at e1;have : i = j:=by omega
 subst this;rfl
theorem lK {l : List Doc} {name : ByteArray} : 0<=ar l name ↔ ∃ d∈l,d.name = name:=by
 constructor
 ·intro h
  rcases bD l name with ⟨k,hk,-,hn⟩ | e
  ·exact ⟨_,List.getElem_mem hk,hn⟩
  ·omega
 ·rintro ⟨d,hd,hn⟩
  rcases eM (λd : Doc=>d.name = name) l with ⟨k,hk,e,-⟩ | ⟨-,h⟩
  ·unfold ar;omega
  ·obtain ⟨i,hi,rfl⟩:=List.getElem_of_mem hd
   exact absurd hn (h i hi)
theorem ia {h : Hub} : an h ↔ h.docs.length<=5/\h.subs.length<=6/\(0<=h.last/\h.last<=1000000000)/\ME h.docs/\(∀ s∈h.subs,Rp h.docs h.last s)/\h.subs.Pairwise Bq:=by
 constructor
 ·rintro ⟨h1,h2,h3,h4,h5⟩
  refine ⟨h1,h2,h3,⟨λd hd=>?_,kI (R:=po) (λ_ _ _=>mW) λi hi h0=>(h4 i hi).2 h0⟩,λs hs=>?_,kI (R:=Bq) (λ_ _ _=>Int.lt_trans) λi hi h0=>(h5 i hi).2.2.1 h0⟩
  ·obtain ⟨i,hi,rfl⟩:=List.getElem_of_mem hd
   exact (h4 i hi).1
  ·obtain ⟨i,hi,rfl⟩:=List.getElem_of_mem hs
   obtain ⟨g1,g2,-,k,hk,e,g3⟩:=h5 i hi;refine ⟨g1,g2,h.docs[k],List.getElem_mem hk,?_,g3⟩;rcases bD h.docs h.subs[i].doc with ⟨j,hj,e',hn⟩ | e'
   ·have : j = k:=by omega
    subst this;exact hn
   ·omega
 ·rintro ⟨h1,h2,h3,⟨h4,h5⟩,h6,h7⟩
  refine ⟨h1,h2,h3,λi hi=>⟨h4 _ (List.getElem_mem hi),λh0=>nu h5 i hi h0⟩,λi hi=>?_⟩;obtain ⟨g1,g2,d,hd,hn,g3⟩:=h6 _ (List.getElem_mem hi);obtain ⟨k,hk,rfl⟩:=List.getElem_of_mem hd;refine ⟨g1,g2,λh0=>nu h7 i hi h0,k,hk,?_,g3⟩;rw [<- hn];exact qn h5 hk
theorem jB {d x : Doc} : ∀ {l : List Doc},x∈fO d l ↔ x = d\/x∈l
 | []=>by simp [fO]
 | y :: l => by
   unfold fO
   split
   ·rw [List.mem_cons,jB (l:=l),List.mem_cons]
    constructor
    ·rintro (h | h | h)
     ·exact .inr (.inl h)
     ·exact .inl h
     ·exact .inr (.inr h)
    ·rintro (h | h | h)
     ·exact .inr (.inl h)
     ·exact .inl h
     ·exact .inr (.inr h)
   ·rw [List.mem_cons]
theorem vA {d : Doc} : ∀ {l : List Doc},l.Pairwise po->(∀ x∈l,x.name≠d.name)->(fO d l).Pairwise po
 | [],_,_=>by simp [fO]
 | y :: l, h, hn => by
   obtain ⟨h1,h2⟩:=List.pairwise_cons.1 h;unfold fO
   split
   ·rename_i hc
    refine List.pairwise_cons.2 ⟨λx hx=>?_,vA h2 (λx hx=>hn x (List.mem_cons_of_mem _ hx))⟩;rcases jB.1 hx with rfl | hx
    ·exact hc
    ·exact h1 x hx
   ·rename_i hc
    have h3 : po d y:=Bw hc (hn y (List.mem_cons_self ..));refine List.pairwise_cons.2 ⟨λx hx=>?_,h⟩;rcases List.mem_cons.1 hx with rfl | hx
    ·exact h3
    ·exact mW h3 (h1 x hx)
theorem tq (d : Doc) : ∀ l : List Doc,(fO d l).length = l.length + 1
 | []=>rfl
 | y :: l => by
   unfold fO
   split
   ·simp [tq d l]
   ·rfl
def fY (a b : List Doc) : Prop:=∀ name,(∃ d∈a,d.name = name)->∃ d∈b,d.name = name
theorem Ih {h : Hub} (c : an h) {name : ByteArray} {t : List Int} (hd : aL (dy name t)) (hi : ¬ 0<=ar h.docs name) (hl : ¬ h.docs.length = 5) : an ⟨h.shut,fO (dy name t) h.docs,h.subs,h.last⟩:=by
 rw [ia] at c ⊢;obtain ⟨h1,h2,h3,⟨h4,h5⟩,h6,h7⟩:=c;have hn : ∀ x∈h.docs,x.name≠(dy name t).name:=λx hx e=>hi (lK.2 ⟨x,hx,e⟩)
 refine ⟨by rw [tq];omega,h2,h3,⟨λd hx=>?_,vA h5 hn⟩,λs hs=>?_,h7⟩
 ·rcases jB.1 hx with rfl | hx
  ·exact hd
  ·exact h4 d hx
 ·obtain ⟨g1,g2,d,hx,g3⟩:=h6 s hs
  exact ⟨g1,g2,d,jB.2 (.inr hx),g3⟩
theorem yc {r : Ring} (h : aX r) {e : Entry} (he : bn e) : aX (bU r e)/\((bU r e).out = false->r.out = false/\(bU r e).next = r.next/\(bU r e).list.length = r.list.length + 1):=by
 by_cases c : r.out = false
 ·obtain ⟨g1,g2,g3,g4,g5⟩:=h
  by_cases f : (r.list.length : Int) = r.cap
  ·rw [jy ⟨⟨g1,g2,g3,g4,g5⟩,he,c⟩ f]
   exact ⟨⟨by simp,g2,g3,by simp only [List.length_nil];omega,by simp⟩,by simp⟩
  ·rw [jx ⟨⟨g1,g2,g3,g4,g5⟩,he,c⟩ f]
   refine ⟨⟨λx hx=>?_,g2,g3,by simp only [List.length_append,List.length_cons,List.length_nil];omega,by rw [c];simp⟩,λ_=>⟨c,rfl,by simp⟩⟩;rcases List.mem_append.1 hx with hx | hx
   ·exact g1 x hx
   ·simp at hx;subst hx;exact he
 ·rw [lG (λh=>c h.2.2)]
  exact ⟨h,λh=>absurd h c⟩
theorem v5 {α β : Type} {R : β->β->Prop} {f : α->β} {l : List α} {k : Nat} {x : α} (hk : k < l.length) (hf : f x = f l[k]) (h : l.Pairwise λa b=>R (f a) (f b)) : (l.set k x).Pairwise λa b=>R (f a) (f b):=by
 have h1 : (l.map f).Pairwise R:=List.pairwise_map.2 h
 have e : (l.set k x).map f = l.map f:=by
  rw [List.map_set,hf];refine List.ext_getElem (by simp) (λj h1 h2=>?_);rw [List.getElem_set]
  split
  ·rename_i e;subst e;simp
  ·rfl
 rw [<- e] at h1;exact List.pairwise_map.1 h1
theorem Ai {α : Type} {l : List α} {k : Nat} {x y : α} (hk : k < l.length) (hy : y∈l) (hne : y≠l[k]) : y∈l.set k x:=by
 obtain ⟨j,hj,rfl⟩:=List.getElem_of_mem hy;have hjk : k≠j:=λe=>by subst e;exact hne rfl
 have : (l.set k x)[j]'(by simpa using hj) = l[j]:=by rw [List.getElem_set_ne hjk]
 rw [<- this];exact List.getElem_mem _
theorem sL {α : Type} {l : List α} {k : Nat} {x : α} (hk : k < l.length) : x∈l.set k x:=List.mem_set hk x
theorem Dw {h : Hub} (c : an h) {name : ByteArray} {k : Nat} (hk : k < h.docs.length) (hn : h.docs[k].name = name) {D : Doc} (hD : aL D) (hDn : D.name = h.docs[k].name)
 (hor : D = h.docs[k]\/∃ e,bn e/\ac D = ac h.docs[k] + 1/\D.list.getLast? = some e) : an (cm h name k h.docs[k] D)/\fY h.docs (cm h name k h.docs[k] D).docs:=by
 rcases hor with rfl | ⟨e,he,hr,hg⟩
 ·have e1 : cm h name k h.docs[k] h.docs[k] = h:=by
   unfold cm;rw [if_neg (by omega),List.set_getElem_self]
  rw [e1];exact ⟨c,λ_ h=>h⟩
 ·have e1 : cm h name k h.docs[k] D = ⟨h.shut,h.docs.set k D,h.subs.map (cV name e),h.last⟩:=by
   unfold cm;rw [if_pos (by omega),hg]
  rw [e1];rw [ia] at c ⊢;obtain ⟨h1,h2,h3,⟨h4,h5⟩,h6,h7⟩:=c;have hkeep : ∀ d∈h.docs,d.name≠name->d∈h.docs.set k D:=λd hd hne=>Ai hk hd (λe=>hne (by rw [e,hn]))
  refine ⟨⟨by simpa using h1,by simpa using h2,h3,⟨λd hd=>?_,v5 (f:=Doc.name) (R:=sLt) hk hDn h5⟩,λs hs=>?_,?_⟩,?_⟩
  ·rcases List.mem_or_eq_of_mem_set hd with hd | rfl
   ·exact h4 d hd
   ·exact hD
  ·rw [List.mem_map] at hs
   obtain ⟨s,hs,rfl⟩:=hs;obtain ⟨g1,g2,d,hd,hdn,g3⟩:=h6 s hs;unfold cV
   split
   ·rename_i hc
    have hu : d = h.docs[k]:=B7 h5 hd (List.getElem_mem hk) (by rw [hdn,hc,hn]);subst hu;obtain ⟨p1,p2⟩:=yc g2 he;refine ⟨g1,p1,D,sL hk,by rw [hDn,hdn],λho=>?_⟩;obtain ⟨q1,q2,q3⟩:=p2 ho;have:=g3 q1;simp only at q2 q3 ⊢;omega
   ·rename_i hc
    exact ⟨g1,g2,d,hkeep d hd (λe=>hc (by rw [<- hdn,e])),hdn,g3⟩
  ·rw [List.pairwise_map]
   refine h7.imp ?_;intro a b hab;have ea : ∀ s : Sub,(cV name e s).id = s.id:=λs=>by unfold cV;split<;>rfl
   unfold Bq;rw [ea,ea];exact hab
  ·rintro nm ⟨d,hd,hdn⟩
   by_cases hc : d.name = name
   ·exact ⟨D,sL hk,by rw [hDn,hn,<- hc,hdn]⟩
   ·exact ⟨d,hkeep d hd hc,hdn⟩
theorem vT {h : Hub} (c : an h) {room : Int} (hr : 1<=room/\room<=6) {k : Nat} (hk : k < h.docs.length) (hl : ¬ (h.subs.length = 6\/h.last = 1000000000)) :
 an ⟨h.shut,h.docs,h.subs ++ [⟨h.last + 1,h.docs[k].name,(db room (ac h.docs[k])).1⟩],h.last + 1⟩:=by
 have hh:=aV (cj c hk);have hring : aX (aY room (ac h.docs[k])):=⟨by simp [aY],hr,by simp only [aY];omega,by simp only [aY,List.length_nil];omega,by simp [aY]⟩;rw [jc hring];rw [ia] at c ⊢;obtain ⟨h1,h2,h3,h4,h6,h7⟩:=c;refine ⟨h1,by simp only [List.length_append,List.length_cons,List.length_nil];omega,by simp only;omega,h4,λs hs=>?_,?_⟩
 ·rcases List.mem_append.1 hs with hs | hs
  ·obtain ⟨g1,g2⟩:=h6 s hs
   exact ⟨by simp only;omega,g2⟩
  ·simp at hs
   subst hs;exact ⟨by simp only;omega,hring,_,List.getElem_mem hk,rfl,λ_=>by simp [aY]⟩
 ·rw [List.pairwise_append]
  refine ⟨h7,by simp,λa ha b hb=>?_⟩;simp at hb;subst hb;have:=(h6 a ha).1;unfold Bq;simp only;omega
theorem uO {h : Hub} (c : an h) {k : Nat} (hk : k < h.subs.length) {r : Ring} (hr : aX r) (hd : ∀ d∈h.docs,d.name = h.subs[k].doc->(h.subs[k].r.out = false->h.subs[k].r.next + h.subs[k].r.list.length = ac d + 1)->r.out = false->r.next + r.list.length = ac d + 1) :
 an ⟨h.shut,h.docs,h.subs.set k ⟨h.subs[k].id,h.subs[k].doc,r⟩,h.last⟩:=by
 rw [ia] at c ⊢;obtain ⟨h1,h2,h3,h4,h6,h7⟩:=c;refine ⟨h1,by simpa using h2,h3,h4,λs hs=>?_,v5 (f:=Sub.id) (R:=λa b : Int=>a < b) hk rfl h7⟩;rcases List.mem_or_eq_of_mem_set hs with hs | rfl
 ·exact h6 s hs
 ·obtain ⟨g1,g2,d,hx,hn,g3⟩:=h6 _ (List.getElem_mem hk)
  exact ⟨g1,hr,d,hx,hn,hd d hx hn g3⟩
theorem mE {h : Hub} {name : ByteArray} {t : List Int} (hz : (ba h name t).2 = 0) : an (ba h name t).1/\fY h.docs (ba h name t).1.docs:=by
 unfold ba at hz ⊢
 split at hz
 ·rename_i c
  rw [if_pos c]
  split at hz
  ·simp at hz
  ·rename_i c1
   rw [if_neg c1]
   split at hz
   ·simp at hz
   ·rename_i c2
    rw [if_neg c2]
    split at hz
    ·simp at hz
    ·rename_i c3
     rw [if_neg c3];exact ⟨Ih c.1 c.2 c2 c3,λnm ⟨d,hd,e⟩=>⟨d,jB.2 (.inr hd),e⟩⟩
 ·simp at hz
theorem fU {h : Hub} {name : ByteArray} {client seq base : Int} {o : List Part} (hz : (aG h name client seq base o).2.2 = 0) : an (aG h name client seq base o).1/\fY h.docs (aG h name client seq base o).1.docs:=by
 by_cases c : an h
 rotate_left
 ·rw [ku c] at hz;simp at hz
 by_cases s : h.shut = true
 ·rw [iL c s] at hz;simp at hz
 rcases bD h.docs name with ⟨k,hk,e,hn⟩ | e;rotate_left
 ·rw [iM c s e] at hz;simp at hz
 rw [kw c s hk e] at hz ⊢
 split at hz
 ·rename_i h0
  rw [if_pos h0];obtain ⟨d1,d2,d3⟩:=nT (cj c hk) h0;refine Dw c hk hn d1 d2 ?_;rcases d3 with d3 | ⟨e,he,-,-,d3,-⟩
  ·exact .inl d3
  ·rw [d3];exact .inr ⟨e,he,lJ (cj c hk) e⟩
 ·rename_i h0;exact absurd hz h0
theorem kR {h : Hub} {name : ByteArray} {room : Int} (hz : (aw h name room).2.2 = 0) : an (aw h name room).1/\fY h.docs (aw h name room).1.docs:=by
 by_cases c : an h/\(1<=room/\room<=6)
 rotate_left
 ·rw [eA c] at hz;simp at hz
 by_cases s : h.shut = true
 ·rw [gc c s] at hz;simp at hz
 rcases bD h.docs name with ⟨k,hk,e,hn⟩ | e;rotate_left
 ·rw [gd c s e] at hz;simp at hz
 rw [ig c s hk e] at hz ⊢
 split at hz
 ·simp at hz
 ·rename_i hl
  rw [if_neg hl];subst hn;exact ⟨vT c.1 c.2 hk hl,λ_ h=>h⟩
theorem ra {h : Hub} {id n : Int} (hz : (bC h id n).2.2 = 0) : an (bC h id n).1/\fY h.docs (bC h id n).1.docs:=by
 by_cases c : an h/\1<=n
 rotate_left
 ·rw [iF c] at hz;simp at hz
 rcases fB h.subs id with ⟨k,hk,e,-⟩ | e;rotate_left
 ·rw [kB c e] at hz;simp at hz
 rw [mD c hk e] at hz ⊢
 split at hz
 ·rename_i h0
  rw [if_pos h0];refine ⟨?_,λ_ h=>h⟩;have hro:=(rI c.1 hk).1;obtain ⟨g1,g2,g3,g4,g5⟩:=hro;have hsub:=(ia.1 c.1).2.2.2.2.1 _ (List.getElem_mem hk);obtain ⟨-,-,d0,hd0,hn0,hnx⟩:=hsub;obtain ⟨i0,hi0,rfl⟩:=List.getElem_of_mem hd0;have hh:=aV (cj c.1 hi0)
  cases ho : h.subs[k].r.out with
  | true=>rw [kt ⟨⟨g1,g2,g3,g4,g5⟩,c.2⟩ ho] at h0;simp at h0
  | false=>
  rw [kr ⟨⟨g1,g2,g3,g4,g5⟩,c.2⟩ ho rfl];have hk1 : min n.toNat h.subs[k].r.list.length<=h.subs[k].r.list.length:=Nat.min_le_right _ _;have hnx:=hnx ho;generalize min n.toNat h.subs[k].r.list.length = m at hk1;refine uO c.1 hk ⟨λx hx=>g1 x (List.mem_of_mem_drop hx),g2,by simp only;omega,by simp only [List.length_drop];omega,by simp only;rw [ho];simp⟩ ?_;intro d hd hdn hnext _;have:=hnext ho;simp only [List.length_drop];omega
 ·rename_i h0;exact absurd hz h0
theorem nV {h : Hub} {id : Int} (hz : (aM h id).2.2.2 = 0) : an (aM h id).1/\fY h.docs (aM h id).1.docs:=by
 by_cases c : an h
 rotate_left
 ·rw [kz c] at hz;simp at hz
 rcases fB h.subs id with ⟨k,hk,e,-⟩ | e;rotate_left
 ·rw [iN c e] at hz;simp at hz
 obtain ⟨hro,j,hj,ej⟩:=rI c hk;rw [kA c hk e hj ej];refine ⟨?_,λ_ h=>h⟩;have hh:=aV (cj c hj)
 have hjn : h.docs[j].name = h.subs[k].doc:=by
  rcases bD h.docs h.subs[k].doc with ⟨i,hi,e',hn⟩ | e'
  ·have : i = j:=by omega
   subst this;exact hn
  ·omega
 have hring : aX (aY h.subs[k].r.cap (ac h.docs[j])):=⟨by simp [aY],hro.2.1,by simp only [aY];omega,by have:=hro.2.1;simp only [aY,List.length_nil];omega,by simp [aY]⟩;rw [iK hro,jc hring];refine uO c hk hring ?_;intro d hd hdn _ _;have:=B7 (ia.1 c).2.2.2.1.2 hd (List.getElem_mem hj) (by rw [hdn,hjn]);subst this;simp [aY]
theorem za {h : Hub} (hz : (bX h).2 = 0) : an (bX h).1/\fY h.docs (bX h).1.docs:=by
 unfold bX at hz ⊢
 split at hz
 ·rename_i c
  rw [if_pos c]
  split at hz
  ·simp at hz
  ·rename_i c1
   rw [if_neg c1];exact ⟨c,λ_ h=>h⟩
 ·simp at hz
theorem tl {h : Hub} (c : an h) (k : Call) : an (fDo h k).1/\fY h.docs (fDo h k).1.docs:=by
 have same : an h/\fY h.docs h.docs:=⟨c,λ_ h=>h⟩;unfold fDo
 split
 ·split
  ·split
   ·rename_i z;exact mE z
   ·exact same
  ·split
   ·split
    ·rename_i z;exact fU z
    ·exact same
   ·split
    ·exact same
    ·split
     ·split
      ·rename_i z;exact kR z
      ·exact same
     ·split
      ·split
       ·rename_i z;exact ra z
       ·exact same
      ·split
       ·split
        ·rename_i z;exact nV z
        ·exact same
       ·split
        ·rename_i z;exact za z
        ·exact same
 ·exact same
set_option maxHeartbeats 3200000
theorem dx (h : Hub) (hl : ch h<=2 ^ 40) (name : ByteArray) : aj Tryz.prog 80 [.agg h.row,.c (.v (.string name))] (.one (.c (vi (ar h.docs name)) 1)):=by
 refine pci ae Tryz.func80 (λw0 base=>?_);obtain ⟨sh,l,subs,last⟩:=h;unfold ch at hl;simp only at hl;have hle:=aA (f:=cu) (B:=2 ^ 40) (l:=l) (by omega);simp [Hub.row];intro b2 b3;refine inl ae Tryz.func175 20000 (λw1 F=>?_);simp
 refine au.intro eok (λi : Nat=>i<=l.length/\∀ j,j < i->∀ hj : j < l.length,¬ l[j].name = name) (λi=>⟨19,20000,[(8,.v (.int .i64 i)),(7,.v (.int .i64 l.length)),(0,.ro (l.map Doc.row)),(1,.clo 176 [.p 48 b3 0])],
  [(48,.vars b3 9 [.v (.string name)])]⟩) (λi=>l.length - i) 0 (by simp) (by simp) (λi hi=>?_)
 by_cases hlt : i < l.length
 ·simp [hlt]
  refine inl ae Tryz.func176 40000 (λw2 F2=>?_);simp [Doc.row];intro b;by_cases c : l[i].name = name
  ·have e : ar l name = i:=jT hlt c hi.2
   simp [c,e]
  ·simp [c]
   exact ⟨i + 1,⟨by omega,λj hj hjl=>by
    by_cases hji : j = i
    ·subst hji;exact c
    ·exact hi.2 j (by omega) hjl⟩,by omega,ah (by omega)⟩
 ·have e : ar l name = -1:=ie (λj hj=>hi.2 j (by omega) hj)
  simp [hlt,e]
theorem cz (h : Hub) (hl : ch h<=2 ^ 40) (name : ByteArray) : aj Tryz.prog 167 [.agg h.row,.c (.v (.string name))] (.one (.c (vi (ar h.docs name)) 1)):=by
 refine pci ae Tryz.func167 (λw0 base=>?_);obtain ⟨sh,l,subs,last⟩:=h;unfold ch at hl;simp only at hl;have hle:=aA (f:=cu) (B:=2 ^ 40) (l:=l) (by omega);simp [Hub.row];intro b2;refine au.intro eok (λi : Nat=>i<=l.length/\∀ j,j < i->∀ hj : j < l.length,¬ l[j].name = name) (λi=>⟨21,0,[(10,.v (.int .i64 i)),(9,.v (.int .i64 l.length)),(8,.ro (l.map Doc.row)),(1,.v (.string name))],[]⟩) (λi=>l.length - i) 0 (by simp) (by simp) (λi hi=>?_);by_cases hlt : i < l.length
 ·simp [hlt,Doc.row]
  intro b;by_cases c : l[i].name = name
  ·have e : ar l name = i:=jT hlt c hi.2
   simp [c,e]
  ·simp [c]
   exact ⟨i + 1,⟨by omega,λj hj hjl=>by
    by_cases hji : j = i
    ·subst hji;exact c
    ·exact hi.2 j (by omega) hjl⟩,by omega,ah (by omega)⟩
 ·have e : ar l name = -1:=ie (λj hj=>hi.2 j (by omega) hj)
  simp [hlt,e]
theorem fH (r : Ring) (hl : cP r<=2 ^ 40) : aj Tryz.prog 200 [.agg r.row] (.one (.c (vb (aX r)) 1)):=by
 refine pci ae Tryz.func200 (λw0 base=>?_);obtain ⟨cp,nx,out,l⟩:=r;unfold cP at hl;simp only at hl;have hle:=aA hl;simp [Ring.row];intro b1;refine aa.pure (aO cp 1 6) (by simp) ?_;by_cases c1 : 1<=cp/\cp<=6
 rotate_left
 ·have h : ¬ aX ⟨cp,nx,out,l⟩:=λh=>c1 h.2.1
  simp [ab c1,ab h]
 simp [c1];refine aa.pure (aO nx 1 1000000000) (by simp) ?_;by_cases c2 : 1<=nx/\nx<=1000000000
 rotate_left
 ·have h : ¬ aX ⟨cp,nx,out,l⟩:=λh=>c2 h.2.2.1
  simp [ab c2,ab h]
 simp [c2];by_cases c3 : (l.length : Int)<=cp
 rotate_left
 ·have h : ¬ aX ⟨cp,nx,out,l⟩:=λh=>c3 h.2.2.2.1
  have c3' : cp < (l.length : Int):=by omega
  simp [c3',ab h]
 have c3' : ¬ cp < (l.length : Int):=by omega
 simp [c3']
 have hcase : out = false\/(out = true/\l = [])\/(out = true/\0 < l.length):=by
  cases out with
  | false=>exact .inl rfl
  | true =>
    cases l with
    | nil=>exact .inr (.inl ⟨rfl,rfl⟩)
    | cons a l=>exact .inr (.inr ⟨rfl,by simp⟩)
 rcases hcase with rfl | ⟨rfl,rfl⟩ | ⟨rfl,c4⟩
 ·simp
  refine au.intro eok (λi : Nat=>i<=l.length/\∀ e∈l.take i,bn e) (λi=>⟨44,0,[(36,.v (.int .i64 i)),(35,.v (.int .i64 l.length)),(34,.ro (l.map Entry.row))],[]⟩) (λi=>l.length - i) 0 (by simp) (by simp) (λi hi=>?_);by_cases hlt : i < l.length
  ·have hm:=dB hl hlt
   simp [hlt,Entry.row];intro b4;refine aa.pure (kg l[i] (by omega)) (by simp [Entry.row]) ?_;by_cases c5 : bn l[i]
   ·simp [c5]
    exact ⟨i + 1,⟨by omega,ir hlt hi.2 c5⟩,by omega,ah (by omega)⟩
   ·have h : ¬ aX ⟨cp,nx,false,l⟩:=λh=>c5 (h.1 _ (List.getElem_mem hlt))
    simp [ab c5,ab h]
  ·have h : aX ⟨cp,nx,false,l⟩:=⟨jU (l:=l) (by omega) hi.2,c1,c2,c3,by simp⟩
   simp [hlt,h]
 ·have h : aX ⟨cp,nx,true,[]⟩:=⟨by simp,c1,c2,c3,by simp⟩
  simp;refine au.intro eok (λi : Nat=>i = 0) (λi=>⟨44,0,[(36,.v (.int .i64 0)),(35,.v (.int .i64 0)),(34,.ro ([] : List (List CD)))],[]⟩) (λi=>0) 0 (by simp) (by simp) (λi hi=>?_);simp [h]
 ·have h : ¬ aX ⟨cp,nx,true,l⟩:=λh=>h.2.2.2.2 ⟨rfl,c4⟩
  have c4' : 0 < (l.length : Int):=by omega
  simp [c4,ab h]
theorem gC (r : Ring) (hl : cP r<=2 ^ 40) : aj Tryz.prog 192 [.agg r.row] (.one (.c (vb (aX r)) 1)):=by
 refine pci ae Tryz.func192 (λw0 base=>?_);obtain ⟨cp,nx,out,l⟩:=r;unfold cP at hl;simp only at hl;have hle:=aA hl;simp [Ring.row];intro b1
 refine au.intro eok (λi : Nat=>i<=l.length/\∀ e∈l.take i,bn e) (λi=>⟨43,0,[(8,.v (.int .i64 i)),(7,.v (.int .i64 l.length)),(6,.ro (l.map Entry.row)),(1,.p 16 b1 0)],
  [(16,.vars b1 157 [.v (.int .i64 cp),.v (.int .i64 nx),.v (.bool out),.ro (l.map Entry.row)])]⟩) (λi=>l.length - i) 0 (by simp) (by simp) (λi hi=>?_)
 by_cases hlt : i < l.length
 ·have hm:=dB hl hlt
  simp [hlt,Entry.row];intro b4;refine aa.pure (j8 l[i] (by omega)) (by simp [Entry.row]) ?_;by_cases c5 : bn l[i]
  ·simp [c5]
   exact ⟨i + 1,⟨by omega,ir hlt hi.2 c5⟩,by omega,ah (by omega)⟩
  ·have h : ¬ aX ⟨cp,nx,out,l⟩:=λh=>c5 (h.1 _ (List.getElem_mem hlt))
   simp [ab c5,ab h]
 have c0 : ∀ e∈l,bn e:=jU (by omega) hi.2;simp [hlt];refine aa.pure (aZ cp 1 6) (by simp) ?_;by_cases c1 : 1<=cp/\cp<=6
 rotate_left
 ·have h : ¬ aX ⟨cp,nx,out,l⟩:=λh=>c1 h.2.1
  simp [ab c1,ab h]
 simp [c1];refine aa.pure (aZ nx 1 1000000000) (by simp) ?_;by_cases c2 : 1<=nx/\nx<=1000000000
 rotate_left
 ·have h : ¬ aX ⟨cp,nx,out,l⟩:=λh=>c2 h.2.2.1
  simp [ab c2,ab h]
 simp [c2];by_cases c3 : (l.length : Int)<=cp
 rotate_left
 ·have h : ¬ aX ⟨cp,nx,out,l⟩:=λh=>c3 h.2.2.2.1
  simp [c3,ab h]
 simp [c3]
 cases out with
 | false =>
   have h : aX ⟨cp,nx,false,l⟩:=⟨c0,c1,c2,c3,by simp⟩;simp [h]
 | true =>
   by_cases c4 : (l.length : Int) = 0
   ·have h : aX ⟨cp,nx,true,l⟩:=⟨c0,c1,c2,c3,λh=>by have:=h.2;simp only at this;omega⟩
    simp [c4,h]
   ·have h : ¬ aX ⟨cp,nx,true,l⟩:=λh=>h.2.2.2.2 ⟨rfl,by simp only;omega⟩
    have c4' : ¬ l = []:=λh=>c4 (by rw [h];rfl)
    simp [c4',ab h]
end Go.Proofs.YtoldjebobgocpaaGreat
