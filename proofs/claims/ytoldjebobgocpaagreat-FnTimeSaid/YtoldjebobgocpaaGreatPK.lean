import Derived.Test.YtoldjebobgocpaaGreatPI
import Derived.Test.YtoldjebobgocpaaGreatPJ
import Derived.Test.YtoldjebobgocpaaGreatPF
import Derived.Test.YtoldjebobgocpaaGreatNA
import Derived.Test.YtoldjebobgocpaaGreatPG
namespace Go.Proofs.YtoldjebobgocpaaGreat
open Go.AM
set_option maxRecDepth 20000
noncomputable def aI (name : ByteArray) : List Queue->Nat
 | []=>0
 | x :: l=>open Classical in if sLt x.doc name then aI name l + 1 else 0
theorem ka (name : ByteArray) : ∀ l : List Queue,aI name l<=l.length
 | []=>by simp [aI]
 | x :: l => by
   unfold aI
   split
   ·have:=ka name l;simp;omega
   ·omega
theorem il {name : ByteArray} : ∀ {l : List Queue} {k : Nat},k<=aI name l->∀ hk : k < l.length,sLt l[k].doc name ↔ k < aI name l
 | x :: l, 0, _, _ => by
   unfold aI
   split
   ·rename_i h;simpa using h
   ·rename_i h;simpa using h
 | x :: l, k + 1, h, hk => by
   unfold aI at h ⊢
   split at h
   ·rename_i hx
    rw [if_pos hx];have:=il (name:=name) (l:=l) (k:=k) (by omega) (by simpa using hk);simp only [List.getElem_cons_succ];rw [this];omega
   ·omega
theorem cr (l : List Queue) (name : ByteArray) : (∃ k : Nat,∃ h : k < l.length,bq l name = k/\l[k].doc = name)\/bq l name = -1:=by
 rcases eM (λq : Queue=>q.doc = name) l with ⟨k,h,e,hp,-⟩ | ⟨e,-⟩
 ·exact .inl ⟨k,h,e,hp⟩
 ·exact .inr e
noncomputable def gU (w : Wld) (k : Nat) (t : Task) : Wld:=⟨(fDo w.h t.c).1,w.locks,w.queues,w.tasks.set k ⟨t.c,3,t.inv,w.step,t.rs,(fDo w.h t.c).2⟩,w.step⟩
noncomputable def Gz (w : Wld) (k : Nat) (t : Task) : Wld:=⟨w.h,w.locks,
 (match w.queues[(bq w.queues t.c.doc).toNat]? with
  | some q=>if 0<=bq w.queues t.c.doc then w.queues.set (bq w.queues t.c.doc).toNat ⟨q.doc,q.list ++ [(k : Int)]⟩ else w.queues.take (aI t.c.doc w.queues) ++ ⟨t.c.doc,[(k : Int)]⟩ :: w.queues.drop (aI t.c.doc w.queues)
  | none=>w.queues.take (aI t.c.doc w.queues) ++ ⟨t.c.doc,[(k : Int)]⟩ :: w.queues.drop (aI t.c.doc w.queues)),
 w.tasks.set k ⟨t.c,2,t.inv,t.lin,t.rs,t.a⟩,w.step⟩
def Px (w : Wld) (name : ByteArray) : Prop:=∃ i : Nat,∃ h : i < w.queues.length,bq w.queues name = i/\w.queues[i].list.length = 2
open Classical in
noncomputable def ip (w : Wld) (k : Nat) (t : Task) : Wld:=
 if t.c.kind≠2\/w.h.shut = true\/ar w.h.docs t.c.doc < 0 then gU ⟨w.h,w.locks.set (aP t.c.doc w.locks.length) (-1),w.queues,w.tasks,w.step⟩ k t
 else if Px w t.c.doc then ⟨w.h,w.locks.set (aP t.c.doc w.locks.length) (-1),w.queues,w.tasks.set k ⟨t.c,3,t.inv,t.lin,t.rs,⟨11,0,[],[]⟩⟩,w.step⟩
 else Gz ⟨w.h,w.locks.set (aP t.c.doc w.locks.length) (-1),w.queues,w.tasks,w.step⟩ k t
def bj (w : Wld) (n : Int) : Wld:=⟨w.h,w.locks,w.queues,w.tasks,n⟩
open Classical in
noncomputable def gL (w : Wld) (k : Nat) (t : Task) : Wld × Bool:=
 if t.pc = 0 then
  (if aK t.c.kind then
   (if w.locks[aP t.c.doc w.locks.length]? = some (-1) then (⟨w.h,w.locks.set (aP t.c.doc w.locks.length) (k : Int),w.queues,w.tasks.set k ⟨t.c,1,t.inv,t.lin,t.rs,t.a⟩,w.step + 1⟩,true) else (Wld.zero,false))
   else (bj (gU w k t) (w.step + 1),true))
 else if t.pc = 1 then (bj (ip w k t) (w.step + 1),true)
 else if t.pc = 3 then (⟨w.h,w.locks,w.queues,w.tasks.set k ⟨t.c,4,t.inv,t.lin,w.step,t.a⟩,w.step + 1⟩,true)
 else (Wld.zero,false)
open Classical in
noncomputable def cA (w : Wld) (k : Int) : Wld × Bool:=
 if ao w/\¬ w.step = 1000000/\0<=k then (match w.tasks[k.toNat]? with | some t=>gL w k.toNat t | none=>(Wld.zero,false)) else (Wld.zero,false)
theorem iD {w : Wld} {k : Int} (h : ¬ (ao w/\¬ w.step = 1000000/\(0<=k/\k<=(w.tasks.length : Int) - 1))) : cA w k = (Wld.zero,false):=by
 unfold cA
 split
 ·rename_i h1
  have hb : ¬ (0<=k/\k<=(w.tasks.length : Int) - 1):=λhb=>h ⟨h1.1,h1.2.1,hb⟩
  have h2:=h1.2.2;have : w.tasks[k.toNat]? = none:=by rw [List.getElem?_eq_none_iff];omega
  rw [this]
 ·rfl
theorem jz {w : Wld} {k : Nat} (h : ao w) (hs : ¬ w.step = 1000000) (hk : k < w.tasks.length) : cA w k = gL w k w.tasks[k]:=by
 unfold cA;rw [if_pos ⟨h,hs,by omega⟩];simp [hk]
theorem fu {w : Wld} {k : Nat} {t : Task} (h0 : t.pc = 0) (h1 : aK t.c.kind) (h2 : w.locks[aP t.c.doc w.locks.length]? = some (-1)) :
 gL w k t = (⟨w.h,w.locks.set (aP t.c.doc w.locks.length) (k : Int),w.queues,w.tasks.set k ⟨t.c,1,t.inv,t.lin,t.rs,t.a⟩,w.step + 1⟩,true):=by unfold gL;rw [if_pos h0,if_pos h1,if_pos h2]
theorem gp {w : Wld} {k : Nat} {t : Task} (h0 : t.pc = 0) (h1 : aK t.c.kind) (h2 : ¬ w.locks[aP t.c.doc w.locks.length]? = some (-1)) : gL w k t = (Wld.zero,false):=by unfold gL;rw [if_pos h0,if_pos h1,if_neg h2]
theorem fv {w : Wld} {k : Nat} {t : Task} (h0 : t.pc = 0) (h1 : ¬ aK t.c.kind) : gL w k t = (bj (gU w k t) (w.step + 1),true):=by unfold gL;rw [if_pos h0,if_neg h1]
theorem eh {w : Wld} {k : Nat} {t : Task} (h0 : t.pc = 1) : gL w k t = (bj (ip w k t) (w.step + 1),true):=by unfold gL;rw [if_neg (by omega),if_pos h0]
theorem ft {w : Wld} {k : Nat} {t : Task} (h0 : t.pc = 3) : gL w k t = (⟨w.h,w.locks,w.queues,w.tasks.set k ⟨t.c,4,t.inv,t.lin,w.step,t.a⟩,w.step + 1⟩,true):=by unfold gL;rw [if_neg (by omega),if_neg (by omega),if_pos h0]
theorem gq {w : Wld} {k : Nat} {t : Task} (h0 : ¬ t.pc = 0) (h1 : ¬ t.pc = 1) (h3 : ¬ t.pc = 3) : gL w k t = (Wld.zero,false):=by unfold gL;rw [if_neg h0,if_neg h1,if_neg h3]
theorem gN {w : Wld} {k : Nat} {t : Task} (q : ¬ t.c.kind = 2\/w.h.shut = true\/ar w.h.docs t.c.doc < 0) : ip w k t = gU ⟨w.h,w.locks.set (aP t.c.doc w.locks.length) (-1),w.queues,w.tasks,w.step⟩ k t:=by unfold ip;rw [if_pos q]
theorem gO {w : Wld} {k : Nat} {t : Task} (q : ¬ (¬ t.c.kind = 2\/w.h.shut = true\/ar w.h.docs t.c.doc < 0)) {i : Nat} (hi : i < w.queues.length) (e : bq w.queues t.c.doc = i) (f : w.queues[i].list.length = 2) :
 ip w k t = ⟨w.h,w.locks.set (aP t.c.doc w.locks.length) (-1),w.queues,w.tasks.set k ⟨t.c,3,t.inv,t.lin,t.rs,⟨11,0,[],[]⟩⟩,w.step⟩:=by unfold ip;rw [if_neg q,if_pos ⟨i,hi,e,f⟩]
theorem gM {w : Wld} {k : Nat} {t : Task} (q : ¬ (¬ t.c.kind = 2\/w.h.shut = true\/ar w.h.docs t.c.doc < 0)) {i : Nat} (hi : i < w.queues.length) (e : bq w.queues t.c.doc = i) (f : ¬ w.queues[i].list.length = 2) :
 ip w k t = ⟨w.h,w.locks.set (aP t.c.doc w.locks.length) (-1),w.queues.set i ⟨w.queues[i].doc,w.queues[i].list ++ [(k : Int)]⟩,w.tasks.set k ⟨t.c,2,t.inv,t.lin,t.rs,t.a⟩,w.step⟩:=by
 unfold ip;rw [if_neg q,if_neg]
 ·unfold Gz
  simp [e,hi]
 ·rintro ⟨j,hj,e',f'⟩
  have : j = i:=by omega
  subst this;exact f f'
theorem iE {w : Wld} {k : Nat} {t : Task} (q : ¬ (¬ t.c.kind = 2\/w.h.shut = true\/ar w.h.docs t.c.doc < 0)) (e : bq w.queues t.c.doc = -1) :
 ip w k t = ⟨w.h,w.locks.set (aP t.c.doc w.locks.length) (-1),w.queues.take (aI t.c.doc w.queues) ++ ⟨t.c.doc,[(k : Int)]⟩ :: w.queues.drop (aI t.c.doc w.queues),w.tasks.set k ⟨t.c,2,t.inv,t.lin,t.rs,t.a⟩,w.step⟩:=by
 unfold ip;rw [if_neg q,if_neg]
 ·unfold Gz
  simp only [e]
  split
  ·rw [if_neg (by omega)]
  ·rfl
 ·rintro ⟨j,hj,e',f'⟩
  omega
def eB (w : Wld) (t : Task) : Prop:=(t.pc = 0/\aK t.c.kind->w.locks[aP t.c.doc w.locks.length]? = some (-1))/\¬ t.pc = 2/\¬ t.pc = 4
theorem ic {w : Wld} {k : Nat} (h : ao w) (hs : ¬ w.step = 1000000) (hk : k < w.tasks.length) : (cA w k).2 = true ↔ eB w w.tasks[k]:=by
 rw [jz h hs hk];have hp:=(h.1 _ (List.getElem_mem hk)).2.2.1;generalize w.tasks[k] = t at hp;unfold eB;by_cases c0 : t.pc = 0
 ·by_cases c1 : aK t.c.kind
  ·by_cases c2 : w.locks[aP t.c.doc w.locks.length]? = some (-1)
   ·rw [fu c0 c1 c2];simp [c0,c2]
   ·rw [gp c0 c1 c2];simp [c0,c1,c2]
  ·rw [fv c0 c1];simp [c0,c1]
 ·by_cases c1 : t.pc = 1
  ·rw [eh c1];simp [c1]
  ·by_cases c3 : t.pc = 3
   ·rw [ft c3];simp [c3]
   ·rw [gq c0 c1 c3]
    have : t.pc = 2\/t.pc = 4:=by omega
    rcases this with e | e<;>simp [e]
open Classical in
noncomputable def dI (w : Wld) (i : Nat) : List Int:=((List.range i).filter λk : Nat=>decide (∃ h : k < w.tasks.length,eB w w.tasks[k])).map (λk : Nat=>(k : Int))
open Classical in
noncomputable def cB (w : Wld) : List Int:=if ao w/\¬ w.step = 1000000 then dI w w.tasks.length else []
theorem ni {w : Wld} (h : ao w/\¬ w.step = 1000000) : cB w = dI w w.tasks.length:=by unfold cB;rw [if_pos h]
theorem pm {w : Wld} (h : ¬ (ao w/\¬ w.step = 1000000)) : cB w = []:=by unfold cB;rw [if_neg h]
theorem xr (w : Wld) : dI w 0 = []:=by simp [dI]
theorem zo {w : Wld} {i : Nat} (h : i < w.tasks.length) (ha : eB w w.tasks[i]) : dI w (i + 1) = dI w i ++ [(i : Int)]:=by
 classical
 unfold dI;rw [List.range_succ,List.filter_append,List.map_append];have : decide (∃ h : i < w.tasks.length,eB w w.tasks[i]) = true:=decide_eq_true ⟨h,ha⟩;simp [this]
theorem A5 {w : Wld} {i : Nat} (h : i < w.tasks.length) (ha : ¬ eB w w.tasks[i]) : dI w (i + 1) = dI w i:=by
 classical
 unfold dI;rw [List.range_succ,List.filter_append,List.map_append];have : decide (∃ h : i < w.tasks.length,eB w w.tasks[i]) = false:=decide_eq_false λhb=>ha hb.2
 simp [this]
theorem zp (w : Wld) (i : Nat) : (dI w i).length<=i:=by
 unfold dI;rw [List.length_map];exact Nat.le_trans (List.length_filter_le _ _) (by simp)
open Classical in
noncomputable def iy (w : Wld) (i : Nat) : List Int:=if ao w/\¬ w.step = 1000000 then dI w i else []
theorem z9 (w : Wld) : iy w 0 = []:=by unfold iy;split<;>simp [xr]
theorem CA (w : Wld) : iy w w.tasks.length = cB w:=(rfl)
theorem Cy {w : Wld} {i : Nat} (h : i < w.tasks.length) (ha : (cA w i).2 = true) : iy w (i + 1) = iy w i ++ [(i : Int)]:=by
 by_cases c : ao w/\¬ w.step = 1000000
 ·unfold iy
  rw [if_pos c,if_pos c];exact zo h ((ic c.1 c.2 h).1 ha)
 ·rw [iD (λh=>c ⟨h.1,h.2.1⟩)] at ha
  cases ha
theorem Fw {w : Wld} {i : Nat} (h : i < w.tasks.length) (ha : (cA w i).2 = false) : iy w (i + 1) = iy w i:=by
 unfold iy
 split
 ·rename_i c
  exact A5 h (λhb=>by rw [(ic c.1 c.2 h).2 hb] at ha;cases ha)
 ·rfl
theorem Cz (w : Wld) (i : Nat) : (iy w i).length<=i:=by
 unfold iy
 split
 ·exact zp w i
 ·simp
set_option maxHeartbeats 3200000
set_option maxHeartbeats 6400000
theorem sZ {d : Doc} (h : aL d) : (cR d).length<=200:=by
 have h9:=(l9 h (rev:=ac d) (by have:=aV h;omega) (Int.le_refl _)).2.2.1.1;unfold cR;exact h9
theorem m5 {α : Type} {f : α->Nat} (a : α) (l : List α) : nL f (a :: l) = nL f l + f a + 1:=by
 simp only [nL,bR,List.length_cons];omega
theorem mo {α : Type} {f : α->Nat} : nL f ([] : List α) = 0:=(rfl)
theorem Fj {r : Ring} (h : aX r) : cP r<=2 ^ 21:=by
 obtain ⟨h1,h2,h3,h4,-⟩:=h;have hb : nL aQ r.list<=r.list.length * (2 ^ 18 + 1):=nN (λe he=>wb (h1 e he).2.2.1);have hc:=Nat.mul_le_mul_right (2 ^ 18 + 1) (show r.list.length<=6 by omega);unfold cP;omega
theorem Bp {h : Hub} (c : an h) {s : Sub} (hs : s∈h.subs) : ee s<=2 ^ 22:=by
 obtain ⟨i,hi,rfl⟩:=List.getElem_of_mem hs;obtain ⟨-,h2,-,k,hk,e,-⟩:=c.2.2.2.2 i hi;have h3:=Fj h2
 have h4 : h.subs[i].doc.size<=8:=by
  rcases bD h.docs h.subs[i].doc with ⟨j,hj,e',hn⟩ | e'
  ·rw [<- hn];exact (cj c hj).1.1.2
  ·omega
 unfold ee;omega
theorem eL {h : Hub} (c : an h) : ch h<=2 ^ 27/\nL cu h.docs<=2 ^ 26/\nL ee h.subs<=2 ^ 25:=by
 have h1 : nL cu h.docs<=h.docs.length * (2 ^ 23 + 1):=nN (λd hd=>by
  obtain ⟨i,hi,rfl⟩:=List.getElem_of_mem hd;exact iq (cj c hi))
 have h2 : nL ee h.subs<=h.subs.length * (2 ^ 22 + 1):=nN (λs hs=>Bp c hs);have h3:=Nat.mul_le_mul_right (2 ^ 23 + 1) c.1;have h4:=Nat.mul_le_mul_right (2 ^ 22 + 1) c.2.1;unfold ch;omega
theorem bY : ch Hub.zero = 0:=(rfl)
theorem AT (h : Hub) (name : ByteArray) (t : List Int) : ch (ba h name t).1<=2 ^ 28:=by
 unfold ba
 split
 ·rename_i c
  have h1:=eL c.1;have h2:=iq c.2
  repeat' split
  ·rw [bY];omega
  ·rw [bY];omega
  ·rw [bY];omega
  ·have h3 : nL cu (fO (dy name t) h.docs) = nL cu h.docs + cu (dy name t) + 1:=by
    rw [nj,eV,m5];have h4:=eV (f:=cu) (h.docs.take (du (dy name t).name h.docs)) (h.docs.drop (du (dy name t).name h.docs));rw [List.take_append_drop] at h4;omega
   unfold ch;simp only;omega
 ·rw [bY];omega
theorem Cg (name : ByteArray) (e : Entry) (s : Sub) : ee (cV name e s)<=ee s + aQ e + 1:=by
 unfold cV
 split
 ·have:=y7 s.r e
  unfold ee;simp only;omega
 ·omega
theorem yU {h : Hub} (c : an h) (name : ByteArray) (k : Nat) (d0 : Doc) {d : Doc} (hd : cu d<=2 ^ 24) : ch (cm h name k d0 d)<=2 ^ 28:=by
 have h1:=eL c;have h2:=sK (f:=cu) h.docs k d;unfold cm
 have h3 : ∀ e,d.list.getLast? = some e->nL ee (h.subs.map (cV name e))<=6 * (20971521 + 1):=by
  intro e he;have h5 : aQ e<=2 ^ 24:=Nat.le_trans (dr (ce hd).1 (List.mem_of_getLast? he)) (Nat.le_refl _)
  have h4 : nL ee (h.subs.map (cV name e))<=(h.subs.map (cV name e)).length * (20971521 + 1):=nN (λs hs=>by
   rw [List.mem_map] at hs;obtain ⟨s0,hs0,rfl⟩:=hs;have h6:=Cg name e s0;have h7:=Bp c hs0;omega)
  rw [List.length_map] at h4;exact Nat.le_trans h4 (Nat.mul_le_mul_right _ c.2.1)
 unfold ch;simp only
 split
 ·split
  ·rename_i e he
   have:=h3 e he;omega
  ·omega
 ·omega
theorem wX (h : Hub) (name : ByteArray) (client seq base : Int) (o : List Part) : ch (aG h name client seq base o).1<=2 ^ 28:=by
 unfold aG
 split
 ·rename_i c
  split
  ·rw [bY];omega
  ·split
   ·rename_i d0 hd0
    have hd : aL d0:=by
     obtain ⟨hi,rfl⟩:=List.getElem?_eq_some_iff.1 hd0;exact cj c hi
    repeat' split
    ·exact yU c _ _ _ (qi hd)
    ·rw [bY];omega
    ·rw [bY];omega
   ·rw [bY];omega
 ·rw [bY];omega
theorem rz (h : Hub) (name : ByteArray) (room : Int) : ch (aw h name room).1<=2 ^ 28:=by
 unfold aw
 split
 ·rename_i c
  have h1:=eL c.1
  repeat' split
  all_goals first | (rw [bY];omega) | skip
  rename_i hi _
  have h3 : name.size<=8:=by
   rcases bD h.docs name with ⟨j,hj,e',hn⟩ | e'
   ·rw [<- hn];exact (cj c.1 hj).1.1.2
   ·omega
  unfold ch;simp only [eV,m5,mo,ee,tc];omega
 ·rw [bY];omega
theorem AS (h : Hub) (id n : Int) : ch (bC h id n).1<=2 ^ 28/\nL aQ (bC h id n).2.1<=2 ^ 24:=by
 unfold bC
 split
 ·rename_i c
  have h1:=eL c.1
  split
  ·rename_i s hs
   have hm:=List.mem_of_getElem? hs;have h2:=Bp c.1 hm;have h3:=y8 s.r n
   repeat' split
   ·have h4:=sK (f:=ee) h.subs (et h.subs id).toNat ⟨s.id,s.doc,(be s.r n).1⟩
    have h5 : ee ⟨s.id,s.doc,(be s.r n).1⟩ = s.doc.size + cP (be s.r n).1:=rfl;have h6 : ee s = s.doc.size + cP s.r:=rfl;unfold ch;simp only;omega
   ·simp only [bY,mo];omega
   ·simp only [bY,mo];omega
  ·simp only [bY,mo];omega
 ·simp only [bY,mo];omega
theorem wY (h : Hub) (id : Int) : ch (aM h id).1<=2 ^ 28/\(aM h id).2.1.length<=200:=by
 unfold aM
 split
 ·rename_i c
  have h1:=eL c
  split
  ·rename_i s hs
   have hm:=List.mem_of_getElem? hs;have h2:=Bp c hm
   split
   ·split
    ·rename_i d hd
     obtain ⟨hi,rfl⟩:=List.getElem?_eq_some_iff.1 hd;have h3:=sZ (cj c hi);have h4:=sK (f:=ee) h.subs (et h.subs id).toNat ⟨s.id,s.doc,(bu s.r (ac h.docs[(ar h.docs s.doc).toNat])).1⟩
     have h5 : cP (bu s.r (ac h.docs[(ar h.docs s.doc).toNat])).1 = 0:=by
      unfold bu
      split
      ·exact tc _ _
      ·rfl
     refine ⟨?_,h3⟩;unfold ch;simp only;have h7 : ee ⟨s.id,s.doc,(bu s.r (ac h.docs[(ar h.docs s.doc).toNat])).1⟩ = s.doc.size + cP (bu s.r (ac h.docs[(ar h.docs s.doc).toNat])).1:=rfl;have h6 : ee s = s.doc.size + cP s.r:=rfl;omega
    ·simp only [bY,List.length_nil];omega
   ·simp only [bY,List.length_nil];omega
  ·simp only [bY,List.length_nil];omega
 ·simp only [bY,List.length_nil];omega
theorem AR (h : Hub) : ch (bX h).1<=2 ^ 28:=by
 unfold bX
 repeat' split
 all_goals first | (rw [bY];omega) | skip
 rename_i c _
 have:=(eL c).1;unfold ch at this ⊢;simp only;omega
theorem xj (x : Int) : cX (bK x) = 0:=(rfl)
theorem IV {h : Hub} (c : an h) (x : Call) : cX (jS h x)<=2 ^ 24:=by
 unfold jS
 repeat' split
 all_goals first | (rw [xj];omega) | skip
 ·rename_i d hd _ _
  obtain ⟨hi,rfl⟩:=List.getElem?_eq_some_iff.1 hd;have h3:=sZ (cj c hi);unfold cX;simp only [mo];omega
 ·rename_i d hd _ _
  obtain ⟨hi,rfl⟩:=List.getElem?_eq_some_iff.1 hd;have h3:=(ce (iq (cj c hi))).1;generalize h.docs[(ar h.docs x.doc).toNat] = d at h3;unfold cX;simp only [List.length_nil,Nat.zero_add];unfold ge
  repeat' split
  all_goals first | (simp only [mo];omega) | skip
  have h4:=eV (f:=aQ) (d.list.take (x.n - d.fr).toNat) (d.list.drop (x.n - d.fr).toNat);rw [List.take_append_drop] at h4;simp only;omega
theorem PB (h : Hub) (c : Call) : (ch (fDo h c).1<=ch h\/ch (fDo h c).1<=2 ^ 28)/\cX (fDo h c).2<=2 ^ 24:=by
 have hz : ∀ x y : Int,cX ⟨x,y,[],[]⟩ = 0:=λ_ _=>rfl
 unfold fDo
 split
 ·rename_i ok
  have h1:=AT h c.doc c.text;have h2:=wX h c.doc c.client c.seq c.n c.o;have h3:=rz h c.doc c.n;have h4:=AS h c.client c.n;have h5:=wY h c.client;have h6:=AR h;have h7:=IV ok.1 c
  repeat' split
  all_goals simp only [xj,hz]
  all_goals first | omega | skip
  ·refine ⟨.inr h4.1,?_⟩
   unfold cX;simp only [List.length_nil];omega
  ·refine ⟨.inr h5.1,?_⟩
   unfold cX;simp only [mo];omega
 ·simp only [xj];omega
set_option maxHeartbeats 3200000
open Classical in
noncomputable def bQ (w : Wld) : List ByteArray:=if ao w/\¬ w.step = 1000000 then w.queues.map Queue.doc else []
theorem iC {w : Wld} (h : ao w/\¬ w.step = 1000000) : bQ w = w.queues.map Queue.doc:=by unfold bQ;rw [if_pos h]
theorem lF {w : Wld} (h : ¬ (ao w/\¬ w.step = 1000000)) : bQ w = []:=by unfold bQ;rw [if_neg h]
theorem wx (w : Wld) (hl : ed w<=2 ^ 30) : aj Tryz.prog 42 [.agg w.row] (.one (.c (.s ((bQ w).map Ci)) 1)):=by
 refine pci ae Tryz.func42 (λw0 base=>?_);have hno:=@lF w;have hyes:=@iC w;have hlq:=aA (bg hl).2.2.1;simp [Wld.row];intro b1;refine aa.pure (io w hl) (by simp [Wld.row]) ?_;by_cases c1 : ao w
 rotate_left
 ·simp [ab c1,hno (λh=>c1 h.1)]
 simp [c1];by_cases c2 : w.step = 1000000
 ·simp [c2,hno (λh=>h.2 c2)]
 rw [hyes ⟨c1,c2⟩];simp [c2];refine ag eok (λx : Nat × Hd=>x.1<=w.queues.length) (λx=>⟨28,0,[(17,.v (.int .i64 x.1)),(16,.v (.int .i64 w.queues.length)),(15,.ro (w.queues.map Queue.row)),(3,.sl 5000 x.2 1 0 x.1)],[(5000,.rows x.2 1 ((w.queues.take x.1).map λq=>Ci q.doc) true)]⟩) (λx=>w.queues.length - x.1) (0,none) (by simp) (by simp) (λx hx=>Ent.refl ?_);obtain ⟨i,H⟩:=x;simp only at hx ⊢;by_cases hlt : i < w.queues.length
 ·have e1 : min i w.queues.length = i:=by omega
  simp [hlt,Queue.row];intro b5;simp [e1];intro b6;refine ⟨by omega,λH2=>Ent.refl ⟨i + 1,by omega,by omega,H2,?_⟩⟩;simp;exact ⟨ah (by omega),cT (f:=λq : Queue=>Ci q.doc) hlt⟩
 ·have e : i = w.queues.length:=by omega
  subst e;simp [Function.comp_def]
theorem oN {tasks : List Task} {doc : ByteArray} : ∀ (l all m : List Int),bc tasks doc all l = some m->∀ k∈l,eo tasks doc k
 | [],_,_,_,k,hk=>by cases hk
 | a :: l, all, m, h, k, hk => by
   unfold bc at h
   split at h
   ·rename_i c
    rcases List.mem_cons.1 hk with rfl | hk
    ·exact c.1
    ·exact oN l _ m h k hk
   ·cases h
theorem mh {w : Wld} (c : cD w) {i : Nat} (hi : i < w.queues.length) : eI w.h w.queues i/\∀ k∈w.queues[i].list,eo w.tasks w.queues[i].doc k:=by
 have h1 : bO w (i + 1)≠none:=λh=>dV hi h c
 by_cases hq : eI w.h w.queues i
 rotate_left
 ·exact absurd (eU hi hq) h1
 refine ⟨hq,?_⟩
 cases e : bO w i with
 | none=>exact absurd (gG e 1) h1
 | some all =>
   rw [eT hi e hq] at h1
   cases e2 : bc w.tasks w.queues[i].doc all w.queues[i].list with
   | none=>exact absurd e2 h1
   | some m=>exact oN _ _ m e2
open Classical in
noncomputable def iU (l : List Queue) (i : Nat) (q : Queue) (rest : List Int) : List Queue:=if rest = [] then l.eraseIdx i else l.set i ⟨q.doc,rest⟩
open Classical in
noncomputable def cf (w : Wld) (name : ByteArray) : Wld × Bool:=
 if ao w/\¬ w.step = 1000000/\0<=bq w.queues name then
  (match w.queues[(bq w.queues name).toNat]? with
   | some q => (match w.tasks[(q.list.headD 0).toNat]? with
     | some t=>(bj (gU ⟨w.h,w.locks,iU w.queues (bq w.queues name).toNat q q.list.tail,w.tasks,w.step⟩ (q.list.headD 0).toNat t) (w.step + 1),true)
     | none=>(Wld.zero,false))
   | none=>(Wld.zero,false))
 else (Wld.zero,false)
theorem kQ {w : Wld} {name : ByteArray} (h : ¬ (ao w/\¬ w.step = 1000000/\0<=bq w.queues name)) : cf w name = (Wld.zero,false):=by unfold cf;rw [if_neg h]
theorem eH {w : Wld} (c : ao w) {i : Nat} (hi : i < w.queues.length) : ∃ k : Nat,∃ _ : k < w.tasks.length,∃ rest,w.queues[i].list = (k : Int) :: rest/\rest.length<=1:=by
 obtain ⟨hq,hw⟩:=mh c.2.2.2.2.2.2.2 hi;obtain ⟨-,⟨h1,h2⟩,-⟩:=hq hi
 cases e : w.queues[i].list with
 | nil=>rw [e] at h1;simp at h1
 | cons a rest =>
   rw [e] at hw h2;obtain ⟨k,hk,rfl,-⟩:=hw a (List.mem_cons_self ..);exact ⟨k,hk,rest,rfl,by simpa using h2⟩
theorem go {w : Wld} {name : ByteArray} (c : ao w) (s : ¬ w.step = 1000000) {i : Nat} (hi : i < w.queues.length) (e : bq w.queues name = i) {k : Nat} (hk : k < w.tasks.length) {rest : List Int} (hl : w.queues[i].list = (k : Int) :: rest) :
 cf w name = (bj (gU ⟨w.h,w.locks,iU w.queues i w.queues[i] rest,w.tasks,w.step⟩ k w.tasks[k]) (w.step + 1),true):=by
 unfold cf;rw [if_pos ⟨c,s,by omega⟩];simp [e,hi,hl,hk]
theorem yw {α : Type} {f : α->Nat} : ∀ (l : List α) (i : Nat),nL f (l.eraseIdx i)<=nL f l
 | [],_=>by simp
 | a :: l,0=>by rw [List.eraseIdx_cons_zero,m5];omega
 | a :: l, i + 1 => by
   have:=yw (f:=f) l i;rw [List.eraseIdx_cons_succ,m5,m5];omega
theorem uT (l : List Queue) (i : Nat) (q : Queue) (rest : List Int) : nL dq (iU l i q rest)<=nL dq l + q.doc.size + rest.length:=by
 unfold iU
 split
 ·have:=yw (f:=dq) l i;omega
 ·have h1:=sK (f:=dq) l i ⟨q.doc,rest⟩
  have h2 : dq ⟨q.doc,rest⟩ = q.doc.size + rest.length:=rfl;omega
theorem sr {w : Wld} (c : ao w) {i : Nat} (hi : i < w.queues.length) : w.queues[i].doc.size<=8:=by
 obtain ⟨hq,-⟩:=mh c.2.2.2.2.2.2.2 hi;obtain ⟨-,-,h3⟩:=hq hi;rcases bD w.h.docs w.queues[i].doc with ⟨j,hj,e',hn⟩ | e'
 ·rw [<- hn];exact (cj c.2.1 hj).1.1.2
 ·omega
theorem Dm {w : Wld} {name : ByteArray} (c : ao w) (s : ¬ w.step = 1000000) {i : Nat} (hi : i < w.queues.length) (e : bq w.queues name = i) : (cf w name).2 = true/\(cf w name).1.step = w.step + 1:=by
 obtain ⟨k,hk,rest,hl,hr⟩:=eH c hi;rw [go c s hi e hk hl];exact ⟨rfl,rfl⟩
noncomputable def fg (w : Wld) : Nat:=(cB w).length + (bQ w).length
def lj (picks : List Int) (n m : Nat) : Nat:=match picks[n]? with
 | some p=>(p % (m : Int)).toNat
 | none=>0
theorem u3 (picks : List Int) (n : Nat) {m : Nat} (h : 0 < m) : lj picks n m < m:=by
 unfold lj
 split
 ·rename_i p _
  have h1:=Int.emod_nonneg p (show (m : Int)≠0 by omega);have h2:=Int.emod_lt_of_pos p (show (0 : Int) < m by omega);omega
 ·exact h
noncomputable def cG (w : Wld) (p : Nat) : Wld:=match (cB w)[p]? with
 | some k=>(cA w k).1
 | none => match (bQ w)[p - (cB w).length]? with
   | some s=>(cf w s).1
   | none=>w
noncomputable def lB (picks : List Int) : Nat->Nat->Wld->Wld × Int
 | 0,n,w=>(w,n)
 | f + 1,n,w=>if fg w = 0 then (w,n) else lB picks f (n + 1) (cG w (lj picks n (fg w)))
noncomputable def pl (w : Wld) (picks : List Int) : Wld × Int:=lB picks 1000001 0 w
theorem s6 {picks : List Int} {f n : Nat} {w : Wld} (h : fg w = 0) : lB picks f n w = (w,(n : Int)):=by
 cases f with
 | zero=>rfl
 | succ f=>rw [lB,if_pos h]
theorem vx {picks : List Int} {f n : Nat} {w : Wld} (h : ¬ fg w = 0) : lB picks (f + 1) n w = lB picks f (n + 1) (cG w (lj picks n (fg w))):=by rw [lB,if_neg h]
theorem oU {w : Wld} (h : ¬ fg w = 0) : ao w/\¬ w.step = 1000000:=by
 refine Classical.byContradiction λc=>h ?_
 unfold fg;rw [pm c,lF c];rfl
theorem pw {w : Wld} {p : Nat} (h : p < (cB w).length) : ∃ k : Nat,∃ _ : k < w.tasks.length,(cB w)[p] = (k : Int)/\(cA w k).2 = true:=by
 have hc : ao w/\¬ w.step = 1000000:=Classical.byContradiction λc=>by rw [pm c] at h;simp at h
 have hm:=List.getElem_mem h;generalize (cB w)[p] = x at hm ⊢;rw [ni hc] at hm;unfold dI at hm;rw [List.mem_map] at hm;obtain ⟨k,hk,e⟩:=hm;rw [List.mem_filter] at hk;obtain ⟨h1,h2⟩ : ∃ h : k < w.tasks.length,eB w w.tasks[k]:=by simpa using hk.2
 exact ⟨k,h1,e.symm,(ic hc.1 hc.2 h1).2 h2⟩
theorem pQ {w : Wld} {p : Nat} (h : p < (bQ w).length) : ∃ i : Nat,∃ _ : i < w.queues.length,bq w.queues (bQ w)[p] = i:=by
 have hc : ao w/\¬ w.step = 1000000:=Classical.byContradiction λc=>by rw [lF c] at h;simp at h
 have hm:=List.getElem_mem h;generalize (bQ w)[p] = s at hm;rw [iC hc,List.mem_map] at hm;obtain ⟨q,hq,rfl⟩:=hm;rcases cr w.queues q.doc with ⟨k,hk,e,-⟩ | e
 ·exact ⟨k,hk,e⟩
 ·exfalso
  obtain ⟨j,hj,rfl⟩:=List.getElem_of_mem hq;rcases eM (λq' : Queue=>q'.doc = w.queues[j].doc) w.queues with ⟨k,hk,e',-⟩ | ⟨-,hn⟩
  ·unfold bq at e;omega
  ·exact hn j hj rfl
theorem td {w : Wld} {k : Int} (h : (cA w k).2 = true) : (cA w k).1.step = w.step + 1:=by
 by_cases c : ao w/\¬ w.step = 1000000/\(0<=k/\k<=(w.tasks.length : Int) - 1)
 rotate_left
 ·rw [iD c] at h;cases h
 obtain ⟨c,hs,h1,h2⟩:=c;obtain ⟨k,rfl⟩ : ∃ n : Nat,k = n:=⟨k.toNat,by omega⟩;have hk : k < w.tasks.length:=by omega
 rw [jz c hs hk] at h ⊢;by_cases p0 : w.tasks[k].pc = 0
 ·by_cases d : aK w.tasks[k].c.kind
  ·by_cases f : w.locks[aP w.tasks[k].c.doc w.locks.length]? = some (-1)
   ·rw [fu p0 d f]
   ·rw [gp p0 d f] at h;cases h
  ·rw [fv p0 d];rfl
 ·by_cases p1 : w.tasks[k].pc = 1
  ·rw [eh p1];rfl
  ·by_cases p3 : w.tasks[k].pc = 3
   ·rw [ft p3]
   ·rw [gq p0 p1 p3] at h;cases h
theorem wS {w : Wld} (h : ¬ fg w = 0) {p : Nat} (hp : p < fg w) : (cG w p).step = w.step + 1:=by
 obtain ⟨c,s⟩:=oU h;unfold cG;by_cases ha : p < (cB w).length
 ·obtain ⟨k,hk,e,hy⟩:=pw ha
  rw [List.getElem?_eq_getElem ha];simp only [e];exact td hy
 ·have hs : p - (cB w).length < (bQ w).length:=by unfold fg at hp;omega
  obtain ⟨i,hi,e⟩:=pQ hs;rw [List.getElem?_eq_none (by omega),List.getElem?_eq_getElem hs];exact (Dm c s hi e).2
def kP (w : Wld) (i : Nat) : Prop:=ch w.h<=2 ^ 28/\w.locks.length<=2 ^ 20/\nL dq w.queues<=2 ^ 20 + 32 * i/\(∀ t∈w.tasks,eF t<=2 ^ 25)/\nL eF w.tasks<=2 ^ 29
theorem s5 {w : Wld} {i : Nat} (h : kP w i) (hi : i<=2 ^ 20) : ed w<=2 ^ 30:=by
 obtain ⟨h1,h2,h3,-,h5⟩:=h;unfold ed;omega
theorem nd {w : Wld} (c : ao w) {i : Nat} (h : kP w i) {h' : Hub} {lk : List Int} {qs : List Queue} {t' : Task} {k : Nat} {st : Int} (h1 : ch h'<=2 ^ 28) (h2 : lk.length = w.locks.length) (h3 : nL dq qs<=nL dq w.queues + 32)
 (h4 : eF t'<=2 ^ 25) : kP ⟨h',lk,qs,w.tasks.set k t',st⟩ (i + 1):=by
 obtain ⟨-,g2,g3,g4,-⟩:=h
 have hm : ∀ t∈w.tasks.set k t',eF t<=2 ^ 25:=by
  intro t ht;rcases List.mem_or_eq_of_mem_set ht with ht | rfl
  ·exact g4 t ht
  ·exact h4
 refine ⟨h1,?_,?_,hm,?_⟩
 ·show lk.length<=_;omega
 ·show nL dq qs<=_;omega
 ·show nL eF (w.tasks.set k t')<=_
  have h5 : nL eF (w.tasks.set k t')<=(w.tasks.set k t').length * (2 ^ 25 + 1):=nN hm;rw [List.length_set] at h5;have h6:=Nat.mul_le_mul_right (2 ^ 25 + 1) c.2.2.2.1;omega
theorem nf {w : Wld} (c : ao w) {i : Nat} (h : kP w i) {k : Nat} (hk : k < w.tasks.length) {lk : List Int} {qs : List Queue} (h2 : lk.length = w.locks.length) (h3 : nL dq qs<=nL dq w.queues + 32) (n : Int) :
 kP (bj (gU ⟨w.h,lk,qs,w.tasks,w.step⟩ k w.tasks[k]) n) (i + 1):=by
 have h1:=PB w.h w.tasks[k].c;have h4:=jD (c.1 _ (List.getElem_mem hk)).1;have h5 : eF ⟨w.tasks[k].c,3,w.tasks[k].inv,w.step,w.tasks[k].rs,(fDo w.h w.tasks[k].c).2⟩ = dC w.tasks[k].c + cX (fDo w.h w.tasks[k].c).2:=rfl;have h6 : ch (fDo w.h w.tasks[k].c).1<=2 ^ 28:=by have:=h.1;omega
 have h7 : eF ⟨w.tasks[k].c,3,w.tasks[k].inv,w.step,w.tasks[k].rs,(fDo w.h w.tasks[k].c).2⟩<=2 ^ 25:=by omega
 exact nd c h h6 h2 h3 h7
theorem vw {w : Wld} {i : Nat} (h : kP w i) {k : Int} (hy : (cA w k).2 = true) : kP (cA w k).1 (i + 1):=by
 by_cases c : ao w/\¬ w.step = 1000000/\(0<=k/\k<=(w.tasks.length : Int) - 1)
 rotate_left
 ·rw [iD c] at hy;cases hy
 obtain ⟨c,hs,h1,h2⟩:=c;obtain ⟨k,rfl⟩ : ∃ n : Nat,k = n:=⟨k.toNat,by omega⟩;have hk : k < w.tasks.length:=by omega
 rw [jz c hs hk] at hy ⊢
 have hold : ∀ pc rs : Int,eF ⟨w.tasks[k].c,pc,w.tasks[k].inv,w.tasks[k].lin,rs,w.tasks[k].a⟩<=2 ^ 25:=λ_ _=>by
  have ho : eF w.tasks[k]<=2 ^ 25:=h.2.2.2.1 _ (List.getElem_mem hk);exact ho
 by_cases p0 : w.tasks[k].pc = 0
 ·by_cases d : aK w.tasks[k].c.kind
  ·by_cases f : w.locks[aP w.tasks[k].c.doc w.locks.length]? = some (-1)
   ·rw [fu p0 d f];exact nd c h h.1 (by simp) (by omega) (hold _ _)
   ·rw [gp p0 d f] at hy;cases hy
  ·rw [fv p0 d];exact nf c h hk rfl (by omega) _
 ·by_cases p1 : w.tasks[k].pc = 1
  ·rw [eh p1]
   have h2:=c.1 _ (List.getElem_mem hk);have hd:=h2.1.2.1;by_cases q : ¬ w.tasks[k].c.kind = 2\/w.h.shut = true\/ar w.h.docs w.tasks[k].c.doc < 0
   ·rw [gN q];exact nf c h hk (by simp) (by omega) _
   ·rcases cr w.queues w.tasks[k].c.doc with ⟨j,hj,e,hn⟩ | e
    ·by_cases f : w.queues[j].list.length = 2
     ·rw [gO q hj e f]
      have h5:=jD h2.1;have h4 : eF ⟨w.tasks[k].c,3,w.tasks[k].inv,w.tasks[k].lin,w.tasks[k].rs,⟨11,0,[],[]⟩⟩ = dC w.tasks[k].c:=rfl;have h6 : eF ⟨w.tasks[k].c,3,w.tasks[k].inv,w.tasks[k].lin,w.tasks[k].rs,⟨11,0,[],[]⟩⟩<=2 ^ 25:=by omega
      exact nd c h h.1 (by simp) (Nat.le_add_right _ _) h6
     ·rw [gM q hj e f]
      have hqa:=(mh c.2.2.2.2.2.2.2 hj).1 hj;have h3:=sK (f:=dq) w.queues j ⟨w.queues[j].doc,w.queues[j].list ++ [(k : Int)]⟩;have h4 : dq ⟨w.queues[j].doc,w.queues[j].list ++ [(k : Int)]⟩ = w.queues[j].doc.size + (w.queues[j].list.length + 1):=by unfold dq;simp
      have h6 : w.queues[j].doc.size<=8:=by rw [hn];exact hd
      have h5:=hqa.2.1.2;have h7 : nL dq (w.queues.set j ⟨w.queues[j].doc,w.queues[j].list ++ [(k : Int)]⟩)<=nL dq w.queues + 32:=by omega
      exact nd c h h.1 (by simp) h7 (hold _ _)
    ·rw [iE q e]
     have h3:=eV (f:=dq) (w.queues.take (aI w.tasks[k].c.doc w.queues)) (w.queues.drop (aI w.tasks[k].c.doc w.queues));rw [List.take_append_drop] at h3;have h4 : dq ⟨w.tasks[k].c.doc,[(k : Int)]⟩ = w.tasks[k].c.doc.size + 1:=rfl
     have h7 : nL dq (w.queues.take (aI w.tasks[k].c.doc w.queues) ++ ⟨w.tasks[k].c.doc,[(k : Int)]⟩ :: w.queues.drop (aI w.tasks[k].c.doc w.queues))<=nL dq w.queues + 32:=by
      simp only [eV,m5];omega
     exact nd c h h.1 (by simp) h7 (hold _ _)
  ·by_cases p3 : w.tasks[k].pc = 3
   ·rw [ft p3];exact nd c h h.1 rfl (by omega) (hold _ _)
   ·rw [gq p0 p1 p3] at hy;cases hy
theorem Di {w : Wld} {i : Nat} (h : kP w i) (hm : ¬ fg w = 0) {p : Nat} (hp : p < fg w) : kP (cG w p) (i + 1):=by
 obtain ⟨c,s⟩:=oU hm;unfold cG;by_cases ha : p < (cB w).length
 ·obtain ⟨k,hk,e,hy⟩:=pw ha
  rw [List.getElem?_eq_getElem ha];simp only [e];exact vw h hy
 ·have hs : p - (cB w).length < (bQ w).length:=by unfold fg at hp;omega
  obtain ⟨j,hj,e⟩:=pQ hs;rw [List.getElem?_eq_none (by omega),List.getElem?_eq_getElem hs];obtain ⟨k,hk,rest,hl,hr⟩:=eH c hj;have h2:=uT w.queues j w.queues[j] rest;have h3:=sr c hj;simp only;rw [go c s hj e hk hl];exact nf c h hk rfl (by omega) _
def co (l : List Int) : List Int:=l.filter λn=>decide (n≠-1)
theorem gA (a b : List Int) : co (a ++ b) = co a ++ co b:=by unfold co;rw [List.filter_append]
theorem lc {step : Int} : ∀ (l met : List Int),(aT step met l).isSome = true ↔ (∀ n∈co l,n < step)/\(co l).Nodup/\∀ n∈co l,n ∉ met
 | [],met=>by simp [aT,co]
 | n :: l, met => by
   unfold aT;by_cases h : n = -1
   ·have e : co (n :: l) = co l:=by simp [co,h]
    rw [if_pos h,e];exact lc l met
   ·have e : co (n :: l) = n :: co l:=by simp [co,h]
    rw [if_neg h,e];by_cases h2 : n ≥ step\/n∈met
    ·rw [if_pos h2]
     simp only [Option.isSome_none,Bool.false_eq_true,false_iff]
     rintro ⟨h3,-,h4⟩
     rcases h2 with h2 | h2
     ·have:=h3 n (List.mem_cons_self ..);omega
     ·exact h4 n (List.mem_cons_self ..) h2
    ·rw [if_neg h2,lc l (met ++ [n]),List.nodup_cons]
     constructor
     ·rintro ⟨h3,h4,h5⟩
      refine ⟨λm hm=>?_,⟨λhm=>h5 n hm (by simp),h4⟩,λm hm=>?_⟩
      ·rcases List.mem_cons.1 hm with rfl | hm
       ·omega
       ·exact h3 m hm
      ·rcases List.mem_cons.1 hm with rfl | hm
       ·exact λh=>h2 (.inr h)
       ·exact λh=>h5 m hm (by simp [h])
     ·rintro ⟨h3,⟨h4,h5⟩,h6⟩
      refine ⟨λm hm=>h3 m (List.mem_cons_of_mem _ hm),h5,λm hm hc=>?_⟩;rcases List.mem_append.1 hc with hc | hc
      ·exact h6 m (List.mem_cons_of_mem _ hm) hc
      ·simp at hc;subst hc;exact h4 hm
def e8 (tasks : List Task) (step : Int) : Prop:=(∀ n∈co (tasks.flatMap bd),n < step)/\(co (tasks.flatMap bd)).Nodup
theorem qE {w : Wld} : fE w ↔ e8 w.tasks w.step:=by
 unfold fE e8;rw [lc];simp
theorem rT {l : List Task} {k : Nat} (hk : k < l.length) (t : Task) : co ((l.set k t).flatMap bd) = co ((l.take k).flatMap bd) ++ (co (bd t) ++ co ((l.drop (k + 1)).flatMap bd)):=by
 rw [List.set_eq_take_append_cons_drop,if_pos hk,List.flatMap_append,List.flatMap_cons,gA,gA]
theorem Bo {l : List Task} {k : Nat} (hk : k < l.length) : co (l.flatMap bd) = co ((l.take k).flatMap bd) ++ (co (bd l[k]) ++ co ((l.drop (k + 1)).flatMap bd)):=by
 have h:=rT hk l[k];rw [List.set_getElem_self] at h;exact h
theorem k9 {l : List Task} {step step' : Int} {k : Nat} (hk : k < l.length) {t : Task} (h : e8 l step) (ht : co (bd t) = co (bd l[k])) (hs : step<=step') : e8 (l.set k t) step':=by
 have e : co ((l.set k t).flatMap bd) = co (l.flatMap bd):=by rw [rT hk,Bo hk,ht]
 unfold e8;rw [e];exact ⟨λn hn=>by have:=h.1 n hn;omega,h.2⟩
theorem r7 {l : List Task} {step : Int} {k : Nat} (hk : k < l.length) {t : Task} (h : e8 l step) (ht : co (bd t) = co (bd l[k]) ++ [step]) : e8 (l.set k t) (step + 1):=by
 have e : (co ((l.set k t).flatMap bd)).Perm (step :: co (l.flatMap bd)):=by
  rw [rT hk,Bo hk,ht];generalize co ((l.take k).flatMap bd) = A;generalize co (bd l[k]) = T;generalize co ((l.drop (k + 1)).flatMap bd) = B;rw [List.append_assoc,<- List.append_assoc A T,<- List.append_assoc A T];exact List.perm_middle
 unfold e8;refine ⟨λn hn=>?_,?_⟩
 ·rcases List.mem_cons.1 (e.mem_iff.1 hn) with rfl | hn
  ·omega
  ·have:=h.1 n hn;omega
 ·rw [e.nodup_iff,List.nodup_cons]
  exact ⟨λhm=>by have:=h.1 _ hm;omega,h.2⟩
theorem zL {l : List Task} {step : Int} (h : e8 l step) {c : Call} (h0 : 0<=step) : e8 (l ++ [dw c step]) (step + 1):=by
 have e : co ((l ++ [dw c step]).flatMap bd) = co (l.flatMap bd) ++ [step]:=by
  rw [List.flatMap_append,gA]
  congr 1
  have : ¬ step = -1:=by omega
  simp [bd,dw,co,this]
 unfold e8;rw [e];refine ⟨λn hn=>?_,?_⟩
 ·rcases List.mem_append.1 hn with hn | hn
  ·have:=h.1 n hn;omega
  ·simp at hn;omega
 ·rw [List.nodup_append]
  refine ⟨h.2,by simp,λa ha b hb=>?_⟩;simp at hb;have:=h.1 a ha;omega
theorem r8 {l : List Task} {step : Int} (h : e8 l step) {t : Task} (ht : t∈l) {n : Int} (hn : n∈bd t) (h1 : n≠-1) : n < step:=by
 refine h.1 n ?_;unfold co;rw [List.mem_filter];exact ⟨List.mem_flatMap.2 ⟨t,ht,hn⟩,by simpa using h1⟩
def sw (docs : List Doc) (q : Queue) : Prop:=(1<=q.list.length/\q.list.length<=2)/\∃ d∈docs,d.name = q.doc
def iY (a b : Queue) : Prop:=sLt a.doc b.doc
def bI (l : List Queue) : List Int:=l.flatMap Queue.list
structure QIn (docs : List Doc) (queues : List Queue) (tasks : List Task) : Prop where
 one : ∀ q∈queues,sw docs q
 ord : queues.Pairwise iY
 may : ∀ q∈queues,∀ k∈q.list,eo tasks q.doc k
 nodup : (bI queues).Nodup
 all : ∀ k,∀ hk : k < tasks.length,tasks[k].pc = 2->(k : Int)∈bI queues
theorem oM {tasks : List Task} {doc : ByteArray} : ∀ (l all m : List Int),bc tasks doc all l = some m ↔ (∀ k∈l,eo tasks doc k)/\l.Nodup/\(∀ k∈l,k ∉ all)/\m = all ++ l
 | [],all,m=>by simp [bc];exact ⟨λh=>h.symm,λh=>h.symm⟩
 | k :: l, all, m => by
   unfold bc;by_cases h : eo tasks doc k/\k ∉ all
   ·rw [if_pos h,oM l (all ++ [k]) m,List.nodup_cons]
    constructor
    ·rintro ⟨h1,h2,h3,h4⟩
     refine ⟨λj hj=>?_,⟨λhm=>h3 k hm (by simp),h2⟩,λj hj=>?_,by rw [h4];simp⟩
     ·rcases List.mem_cons.1 hj with rfl | hj
      ·exact h.1
      ·exact h1 j hj
     ·rcases List.mem_cons.1 hj with rfl | hj
      ·exact h.2
      ·exact λhc=>h3 j hj (by simp [hc])
    ·rintro ⟨h1,⟨h2,h3⟩,h4,h5⟩
     refine ⟨λj hj=>h1 j (List.mem_cons_of_mem _ hj),h3,λj hj hc=>?_,by rw [h5];simp⟩;rcases List.mem_append.1 hc with hc | hc
     ·exact h4 j (List.mem_cons_of_mem _ hj) hc
     ·simp at hc;subst hc;exact h2 hj
   ·rw [if_neg h]
    simp only [reduceCtorEq,false_iff]
    rintro ⟨h1,-,h3,-⟩
    exact h ⟨h1 k (List.mem_cons_self ..),h3 k (List.mem_cons_self ..)⟩
theorem xL {l : List Queue} {i : Nat} (h : i < l.length) : bI (l.take (i + 1)) = bI (l.take i) ++ l[i].list:=by
 unfold bI;rw [<- List.take_append_getElem h,List.flatMap_append];simp
theorem j9 {w : Wld} : ∀ (i : Nat),i<=w.queues.length->∀ all,bO w i = some all ↔ (∀ j,j < i->eI w.h w.queues j)/\(∀ q∈w.queues.take i,∀ k∈q.list,eo w.tasks q.doc k)/\(bI (w.queues.take i)).Nodup/\all = bI (w.queues.take i)
 | 0,_,all=>by simp [bO,bI];try exact ⟨λh=>h.symm,λh=>h.symm⟩
 | i + 1, hi, all => by
   have hlt : i < w.queues.length:=by omega
   have ih:=j9 (w:=w) i (by omega);have hmem : ∀ q,q∈w.queues.take (i + 1) ↔ q∈w.queues.take i\/q = w.queues[i]:=λq=>by rw [<- List.take_append_getElem hlt,List.mem_append];simp
   rw [xL hlt];by_cases hq : eI w.h w.queues i
   rotate_left
   ·rw [eU hlt hq]
    simp only [reduceCtorEq,false_iff]
    rintro ⟨h,-⟩
    exact hq (h i (by omega))
   have hupto : (∀ j,j < i + 1->eI w.h w.queues j) ↔ ∀ j,j < i->eI w.h w.queues j:=by
    constructor
    ·exact λh j hj=>h j (by omega)
    ·intro h j hj
     by_cases e : j = i
     ·subst e;exact hq
     ·exact h j (by omega)
   rw [hupto]
   cases e : bO w i with
   | none =>
     have hn:=gG e 1;rw [hn];simp only [reduceCtorEq,false_iff]
     rintro ⟨h1,h2,h3,h4⟩
     have : bO w i = some (bI (w.queues.take i)):=(ih _).2 ⟨h1,λq hqm=>h2 q ((hmem q).2 (.inl hqm)),(List.nodup_append.1 h3).1,rfl⟩;rw [e] at this
     cases this
   | some m =>
     obtain ⟨h1,h2,h3,h4⟩:=(ih m).1 e;rw [eT hlt e hq,oM,h4,List.nodup_append]
     constructor
     ·rintro ⟨g1,g2,g3,g4⟩
      refine ⟨h1,λq hqm=>?_,⟨h3,g2,λa ha b hb hab=>?_⟩,g4⟩
      ·rcases (hmem q).1 hqm with hqm | rfl
       ·exact h2 q hqm
       ·exact g1
      ·subst hab;exact g3 a hb ha
     ·rintro ⟨-,g2,⟨g3,g4,g5⟩,g6⟩
      exact ⟨g2 _ ((hmem _).2 (.inr rfl)),g4,λk hk hc=>g5 k hc k hk rfl,g6⟩
theorem li {w : Wld} : cD w ↔ QIn w.h.docs w.queues w.tasks:=by
 unfold cD
 constructor
 ·rintro ⟨all,h1,h2⟩
  obtain ⟨g1,g2,g3,g4⟩:=(j9 w.queues.length (Nat.le_refl _) all).1 h1;rw [List.take_length] at g2 g3 g4;subst g4;refine ⟨λq hq=>?_,kI (R:=iY) (λ_ _ _=>mW) λi hi h0=>(g1 i hi hi).1 h0,g2,g3,h2⟩;obtain ⟨i,hi,rfl⟩:=List.getElem_of_mem hq;obtain ⟨-,k2,k3⟩:=g1 i hi hi;exact ⟨k2,lK.1 k3⟩
 ·rintro ⟨h1,h2,h3,h4,h5⟩
  refine ⟨bI w.queues,(j9 w.queues.length (Nat.le_refl _) _).2 ⟨λj _ hj=>?_,?_,?_,?_⟩,h5⟩
  ·obtain ⟨k1,k2⟩:=h1 _ (List.getElem_mem hj)
   exact ⟨λh0=>nu h2 j hj h0,k1,lK.2 k2⟩
  ·rw [List.take_length];exact h3
  ·rw [List.take_length];exact h4
  ·rw [List.take_length]
structure WIn (w : Wld) : Prop where
 tasks : ∀ t∈w.tasks,cq t
 hub : an w.h
 nlock : 1<=w.locks.length/\w.locks.length<=4
 ntask : w.tasks.length<=10
 step : 0<=w.step/\w.step<=1000000
 steps : e8 w.tasks w.step
 locks : dY w
 queues : QIn w.h.docs w.queues w.tasks
theorem dA {w : Wld} : ao w ↔ WIn w:=by
 constructor
 ·rintro ⟨h1,h2,h3,h4,h5,h6,h7,h8⟩
  exact ⟨h1,h2,h3,h4,h5,qE.1 h6,h7,li.1 h8⟩
 ·rintro ⟨h1,h2,h3,h4,h5,h6,h7,h8⟩
  exact ⟨h1,h2,h3,h4,h5,qE.2 h6,h7,li.2 h8⟩
theorem dU {l : List Task} {k j : Nat} {t : Task} (hj : j < (l.set k t).length) (hne : j≠k) : (l.set k t)[j] = l[j]'(by simpa using hj):=by rw [List.getElem_set_ne (λh=>hne h.symm)]
theorem wg {tasks : List Task} {k : Nat} {t : Task} {doc : ByteArray} {j : Int} (h : eo tasks doc j) (hj : j≠k) : eo (tasks.set k t) doc j:=by
 obtain ⟨i,hi,rfl,h1,h2⟩:=h;have hik : i≠k:=by omega
 exact ⟨i,by simpa using hi,rfl,by rw [dU _ hik];exact h1,by rw [dU _ hik];exact h2⟩
theorem FI {tasks : List Task} {k : Nat} (hk : k < tasks.length) {doc : ByteArray} (h : eo tasks doc k) : tasks[k].pc = 2:=by
 obtain ⟨i,hi,e,h1,-⟩:=h;have : i = k:=by omega
 subst this;exact h1
theorem BC {docs docs' : List Doc} (h : fY docs docs') {q : Queue} (hq : sw docs q) : sw docs' q:=⟨hq.1,h _ hq.2⟩
theorem sx {docs docs' : List Doc} {queues : List Queue} {tasks : List Task} (h : QIn docs queues tasks) (hn : fY docs docs') {k : Nat} (hk : k < tasks.length) (h1 : tasks[k].pc≠2) {t : Task} (h2 : t.pc≠2) : QIn docs' queues (tasks.set k t):=by
 refine ⟨λq hq=>BC hn (h.one q hq),h.ord,λq hq j hj=>?_,h.nodup,λj hj hp=>?_⟩
 ·have hm:=h.may q hq j hj
  exact wg hm (λe=>by subst e;exact h1 (FI hk hm))
 ·by_cases e : j = k
  ·subst e;simp at hp;exact absurd hp h2
  ·rw [dU _ e] at hp
   exact h.all j (by simpa using hj) hp
theorem LB {docs : List Doc} {queues : List Queue} {tasks : List Task} (h : QIn docs queues tasks) {t : Task} (h2 : t.pc≠2) : QIn docs queues (tasks ++ [t]):=by
 refine ⟨h.one,h.ord,λq hq j hj=>?_,h.nodup,λj hj hp=>?_⟩
 ·obtain ⟨i,hi,rfl,h3,h4⟩:=h.may q hq j hj
  exact ⟨i,by simp;omega,rfl,by rw [List.getElem_append_left hi];exact h3,by rw [List.getElem_append_left hi];exact h4⟩
 ·by_cases e : j < tasks.length
  ·rw [List.getElem_append_left e] at hp
   exact h.all j e hp
  ·rw [List.getElem_append_right (by omega)] at hp
   simp at hp;exact absurd hp h2
theorem l8 {l : List Queue} {i : Nat} (hi : i < l.length) (q : Queue) : bI (l.set i q) = bI (l.take i) ++ (q.list ++ bI (l.drop (i + 1))):=by
 unfold bI;rw [List.set_eq_take_append_cons_drop,if_pos hi,List.flatMap_append,List.flatMap_cons]
theorem rP {l : List Queue} {i : Nat} (hi : i < l.length) : bI l = bI (l.take i) ++ (l[i].list ++ bI (l.drop (i + 1))):=by
 have h:=l8 hi l[i]
 rwa [List.set_getElem_self] at h
theorem ui {docs : List Doc} {queues : List Queue} {tasks : List Task} (h : QIn docs queues tasks) {k : Nat} (hk : k < tasks.length) (h1 : tasks[k].pc≠2) : (k : Int) ∉ bI queues:=by
 intro hm;obtain ⟨q,hq,hkq⟩:=List.mem_flatMap.1 hm;exact h1 (FI hk (h.may q hq k hkq))
theorem Fp {docs : List Doc} {queues queues' : List Queue} {tasks : List Task} (h : QIn docs queues tasks) {k : Nat} (hk : k < tasks.length) (h1 : tasks[k].pc≠2) {t : Task} (h2 : t.pc = 2)
 (hone : ∀ q∈queues',sw docs q) (hord : queues'.Pairwise iY) (hp : (bI queues').Perm ((k : Int) :: bI queues)) (hin : ∀ q∈queues',∀ j∈q.list,(j = k/\q.doc = t.c.doc)\/∃ q0∈queues,q0.doc = q.doc/\j∈q0.list) : QIn docs queues' (tasks.set k t):=by
 have hnot:=ui h hk h1;refine ⟨hone,hord,λq hq j hj=>?_,?_,λj hj hpc=>?_⟩
 ·rcases hin q hq j hj with ⟨rfl,e⟩ | ⟨q0,hq0,e,hj0⟩
  ·exact ⟨k,by simpa using hk,rfl,by simpa using h2,by simp [e]⟩
  ·have hm:=h.may q0 hq0 j hj0
   rw [e] at hm;refine wg hm (λej=>hnot ?_);rw [<- ej];exact List.mem_flatMap.2 ⟨q0,hq0,hj0⟩
 ·rw [hp.nodup_iff,List.nodup_cons]
  exact ⟨hnot,h.nodup⟩
 ·rw [hp.mem_iff,List.mem_cons]
  by_cases e : j = k
  ·subst e;exact .inl rfl
  ·rw [dU _ e] at hpc
   exact .inr (h.all j (by simpa using hj) hpc)
theorem BB {docs docs' : List Doc} {queues queues' : List Queue} {tasks : List Task} (h : QIn docs queues tasks) (hn : fY docs docs') {k : Nat} (hk : k < tasks.length) {t : Task} (h2 : t.pc≠2)
 (hone : ∀ q∈queues',sw docs q) (hord : queues'.Pairwise iY) (hp : (bI queues).Perm ((k : Int) :: bI queues')) (hin : ∀ q∈queues',∀ j∈q.list,∃ q0∈queues,q0.doc = q.doc/\j∈q0.list) : QIn docs' queues' (tasks.set k t):=by
 have hnd:=h.nodup;rw [hp.nodup_iff,List.nodup_cons] at hnd;refine ⟨λq hq=>BC hn (hone q hq),hord,λq hq j hj=>?_,hnd.2,λj hj hpc=>?_⟩
 ·obtain ⟨q0,hq0,e,hj0⟩:=hin q hq j hj
  have hm:=h.may q0 hq0 j hj0;rw [e] at hm;refine wg hm (λej=>hnd.1 ?_);rw [<- ej];exact List.mem_flatMap.2 ⟨q,hq,hj⟩
 ·by_cases e : j = k
  ·subst e;simp at hpc;exact absurd hpc h2
  ·rw [dU _ e] at hpc
   have:=h.all j (by simpa using hj) hpc;rw [hp.mem_iff,List.mem_cons] at this;rcases this with h | h
   ·omega
   ·exact h
theorem oh {h h' : Hub} {lk : List Int} {qs qs' : List Queue} {tasks : List Task} {s s' : Int} (h0 : dY ⟨h,lk,qs,tasks,s⟩) {k : Nat} (hk : k < tasks.length) (h1 : tasks[k].pc≠1) {t : Task} (h2 : t.pc≠1) : dY ⟨h',lk,qs',tasks.set k t,s'⟩:=by
 obtain ⟨a,b⟩:=h0;refine ⟨λi hi=>?_,λj hj hp=>?_⟩
 ·rcases a i hi with h3 | ⟨j,hj,h3,h4,h5⟩
  ·exact .inl h3
  ·have e : j≠k:=λe=>by subst e;exact h1 h4
   exact .inr ⟨j,by simpa using hj,h3,by rw [dU _ e];exact h4,by rw [dU _ e];exact h5⟩
 ·by_cases e : j = k
  ·subst e;simp at hp;exact absurd hp h2
  ·simp only at hj hp ⊢
   rw [dU _ e] at hp ⊢;exact b j (by simpa using hj) hp
theorem Al {h : Hub} {lk : List Int} {qs : List Queue} {tasks : List Task} {s s' : Int} (h0 : dY ⟨h,lk,qs,tasks,s⟩) {t : Task} (h2 : t.pc≠1) : dY ⟨h,lk,qs,tasks ++ [t],s'⟩:=by
 obtain ⟨a,b⟩:=h0;refine ⟨λi hi=>?_,λj hj hp=>?_⟩
 ·rcases a i hi with h3 | ⟨j,hj,h3,h4,h5⟩
  ·exact .inl h3
  ·have hj' : j < tasks.length:=hj
   exact .inr ⟨j,by simp;omega,h3,by rw [List.getElem_append_left hj];exact h4,by rw [List.getElem_append_left hj];exact h5⟩
 ·by_cases e : j < tasks.length
  ·simp only [List.getElem_append_left e] at hp ⊢
   exact b j e hp
  ·simp only at hp
   rw [List.getElem_append_right (by omega)] at hp;simp at hp;exact absurd hp h2
theorem Aj {h : Hub} {lk : List Int} {qs : List Queue} {tasks : List Task} {s s' : Int} (h0 : dY ⟨h,lk,qs,tasks,s⟩) {k : Nat} (hk : k < tasks.length) (h1 : tasks[k].pc≠1) {t : Task} (hc : t.c = tasks[k].c)
 (hf : lk[aP tasks[k].c.doc lk.length]? = some (-1)) : dY ⟨h,lk.set (aP tasks[k].c.doc lk.length) (k : Int),qs,tasks.set k ⟨t.c,1,t.inv,t.lin,t.rs,t.a⟩,s'⟩:=by
 obtain ⟨a,b⟩:=h0;obtain ⟨hs,hf⟩:=List.getElem?_eq_some_iff.1 hf;generalize hS : aP tasks[k].c.doc lk.length = S at hs hf;refine ⟨λi hi=>?_,λj hj hp=>?_⟩
 ·simp only [List.length_set] at hi ⊢
  by_cases e : S = i
  ·subst e
   exact .inr ⟨k,by simpa using hk,by simp,by simp,by simp [hc,hS]⟩
  ·rw [List.getElem_set_ne e]
   rcases a i hi with h3 | ⟨j,hj,h3,h4,h5⟩
   ·exact .inl h3
   ·have e2 : j≠k:=λe=>by subst e;exact h1 h4
    exact .inr ⟨j,by simpa using hj,h3,by rw [dU _ e2];exact h4,by rw [dU _ e2];exact h5⟩
 ·simp only [List.length_set] at hj hp ⊢
  by_cases e : j = k
  ·subst e
   simp [hc,hS,hs]
  ·rw [dU _ e] at hp ⊢
   have h3:=b j hj hp;simp only at h3
   have e2 : S≠aP tasks[j].c.doc lk.length:=λe2=>by
    rw [<- e2,List.getElem?_eq_getElem hs,hf] at h3;simp at h3
    try omega
   rw [List.getElem?_set_ne e2];exact h3
theorem Ak {h h' : Hub} {lk : List Int} {qs qs' : List Queue} {tasks : List Task} {s s' : Int} (h0 : dY ⟨h,lk,qs,tasks,s⟩) {k : Nat} (hk : k < tasks.length) (h1 : tasks[k].pc = 1) {t : Task} (h2 : t.pc≠1) :
 dY ⟨h',lk.set (aP tasks[k].c.doc lk.length) (-1),qs',tasks.set k t,s'⟩:=by
 obtain ⟨a,b⟩:=h0;have hm:=b k hk h1;simp only at hm;generalize hS : aP tasks[k].c.doc lk.length = S at hm;refine ⟨λi hi=>?_,λj hj hp=>?_⟩
 ·simp only [List.length_set] at hi ⊢
  by_cases e : S = i
  ·subst e;exact .inl (by simp)
  ·rw [List.getElem_set_ne e]
   rcases a i hi with h3 | ⟨j,hj,h3,h4,h5⟩
   ·exact .inl h3
   ·have e2 : j≠k:=λe2=>by subst e2;exact e (hS ▸ h5)
    exact .inr ⟨j,by simpa using hj,h3,by rw [dU _ e2];exact h4,by rw [dU _ e2];exact h5⟩
 ·simp only [List.length_set] at hj hp ⊢
  by_cases e : j = k
  ·subst e;simp at hp;exact absurd hp h2
  ·rw [dU _ e] at hp ⊢
   have h3:=b j hj hp;simp only at h3
   have e2 : S≠aP tasks[j].c.doc lk.length:=λe2=>by
    rw [<- e2,hm] at h3;simp at h3;omega
   rw [List.getElem?_set_ne e2];exact h3
end Go.Proofs.YtoldjebobgocpaaGreat
