import Derived.Test.YtoldjebobgocpaaGreatPI
import Derived.Test.YtoldjebobgocpaaGreatPG
import Derived.Test.YtoldjebobgocpaaGreatPH
import Derived.Test.YtoldjebobgocpaaGreatPF
import Derived.Test.YtoldjebobgocpaaGreatNA
import Derived.Test.YtoldjebobgocpaaGreatPA
import Derived.Test.YtoldjebobgocpaaGreatMF
namespace Go.Proofs.YtoldjebobgocpaaGreat
open Go.AM
set_option maxRecDepth 20000
set_option maxHeartbeats 6400000
def ku (n i : Nat) : List Int:=List.replicate i (-1) ++ List.replicate (n - i) 0
theorem yh (n : Nat) : List.replicate n [CD.v (.int .i64 0)] = (ku n 0).map al:=by
 unfold ku;simp [al]
theorem yi (n : Nat) : ku n n = List.replicate n (-1):=by unfold ku;simp
theorem A0 {n i : Nat} (h : i<=n) : (ku n i).length = n:=by unfold ku;simp;omega
theorem AZ {n i : Nat} (h : i < n) : (ku n i).set i (-1) = ku n (i + 1):=by
 unfold ku;refine List.ext_getElem (by simp;omega) (λj h1 h2=>?_);simp only [List.getElem_set,List.getElem_append,List.length_replicate,List.getElem_replicate]
 repeat' split
 all_goals omega
theorem Gd {l : List Int} {i : Nat} {x : Int} : (l.map al).set i [.v (.int .i64 x)] = (l.set i x).map al:=by rw [List.map_set]
theorem lM {w : Wld} (h : ¬ ∀ t∈w.tasks,cw t) : ¬ bP w:=λh'=>h h'.1
theorem rS (w : Wld) (hl : cI w<=2 ^ 30) : ac Tryz.prog 45 [.agg w.row] (.one (.c (vb (bP w)) 1)):=by
 refine pci ag Tryz.func45 (λw0 base=>?_);have hSt:=rT w (by have:=aA (dy hl).2.2.2;omega);have hQu:=ut w hl;obtain ⟨nh,n2,n3,n4⟩:=dy hl;obtain ⟨hh,lk,qs,tasks,step⟩:=w;have hle:=aA n4;simp only at hle n2 n4 nh hSt;simp [Wld.row];intro b1;refine aa.pure (de hh (by omega)) (by simp [Hub.row]) ?_;by_cases c1 : ap hh
 rotate_left
 ·have h : ¬ bP ⟨hh,lk,qs,tasks,step⟩:=λh=>c1 h.2.1
  simp [ab c1,ab h]
 simp [c1];refine aa.pure (aK lk.length 1 4) (by simp) ?_;by_cases c2 : 1<=lk.length/\lk.length<=4
 rotate_left
 ·have h : ¬ bP ⟨hh,lk,qs,tasks,step⟩:=λh=>c2 h.2.2.1
  have c2' : ¬ (1<=(lk.length : Int)/\(lk.length : Int)<=4):=by omega
  simp [ab c2',ab h]
 have c2' : 1<=(lk.length : Int)/\(lk.length : Int)<=4:=by omega
 simp [c2'];by_cases c3 : tasks.length<=10
 rotate_left
 ·have h : ¬ bP ⟨hh,lk,qs,tasks,step⟩:=λh=>c3 h.2.2.2.1
  have c3' : 10 < (tasks.length : Int):=by omega
  simp [c3',ab h]
 have c3' : ¬ 10 < (tasks.length : Int):=by omega
 simp [c3'];refine aa.pure (aK step 0 1000000) (by simp) ?_;by_cases c4 : 0<=step/\step<=1000000
 rotate_left
 ·have h : ¬ bP ⟨hh,lk,qs,tasks,step⟩:=λh=>c4 h.2.2.2.2.1
  simp [ab c4,ab h]
 simp [c4];refine ⟨by omega,λb=>?_⟩
 refine aj eok (λi : Nat=>i<=lk.length) (λi=>⟨88,0,[(37,.v (.int .i64 i)),(36,.v (.int .i64 lk.length)),(4,.sl 544 (some (b,0,lk.length)) 1 0 lk.length),(3,.v (.int .i64 lk.length)),(1,.p 16 b1 0)],
  [(16, .vars b1 39 [.v (.bool hh.shut), .ro (hh.docs.map Doc.row), .ro (hh.subs.map Sub.row), .v (.int .i64 hh.last), .ro (lk.map al), .ro (qs.map Queue.row), .ro (tasks.map Task.row), .v (.int .i64 step)]),
   (544,.rows (some (b,0,lk.length)) 1 ((ku lk.length i).map al) true)]⟩) (λi=>lk.length - i) 0 (by simp) (by simp [yh]) (λi hi=>Ent.refl ?_)
 by_cases hlt : i < lk.length
 ·have hL:=A0 (n:=lk.length) (i:=i) (by omega)
  have hli : i < (ku lk.length i).length:=by omega
  simp [hlt,hL,Gd,AZ hlt];refine Ent.refl ⟨i + 1,by omega,by omega,?_⟩;simp;exact ah (by omega)
 have hie : i = lk.length:=by omega
 subst hie;rw [yi];simp [-List.map_replicate]
 refine aj eok (λx : Nat × List Int=>x.1<=tasks.length/\(∀ t∈tasks.take x.1,cw t)/\kB tasks lk.length x.1 x.2) (λx=>⟨88,0,[(47,.v (.int .i64 x.1)),(46,.v (.int .i64 tasks.length)),(45,.ro (tasks.map Task.row)),(4,.sl 544 (some (b,0,lk.length)) 1 0 lk.length),(3,.v (.int .i64 lk.length)),(1,.p 16 b1 0)],
  [(16, .vars b1 39 [.v (.bool hh.shut), .ro (hh.docs.map Doc.row), .ro (hh.subs.map Sub.row), .v (.int .i64 hh.last), .ro (lk.map al), .ro (qs.map Queue.row), .ro (tasks.map Task.row), .v (.int .i64 step)]),
   (544,.rows (some (b,0,lk.length)) 1 (x.2.map al) true)]⟩) (λx=>tasks.length - x.1) (0,List.replicate lk.length (-1)) ⟨by simp,by simp,A6 _ _⟩ (by simp [-List.map_replicate]) (λx hi=>Ent.refl ?_)
 obtain ⟨i,held⟩:=x;obtain ⟨hi,htk,hh'⟩:=hi;simp only at hi htk hh' ⊢;have hhl:=hh'.1;by_cases hlt : i < tasks.length
 ·obtain ⟨t,ht⟩ : ∃ t,tasks[i] = t:=⟨_,rfl⟩
  have hm:=ci n4 hlt;rw [ht] at hm;have hmem : t∈tasks:=by rw [<- ht];exact List.getElem_mem hlt
  simp [hlt,ht,Task.row];intro b7;refine aa.pure (ul t (by omega)) (by simp [Task.row]) ?_;by_cases d1 : cw t
  rotate_left
  ·have h : ¬ bP ⟨hh,lk,qs,tasks,step⟩:=lM (λh=>d1 (h t hmem))
   simp [ab d1,ab h]
  have htk':=gh hlt htk (by rw [ht];exact d1);simp [d1];by_cases d2 : t.pc = 1
  rotate_left
  ·simp [d2]
   refine Ent.refl ⟨i + 1,held,⟨by omega,htk',A7 hh' hlt (by rw [ht];exact d2)⟩,by omega,?_⟩;simp;exact ah (by omega)
  simp [d2];refine aa.pure (uo t.c.doc (by have:=nS hm;omega) lk.length c2.1 (by omega)) (by simp) ?_;obtain ⟨s,hs⟩ : ∃ s,cF t.c.doc lk.length = s:=⟨_,rfl⟩;have hsl : s < lk.length:=by rw [<- hs];exact (ld t.c.doc c2.1).2
  have hsh : s < held.length:=by omega
  simp [hs,hsl,hsh];by_cases d3 : held[s] = -1
  rotate_left
  ·have h : ¬ bP ⟨hh,lk,qs,tasks,step⟩:=λh=>by
    refine Eq (locks:=lk) hh' hlt (by rw [ht];exact d2) (by rw [ht,hs];exact hsh) ?_ h.2.2.2.2.2.2.1.2;simp only [ht,hs];exact d3
   simp [d3,ab h]
  simp [d3,hsl,hhl];refine Ent.refl ⟨i + 1,held.set s i,⟨by omega,htk',Er hh' hlt (by rw [ht];exact d2) (by rw [ht];exact hs) hsh d3⟩,by omega,?_⟩;simp;exact ah (by omega)
 have hie : i = tasks.length:=by omega
 subst hie;rw [List.take_length] at htk;have he:=Et c2.1 hh';simp;refine aa.pure (i7 held lk (by omega)) (by simp [hhl]) ?_;have hW : bP ⟨hh,lk,qs,tasks,step⟩ ↔ ge ⟨hh,lk,qs,tasks,step⟩/\held = lk/\cH ⟨hh,lk,qs,tasks,step⟩:=⟨λh=>⟨h.2.2.2.2.2.1,he.2 h.2.2.2.2.2.2.1,h.2.2.2.2.2.2.2⟩,λh=>⟨htk,c1,c2,c3,c4,h.1,he.1 h.2.1,h.2.2⟩⟩;by_cases d1 : held = lk
 rotate_left
 ·have h : ¬ bP ⟨hh,lk,qs,tasks,step⟩:=λh=>d1 (hW.1 h).2.1
  simp [d1,ab h]
 simp [d1];refine aa.pure hSt (by simp) ?_;by_cases d2 : ge ⟨hh,lk,qs,tasks,step⟩
 rotate_left
 ·have h : ¬ bP ⟨hh,lk,qs,tasks,step⟩:=λh=>d2 (hW.1 h).1
  simp [ab d2,ab h]
 simp [d2];refine aa.pure hQu (by simp [Wld.row]) ?_;have e : vb (cH ⟨hh,lk,qs,tasks,step⟩) = vb (bP ⟨hh,lk,qs,tasks,step⟩):=gt ⟨λh=>hW.2 ⟨d2,d1,h⟩,λh=>(hW.1 h).2.2⟩;rw [e];simp
theorem rB (w : Wld) (hl : cI w<=2 ^ 30) : ac Tryz.prog 66 [.agg w.row] (.one (.c (vb (bP w)) 1)):=by
 refine pci ag Tryz.func66 (λw0 base=>?_);have hSt:=vw w hl;have hLo:=vy w hl;have hQu:=tR w hl;obtain ⟨nh,n2,n3,n4⟩:=dy hl;obtain ⟨hh,lk,qs,tasks,step⟩:=w;have hle:=aA n4;simp only at hle n2 n4 nh hLo;simp [Wld.row];intro b1
 refine aj eok (λi : Nat=>i<=tasks.length/\∀ t∈tasks.take i,cw t) (λi=>⟨48,0,[(8,.v (.int .i64 i)),(7,.v (.int .i64 tasks.length)),(6,.ro (tasks.map Task.row)),(1,.p 16 b1 0)],
  [(16,.vars b1 39 [.v (.bool hh.shut),.ro (hh.docs.map Doc.row),.ro (hh.subs.map Sub.row),.v (.int .i64 hh.last),.ro (lk.map al),.ro (qs.map Queue.row),.ro (tasks.map Task.row),.v (.int .i64 step)])]⟩) (λi=>tasks.length - i) 0 (by simp) (by simp) (λi hi=>Ent.refl ?_)
 obtain ⟨hi,htk⟩:=hi;by_cases hlt : i < tasks.length
 ·obtain ⟨t,ht⟩ : ∃ t,tasks[i] = t:=⟨_,rfl⟩
  have hm:=ci n4 hlt;rw [ht] at hm;have hmem : t∈tasks:=by rw [<- ht];exact List.getElem_mem hlt
  simp [hlt,ht,Task.row];intro b7;refine aa.pure (tN t (by omega)) (by simp [Task.row]) ?_;by_cases d1 : cw t
  rotate_left
  ·have h : ¬ bP ⟨hh,lk,qs,tasks,step⟩:=lM (λh=>d1 (h t hmem))
   simp [ab d1,ab h]
  simp [d1];exact Ent.refl ⟨i + 1,⟨by omega,gh hlt htk (by rw [ht];exact d1)⟩,by omega,by simp;exact ah (by omega)⟩
 have hie : i = tasks.length:=by omega
 subst hie;rw [List.take_length] at htk;simp;refine aa.pure (cZ hh (by omega)) (by simp [Hub.row]) ?_;by_cases c1 : ap hh
 rotate_left
 ·have h : ¬ bP ⟨hh,lk,qs,tasks,step⟩:=λh=>c1 h.2.1
  simp [ab c1,ab h]
 simp [c1];refine aa.pure (aW lk.length 1 4) (by simp) ?_;by_cases c2 : 1<=lk.length/\lk.length<=4
 rotate_left
 ·have h : ¬ bP ⟨hh,lk,qs,tasks,step⟩:=λh=>c2 h.2.2.1
  have c2' : ¬ (1<=(lk.length : Int)/\(lk.length : Int)<=4):=by omega
  simp [ab c2',ab h]
 have c2' : 1<=(lk.length : Int)/\(lk.length : Int)<=4:=by omega
 simp [c2'];by_cases c3 : tasks.length<=10
 rotate_left
 ·have h : ¬ bP ⟨hh,lk,qs,tasks,step⟩:=λh=>c3 h.2.2.2.1
  have c3' : ¬ (tasks.length : Int)<=10:=by omega
  simp [c3',ab h]
 have c3' : (tasks.length : Int)<=10:=by omega
 simp [c3'];refine aa.pure (aW step 0 1000000) (by simp) ?_;by_cases c4 : 0<=step/\step<=1000000
 rotate_left
 ·have h : ¬ bP ⟨hh,lk,qs,tasks,step⟩:=λh=>c4 h.2.2.2.2.1
  simp [ab c4,ab h]
 simp [c4];refine aa.pure hSt (by simp [Wld.row]) ?_;by_cases d2 : ge ⟨hh,lk,qs,tasks,step⟩
 rotate_left
 ·have h : ¬ bP ⟨hh,lk,qs,tasks,step⟩:=λh=>d2 h.2.2.2.2.2.1
  simp [ab d2,ab h]
 simp [d2];refine aa.pure (hLo c2.1) (by simp [Wld.row]) ?_;by_cases d3 : lr ⟨hh,lk,qs,tasks,step⟩
 rotate_left
 ·have h : ¬ bP ⟨hh,lk,qs,tasks,step⟩:=λh=>d3 h.2.2.2.2.2.2.1
  simp [ab d3,ab h]
 simp [d3];refine aa.pure hQu (by simp [Wld.row]) ?_;have e : vb (cH ⟨hh,lk,qs,tasks,step⟩) = vb (bP ⟨hh,lk,qs,tasks,step⟩):=gt ⟨λh=>⟨htk,c1,c2,c3,c4,d2,d3,h⟩,λh=>h.2.2.2.2.2.2.2⟩;rw [e];simp
noncomputable def hJ (name : ByteArray) : List Queue->Nat
 | []=>0
 | x :: l=>open Classical in if sLt x.doc name then hJ name l + 1 else 0
noncomputable def EN (w : Wld) (k : Nat) (t : Task) : Wld:=⟨(fDo w.h t.c).1,w.locks,w.queues,w.tasks.set k ⟨t.c,3,t.inv,w.step,t.rs,(fDo w.h t.c).2⟩,w.step⟩
noncomputable def Og (w : Wld) (k : Nat) (t : Task) : Wld:=⟨w.h,w.locks,
 (match w.queues[(hI w.queues t.c.doc).toNat]? with
  | some q=>if 0<=hI w.queues t.c.doc then w.queues.set (hI w.queues t.c.doc).toNat ⟨q.doc,q.list ++ [(k : Int)]⟩ else w.queues.take (hJ t.c.doc w.queues) ++ ⟨t.c.doc,[(k : Int)]⟩ :: w.queues.drop (hJ t.c.doc w.queues)
  | none=>w.queues.take (hJ t.c.doc w.queues) ++ ⟨t.c.doc,[(k : Int)]⟩ :: w.queues.drop (hJ t.c.doc w.queues)),
 w.tasks.set k ⟨t.c,2,t.inv,t.lin,t.rs,t.a⟩,w.step⟩
def Oc (w : Wld) (name : ByteArray) : Prop:=∃ i : Nat,∃ h : i < w.queues.length,hI w.queues name = i/\w.queues[i].list.length = 2
open Classical in
noncomputable def G8 (w : Wld) (k : Nat) (t : Task) : Wld:=
 if t.c.kind≠2\/w.h.shut = true\/aG w.h.docs t.c.doc < 0 then EN ⟨w.h,w.locks.set (cF t.c.doc w.locks.length) (-1),w.queues,w.tasks,w.step⟩ k t
 else if Oc w t.c.doc then ⟨w.h,w.locks.set (cF t.c.doc w.locks.length) (-1),w.queues,w.tasks.set k ⟨t.c,3,t.inv,t.lin,t.rs,⟨11,0,[],[]⟩⟩,w.step⟩
 else Og ⟨w.h,w.locks.set (cF t.c.doc w.locks.length) (-1),w.queues,w.tasks,w.step⟩ k t
def tM (w : Wld) (n : Int) : Wld:=⟨w.h,w.locks,w.queues,w.tasks,n⟩
open Classical in
noncomputable def K8 (w : Wld) (k : Nat) (t : Task) : Wld × Bool:=
 if t.pc = 0 then
  (if aO t.c.kind then
   (if w.locks[cF t.c.doc w.locks.length]? = some (-1) then (⟨w.h,w.locks.set (cF t.c.doc w.locks.length) (k : Int),w.queues,w.tasks.set k ⟨t.c,1,t.inv,t.lin,t.rs,t.a⟩,w.step + 1⟩,true) else (Wld.zero,false))
   else (tM (EN w k t) (w.step + 1),true))
 else if t.pc = 1 then (tM (G8 w k t) (w.step + 1),true)
 else if t.pc = 3 then (⟨w.h,w.locks,w.queues,w.tasks.set k ⟨t.c,4,t.inv,t.lin,w.step,t.a⟩,w.step + 1⟩,true)
 else (Wld.zero,false)
open Classical in
noncomputable def Ih (w : Wld) (k : Int) : Wld × Bool:=
 if bP w/\¬ w.step = 1000000/\0<=k then (match w.tasks[k.toNat]? with | some t=>K8 w k.toNat t | none=>(Wld.zero,false)) else (Wld.zero,false)
set_option maxHeartbeats 3200000
set_option maxHeartbeats 6400000
theorem qA {d : Doc} (h : aJ d) : (cr d).length<=200:=by
 have h9:=(jY h (rev:=ae d) (by have:=ba h;omega) (Int.le_refl _)).2.2.1.1;unfold cr;exact h9
theorem zp {α : Type} {f : α->Nat} (a : α) (l : List α) : nL f (a :: l) = nL f l + f a + 1:=by
 simp only [nL,a8,List.length_cons];omega
theorem kj {α : Type} {f : α->Nat} : nL f ([] : List α) = 0:=(rfl)
theorem Dx {r : Ring} (h : aP r) : bE r<=2 ^ 21:=by
 obtain ⟨h1,h2,h3,h4,-⟩:=h;have hb : nL am r.list<=r.list.length * (2 ^ 18 + 1):=sU (λe he=>t8 (h1 e he).2.2.1);have hc:=Nat.mul_le_mul_right (2 ^ 18 + 1) (show r.list.length<=6 by omega);unfold bE;omega
theorem y9 {h : Hub} (c : ap h) {s : Sub} (hs : s∈h.subs) : bN s<=2 ^ 22:=by
 obtain ⟨i,hi,rfl⟩:=List.getElem_of_mem hs;obtain ⟨-,h2,-,k,hk,e,-⟩:=c.2.2.2.2 i hi;have h3:=Dx h2
 have h4 : h.subs[i].doc.size<=8:=by
  rcases bR h.docs h.subs[i].doc with ⟨j,hj,e',hn⟩ | e'
  ·rw [<- hn];exact (dq c hj).1.1.2
  ·omega
 unfold bN;omega
theorem ep {h : Hub} (c : ap h) : bq h<=2 ^ 27/\nL bf h.docs<=2 ^ 26/\nL bN h.subs<=2 ^ 25:=by
 have h1 : nL bf h.docs<=h.docs.length * (2 ^ 23 + 1):=sU (λd hd=>by
  obtain ⟨i,hi,rfl⟩:=List.getElem_of_mem hd;exact ni (dq c hi))
 have h2 : nL bN h.subs<=h.subs.length * (2 ^ 22 + 1):=sU (λs hs=>y9 c hs);have h3:=Nat.mul_le_mul_right (2 ^ 23 + 1) c.1;have h4:=Nat.mul_le_mul_right (2 ^ 22 + 1) c.2.1;unfold bq;omega
theorem bO : bq Hub.zero = 0:=(rfl)
theorem yA (h : Hub) (name : ByteArray) (t : List Int) : bq (bp h name t).1<=2 ^ 28:=by
 unfold bp
 split
 ·rename_i c
  have h1:=ep c.1;have h2:=ni c.2
  repeat' split
  ·rw [bO];omega
  ·rw [bO];omega
  ·rw [bO];omega
  ·have h3 : nL bf (eL (cW name t) h.docs) = nL bf h.docs + bf (cW name t) + 1:=by
    rw [lA,fj,zp];have h4:=fj (f:=bf) (h.docs.take (cS (cW name t).name h.docs)) (h.docs.drop (cS (cW name t).name h.docs));rw [List.take_append_drop] at h4;omega
   unfold bq;simp only;omega
 ·rw [bO];omega
theorem zV (name : ByteArray) (e : Entry) (s : Sub) : bN (cB name e s)<=bN s + am e + 1:=by
 unfold cB
 split
 ·have:=wx s.r e
  unfold bN;simp only;omega
 ·omega
theorem wk {h : Hub} (c : ap h) (name : ByteArray) (k : Nat) (d0 : Doc) {d : Doc} (hd : bf d<=2 ^ 24) : bq (bW h name k d0 d)<=2 ^ 28:=by
 have h1:=ep c;have h2:=xS (f:=bf) h.docs k d;unfold bW
 have h3 : ∀ e,d.list.getLast? = some e->nL bN (h.subs.map (cB name e))<=6 * (20971521 + 1):=by
  intro e he;have h5 : am e<=2 ^ 24:=Nat.le_trans (bZ (bV hd).1 (List.mem_of_getLast? he)) (Nat.le_refl _)
  have h4 : nL bN (h.subs.map (cB name e))<=(h.subs.map (cB name e)).length * (20971521 + 1):=sU (λs hs=>by
   rw [List.mem_map] at hs;obtain ⟨s0,hs0,rfl⟩:=hs;have h6:=zV name e s0;have h7:=y9 c hs0;omega)
  rw [List.length_map] at h4;exact Nat.le_trans h4 (Nat.mul_le_mul_right _ c.2.1)
 unfold bq;simp only
 split
 ·split
  ·rename_i e he
   have:=h3 e he;omega
  ·omega
 ·omega
theorem uI (h : Hub) (name : ByteArray) (client seq base : Int) (o : List Part) : bq (aL h name client seq base o).1<=2 ^ 28:=by
 unfold aL
 split
 ·rename_i c
  split
  ·rw [bO];omega
  ·split
   ·rename_i d0 hd0
    have hd : aJ d0:=by
     obtain ⟨hi,rfl⟩:=List.getElem?_eq_some_iff.1 hd0;exact dq c hi
    repeat' split
    ·exact wk c _ _ _ (n9 hd)
    ·rw [bO];omega
    ·rw [bO];omega
   ·rw [bO];omega
 ·rw [bO];omega
theorem pn (h : Hub) (name : ByteArray) (room : Int) : bq (au h name room).1<=2 ^ 28:=by
 unfold au
 split
 ·rename_i c
  have h1:=ep c.1
  repeat' split
  all_goals first | (rw [bO];omega) | skip
  rename_i hi _
  have h3 : name.size<=8:=by
   rcases bR h.docs name with ⟨j,hj,e',hn⟩ | e'
   ·rw [<- hn];exact (dq c.1 hj).1.1.2
   ·omega
  unfold bq;simp only [fj,zp,kj,bN,qG];omega
 ·rw [bO];omega
theorem yz (h : Hub) (id n : Int) : bq (bo h id n).1<=2 ^ 28/\nL am (bo h id n).2.1<=2 ^ 24:=by
 unfold bo
 split
 ·rename_i c
  have h1:=ep c.1
  split
  ·rename_i s hs
   have hm:=List.mem_of_getElem? hs;have h2:=y9 c.1 hm;have h3:=wy s.r n
   repeat' split
   ·have h4:=xS (f:=bN) h.subs (dL h.subs id).toNat ⟨s.id,s.doc,(aY s.r n).1⟩
    have h5 : bN ⟨s.id,s.doc,(aY s.r n).1⟩ = s.doc.size + bE (aY s.r n).1:=rfl;have h6 : bN s = s.doc.size + bE s.r:=rfl;unfold bq;simp only;omega
   ·simp only [bO,kj];omega
   ·simp only [bO,kj];omega
  ·simp only [bO,kj];omega
 ·simp only [bO,kj];omega
theorem uJ (h : Hub) (id : Int) : bq (aI h id).1<=2 ^ 28/\(aI h id).2.1.length<=200:=by
 unfold aI
 split
 ·rename_i c
  have h1:=ep c
  split
  ·rename_i s hs
   have hm:=List.mem_of_getElem? hs;have h2:=y9 c hm
   split
   ·split
    ·rename_i d hd
     obtain ⟨hi,rfl⟩:=List.getElem?_eq_some_iff.1 hd;have h3:=qA (dq c hi);have h4:=xS (f:=bN) h.subs (dL h.subs id).toNat ⟨s.id,s.doc,(bi s.r (ae h.docs[(aG h.docs s.doc).toNat])).1⟩
     have h5 : bE (bi s.r (ae h.docs[(aG h.docs s.doc).toNat])).1 = 0:=by
      unfold bi
      split
      ·exact qG _ _
      ·rfl
     refine ⟨?_,h3⟩;unfold bq;simp only;have h7 : bN ⟨s.id,s.doc,(bi s.r (ae h.docs[(aG h.docs s.doc).toNat])).1⟩ = s.doc.size + bE (bi s.r (ae h.docs[(aG h.docs s.doc).toNat])).1:=rfl;have h6 : bN s = s.doc.size + bE s.r:=rfl;omega
    ·simp only [bO,List.length_nil];omega
   ·simp only [bO,List.length_nil];omega
  ·simp only [bO,List.length_nil];omega
 ·simp only [bO,List.length_nil];omega
theorem yy (h : Hub) : bq (bM h).1<=2 ^ 28:=by
 unfold bM
 repeat' split
 all_goals first | (rw [bO];omega) | skip
 rename_i c _
 have:=(ep c).1;unfold bq at this ⊢;simp only;omega
theorem uT (x : Int) : bK (bI x) = 0:=(rfl)
theorem G7 {h : Hub} (c : ap h) (x : Call) : bK (iB h x)<=2 ^ 24:=by
 unfold iB
 repeat' split
 all_goals first | (rw [uT];omega) | skip
 ·rename_i d hd _ _
  obtain ⟨hi,rfl⟩:=List.getElem?_eq_some_iff.1 hd;have h3:=qA (dq c hi);unfold bK;simp only [kj];omega
 ·rename_i d hd _ _
  obtain ⟨hi,rfl⟩:=List.getElem?_eq_some_iff.1 hd;have h3:=(bV (ni (dq c hi))).1;generalize h.docs[(aG h.docs x.doc).toNat] = d at h3;unfold bK;simp only [List.length_nil,Nat.zero_add];unfold e9
  repeat' split
  all_goals first | (simp only [kj];omega) | skip
  have h4:=fj (f:=am) (d.list.take (x.n - d.fr).toNat) (d.list.drop (x.n - d.fr).toNat);rw [List.take_append_drop] at h4;simp only;omega
theorem Oh (h : Hub) (c : Call) : (bq (fDo h c).1<=bq h\/bq (fDo h c).1<=2 ^ 28)/\bK (fDo h c).2<=2 ^ 24:=by
 have hz : ∀ x y : Int,bK ⟨x,y,[],[]⟩ = 0:=λ_ _=>rfl
 unfold fDo
 split
 ·rename_i ok
  have h1:=yA h c.doc c.text;have h2:=uI h c.doc c.client c.seq c.n c.o;have h3:=pn h c.doc c.n;have h4:=yz h c.client c.n;have h5:=uJ h c.client;have h6:=yy h;have h7:=G7 ok.1 c
  repeat' split
  all_goals simp only [uT,hz]
  all_goals first | omega | skip
  ·refine ⟨.inr h4.1,?_⟩
   unfold bK;simp only [List.length_nil];omega
  ·refine ⟨.inr h5.1,?_⟩
   unfold bK;simp only [kj];omega
 ·simp only [uT];omega
set_option maxHeartbeats 3200000
open Classical in
noncomputable def Gc (l : List Queue) (i : Nat) (q : Queue) (rest : List Int) : List Queue:=if rest = [] then l.eraseIdx i else l.set i ⟨q.doc,rest⟩
open Classical in
noncomputable def EL (w : Wld) (name : ByteArray) : Wld × Bool:=
 if bP w/\¬ w.step = 1000000/\0<=hI w.queues name then
  (match w.queues[(hI w.queues name).toNat]? with
   | some q => (match w.tasks[(q.list.headD 0).toNat]? with
     | some t=>(tM (EN ⟨w.h,w.locks,Gc w.queues (hI w.queues name).toNat q q.list.tail,w.tasks,w.step⟩ (q.list.headD 0).toNat t) (w.step + 1),true)
     | none=>(Wld.zero,false))
   | none=>(Wld.zero,false))
 else (Wld.zero,false)
def gm (l : List Task) (k : Nat) : Int:=match l[k]? with
 | some t=>t.lin
 | none=>0
def sO (f : Nat->Int) (x : Nat) (l : List Nat) : Nat:=l.length - (l.reverse.takeWhile λy=>decide (f x < f y)).length
def gz (f : Nat->Int) (x : Nat) (l : List Nat) : List Nat:=l.take (sO f x l) ++ x :: l.drop (sO f x l)
def cC (l : List Task) : Nat->List Nat
 | 0=>[]
 | i + 1=>if gm l i = -1 then cC l i else gz (gm l) i (cC l i)
def gp (w : Wld) : List Int:=(cC w.tasks w.tasks.length).map λk : Nat=>(k : Int)
theorem DJ (f : Nat->Int) (x : Nat) (l : List Nat) : sO f x l<=l.length:=Nat.sub_le _ _
theorem qe (f : Nat->Int) (x : Nat) (l : List Nat) : (gz f x l).length = l.length + 1:=by
 have:=DJ f x l;unfold gz;simp only [List.length_append,List.length_take,List.length_cons,List.length_drop];omega
theorem qd {f : Nat->Int} {x : Nat} {l : List Nat} {y : Nat} (h : y∈gz f x l) : y = x\/y∈l:=by
 unfold gz at h;rcases List.mem_append.1 h with h | h
 ·exact .inr (List.mem_of_mem_take h)
 ·rcases List.mem_cons.1 h with h | h
  ·exact .inl h
  ·exact .inr (List.mem_of_mem_drop h)
theorem pP {p : Nat->Bool} : ∀ (l : List Nat) (y : Nat),((l ++ [y]).reverse.takeWhile p) = if p y then y :: l.reverse.takeWhile p else []
 | l, y => by
   rw [List.reverse_append];simp only [List.reverse_cons,List.reverse_nil,List.nil_append,List.cons_append,List.takeWhile_cons]
theorem xK {f : Nat->Int} {x : Nat} : ∀ (l : List Nat) (k : Nat) (_ : k<=l.length),(∀ j,k<=j->∀ h : j < l.length,f x < f l[j])->(∀ _h : 0 < k,∀ h' : k - 1 < l.length,¬ f x < f l[k - 1])->sO f x l = k:=by
 intro l k hk h1 h2
 have key : (l.reverse.takeWhile λy=>decide (f x < f y)) = (l.drop k).reverse:=by
  have e : l.reverse = (l.drop k).reverse ++ (l.take k).reverse:=by rw [<- List.reverse_append,List.take_append_drop]
  rw [e,List.takeWhile_append_of_pos]
  ·have : ((l.take k).reverse.takeWhile λy=>decide (f x < f y)) = []:=by
    rcases Nat.eq_zero_or_pos k with h0 | h0
    ·subst h0;simp
    ·have hl : k - 1 < l.length:=by omega
     have e2 : l.take k = l.take (k - 1) ++ [l[k - 1]]:=by rw [List.take_append_getElem hl,Nat.sub_add_cancel h0]
     rw [e2,pP,if_neg (by simpa using h2 h0 hl)]
   rw [this,List.append_nil]
  ·intro y hy
   rw [List.mem_reverse] at hy;obtain ⟨j,hj,rfl⟩:=List.getElem_of_mem hy;rw [List.getElem_drop];rw [List.length_drop] at hj;exact decide_eq_true (h1 (k + j) (by omega) (by omega))
 unfold sO;rw [key,List.length_reverse,List.length_drop];omega
theorem kf (l : List Task) : ∀ i,(cC l i).length<=i
 | 0=>Nat.le_refl 0
 | i + 1 => by
   have:=kf l i;unfold cC
   split
   ·omega
   ·rw [qe];omega
theorem it {l : List Task} : ∀ {i k : Nat},k∈cC l i->k < i
 | 0,k,h=>by cases h
 | i + 1, k, h => by
   unfold cC at h
   split at h
   ·have:=it h;omega
   ·rcases qd h with rfl | h
    ·omega
    ·have:=it h;omega
noncomputable def bj : Hub->List Call->Hub × List Answer
 | h,[]=>(h,[])
 | h,c :: l=>((bj (fDo h c).1 l).1,(fDo h c).2 :: (bj (fDo h c).1 l).2)
theorem kK : ∀ (l : List Call) (h : Hub) (c : Call),bj h (l ++ [c]) = ((fDo (bj h l).1 c).1,(bj h l).2 ++ [(fDo (bj h l).1 c).2])
 | [],h,c=>rfl
 | a :: l, h, c => by
   simp only [List.cons_append,bj,kK l (fDo h a).1 c]
theorem ie : ∀ (l : List Call) (h : Hub),(bj h l).2.length = l.length
 | [],_=>rfl
 | a :: l,h=>by simp only [bj,List.length_cons,ie l]
theorem kL {B : Nat} (hB : 2 ^ 28<=B) : ∀ (l : List Call) (h : Hub),bq h<=B->bq (bj h l).1<=B/\∀ a∈(bj h l).2,bK a<=2 ^ 24
 | [],h,hl=>⟨hl,λa ha=>by cases ha⟩
 | c :: l, h, hl => by
   have h1:=Oh h c;have h2:=kL hB l (fDo h c).1 (by omega);refine ⟨h2.1,λa ha=>?_⟩;rcases List.mem_cons.1 ha with rfl | ha
   ·exact h1.2
   ·exact h2.2 a ha
def nR (k : Nat) : List CD:=[.v (.int .i64 (k : Int))]
@[simp] theorem Qm (k : Nat) : (nR k).length = 1:=rfl
def fL (x : Nat) (P : List Nat) (j : Nat) : List Nat:=P.take j ++ x :: P.drop j
theorem AU {x : Nat} {P : List Nat} {j : Nat} (h : j<=P.length) : (fL x P j).length = P.length + 1:=by
 unfold fL;simp only [List.length_append,List.length_take,List.length_cons,List.length_drop];omega
theorem AW {x : Nat} {P R : List Nat} {j : Nat} (h : j<=P.length) : (fL x P j ++ R)[j]? = some x:=by
 unfold fL;rw [List.append_assoc,List.getElem?_append_right (by rw [List.length_take];omega),List.length_take,Nat.min_eq_left h];simp
theorem AT {x : Nat} {P R : List Nat} {j : Nat} (h : j < P.length) : (fL x P (j + 1) ++ R)[j]? = some P[j]:=by
 unfold fL;rw [List.append_assoc,List.getElem?_append_left (by rw [List.length_take];omega),List.getElem?_take_of_lt (by omega),List.getElem?_eq_getElem h]
theorem AX (x : Nat) (P R : List Nat) : P ++ x :: R = fL x P P.length ++ R:=by unfold fL;simp
theorem yd {x : Nat} {P R : List Nat} {j : Nat} (h : j < P.length) : ((fL x P (j + 1) ++ R).set (j + 1) P[j]).set j x = fL x P j ++ R:=by
 have e1 : P.take (j + 1) = P.take j ++ [P[j]]:=by rw [List.take_append_getElem h]
 have e2 : P.drop j = P[j] :: P.drop (j + 1):=by rw [List.drop_eq_getElem_cons h]
 have hl : (P.take j).length = j:=by rw [List.length_take];omega
 unfold fL;rw [e1,e2];generalize P.take j = A at hl;generalize P[j] = y;generalize P.drop (j + 1) = B;subst hl;have f : ∀ (A C : List Nat) (a b : Nat) (i : Nat),(A ++ a :: C).set A.length b = A ++ b :: C:=λA C a b _=>by rw [List.set_append_right _ _ (Nat.le_refl _)];simp
 have s1 : (A ++ [y] ++ x :: B ++ R) = ((A ++ [y]) ++ x :: (B ++ R)):=by simp
 rw [s1];have s2:=f (A ++ [y]) (B ++ R) x y 0;rw [List.length_append,List.length_singleton] at s2;rw [s2];have s3 : (A ++ [y] ++ y :: (B ++ R)) = A ++ y :: (y :: (B ++ R)):=by simp
 rw [s3,f A _ y x 0];simp
def cV (f : Nat->Int) : List Nat->List Nat->List Nat
 | P,[]=>P
 | P,x :: O=>cV f (gz f x P) O
theorem kt (f : Nat->Int) (x : Nat) : ∀ (O P : List Nat),cV f P (O ++ [x]) = gz f x (cV f P O)
 | [],P=>rfl
 | y :: O,P=>by rw [List.cons_append,cV,cV,kt f x O]
theorem mn (f : Nat->Int) : ∀ (O P : List Nat),(cV f P O).length = P.length + O.length
 | [],P=>rfl
 | y :: O,P=>by rw [cV,mn f O,qe,List.length_cons];omega
def ed (l : List Task) : Nat->List Nat
 | 0=>[]
 | i + 1=>if gm l i = -1 then ed l i else ed l i ++ [i]
theorem qb (l : List Task) : ∀ i,(ed l i).length<=i
 | 0=>Nat.le_refl 0
 | i + 1 => by
   have:=qb l i;unfold ed
   split
   ·omega
   ·rw [List.length_append,List.length_singleton];omega
theorem mf {l : List Task} : ∀ {i k : Nat},k∈ed l i->k < i
 | 0,_,h=>by cases h
 | i + 1, k, h => by
   unfold ed at h
   split at h
   ·have:=mf h;omega
   ·rcases List.mem_append.1 h with h | h
    ·have:=mf h;omega
    ·simp at h;omega
theorem kg (l : List Task) : ∀ i,cC l i = cV (gm l) [] (ed l i)
 | 0=>rfl
 | i + 1 => by
   unfold cC ed
   split
   ·exact kg l i
   ·rw [kt,kg l i]
theorem qv {f : Nat->Int} {x : Nat} : ∀ {O P : List Nat},x∈cV f P O->x∈P\/x∈O
 | [],_,h=>.inl h
 | y :: O, P, h => by
   rcases qv (O:=O) h with h | h
   ·rcases qd h with h | h
    ·exact .inr (by rw [h];exact List.mem_cons_self ..)
    ·exact .inl h
   ·exact .inr (List.mem_cons_of_mem _ h)
theorem xJ (f : Nat->Int) (x : Nat) : gz f x [] = [x]:=by simp [gz,sO]
theorem sN {f : Nat->Int} {x : Nat} {P : List Nat} {j : Nat} (hj : j<=P.length) (h1 : ∀ k,j<=k->∀ h : k < P.length,f x < f P[k]) (h2 : ∀ _h : 0 < j,∀ h' : j - 1 < P.length,¬ f x < f P[j - 1]) : gz f x P = fL x P j:=by
 unfold gz fL;rw [xK P j hj h1 h2]
theorem yf (f : Nat->Int) (O : List Nat) : cV f [] (O.take 1) ++ O.drop 1 = O:=by
 cases O with
 | nil=>rfl
 | cons x O=>simp [cV,xJ]
theorem ye {f : Nat->Int} {O : List Nat} {m : Nat} (h : m < O.length) : cV f [] (O.take (m + 1)) = gz f O[m] (cV f [] (O.take m)):=by
 rw [<- List.take_append_getElem h,kt]
theorem Cc {a b : UInt8} : a < b ↔ a.toNat < b.toNat:=UInt8.lt_iff_toNat_lt
theorem tp : ∀ x : List UInt8,Go.Op.bytesLess x x = false
 | []=>rfl
 | a :: x => by
   have h : ¬ a < a:=by rw [Cc];omega
   rw [Go.Op.bytesLess,tp x];simp [h]
theorem wQ : ∀ x y z : List UInt8,Go.Op.bytesLess x y = true->Go.Op.bytesLess y z = true->Go.Op.bytesLess x z = true
 | [],[],_,h,_=>by simp [Go.Op.bytesLess] at h
 | _ :: _,[],_,h,_=>by simp [Go.Op.bytesLess] at h
 | _,_ :: _,[],_,h=>by simp [Go.Op.bytesLess] at h
 | [],_ :: _,_ :: _,_,_=>rfl
 | a :: x, b :: y, c :: z, h1, h2 => by
   rw [Go.Op.bytesLess] at h1 h2 ⊢;simp only [Bool.or_eq_true,Bool.and_eq_true,decide_eq_true_eq,beq_iff_eq] at h1 h2 ⊢;rcases h1 with h1 | ⟨rfl,h1⟩
   ·rcases h2 with h2 | ⟨rfl,h2⟩
    ·rw [Cc] at h1 h2 ⊢;exact .inl (by omega)
    ·exact .inl h1
   ·rcases h2 with h2 | ⟨rfl,h2⟩
    ·exact .inl h2
    ·exact .inr ⟨rfl,wQ x y z h1 h2⟩
theorem Fq : ∀ x y : List UInt8,Go.Op.bytesLess x y = true\/x = y\/Go.Op.bytesLess y x = true
 | [],[]=>.inr (.inl rfl)
 | [],_ :: _=>.inl rfl
 | _ :: _,[]=>.inr (.inr rfl)
 | a :: x, b :: y => by
   rw [Go.Op.bytesLess,Go.Op.bytesLess];simp only [Bool.or_eq_true,Bool.and_eq_true,decide_eq_true_eq,beq_iff_eq,List.cons.injEq];by_cases h1 : a < b
   ·exact .inl (.inl h1)
   ·by_cases h2 : a = b
    ·rcases Fq x y with h | h | h
     ·exact .inl (.inr ⟨h2,h⟩)
     ·exact .inr (.inl ⟨h2,h⟩)
     ·exact .inr (.inr (.inr ⟨h2.symm,h⟩))
    ·have h3 : b < a:=by
      rw [Cc] at h1 ⊢;have : a.toNat≠b.toNat:=λh=>h2 (UInt8.toNat_inj.1 h)
      omega
     exact .inr (.inr (.inl h3))
theorem Bz {a b : ByteArray} (h : a.toList = b.toList) : a = b:=by
 rw [ByteArray.toList_eq,ByteArray.toList_eq] at h;obtain ⟨⟨a⟩⟩:=a;obtain ⟨⟨b⟩⟩:=b;simp only at h;rw [h]
theorem xB (a : ByteArray) : ¬ sLt a a:=by unfold sLt;rw [tp];simp
theorem sG {a b c : ByteArray} (h1 : sLt a b) (h2 : sLt b c) : sLt a c:=wQ _ _ _ h1 h2
theorem Ge {a b : ByteArray} (h1 : ¬ sLt a b) (h2 : a≠b) : sLt b a:=by
 rcases Fq a.toList b.toList with h | h | h
 ·exact absurd h h1
 ·exact absurd (Bz h) h2
 ·exact h
def nj (a b : Doc) : Prop:=sLt a.name b.name
def Lg (l : List Doc) : Prop:=(∀ d∈l,aJ d)/\l.Pairwise nj
def Qb (docs : List Doc) (last : Int) (s : Sub) : Prop:=(1<=s.id/\s.id<=last)/\aP s.r/\∃ d∈docs,d.name = s.doc/\(s.r.out = false->s.r.next + s.r.list.length = ae d + 1)
def za (a b : Sub) : Prop:=a.id < b.id
theorem of {l : List Doc} (hp : l.Pairwise nj) {k : Nat} (hk : k < l.length) : aG l l[k].name = k:=
 lz hk rfl (λj hj hjl e=>by
  have h1 : nj l[j] l[k]:=List.pairwise_iff_getElem.1 hp j k hjl hk hj;unfold nj at h1;rw [show l[j].name = l[k].name from e] at h1;exact xB _ h1)
theorem zI {l : List Doc} (hp : l.Pairwise nj) {a b : Doc} (ha : a∈l) (hb : b∈l) (h : a.name = b.name) : a = b:=by
 obtain ⟨i,hi,rfl⟩:=List.getElem_of_mem ha;obtain ⟨j,hj,rfl⟩:=List.getElem_of_mem hb;have e1:=of hp hi;have e2:=of hp hj;rw [h,e2] at e1;have : i = j:=by omega
 subst this;rfl
theorem yG {l : List Doc} {name : ByteArray} : 0<=aG l name ↔ ∃ d∈l,d.name = name:=by
 constructor
 ·intro h
  rcases bR l name with ⟨k,hk,-,hn⟩ | e
  ·exact ⟨_,List.getElem_mem hk,hn⟩
  ·omega
 ·rintro ⟨d,hd,hn⟩
  rcases ic (λd : Doc=>d.name = name) l with ⟨k,hk,e,-⟩ | ⟨-,h⟩
  ·unfold aG;omega
  ·obtain ⟨i,hi,rfl⟩:=List.getElem_of_mem hd
   exact absurd hn (h i hi)
theorem gS {h : Hub} : ap h ↔ h.docs.length<=5/\h.subs.length<=6/\(0<=h.last/\h.last<=1000000000)/\Lg h.docs/\(∀ s∈h.subs,Qb h.docs h.last s)/\h.subs.Pairwise za:=by
 constructor
 ·rintro ⟨h1,h2,h3,h4,h5⟩
  refine ⟨h1,h2,h3,⟨λd hd=>?_,lj (R:=nj) (λ_ _ _=>sG) λi hi h0=>(h4 i hi).2 h0⟩,λs hs=>?_,lj (R:=za) (λ_ _ _=>Int.lt_trans) λi hi h0=>(h5 i hi).2.2.1 h0⟩
  ·obtain ⟨i,hi,rfl⟩:=List.getElem_of_mem hd
   exact (h4 i hi).1
  ·obtain ⟨i,hi,rfl⟩:=List.getElem_of_mem hs
   obtain ⟨g1,g2,-,k,hk,e,g3⟩:=h5 i hi;refine ⟨g1,g2,h.docs[k],List.getElem_mem hk,?_,g3⟩;rcases bR h.docs h.subs[i].doc with ⟨j,hj,e',hn⟩ | e'
   ·have : j = k:=by omega
    subst this;exact hn
   ·omega
 ·rintro ⟨h1,h2,h3,⟨h4,h5⟩,h6,h7⟩
  refine ⟨h1,h2,h3,λi hi=>⟨h4 _ (List.getElem_mem hi),λh0=>ou h5 i hi h0⟩,λi hi=>?_⟩;obtain ⟨g1,g2,d,hd,hn,g3⟩:=h6 _ (List.getElem_mem hi);obtain ⟨k,hk,rfl⟩:=List.getElem_of_mem hd;refine ⟨g1,g2,λh0=>ou h7 i hi h0,k,hk,?_,g3⟩;rw [<- hn];exact of h5 hk
theorem ii {d x : Doc} : ∀ {l : List Doc},x∈eL d l ↔ x = d\/x∈l
 | []=>by simp [eL]
 | y :: l => by
   unfold eL
   split
   ·rw [List.mem_cons,ii (l:=l),List.mem_cons]
    constructor
    ·rintro (h | h | h)
     ·exact .inr (.inl h)
     ·exact .inl h
     ·exact .inr (.inr h)
    ·rintro (h | h | h)
     ·exact .inr (.inl h)
     ·exact .inl h
     ·exact .inr (.inr h)
   ·rw [List.mem_cons]
theorem th {d : Doc} : ∀ {l : List Doc},l.Pairwise nj->(∀ x∈l,x.name≠d.name)->(eL d l).Pairwise nj
 | [],_,_=>by simp [eL]
 | y :: l, h, hn => by
   obtain ⟨h1,h2⟩:=List.pairwise_cons.1 h;unfold eL
   split
   ·rename_i hc
    refine List.pairwise_cons.2 ⟨λx hx=>?_,th h2 (λx hx=>hn x (List.mem_cons_of_mem _ hx))⟩;rcases ii.1 hx with rfl | hx
    ·exact hc
    ·exact h1 x hx
   ·rename_i hc
    have h3 : nj d y:=Ge hc (hn y (List.mem_cons_self ..));refine List.pairwise_cons.2 ⟨λx hx=>?_,h⟩;rcases List.mem_cons.1 hx with rfl | hx
    ·exact h3
    ·exact sG h3 (h1 x hx)
theorem qR (d : Doc) : ∀ l : List Doc,(eL d l).length = l.length + 1
 | []=>rfl
 | y :: l => by
   unfold eL
   split
   ·simp [qR d l]
   ·rfl
def gM (a b : List Doc) : Prop:=∀ name,(∃ d∈a,d.name = name)->∃ d∈b,d.name = name
theorem Gv {h : Hub} (c : ap h) {name : ByteArray} {t : List Int} (hd : aJ (cW name t)) (hi : ¬ 0<=aG h.docs name) (hl : ¬ h.docs.length = 5) : ap ⟨h.shut,eL (cW name t) h.docs,h.subs,h.last⟩:=by
 rw [gS] at c ⊢;obtain ⟨h1,h2,h3,⟨h4,h5⟩,h6,h7⟩:=c;have hn : ∀ x∈h.docs,x.name≠(cW name t).name:=λx hx e=>hi (yG.2 ⟨x,hx,e⟩)
 refine ⟨by rw [qR];omega,h2,h3,⟨λd hx=>?_,th h5 hn⟩,λs hs=>?_,h7⟩
 ·rcases ii.1 hx with rfl | hx
  ·exact hd
  ·exact h4 d hx
 ·obtain ⟨g1,g2,d,hx,g3⟩:=h6 s hs
  exact ⟨g1,g2,d,ii.2 (.inr hx),g3⟩
theorem vK {r : Ring} (h : aP r) {e : Entry} (he : bc e) : aP (bH r e)/\((bH r e).out = false->r.out = false/\(bH r e).next = r.next/\(bH r e).list.length = r.list.length + 1):=by
 by_cases c : r.out = false
 ·obtain ⟨g1,g2,g3,g4,g5⟩:=h
  by_cases f : (r.list.length : Int) = r.cap
  ·rw [ib ⟨⟨g1,g2,g3,g4,g5⟩,he,c⟩ f]
   exact ⟨⟨by simp,g2,g3,by simp only [List.length_nil];omega,by simp⟩,by simp⟩
  ·rw [ia ⟨⟨g1,g2,g3,g4,g5⟩,he,c⟩ f]
   refine ⟨⟨λx hx=>?_,g2,g3,by simp only [List.length_append,List.length_cons,List.length_nil];omega,by rw [c];simp⟩,λ_=>⟨c,rfl,by simp⟩⟩;rcases List.mem_append.1 hx with hx | hx
   ·exact g1 x hx
   ·simp at hx;subst hx;exact he
 ·rw [jD (λh=>c h.2.2)]
  exact ⟨h,λh=>absurd h c⟩
theorem Dt {α β : Type} {R : β->β->Prop} {f : α->β} {l : List α} {k : Nat} {x : α} (hk : k < l.length) (hf : f x = f l[k]) (h : l.Pairwise λa b=>R (f a) (f b)) : (l.set k x).Pairwise λa b=>R (f a) (f b):=by
 have h1 : (l.map f).Pairwise R:=List.pairwise_map.2 h
 have e : (l.set k x).map f = l.map f:=by
  rw [List.map_set,hf];refine List.ext_getElem (by simp) (λj h1 h2=>?_);rw [List.getElem_set]
  split
  ·rename_i e;subst e;simp
  ·rfl
 rw [<- e] at h1;exact List.pairwise_map.1 h1
theorem xT {α : Type} {l : List α} {k : Nat} {x y : α} (hk : k < l.length) (hy : y∈l) (hne : y≠l[k]) : y∈l.set k x:=by
 obtain ⟨j,hj,rfl⟩:=List.getElem_of_mem hy;have hjk : k≠j:=λe=>by subst e;exact hne rfl
 have : (l.set k x)[j]'(by simpa using hj) = l[j]:=by rw [List.getElem_set_ne hjk]
 rw [<- this];exact List.getElem_mem _
theorem qo {α : Type} {l : List α} {k : Nat} {x : α} (hk : k < l.length) : x∈l.set k x:=List.mem_set hk x
theorem Bu {h : Hub} (c : ap h) {name : ByteArray} {k : Nat} (hk : k < h.docs.length) (hn : h.docs[k].name = name) {D : Doc} (hD : aJ D) (hDn : D.name = h.docs[k].name)
 (hor : D = h.docs[k]\/∃ e,bc e/\ae D = ae h.docs[k] + 1/\D.list.getLast? = some e) : ap (bW h name k h.docs[k] D)/\gM h.docs (bW h name k h.docs[k] D).docs:=by
 rcases hor with rfl | ⟨e,he,hr,hg⟩
 ·have e1 : bW h name k h.docs[k] h.docs[k] = h:=by
   unfold bW;rw [if_neg (by omega),List.set_getElem_self]
  rw [e1];exact ⟨c,λ_ h=>h⟩
 ·have e1 : bW h name k h.docs[k] D = ⟨h.shut,h.docs.set k D,h.subs.map (cB name e),h.last⟩:=by
   unfold bW;rw [if_pos (by omega),hg]
  rw [e1];rw [gS] at c ⊢;obtain ⟨h1,h2,h3,⟨h4,h5⟩,h6,h7⟩:=c;have hkeep : ∀ d∈h.docs,d.name≠name->d∈h.docs.set k D:=λd hd hne=>xT hk hd (λe=>hne (by rw [e,hn]))
  refine ⟨⟨by simpa using h1,by simpa using h2,h3,⟨λd hd=>?_,Dt (f:=Doc.name) (R:=sLt) hk hDn h5⟩,λs hs=>?_,?_⟩,?_⟩
  ·rcases List.mem_or_eq_of_mem_set hd with hd | rfl
   ·exact h4 d hd
   ·exact hD
  ·rw [List.mem_map] at hs
   obtain ⟨s,hs,rfl⟩:=hs;obtain ⟨g1,g2,d,hd,hdn,g3⟩:=h6 s hs;unfold cB
   split
   ·rename_i hc
    have hu : d = h.docs[k]:=zI h5 hd (List.getElem_mem hk) (by rw [hdn,hc,hn]);subst hu;obtain ⟨p1,p2⟩:=vK g2 he;refine ⟨g1,p1,D,qo hk,by rw [hDn,hdn],λho=>?_⟩;obtain ⟨q1,q2,q3⟩:=p2 ho;have:=g3 q1;simp only at q2 q3 ⊢;omega
   ·rename_i hc
    exact ⟨g1,g2,d,hkeep d hd (λe=>hc (by rw [<- hdn,e])),hdn,g3⟩
  ·rw [List.pairwise_map]
   refine h7.imp ?_;intro a b hab;have ea : ∀ s : Sub,(cB name e s).id = s.id:=λs=>by unfold cB;split<;>rfl
   unfold za;rw [ea,ea];exact hab
  ·rintro nm ⟨d,hd,hdn⟩
   by_cases hc : d.name = name
   ·exact ⟨D,qo hk,by rw [hDn,hn,<- hc,hdn]⟩
   ·exact ⟨d,hkeep d hd hc,hdn⟩
theorem tL {h : Hub} (c : ap h) {room : Int} (hr : 1<=room/\room<=6) {k : Nat} (hk : k < h.docs.length) (hl : ¬ (h.subs.length = 6\/h.last = 1000000000)) :
 ap ⟨h.shut,h.docs,h.subs ++ [⟨h.last + 1,h.docs[k].name,(cK room (ae h.docs[k])).1⟩],h.last + 1⟩:=by
 have hh:=ba (dq c hk);have hring : aP (aQ room (ae h.docs[k])):=⟨by simp [aQ],hr,by simp only [aQ];omega,by simp only [aQ,List.length_nil];omega,by simp [aQ]⟩;rw [gN hring];rw [gS] at c ⊢;obtain ⟨h1,h2,h3,h4,h6,h7⟩:=c;refine ⟨h1,by simp only [List.length_append,List.length_cons,List.length_nil];omega,by simp only;omega,h4,λs hs=>?_,?_⟩
 ·rcases List.mem_append.1 hs with hs | hs
  ·obtain ⟨g1,g2⟩:=h6 s hs
   exact ⟨by simp only;omega,g2⟩
  ·simp at hs
   subst hs;exact ⟨by simp only;omega,hring,_,List.getElem_mem hk,rfl,λ_=>by simp [aQ]⟩
 ·rw [List.pairwise_append]
  refine ⟨h7,by simp,λa ha b hb=>?_⟩;simp at hb;subst hb;have:=(h6 a ha).1;unfold za;simp only;omega
theorem sx {h : Hub} (c : ap h) {k : Nat} (hk : k < h.subs.length) {r : Ring} (hr : aP r) (hd : ∀ d∈h.docs,d.name = h.subs[k].doc->(h.subs[k].r.out = false->h.subs[k].r.next + h.subs[k].r.list.length = ae d + 1)->r.out = false->r.next + r.list.length = ae d + 1) :
 ap ⟨h.shut,h.docs,h.subs.set k ⟨h.subs[k].id,h.subs[k].doc,r⟩,h.last⟩:=by
 rw [gS] at c ⊢;obtain ⟨h1,h2,h3,h4,h6,h7⟩:=c;refine ⟨h1,by simpa using h2,h3,h4,λs hs=>?_,Dt (f:=Sub.id) (R:=λa b : Int=>a < b) hk rfl h7⟩;rcases List.mem_or_eq_of_mem_set hs with hs | rfl
 ·exact h6 s hs
 ·obtain ⟨g1,g2,d,hx,hn,g3⟩:=h6 _ (List.getElem_mem hk)
  exact ⟨g1,hr,d,hx,hn,hd d hx hn g3⟩
theorem wC {h : Hub} {name : ByteArray} {t : List Int} (hz : (bp h name t).2 = 0) : ap (bp h name t).1/\gM h.docs (bp h name t).1.docs:=by
 unfold bp at hz ⊢
 split at hz
 ·rename_i c
  rw [if_pos c]
  split at hz
  ·simp at hz
  ·rename_i c1
   rw [if_neg c1]
   split at hz
   ·simp at hz
   ·rename_i c2
    rw [if_neg c2]
    split at hz
    ·simp at hz
    ·rename_i c3
     rw [if_neg c3];exact ⟨Gv c.1 c.2 c2 c3,λnm ⟨d,hd,e⟩=>⟨d,ii.2 (.inr hd),e⟩⟩
 ·simp at hz
theorem r7 {h : Hub} {name : ByteArray} {client seq base : Int} {o : List Part} (hz : (aL h name client seq base o).2.2 = 0) : ap (aL h name client seq base o).1/\gM h.docs (aL h name client seq base o).1.docs:=by
 by_cases c : ap h
 rotate_left
 ·rw [iT c] at hz;simp at hz
 by_cases s : h.shut = true
 ·rw [gB c s] at hz;simp at hz
 rcases bR h.docs name with ⟨k,hk,e,hn⟩ | e;rotate_left
 ·rw [gC c s e] at hz;simp at hz
 rw [iU c s hk e] at hz ⊢
 split at hz
 ·rename_i h0
  rw [if_pos h0];obtain ⟨d1,d2,d3⟩:=lX (dq c hk) h0;refine Bu c hk hn d1 d2 ?_;rcases d3 with d3 | ⟨e,he,-,-,d3,-⟩
  ·exact .inl d3
  ·rw [d3];exact .inr ⟨e,he,jG (dq c hk) e⟩
 ·rename_i h0;exact absurd hz h0
theorem oa {h : Hub} {name : ByteArray} {room : Int} (hz : (au h name room).2.2 = 0) : ap (au h name room).1/\gM h.docs (au h name room).1.docs:=by
 by_cases c : ap h/\(1<=room/\room<=6)
 rotate_left
 ·rw [dM c] at hz;simp at hz
 by_cases s : h.shut = true
 ·rw [e7 c s] at hz;simp at hz
 rcases bR h.docs name with ⟨k,hk,e,hn⟩ | e;rotate_left
 ·rw [e8 c s e] at hz;simp at hz
 rw [ga c s hk e] at hz ⊢
 split at hz
 ·simp at hz
 ·rename_i hl
  rw [if_neg hl];subst hn;exact ⟨tL c.1 c.2 hk hl,λ_ h=>h⟩
theorem wB {h : Hub} {id n : Int} (hz : (bo h id n).2.2 = 0) : ap (bo h id n).1/\gM h.docs (bo h id n).1.docs:=by
 by_cases c : ap h/\1<=n
 rotate_left
 ·rw [gq c] at hz;simp at hz
 rcases eE h.subs id with ⟨k,hk,e,-⟩ | e;rotate_left
 ·rw [iX c e] at hz;simp at hz
 rw [kJ c hk e] at hz ⊢
 split at hz
 ·rename_i h0
  rw [if_pos h0];refine ⟨?_,λ_ h=>h⟩;have hro:=(pB c.1 hk).1;obtain ⟨g1,g2,g3,g4,g5⟩:=hro;have hsub:=(gS.1 c.1).2.2.2.2.1 _ (List.getElem_mem hk);obtain ⟨-,-,d0,hd0,hn0,hnx⟩:=hsub;obtain ⟨i0,hi0,rfl⟩:=List.getElem_of_mem hd0;have hh:=ba (dq c.1 hi0)
  cases ho : h.subs[k].r.out with
  | true=>rw [iS ⟨⟨g1,g2,g3,g4,g5⟩,c.2⟩ ho] at h0;simp at h0
  | false=>
  rw [iR ⟨⟨g1,g2,g3,g4,g5⟩,c.2⟩ ho rfl];have hk1 : min n.toNat h.subs[k].r.list.length<=h.subs[k].r.list.length:=Nat.min_le_right _ _;have hnx:=hnx ho;generalize min n.toNat h.subs[k].r.list.length = m at hk1;refine sx c.1 hk ⟨λx hx=>g1 x (List.mem_of_mem_drop hx),g2,by simp only;omega,by simp only [List.length_drop];omega,by simp only;rw [ho];simp⟩ ?_;intro d hd hdn hnext _;have:=hnext ho;simp only [List.length_drop];omega
 ·rename_i h0;exact absurd hz h0
theorem r8 {h : Hub} {id : Int} (hz : (aI h id).2.2.2 = 0) : ap (aI h id).1/\gM h.docs (aI h id).1.docs:=by
 by_cases c : ap h
 rotate_left
 ·rw [iV c] at hz;simp at hz
 rcases eE h.subs id with ⟨k,hk,e,-⟩ | e;rotate_left
 ·rw [gD c e] at hz;simp at hz
 obtain ⟨hro,j,hj,ej⟩:=pB c hk;rw [iW c hk e hj ej];refine ⟨?_,λ_ h=>h⟩;have hh:=ba (dq c hj)
 have hjn : h.docs[j].name = h.subs[k].doc:=by
  rcases bR h.docs h.subs[k].doc with ⟨i,hi,e',hn⟩ | e'
  ·have : i = j:=by omega
   subst this;exact hn
  ·omega
 have hring : aP (aQ h.subs[k].r.cap (ae h.docs[j])):=⟨by simp [aQ],hro.2.1,by simp only [aQ];omega,by have:=hro.2.1;simp only [aQ,List.length_nil];omega,by simp [aQ]⟩;rw [gA hro,gN hring];refine sx c hk hring ?_;intro d hd hdn _ _;have:=zI (gS.1 c).2.2.2.1.2 hd (List.getElem_mem hj) (by rw [hdn,hjn]);subst this;simp [aQ]
theorem wA {h : Hub} (hz : (bM h).2 = 0) : ap (bM h).1/\gM h.docs (bM h).1.docs:=by
 unfold bM at hz ⊢
 split at hz
 ·rename_i c
  rw [if_pos c]
  split at hz
  ·simp at hz
  ·rename_i c1
   rw [if_neg c1];exact ⟨c,λ_ h=>h⟩
 ·simp at hz
theorem K9 {h : Hub} (c : ap h) (k : Call) : ap (fDo h k).1/\gM h.docs (fDo h k).1.docs:=by
 have same : ap h/\gM h.docs h.docs:=⟨c,λ_ h=>h⟩;unfold fDo
 split
 ·split
  ·split
   ·rename_i z;exact wC z
   ·exact same
  ·split
   ·split
    ·rename_i z;exact r7 z
    ·exact same
   ·split
    ·exact same
    ·split
     ·split
      ·rename_i z;exact oa z
      ·exact same
     ·split
      ·split
       ·rename_i z;exact wB z
       ·exact same
      ·split
       ·split
        ·rename_i z;exact r8 z
        ·exact same
       ·split
        ·rename_i z;exact wA z
        ·exact same
 ·exact same
inductive stepTo (w : Wld) : Wld->Prop
 | come {c : Call} (h : (Io w c).2 = true) : stepTo w (Io w c).1
 | pick {k : Int} (h : (Ih w k).2 = true) : stepTo w (Ih w k).1
 | serve {name : ByteArray} (h : (EL w name).2 = true) : stepTo w (EL w name).1
inductive Reach (h : Hub) : Nat->Wld->Prop
 | new {n : Int} (hn : (td h n).2 = true) : Reach h 0 (td h n).1
 | same {i : Nat} {w : Wld} (r : Reach h i w) : Reach h (i + 1) w
 | step {i : Nat} {w w' : Wld} (r : Reach h i w) (s : stepTo w w') : Reach h (i + 1) w'
def Ni : Task:=zo ⟨0,.empty,0,0,0,[],[]⟩ 0
def tAt (l : List Task) (k : Nat) : Task:=(l[k]?).getD Ni
def Ag (l : List Task) : List Task:=(cC l l.length).map (tAt l)
theorem J0 {l : List Task} {k : Nat} (hk : k < l.length) : tAt l k = l[k]:=by unfold tAt;rw [List.getElem?_eq_getElem hk];rfl
def oq (a b : Task) : Prop:=¬ a.rs = -1/\a.rs < b.inv
def pA (T : List Task) : Prop:=∀ i j,∀ hi : i < T.length,∀ hj : j < i,¬ oq T[i] (T[j]'(by omega))
def dJ (h : Hub) (w : Wld) : Prop:=(ap h/\bP w)/\pA (Ag w.tasks)/\bj h ((Ag w.tasks).map Task.c) = (w.h,(Ag w.tasks).map Task.a)
noncomputable def uG (h : Hub) (w : Wld) : Bool:=dc (dJ h w)
theorem Bg (h : Hub) (_ : h.fits) (_ : bq h<=2 ^ 20) (w : Wld) (_ : w.fits) (_ : cI w<=2 ^ 20) : True:=trivial
set_option maxHeartbeats 6400000
theorem z3 {E : Env} {all : List Oper} {st : ASt} {KV : AV->Prop} {dd : Option Nat} {op : Op} {ty : TypeId} {p : String} {af : Array Edge} {j : Nat} {b : Bool} : cA E all ⟨dd,op,ty,p,af,some (j,b)⟩ st KV = ra (fk all j) λs=>nn (aE st.t s) b (ph (eh E st op KV)) (ph (KV .un)):=by
 simp only [cA,ra,nn]
 cases fk all j<;>rfl
attribute [simp ↓] z3
def Bv (a b : Int) : Int:=if a < b then -1 else if b < a then 1 else 0
theorem E9 (a b : Int) : ac Tryz.prog 138 [.c (vi a),.c (vi b)] (.one (.c (vi (Bv a b)) 1)):=by
 refine pci ag Tryz.func138 (λw0 base=>?_);simp;refine inl ag Tryz.func236 20000 (λw1 F=>?_);simp;refine inl ag Tryz.func236 30000 (λw1 F=>?_);simp;by_cases h1 : a < b
 ·simp [h1,Bv]
 ·by_cases h2 : b < a
  ·simp [h1,h2,Bv]
  ·simp [h1,h2,Bv]
theorem rV (w : Wld) (_hl : cI w<=2 ^ 30) (h10 : w.tasks.length<=10) : ac Tryz.prog 48 [.agg w.row] (.one (.c (.s ((gp w).map al)) 1)):=by
 refine pci ag Tryz.func48 (λw0 base=>?_);simp [Wld.row];intro b1
 refine aj eok (λx : Nat × Hd=>x.1<=w.tasks.length) (λx=>⟨26,0,[(9,.v (.int .i64 x.1)),(8,.v (.int .i64 w.tasks.length)),(7,.ro (w.tasks.map Task.row)),(3,.sl 5000 x.2 1 0 (ed w.tasks x.1).length),(1,.p 16 b1 0)],
  [(16, .vars b1 39 [.v (.bool w.h.shut), .ro (w.h.docs.map Doc.row), .ro (w.h.subs.map Sub.row), .v (.int .i64 w.h.last), .ro (w.locks.map al), .ro (w.queues.map Queue.row), .ro (w.tasks.map Task.row), .v (.int .i64 w.step)]),
   (5000,.rows x.2 1 ((ed w.tasks x.1).map nR) true)]⟩) (λx=>w.tasks.length - x.1) (0,none) (by simp) (by simp [ed]) (λx hx=>Ent.refl ?_)
 obtain ⟨i,H⟩:=x;simp only at hx ⊢;have hol:=qb w.tasks i;have e1 : Go.IntKind.i64.wrap ((i : Int) + 1) = ((i + 1 : Nat) : Int):=ah (by omega);by_cases hlt : i < w.tasks.length
 ·obtain ⟨t,ht⟩ : ∃ t,w.tasks[i] = t:=⟨_,rfl⟩
  have hf : gm w.tasks i = t.lin:=by unfold gm;rw [List.getElem?_eq_getElem hlt,ht]
  simp [hlt,ht,Task.row];intro b5;by_cases c : t.lin = -1
  ·have ho : ed w.tasks (i + 1) = ed w.tasks i:=by rw [ed,hf,if_pos c]
   simp [c];refine Ent.refl ⟨i + 1,by omega,by omega,H,?_⟩;simp [ho,e1]
  ·have ho : ed w.tasks (i + 1) = ed w.tasks i ++ [i]:=by rw [ed,hf,if_neg c]
   simp [c];intro b19;refine ⟨by omega,λH2=>Ent.refl ⟨i + 1,by omega,by omega,H2,?_⟩⟩;simp [ho,e1,nR]
 have hie : i = w.tasks.length:=by omega
 subst hie;obtain ⟨O,hO⟩ : ∃ O,ed w.tasks w.tasks.length = O:=⟨_,rfl⟩;have hOm : ∀ x∈O,x < w.tasks.length:=λx hx=>mf (hO ▸ hx)
 have hfo : gp w = (cV (gm w.tasks) [] O).map λk : Nat=>(k : Int):=by unfold gp;rw [kg,hO]
 rw [hO] at hol ⊢;simp;refine inl ag Tryz.func136 20000 (λw1 F=>?_);simp;refine inl ag Tryz.func235 30000 (λw2 F2=>?_);simp;have h20 : ¬ (20 : Int)<=(O.length : Int):=by omega
 have h21 : ¬ (20 : Int) < (O.length : Int):=by omega
 refine aj eok (λ_ : Unit=>True) (λ_=>⟨63,30000,[(8,.v (.int .i64 20)),(7,.v (.int .i64 0)),(6,.v (.int .i64 20)),(0,.sl 5000 H 1 0 O.length),(1,.v (.int .i64 O.length)),(2,.clo 137 [.p 16 b1 0])],
  [(16, .vars b1 39 [.v (.bool w.h.shut), .ro (w.h.docs.map Doc.row), .ro (w.h.subs.map Sub.row), .v (.int .i64 w.h.last), .ro (w.locks.map al), .ro (w.queues.map Queue.row), .ro (w.tasks.map Task.row), .v (.int .i64 w.step)]),
   (5000,.rows H 1 (O.map nR) true)]⟩) (λ_=>0) () trivial (by simp) (λ_ _=>Ent.refl ?_)
 simp [h20];refine inl ag Tryz.func314 40000 (λw3 F3=>?_);simp;obtain ⟨f,hf⟩ : ∃ f,gm w.tasks = f:=⟨_,rfl⟩;rw [hf] at hfo;have hfl : ∀ k,∀ hk : k < w.tasks.length,w.tasks[k].lin = f k:=λk hk=>by rw [<- hf];unfold gm;rw [List.getElem?_eq_getElem hk]
 refine aj eok (λm : Nat=>1<=m/\m<=O.length + 1) (λm=>⟨53,40000,[(8,.v (.int .i64 m)),(0,.sl 5000 H 1 0 O.length),(1,.v (.int .i64 0)),(2,.v (.int .i64 O.length)),(3,.clo 137 [.p 16 b1 0])],
  [(16, .vars b1 39 [.v (.bool w.h.shut), .ro (w.h.docs.map Doc.row), .ro (w.h.subs.map Sub.row), .v (.int .i64 w.h.last), .ro (w.locks.map al), .ro (w.queues.map Queue.row), .ro (w.tasks.map Task.row), .v (.int .i64 w.step)]),
   (5000,.rows H 1 ((cV f [] (O.take m) ++ O.drop m).map nR) true)]⟩) (λm=>O.length + 1 - m) 1 (by omega) (by rw [yf];simp;exact Go.IntWalk.i64_in _ (by omega)) (λm hm=>Ent.refl ?_)
 by_cases hlt : m < O.length
 rotate_left
 ·have hd : cV f [] (O.take m) ++ O.drop m = cV f [] O:=by rw [List.take_of_length_le (by omega),List.drop_eq_nil_of_le (by omega),List.append_nil]
  have hln : (cV f [] O).length = O.length:=by rw [mn];simp
  have hnr : ((cV f [] O).map λk : Nat=>(k : Int)).map al = (cV f [] O).map nR:=by rw [List.map_map];rfl
  rw [hfo,hnr];simp only [hd];simp [hlt]
  refine aj eok (λ_ : Unit=>True) (λ_=>⟨63,30000,[(6,.v (.int .i64 20)),(0,.sl 5000 H 1 0 O.length),(1,.v (.int .i64 O.length)),(2,.clo 137 [.p 16 b1 0])],
   [(16, .vars b1 39 [.v (.bool w.h.shut), .ro (w.h.docs.map Doc.row), .ro (w.h.subs.map Sub.row), .v (.int .i64 w.h.last), .ro (w.locks.map al), .ro (w.queues.map Queue.row), .ro (w.tasks.map Task.row), .v (.int .i64 w.step)]),
    (5000,.rows H 1 ((cV f [] O).map nR) true)]⟩) (λ_=>0) () trivial (by simp) (λ_ _=>Ent.refl ?_)
  simp [h21,hln]
 obtain ⟨P,hP⟩ : ∃ P,cV f [] (O.take m) = P:=⟨_,rfl⟩;obtain ⟨x,hx⟩ : ∃ x,O[m] = x:=⟨_,rfl⟩;obtain ⟨R,hR⟩ : ∃ R,O.drop (m + 1) = R:=⟨_,rfl⟩;have hPl : P.length = m:=by rw [<- hP,mn,List.length_take];simp;omega
 have hRl : R.length = O.length - (m + 1):=by rw [<- hR,List.length_drop]
 have hst : cV f [] (O.take m) ++ O.drop m = fL x P m ++ R:=by
  rw [hP,List.drop_eq_getElem_cons hlt,hx,hR];have:=AX x P R;rw [hPl] at this;exact this
 have hPm : ∀ k,∀ h : k < P.length,P[k] < w.tasks.length:=λk h=>by
  have h1:=List.getElem_mem h;generalize P[k] = y at h1;rw [<- hP] at h1;rcases qv h1 with h2 | h2
  ·cases h2
  ·exact hOm y (List.mem_of_mem_take h2)
 have hxm : x < w.tasks.length:=hOm x (hx ▸ List.getElem_mem hlt);simp only [hst];simp [hlt]
 refine aj eok (λj : Nat=>j<=m/\∀ k,j<=k->∀ h : k < P.length,f x < f P[k]) (λj=>⟨53,40000,[(9,.v (.int .i64 j)),(8,.v (.int .i64 m)),(0,.sl 5000 H 1 0 O.length),(1,.v (.int .i64 0)),(2,.v (.int .i64 O.length)),(3,.clo 137 [.p 16 b1 0])],
  [(16, .vars b1 39 [.v (.bool w.h.shut), .ro (w.h.docs.map Doc.row), .ro (w.h.subs.map Sub.row), .v (.int .i64 w.h.last), .ro (w.locks.map al), .ro (w.queues.map Queue.row), .ro (w.tasks.map Task.row), .v (.int .i64 w.step)]),
   (5000,.rows H 1 ((fL x P j ++ R).map nR) true)]⟩) (λj=>j) m ⟨Nat.le_refl _,λk h1 h2=>by omega⟩ (by simp) (λj hj=>Ent.refl ?_)
 obtain ⟨hj1,hj2⟩:=hj;have hSl : (fL x P j ++ R).length = O.length:=by rw [List.length_append,AU (by omega)];omega
 have hend : (∀ h : 0 < j,∀ h' : j - 1 < P.length,¬ f x < f P[j - 1])->fL x P j ++ R = cV f [] (O.take (m + 1)) ++ O.drop (m + 1):=λh=>by
  rw [ye hlt,hP,hx,hR,sN (by omega) hj2 h]
 rcases j with _ | j
 ·have he:=hend (λh=>by omega)
  refine aD.quiet eok mix (by kernel_rfl) ?_;simp only [he];simp;refine Ent.refl ⟨m + 1,by omega,by omega,?_⟩;simp;exact ah (by omega)
 have hjP : j < P.length:=by omega
 have hb:=hPm j hjP;obtain ⟨S,hS⟩ : ∃ S,fL x P (j + 1) ++ R = S:=⟨_,rfl⟩;rw [hS] at hSl hend
 have g1 : S[j + 1]'(by omega) = x:=by
  have:=AW (x:=x) (P:=P) (R:=R) (j:=j + 1) (by omega);rw [hS,List.getElem?_eq_getElem (by omega)] at this
  injection this
 have g2 : S[j]'(by omega) = P[j]:=by
  have:=AT (x:=x) (P:=P) (R:=R) hjP;rw [hS,List.getElem?_eq_getElem (by omega)] at this
  injection this
 have g3:=yd (x:=x) (R:=R) hjP;rw [hS] at g3;rw [hS];obtain ⟨y,hy⟩ : ∃ y,P[j] = y:=⟨_,rfl⟩;rw [hy] at g2 g3 hb;have k1 : j + 1 < O.length:=by omega
 have k2 : j < O.length:=by omega
 have k3 : (0 : Int)<=(j : Int) + 1:=by omega
 have k4 : (j : Int) + 1 < (O.length : Int):=by omega
 have k5 : (0 : Int) < (j : Int) + 1:=by omega
 have wj:=Go.IntWalk.i64_in (((j : Int) + 1) - 1) (by omega);have wj2 : Go.IntKind.i64.wrap (j : Int) = j:=Go.IntWalk.i64_in _ (by omega)
 have hcm : dc (Bv (f x) (f y) < 0) = dc (f x < f y):=by
  unfold Bv;by_cases h1 : f x < f y
  ·simp [h1]
  ·by_cases h2 : f y < f x<;>simp [h1,h2]
 obtain ⟨tx,htx⟩ : ∃ t,w.tasks[x] = t:=⟨_,rfl⟩;obtain ⟨ty,hty⟩ : ∃ t,w.tasks[y] = t:=⟨_,rfl⟩;have hfx : tx.lin = f x:=htx ▸ hfl x hxm;have hfy : ty.lin = f y:=hty ▸ hfl y hb;refine drw eok mix [0,1,2,3,4,5,6,7,8,9,10,11,12,13] [14,15,16] (.c 14 14 1569 14814 (.c 14 15 0 14814 (.c 14 16 0 14814 (.l 14 14814) .s) .s) .s) ?_;simp [hSl,g1,g2,k1,k2,k3,k4,k5,wj2,nR]
 try intros
 refine inl ag Tryz.func137 60000 (λw4 F4=>?_);simp;refine aD.quiet eok mix (by kernel_rfl) ?_;simp [hxm,hb,htx,hty,Task.row,hfx,hfy];refine ⟨_,_,E9 (f x) (f y),by simp,?_⟩;simp [k2,k3,k4,k5,wj2]
 try intros
 rw [hcm];by_cases lt : f x < f y
 ·simp [lt]
  refine drw eok mix [0,1,2,3,4,5,6,7,8,9,10,11,12,13,14,16] [15,17] (.c 16 15 51142 14393 (.c 16 17 14393 0 (.l 16 0) .s) .s) ?_;simp [hSl,g1,g2,k1,k2,k3,k4,wj2,nR]
  try intros
  have g4 : ((S.map nR).set (j + 1) [.v (.int .i64 (y : Int))]).set j [.v (.int .i64 (x : Int))] = (fL x P j).map nR ++ R.map nR:=by
   have:=congrArg (List.map nR) g3;rw [List.map_set,List.map_set,List.map_append] at this;exact this
  refine Ent.refl ⟨j,⟨by omega,λk h1 h2=>?_⟩,by omega,?_⟩
  ·by_cases hk : k = j
   ·subst hk;rw [hy];exact lt
   ·exact hj2 k (by omega) h2
  ·simp [g4]
 ·have he:=hend (λ_ h'=>by simp only [Nat.add_sub_cancel,hy];exact lt)
  simp [ab lt,he];refine Ent.refl ⟨m + 1,by omega,by omega,?_⟩;simp;exact ah (by omega)
end Go.Proofs.YtoldjebobgocpaaGreat
