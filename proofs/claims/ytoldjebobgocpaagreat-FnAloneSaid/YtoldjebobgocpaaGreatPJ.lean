import Derived.Test.YtoldjebobgocpaaGreatPH
import Derived.Test.YtoldjebobgocpaaGreatPI
import Derived.Test.YtoldjebobgocpaaGreatPF
import Derived.Test.YtoldjebobgocpaaGreatNA
import Derived.Test.YtoldjebobgocpaaGreatPG
namespace Go.Proofs.YtoldjebobgocpaaGreat
open Go.AM
set_option maxRecDepth 20000
set_option maxHeartbeats 6400000
theorem s7 (c : Call) (hl : dy c<=2 ^ 30) : ai Tryz.prog 115 [.agg c.row] (.one (.agg c.res)):=by
 refine pci ae Tryz.func115 (λw0 base=>?_);unfold dy at hl;simp [Call.row];intro b1 b2;refine aa.pure (s6 c.o (by omega)) (by simp) ?_;simp;intro H1;refine aa.pure (fj c.text (by omega)) (by simp) ?_;simp [Call.res]
theorem wW (a : Answer) (hl : dD a<=2 ^ 30) : ai Tryz.prog 272 [.agg a.row] (.one (.agg a.res)):=by
 refine pci ae Tryz.func272 (λw0 base=>?_);unfold dD at hl;simp [Answer.row];intro b1 b2;refine aa.pure (fj a.text (by omega)) (by simp) ?_;simp;intro H1;refine aa.pure (fM a.list (by omega)) (by simp) ?_;simp [Answer.res]
theorem za (l : List Task) (hl : nL eL l<=2 ^ 30) : ai Tryz.prog 173 [.c (.s (l.map Task.row))] (.one (.c (.s (l.map Task.row)) 15)):=by
 refine pci ae Tryz.func173 (λw0 base=>?_);have hle:=aK hl;simp;refine ah eok (λx : Nat × Hd=>x.1<=l.length) (λx=>⟨26,0,[(8,.v (.int .i64 x.1)),(7,.v (.int .i64 l.length)),(6,.ro (l.map Task.row)),(3,.sl 5000 x.2 15 0 x.1)],[(5000,.rows x.2 15 ((l.take x.1).map Task.row) true)]⟩) (λx=>l.length - x.1) (0,none) (by simp) (by simp) (λx hx=>Ent.refl ?_);obtain ⟨i,H⟩:=x;simp only at hx ⊢;by_cases hlt : i < l.length
 ·obtain ⟨n1,n2⟩:=r7 (el hl hlt)
  simp [hlt,Task.row];intro b5;refine aa.pure (s7 l[i].c n1) (by simp [Call.row]) ?_;simp [Call.res];intro H1 H2;refine aa.pure (wW l[i].a n2) (by simp [Answer.row]) ?_;simp [Answer.res];intro H3 H4;have e1 : min i l.length = i:=by omega
  simp [e1];intro b6;refine ⟨by omega,λH2=>Ent.refl ⟨i + 1,by omega,by omega,H2,?_⟩⟩;simp;exact ⟨ag (by omega),dt (f:=Task.row) hlt⟩
 ·have e : l.length = i:=by omega
  simp [hlt];rw [List.take_of_length_le (by simp;omega)];simp [cut,e]
theorem jN (w : Wld) (hl : fZ w<=2 ^ 30) : ai Tryz.prog 76 [.agg w.row] (.one (.agg w.res)):=by
 refine pci ae Tryz.func76 (λw0 base=>?_);obtain ⟨nh,n2,n3,n4⟩:=cB hl;obtain ⟨hh,lk,qs,tasks,step⟩:=w;have hle:=aK n4;have hlq:=aK n3;simp only at hle hlq n2 n3 n4 nh;simp [Wld.row];intro b1 b2;refine gb (λx : Hd × Hd × Hd × Hd × Nat=>[(3,.p 48 x.2.2.2.2 0)]) (λx=>[(48,.vars x.2.2.2.2 39 [.v (.bool hh.shut),.sl 129 x.1 5 0 hh.docs.length,.sl 130 x.2.1 6 0 hh.subs.length,.v (.int .i64 hh.last),.sl 176 x.2.2.1 1 0 lk.length,.nil,.sl 224 x.2.2.2.1 15 0 tasks.length,.v (.int .i64 step)]),(129,.rows x.1 5 (hh.docs.map Doc.row) true),(130,.rows x.2.1 6 (hh.subs.map Sub.row) true),(176,.rows x.2.2.1 1 (lk.map ao) true),(224,.rows x.2.2.2.1 15 (tasks.map Task.row) true)]) [1,2] ?_ ?_
 ·refine drw eok mix [0,1,3,4,6,7,9,10] [2,5,8,11,12,13] (.c 8 2 64 191 (.c 8 5 16 175 (.c 8 8 4 171 (.c 8 11 1 170 (.c 8 12 0 170 (.c 8 13 170 0 (.l 8 0) .s) .s) (.c 8 12 0 171 (.c 8 11 1 170 (.c 8 13 170 0 (.l 8 0) .s) .s) .s)) (.c 8 12 0 175 (.c 8 8 4 171 (.c 8 11 1 170 (.c 8 13 170 0 (.l 8 0) .s) .s) .s) .s)) (.c 8 12 0 191 (.c 8 5 16 175 (.c 8 8 4 171 (.c 8 11 1 170 (.c 8 13 170 0 (.l 8 0) .s) .s) .s) .s) .s)) (.c 8 12 0 255 (.c 8 2 64 191 (.c 8 5 16 175 (.c 8 8 4 171 (.c 8 11 1 170 (.c 8 13 170 0 (.l 8 0) .s) .s) .s) .s) .s) .s)) ?_
  simp
  try intros
  repeat' first
   | (refine aa.pure (bD hh nh) (by simp [Hub.row]) ?_;simp [Hub.res];try intros)
   | (refine aa.pure (fj lk (by omega)) (by simp) ?_;simp;try intros)
   | (refine aa.pure (za tasks n4) (by simp) ?_;simp;try intros)
   | (rw [Trc];refine ⟨?_,?_⟩<;>(try simp)<;>try intros)
 rintro ⟨H1,H2,H3,H4,b3⟩
 simp
 refine ah eok (λx : Nat × Hd=>x.1<=qs.length) (λx=>⟨38,0,[(21,.v (.int .i64 x.1)),(20,.v (.int .i64 qs.length)),(19,.ro (qs.map Queue.row)),(3,.p 48 b3 0),(2,.p 32 b2 0)],
  [(48, .vars b3 39 [.v (.bool hh.shut), .sl 129 H1 5 0 hh.docs.length, .sl 130 H2 6 0 hh.subs.length, .v (.int .i64 hh.last), .sl 176 H3 1 0 lk.length, .sl 5000 x.2 2 0 x.1, .sl 224 H4 15 0 tasks.length, .v (.int .i64 step)]),
   (32,.vars b2 39 [.v (.bool false),.nil,.nil,.v (.int .i64 0),.nil,.nil,.nil,.v (.int .i64 0)]),
   (129,.rows H1 5 (hh.docs.map Doc.row) true),(130,.rows H2 6 (hh.subs.map Sub.row) true),(176,.rows H3 1 (lk.map ao) true),(224,.rows H4 15 (tasks.map Task.row) true),(5000,.rows x.2 2 ((qs.take x.1).map Queue.row) true)]⟩) (λx=>qs.length - x.1) (0,none) (by simp) (by simp) (λx hi=>Ent.refl ?_)
 obtain ⟨i,H⟩:=x;simp only at hi ⊢;by_cases hlt : i < qs.length
 ·have hm:=el n3 hlt
  unfold dk at hm;have e1 : min i qs.length = i:=by omega
  simp [hlt,Queue.row];intro b5;refine drw eok mix [0,1,2,3,4,5,10] [6,7,8,9,11] (.c 7 6 2 125 (.c 7 7 8 117 (.c 7 8 0 117 (.c 7 9 32 85 (.c 7 11 85 0 (.l 7 0) .s) .s) .s) .s) .s) ?_;simp
  try intros
  refine aa.pure (fj qs[i].list (by omega)) (by simp) ?_;simp
  try intros
  simp [e1];refine ⟨by omega,λH'=>Ent.refl ⟨i + 1,by omega,by omega,H',?_⟩⟩;simp;exact ⟨ag (by omega),dt (f:=Queue.row) hlt⟩
 have hm : i = qs.length:=by omega
 subst hm;simp [Wld.res]
noncomputable def aN (name : ByteArray) : List Queue->Nat
 | []=>0
 | x :: l=>open Classical in if sLt x.doc name then aN name l + 1 else 0
theorem nF (name : ByteArray) : ∀ l : List Queue,aN name l<=l.length
 | []=>by simp [aN]
 | x :: l => by
   unfold aN
   split
   ·have:=nF name l;simp;omega
   ·omega
theorem jX {name : ByteArray} : ∀ {l : List Queue} {k : Nat},k<=aN name l->∀ hk : k < l.length,sLt l[k].doc name ↔ k < aN name l
 | x :: l, 0, _, _ => by
   unfold aN
   split
   ·rename_i h;simpa using h
   ·rename_i h;simpa using h
 | x :: l, k + 1, h, hk => by
   unfold aN at h ⊢
   split at h
   ·rename_i hx
    rw [if_pos hx];have:=jX (name:=name) (l:=l) (k:=k) (by omega) (by simpa using hk);simp only [List.getElem_cons_succ];rw [this];omega
   ·omega
theorem cz (l : List Queue) (name : ByteArray) : (∃ k : Nat,∃ h : k < l.length,bK l name = k/\l[k].doc = name)\/bK l name = -1:=by
 rcases eF (λq : Queue=>q.doc = name) l with ⟨k,h,e,hp,-⟩ | ⟨e,-⟩
 ·exact .inl ⟨k,h,e,hp⟩
 ·exact .inr e
noncomputable def jL (w : Wld) (k : Nat) (t : Task) : Wld:=⟨(fDo w.h t.c).1,w.locks,w.queues,w.tasks.set k ⟨t.c,3,t.inv,w.step,t.rs,(fDo w.h t.c).2⟩,w.step⟩
noncomputable def GA (w : Wld) (k : Nat) (t : Task) : Wld:=⟨w.h,w.locks,
 (match w.queues[(bK w.queues t.c.doc).toNat]? with
  | some q=>if 0<=bK w.queues t.c.doc then w.queues.set (bK w.queues t.c.doc).toNat ⟨q.doc,q.list ++ [(k : Int)]⟩ else w.queues.take (aN t.c.doc w.queues) ++ ⟨t.c.doc,[(k : Int)]⟩ :: w.queues.drop (aN t.c.doc w.queues)
  | none=>w.queues.take (aN t.c.doc w.queues) ++ ⟨t.c.doc,[(k : Int)]⟩ :: w.queues.drop (aN t.c.doc w.queues)),
 w.tasks.set k ⟨t.c,2,t.inv,t.lin,t.rs,t.a⟩,w.step⟩
def PC (w : Wld) (name : ByteArray) : Prop:=∃ i : Nat,∃ h : i < w.queues.length,bK w.queues name = i/\w.queues[i].list.length = 2
open Classical in
noncomputable def ie (w : Wld) (k : Nat) (t : Task) : Wld:=
 if t.c.kind≠2\/w.h.shut = true\/az w.h.docs t.c.doc < 0 then jL ⟨w.h,w.locks.set (bc t.c.doc w.locks.length) (-1),w.queues,w.tasks,w.step⟩ k t
 else if PC w t.c.doc then ⟨w.h,w.locks.set (bc t.c.doc w.locks.length) (-1),w.queues,w.tasks.set k ⟨t.c,3,t.inv,t.lin,t.rs,⟨11,0,[],[]⟩⟩,w.step⟩
 else GA ⟨w.h,w.locks.set (bc t.c.doc w.locks.length) (-1),w.queues,w.tasks,w.step⟩ k t
def bQ (w : Wld) (n : Int) : Wld:=⟨w.h,w.locks,w.queues,w.tasks,n⟩
open Classical in
noncomputable def gI (w : Wld) (k : Nat) (t : Task) : Wld × Bool:=
 if t.pc = 0 then
  (if aM t.c.kind then
   (if w.locks[bc t.c.doc w.locks.length]? = some (-1) then (⟨w.h,w.locks.set (bc t.c.doc w.locks.length) (k : Int),w.queues,w.tasks.set k ⟨t.c,1,t.inv,t.lin,t.rs,t.a⟩,w.step + 1⟩,true) else (Wld.zero,false))
   else (bQ (jL w k t) (w.step + 1),true))
 else if t.pc = 1 then (bQ (ie w k t) (w.step + 1),true)
 else if t.pc = 3 then (⟨w.h,w.locks,w.queues,w.tasks.set k ⟨t.c,4,t.inv,t.lin,w.step,t.a⟩,w.step + 1⟩,true)
 else (Wld.zero,false)
open Classical in
noncomputable def d5 (w : Wld) (k : Int) : Wld × Bool:=
 if ar w/\¬ w.step = 1000000/\0<=k then (match w.tasks[k.toNat]? with | some t=>gI w k.toNat t | none=>(Wld.zero,false)) else (Wld.zero,false)
theorem ix {w : Wld} {k : Int} (h : ¬ (ar w/\¬ w.step = 1000000/\(0<=k/\k<=(w.tasks.length : Int) - 1))) : d5 w k = (Wld.zero,false):=by
 unfold d5
 split
 ·rename_i h1
  have hb : ¬ (0<=k/\k<=(w.tasks.length : Int) - 1):=λhb=>h ⟨h1.1,h1.2.1,hb⟩
  have h2:=h1.2.2;have : w.tasks[k.toNat]? = none:=by rw [List.getElem?_eq_none_iff];omega
  rw [this]
 ·rfl
theorem jp {w : Wld} {k : Nat} (h : ar w) (hs : ¬ w.step = 1000000) (hk : k < w.tasks.length) : d5 w k = gI w k w.tasks[k]:=by
 unfold d5;rw [if_pos ⟨h,hs,by omega⟩];simp [hk]
theorem fg {w : Wld} {k : Nat} {t : Task} (h0 : t.pc = 0) (h1 : aM t.c.kind) (h2 : w.locks[bc t.c.doc w.locks.length]? = some (-1)) :
 gI w k t = (⟨w.h,w.locks.set (bc t.c.doc w.locks.length) (k : Int),w.queues,w.tasks.set k ⟨t.c,1,t.inv,t.lin,t.rs,t.a⟩,w.step + 1⟩,true):=by unfold gI;rw [if_pos h0,if_pos h1,if_pos h2]
theorem iy {w : Wld} {k : Nat} {t : Task} (h0 : t.pc = 0) (h1 : aM t.c.kind) (h2 : ¬ w.locks[bc t.c.doc w.locks.length]? = some (-1)) : gI w k t = (Wld.zero,false):=by unfold gI;rw [if_pos h0,if_pos h1,if_neg h2]
theorem fh {w : Wld} {k : Nat} {t : Task} (h0 : t.pc = 0) (h1 : ¬ aM t.c.kind) : gI w k t = (bQ (jL w k t) (w.step + 1),true):=by unfold gI;rw [if_pos h0,if_neg h1]
theorem d4 {w : Wld} {k : Nat} {t : Task} (h0 : t.pc = 1) : gI w k t = (bQ (ie w k t) (w.step + 1),true):=by unfold gI;rw [if_neg (by omega),if_pos h0]
theorem ff {w : Wld} {k : Nat} {t : Task} (h0 : t.pc = 3) : gI w k t = (⟨w.h,w.locks,w.queues,w.tasks.set k ⟨t.c,4,t.inv,t.lin,w.step,t.a⟩,w.step + 1⟩,true):=by unfold gI;rw [if_neg (by omega),if_neg (by omega),if_pos h0]
theorem iz {w : Wld} {k : Nat} {t : Task} (h0 : ¬ t.pc = 0) (h1 : ¬ t.pc = 1) (h3 : ¬ t.pc = 3) : gI w k t = (Wld.zero,false):=by unfold gI;rw [if_neg h0,if_neg h1,if_neg h3]
theorem gJ {w : Wld} {k : Nat} {t : Task} (q : ¬ t.c.kind = 2\/w.h.shut = true\/az w.h.docs t.c.doc < 0) : ie w k t = jL ⟨w.h,w.locks.set (bc t.c.doc w.locks.length) (-1),w.queues,w.tasks,w.step⟩ k t:=by unfold ie;rw [if_pos q]
theorem iU {w : Wld} {k : Nat} {t : Task} (q : ¬ (¬ t.c.kind = 2\/w.h.shut = true\/az w.h.docs t.c.doc < 0)) {i : Nat} (hi : i < w.queues.length) (e : bK w.queues t.c.doc = i) (f : w.queues[i].list.length = 2) :
 ie w k t = ⟨w.h,w.locks.set (bc t.c.doc w.locks.length) (-1),w.queues,w.tasks.set k ⟨t.c,3,t.inv,t.lin,t.rs,⟨11,0,[],[]⟩⟩,w.step⟩:=by unfold ie;rw [if_neg q,if_pos ⟨i,hi,e,f⟩]
theorem iT {w : Wld} {k : Nat} {t : Task} (q : ¬ (¬ t.c.kind = 2\/w.h.shut = true\/az w.h.docs t.c.doc < 0)) {i : Nat} (hi : i < w.queues.length) (e : bK w.queues t.c.doc = i) (f : ¬ w.queues[i].list.length = 2) :
 ie w k t = ⟨w.h,w.locks.set (bc t.c.doc w.locks.length) (-1),w.queues.set i ⟨w.queues[i].doc,w.queues[i].list ++ [(k : Int)]⟩,w.tasks.set k ⟨t.c,2,t.inv,t.lin,t.rs,t.a⟩,w.step⟩:=by
 unfold ie;rw [if_neg q,if_neg]
 ·unfold GA
  simp [e,hi]
 ·rintro ⟨j,hj,e',f'⟩
  have : j = i:=by omega
  subst this;exact f f'
theorem iA {w : Wld} {k : Nat} {t : Task} (q : ¬ (¬ t.c.kind = 2\/w.h.shut = true\/az w.h.docs t.c.doc < 0)) (e : bK w.queues t.c.doc = -1) :
 ie w k t = ⟨w.h,w.locks.set (bc t.c.doc w.locks.length) (-1),w.queues.take (aN t.c.doc w.queues) ++ ⟨t.c.doc,[(k : Int)]⟩ :: w.queues.drop (aN t.c.doc w.queues),w.tasks.set k ⟨t.c,2,t.inv,t.lin,t.rs,t.a⟩,w.step⟩:=by
 unfold ie;rw [if_neg q,if_neg]
 ·unfold GA
  simp only [e]
  split
  ·rw [if_neg (by omega)]
  ·rfl
 ·rintro ⟨j,hj,e',f'⟩
  omega
def eo (w : Wld) (t : Task) : Prop:=(t.pc = 0/\aM t.c.kind->w.locks[bc t.c.doc w.locks.length]? = some (-1))/\¬ t.pc = 2/\¬ t.pc = 4
theorem f3 {w : Wld} {k : Nat} (h : ar w) (hs : ¬ w.step = 1000000) (hk : k < w.tasks.length) : (d5 w k).2 = true ↔ eo w w.tasks[k]:=by
 rw [jp h hs hk];have hp:=(h.1 _ (List.getElem_mem hk)).2.2.1;generalize w.tasks[k] = t at hp;unfold eo;by_cases c0 : t.pc = 0
 ·by_cases c1 : aM t.c.kind
  ·by_cases c2 : w.locks[bc t.c.doc w.locks.length]? = some (-1)
   ·rw [fg c0 c1 c2];simp [c0,c2]
   ·rw [iy c0 c1 c2];simp [c0,c1,c2]
  ·rw [fh c0 c1];simp [c0,c1]
 ·by_cases c1 : t.pc = 1
  ·rw [d4 c1];simp [c1]
  ·by_cases c3 : t.pc = 3
   ·rw [ff c3];simp [c3]
   ·rw [iz c0 c1 c3]
    have : t.pc = 2\/t.pc = 4:=by omega
    rcases this with e | e<;>simp [e]
open Classical in
noncomputable def dF (w : Wld) (i : Nat) : List Int:=((List.range i).filter λk : Nat=>decide (∃ h : k < w.tasks.length,eo w w.tasks[k])).map (λk : Nat=>(k : Int))
open Classical in
noncomputable def bZ (w : Wld) : List Int:=if ar w/\¬ w.step = 1000000 then dF w w.tasks.length else []
theorem m8 {w : Wld} (h : ar w/\¬ w.step = 1000000) : bZ w = dF w w.tasks.length:=by unfold bZ;rw [if_pos h]
theorem pg {w : Wld} (h : ¬ (ar w/\¬ w.step = 1000000)) : bZ w = []:=by unfold bZ;rw [if_neg h]
theorem xb (w : Wld) : dF w 0 = []:=by simp [dF]
theorem zf {w : Wld} {i : Nat} (h : i < w.tasks.length) (ha : eo w w.tasks[i]) : dF w (i + 1) = dF w i ++ [(i : Int)]:=by
 classical
 unfold dF;rw [List.range_succ,List.filter_append,List.map_append];have : decide (∃ h : i < w.tasks.length,eo w w.tasks[i]) = true:=decide_eq_true ⟨h,ha⟩;simp [this]
theorem Ba {w : Wld} {i : Nat} (h : i < w.tasks.length) (ha : ¬ eo w w.tasks[i]) : dF w (i + 1) = dF w i:=by
 classical
 unfold dF;rw [List.range_succ,List.filter_append,List.map_append];have : decide (∃ h : i < w.tasks.length,eo w w.tasks[i]) = false:=decide_eq_false λhb=>ha hb.2
 simp [this]
theorem zg (w : Wld) (i : Nat) : (dF w i).length<=i:=by
 unfold dF;rw [List.length_map];exact Nat.le_trans (List.length_filter_le _ _) (by simp)
open Classical in
noncomputable def iq (w : Wld) (i : Nat) : List Int:=if ar w/\¬ w.step = 1000000 then dF w i else []
theorem zY (w : Wld) : iq w 0 = []:=by unfold iq;split<;>simp [xb]
theorem CC (w : Wld) : iq w w.tasks.length = bZ w:=(rfl)
theorem CA {w : Wld} {i : Nat} (h : i < w.tasks.length) (ha : (d5 w i).2 = true) : iq w (i + 1) = iq w i ++ [(i : Int)]:=by
 by_cases c : ar w/\¬ w.step = 1000000
 ·unfold iq
  rw [if_pos c,if_pos c];exact zf h ((f3 c.1 c.2 h).1 ha)
 ·rw [ix (λh=>c ⟨h.1,h.2.1⟩)] at ha
  cases ha
theorem FD {w : Wld} {i : Nat} (h : i < w.tasks.length) (ha : (d5 w i).2 = false) : iq w (i + 1) = iq w i:=by
 unfold iq
 split
 ·rename_i c
  exact Ba h (λhb=>by rw [(f3 c.1 c.2 h).2 hb] at ha;cases ha)
 ·rfl
theorem CB (w : Wld) (i : Nat) : (iq w i).length<=i:=by
 unfold iq
 split
 ·exact zg w i
 ·simp
set_option maxHeartbeats 3200000
set_option maxHeartbeats 6400000
theorem sD {d : Doc} (h : aL d) : (cL d).length<=200:=by
 have h9:=(lY h (rev:=ac d) (by have:=aU h;omega) (Int.le_refl _)).2.2.1.1;unfold cL;exact h9
theorem mS {α : Type} {f : α->Nat} (a : α) (l : List α) : nL f (a :: l) = nL f l + f a + 1:=by
 simp only [nL,bO,List.length_cons];omega
theorem md {α : Type} {f : α->Nat} : nL f ([] : List α) = 0:=(rfl)
theorem Ft {r : Ring} (h : aX r) : cC r<=2 ^ 21:=by
 obtain ⟨h1,h2,h3,h4,-⟩:=h;have hb : nL aS r.list<=r.list.length * (2 ^ 18 + 1):=nI (λe he=>vV (h1 e he).2.2.1);have hc:=Nat.mul_le_mul_right (2 ^ 18 + 1) (show r.list.length<=6 by omega);unfold cC;omega
theorem Bw {h : Hub} (c : ak h) {s : Sub} (hs : s∈h.subs) : dG s<=2 ^ 22:=by
 obtain ⟨i,hi,rfl⟩:=List.getElem_of_mem hs;obtain ⟨-,h2,-,k,hk,e,-⟩:=c.2.2.2.2 i hi;have h3:=Ft h2
 have h4 : h.subs[i].doc.size<=8:=by
  rcases br h.docs h.subs[i].doc with ⟨j,hj,e',hn⟩ | e'
  ·rw [<- hn];exact (ch c hj).1.1.2
  ·omega
 unfold dG;omega
theorem eb {h : Hub} (c : ak h) : bW h<=2 ^ 27/\nL ce h.docs<=2 ^ 26/\nL dG h.subs<=2 ^ 25:=by
 have h1 : nL ce h.docs<=h.docs.length * (2 ^ 23 + 1):=nI (λd hd=>by
  obtain ⟨i,hi,rfl⟩:=List.getElem_of_mem hd;exact ig (ch c hi))
 have h2 : nL dG h.subs<=h.subs.length * (2 ^ 22 + 1):=nI (λs hs=>Bw c hs);have h3:=Nat.mul_le_mul_right (2 ^ 23 + 1) c.1;have h4:=Nat.mul_le_mul_right (2 ^ 22 + 1) c.2.1;unfold bW;omega
theorem bV : bW Hub.zero = 0:=(rfl)
theorem AY (h : Hub) (name : ByteArray) (t : List Int) : bW (aW h name t).1<=2 ^ 28:=by
 unfold aW
 split
 ·rename_i c
  have h1:=eb c.1;have h2:=ig c.2
  repeat' split
  ·rw [bV];omega
  ·rw [bV];omega
  ·rw [bV];omega
  ·have h3 : nL ce (fC (dq name t) h.docs) = nL ce h.docs + ce (dq name t) + 1:=by
    rw [m9,eN,mS];have h4:=eN (f:=ce) (h.docs.take (dh (dq name t).name h.docs)) (h.docs.drop (dh (dq name t).name h.docs));rw [List.take_append_drop] at h4;omega
   unfold bW;simp only;omega
 ·rw [bV];omega
theorem Ck (name : ByteArray) (e : Entry) (s : Sub) : dG (cP name e s)<=dG s + aS e + 1:=by
 unfold cP
 split
 ·have:=yY s.r e
  unfold dG;simp only;omega
 ·omega
theorem yN {h : Hub} (c : ak h) (name : ByteArray) (k : Nat) (d0 : Doc) {d : Doc} (hd : ce d<=2 ^ 24) : bW (ci h name k d0 d)<=2 ^ 28:=by
 have h1:=eb c;have h2:=r8 (f:=ce) h.docs k d;unfold ci
 have h3 : ∀ e,d.list.getLast? = some e->nL dG (h.subs.map (cP name e))<=6 * (20971521 + 1):=by
  intro e he;have h5 : aS e<=2 ^ 24:=Nat.le_trans (cU (cc hd).1 (List.mem_of_getLast? he)) (Nat.le_refl _)
  have h4 : nL dG (h.subs.map (cP name e))<=(h.subs.map (cP name e)).length * (20971521 + 1):=nI (λs hs=>by
   rw [List.mem_map] at hs;obtain ⟨s0,hs0,rfl⟩:=hs;have h6:=Ck name e s0;have h7:=Bw c hs0;omega)
  rw [List.length_map] at h4;exact Nat.le_trans h4 (Nat.mul_le_mul_right _ c.2.1)
 unfold bW;simp only
 split
 ·split
  ·rename_i e he
   have:=h3 e he;omega
  ·omega
 ·omega
theorem wD (h : Hub) (name : ByteArray) (client seq base : Int) (o : List Part) : bW (aE h name client seq base o).1<=2 ^ 28:=by
 unfold aE
 split
 ·rename_i c
  split
  ·rw [bV];omega
  ·split
   ·rename_i d0 hd0
    have hd : aL d0:=by
     obtain ⟨hi,rfl⟩:=List.getElem?_eq_some_iff.1 hd0;exact ch c hi
    repeat' split
    ·exact yN c _ _ _ (pZ hd)
    ·rw [bV];omega
    ·rw [bV];omega
   ·rw [bV];omega
 ·rw [bV];omega
theorem q5 (h : Hub) (name : ByteArray) (room : Int) : bW (ap h name room).1<=2 ^ 28:=by
 unfold ap
 split
 ·rename_i c
  have h1:=eb c.1
  repeat' split
  all_goals first | (rw [bV];omega) | skip
  rename_i hi _
  have h3 : name.size<=8:=by
   rcases br h.docs name with ⟨j,hj,e',hn⟩ | e'
   ·rw [<- hn];exact (ch c.1 hj).1.1.2
   ·omega
  unfold bW;simp only [eN,mS,md,dG,sJ];omega
 ·rw [bV];omega
theorem AX (h : Hub) (id n : Int) : bW (bg h id n).1<=2 ^ 28/\nL aS (bg h id n).2.1<=2 ^ 24:=by
 unfold bg
 split
 ·rename_i c
  have h1:=eb c.1
  split
  ·rename_i s hs
   have hm:=List.mem_of_getElem? hs;have h2:=Bw c.1 hm;have h3:=yZ s.r n
   repeat' split
   ·have h4:=r8 (f:=dG) h.subs (eg h.subs id).toNat ⟨s.id,s.doc,(a9 s.r n).1⟩
    have h5 : dG ⟨s.id,s.doc,(a9 s.r n).1⟩ = s.doc.size + cC (a9 s.r n).1:=rfl;have h6 : dG s = s.doc.size + cC s.r:=rfl;unfold bW;simp only;omega
   ·simp only [bV,md];omega
   ·simp only [bV,md];omega
  ·simp only [bV,md];omega
 ·simp only [bV,md];omega
theorem wG (h : Hub) (id : Int) : bW (aH h id).1<=2 ^ 28/\(aH h id).2.1.length<=200:=by
 unfold aH
 split
 ·rename_i c
  have h1:=eb c
  split
  ·rename_i s hs
   have hm:=List.mem_of_getElem? hs;have h2:=Bw c hm
   split
   ·split
    ·rename_i d hd
     obtain ⟨hi,rfl⟩:=List.getElem?_eq_some_iff.1 hd;have h3:=sD (ch c hi);have h4:=r8 (f:=dG) h.subs (eg h.subs id).toNat ⟨s.id,s.doc,(bq s.r (ac h.docs[(az h.docs s.doc).toNat])).1⟩
     have h5 : cC (bq s.r (ac h.docs[(az h.docs s.doc).toNat])).1 = 0:=by
      unfold bq
      split
      ·exact sJ _ _
      ·rfl
     refine ⟨?_,h3⟩;unfold bW;simp only;have h7 : dG ⟨s.id,s.doc,(bq s.r (ac h.docs[(az h.docs s.doc).toNat])).1⟩ = s.doc.size + cC (bq s.r (ac h.docs[(az h.docs s.doc).toNat])).1:=rfl;have h6 : dG s = s.doc.size + cC s.r:=rfl;omega
    ·simp only [bV,List.length_nil];omega
   ·simp only [bV,List.length_nil];omega
  ·simp only [bV,List.length_nil];omega
 ·simp only [bV,List.length_nil];omega
theorem AW (h : Hub) : bW (bL h).1<=2 ^ 28:=by
 unfold bL
 repeat' split
 all_goals first | (rw [bV];omega) | skip
 rename_i c _
 have:=(eb c).1;unfold bW at this ⊢;simp only;omega
theorem wX (x : Int) : dD (bI x) = 0:=(rfl)
theorem IY {h : Hub} (c : ak h) (x : Call) : dD (iK h x)<=2 ^ 24:=by
 unfold iK
 repeat' split
 all_goals first | (rw [wX];omega) | skip
 ·rename_i d hd _ _
  obtain ⟨hi,rfl⟩:=List.getElem?_eq_some_iff.1 hd;have h3:=sD (ch c hi);unfold dD;simp only [md];omega
 ·rename_i d hd _ _
  obtain ⟨hi,rfl⟩:=List.getElem?_eq_some_iff.1 hd;have h3:=(cc (ig (ch c hi))).1;generalize h.docs[(az h.docs x.doc).toNat] = d at h3;unfold dD;simp only [List.length_nil,Nat.zero_add];unfold fi
  repeat' split
  all_goals first | (simp only [md];omega) | skip
  have h4:=eN (f:=aS) (d.list.take (x.n - d.fr).toNat) (d.list.drop (x.n - d.fr).toNat);rw [List.take_append_drop] at h4;simp only;omega
theorem JK (h : Hub) (c : Call) : (bW (fDo h c).1<=bW h\/bW (fDo h c).1<=2 ^ 28)/\dD (fDo h c).2<=2 ^ 24:=by
 have hz : ∀ x y : Int,dD ⟨x,y,[],[]⟩ = 0:=λ_ _=>rfl
 unfold fDo
 split
 ·rename_i ok
  have h1:=AY h c.doc c.text;have h2:=wD h c.doc c.client c.seq c.n c.o;have h3:=q5 h c.doc c.n;have h4:=AX h c.client c.n;have h5:=wG h c.client;have h6:=AW h;have h7:=IY ok.1 c
  repeat' split
  all_goals simp only [wX,hz]
  all_goals first | omega | skip
  ·refine ⟨.inr h4.1,?_⟩
   unfold dD;simp only [List.length_nil];omega
  ·refine ⟨.inr h5.1,?_⟩
   unfold dD;simp only [md];omega
 ·simp only [wX];omega
set_option maxHeartbeats 3200000
open Classical in
noncomputable def bC (w : Wld) : List ByteArray:=if ar w/\¬ w.step = 1000000 then w.queues.map Queue.doc else []
theorem iw {w : Wld} (h : ar w/\¬ w.step = 1000000) : bC w = w.queues.map Queue.doc:=by unfold bC;rw [if_pos h]
theorem lq {w : Wld} (h : ¬ (ar w/\¬ w.step = 1000000)) : bC w = []:=by unfold bC;rw [if_neg h]
theorem wa (w : Wld) (hl : fZ w<=2 ^ 30) : ai Tryz.prog 42 [.agg w.row] (.one (.c (.s ((bC w).map Cm)) 1)):=by
 refine pci ae Tryz.func42 (λw0 base=>?_);have hno:=@lq w;have hyes:=@iw w;have hlq:=aK (cB hl).2.2.1;simp [Wld.row];intro b1;refine aa.pure (fI w hl) (by simp [Wld.row]) ?_;by_cases c1 : ar w
 rotate_left
 ·simp [ab c1,hno (λh=>c1 h.1)]
 simp [c1];by_cases c2 : w.step = 1000000
 ·simp [c2,hno (λh=>h.2 c2)]
 rw [hyes ⟨c1,c2⟩];simp [c2];refine ah eok (λx : Nat × Hd=>x.1<=w.queues.length) (λx=>⟨28,0,[(17,.v (.int .i64 x.1)),(16,.v (.int .i64 w.queues.length)),(15,.ro (w.queues.map Queue.row)),(3,.sl 5000 x.2 1 0 x.1)],[(5000,.rows x.2 1 ((w.queues.take x.1).map λq=>Cm q.doc) true)]⟩) (λx=>w.queues.length - x.1) (0,none) (by simp) (by simp) (λx hx=>Ent.refl ?_);obtain ⟨i,H⟩:=x;simp only at hx ⊢;by_cases hlt : i < w.queues.length
 ·have e1 : min i w.queues.length = i:=by omega
  simp [hlt,Queue.row];intro b5;simp [e1];intro b6;refine ⟨by omega,λH2=>Ent.refl ⟨i + 1,by omega,by omega,H2,?_⟩⟩;simp;exact ⟨ag (by omega),dt (f:=λq : Queue=>Cm q.doc) hlt⟩
 ·have e : i = w.queues.length:=by omega
  subst e;simp [Function.comp_def]
theorem oO {tasks : List Task} {doc : ByteArray} : ∀ (l all m : List Int),bE tasks doc all l = some m->∀ k∈l,eU tasks doc k
 | [],_,_,_,k,hk=>by cases hk
 | a :: l, all, m, h, k, hk => by
   unfold bE at h
   split at h
   ·rename_i c
    rcases List.mem_cons.1 hk with rfl | hk
    ·exact c.1
    ·exact oO l _ m h k hk
   ·cases h
theorem l9 {w : Wld} (c : eh w) {i : Nat} (hi : i < w.queues.length) : fO w.h w.queues i/\∀ k∈w.queues[i].list,eU w.tasks w.queues[i].doc k:=by
 have h1 : bU w (i + 1)≠none:=λh=>il hi h c
 by_cases hq : fO w.h w.queues i
 rotate_left
 ·exact absurd (ic hi hq) h1
 refine ⟨hq,?_⟩
 cases e : bU w i with
 | none=>exact absurd (gB e 1) h1
 | some all =>
   rw [ib hi e hq] at h1
   cases e2 : bE w.tasks w.queues[i].doc all w.queues[i].list with
   | none=>exact absurd e2 h1
   | some m=>exact oO _ _ m e2
open Classical in
noncomputable def kT (l : List Queue) (i : Nat) (q : Queue) (rest : List Int) : List Queue:=if rest = [] then l.eraseIdx i else l.set i ⟨q.doc,rest⟩
open Classical in
noncomputable def cO (w : Wld) (name : ByteArray) : Wld × Bool:=
 if ar w/\¬ w.step = 1000000/\0<=bK w.queues name then
  (match w.queues[(bK w.queues name).toNat]? with
   | some q => (match w.tasks[(q.list.headD 0).toNat]? with
     | some t=>(bQ (jL ⟨w.h,w.locks,kT w.queues (bK w.queues name).toNat q q.list.tail,w.tasks,w.step⟩ (q.list.headD 0).toNat t) (w.step + 1),true)
     | none=>(Wld.zero,false))
   | none=>(Wld.zero,false))
 else (Wld.zero,false)
theorem m6 {w : Wld} {name : ByteArray} (h : ¬ (ar w/\¬ w.step = 1000000/\0<=bK w.queues name)) : cO w name = (Wld.zero,false):=by unfold cO;rw [if_neg h]
theorem dw {w : Wld} (c : ar w) {i : Nat} (hi : i < w.queues.length) : ∃ k : Nat,∃ _ : k < w.tasks.length,∃ rest,w.queues[i].list = (k : Int) :: rest/\rest.length<=1:=by
 obtain ⟨hq,hw⟩:=l9 c.2.2.2.2.2.2.2 hi;obtain ⟨-,⟨h1,h2⟩,-⟩:=hq hi
 cases e : w.queues[i].list with
 | nil=>rw [e] at h1;simp at h1
 | cons a rest =>
   rw [e] at hw h2;obtain ⟨k,hk,rfl,-⟩:=hw a (List.mem_cons_self ..);exact ⟨k,hk,rest,rfl,by simpa using h2⟩
theorem ft {w : Wld} {name : ByteArray} (c : ar w) (s : ¬ w.step = 1000000) {i : Nat} (hi : i < w.queues.length) (e : bK w.queues name = i) {k : Nat} (hk : k < w.tasks.length) {rest : List Int} (hl : w.queues[i].list = (k : Int) :: rest) :
 cO w name = (bQ (jL ⟨w.h,w.locks,kT w.queues i w.queues[i] rest,w.tasks,w.step⟩ k w.tasks[k]) (w.step + 1),true):=by
 unfold cO;rw [if_pos ⟨c,s,by omega⟩];simp [e,hi,hl,hk]
theorem yq {α : Type} {f : α->Nat} : ∀ (l : List α) (i : Nat),nL f (l.eraseIdx i)<=nL f l
 | [],_=>by simp
 | a :: l,0=>by rw [List.eraseIdx_cons_zero,mS];omega
 | a :: l, i + 1 => by
   have:=yq (f:=f) l i;rw [List.eraseIdx_cons_succ,mS,mS];omega
theorem uF (l : List Queue) (i : Nat) (q : Queue) (rest : List Int) : nL dk (kT l i q rest)<=nL dk l + q.doc.size + rest.length:=by
 unfold kT
 split
 ·have:=yq (f:=dk) l i;omega
 ·have h1:=r8 (f:=dk) l i ⟨q.doc,rest⟩
  have h2 : dk ⟨q.doc,rest⟩ = q.doc.size + rest.length:=rfl;omega
theorem rP {w : Wld} (c : ar w) {i : Nat} (hi : i < w.queues.length) : w.queues[i].doc.size<=8:=by
 obtain ⟨hq,-⟩:=l9 c.2.2.2.2.2.2.2 hi;obtain ⟨-,-,h3⟩:=hq hi;rcases br w.h.docs w.queues[i].doc with ⟨j,hj,e',hn⟩ | e'
 ·rw [<- hn];exact (ch c.2.1 hj).1.1.2
 ·omega
theorem Dy {w : Wld} {name : ByteArray} (c : ar w) (s : ¬ w.step = 1000000) {i : Nat} (hi : i < w.queues.length) (e : bK w.queues name = i) : (cO w name).2 = true/\(cO w name).1.step = w.step + 1:=by
 obtain ⟨k,hk,rest,hl,hr⟩:=dw c hi;rw [ft c s hi e hk hl];exact ⟨rfl,rfl⟩
noncomputable def d8 (w : Wld) : Nat:=(bZ w).length + (bC w).length
def kX (picks : List Int) (n m : Nat) : Nat:=match picks[n]? with
 | some p=>(p % (m : Int)).toNat
 | none=>0
theorem pL (picks : List Int) (n : Nat) {m : Nat} (h : 0 < m) : kX picks n m < m:=by
 unfold kX
 split
 ·rename_i p _
  have h1:=Int.emod_nonneg p (show (m : Int)≠0 by omega);have h2:=Int.emod_lt_of_pos p (show (0 : Int) < m by omega);omega
 ·exact h
noncomputable def bR (w : Wld) (p : Nat) : Wld:=match (bZ w)[p]? with
 | some k=>(d5 w k).1
 | none => match (bC w)[p - (bZ w).length]? with
   | some s=>(cO w s).1
   | none=>w
noncomputable def jm (picks : List Int) : Nat->Nat->Wld->Wld × Int
 | 0,n,w=>(w,n)
 | f + 1,n,w=>if d8 w = 0 then (w,n) else jm picks f (n + 1) (bR w (kX picks n (d8 w)))
noncomputable def iV (w : Wld) (picks : List Int) : Wld × Int:=jm picks 1000001 0 w
theorem oi {picks : List Int} {f n : Nat} {w : Wld} (h : d8 w = 0) : jm picks f n w = (w,(n : Int)):=by
 cases f with
 | zero=>rfl
 | succ f=>rw [jm,if_pos h]
theorem pW {picks : List Int} {f n : Nat} {w : Wld} (h : ¬ d8 w = 0) : jm picks (f + 1) n w = jm picks f (n + 1) (bR w (kX picks n (d8 w))):=by rw [jm,if_neg h]
theorem mV {w : Wld} (h : ¬ d8 w = 0) : ar w/\¬ w.step = 1000000:=by
 refine Classical.byContradiction λc=>h ?_
 unfold d8;rw [pg c,lq c];rfl
theorem nk {w : Wld} {p : Nat} (h : p < (bZ w).length) : ∃ k : Nat,∃ _ : k < w.tasks.length,(bZ w)[p] = (k : Int)/\(d5 w k).2 = true:=by
 have hc : ar w/\¬ w.step = 1000000:=Classical.byContradiction λc=>by rw [pg c] at h;simp at h
 have hm:=List.getElem_mem h;generalize (bZ w)[p] = x at hm ⊢;rw [m8 hc] at hm;unfold dF at hm;rw [List.mem_map] at hm;obtain ⟨k,hk,e⟩:=hm;rw [List.mem_filter] at hk;obtain ⟨h1,h2⟩ : ∃ h : k < w.tasks.length,eo w w.tasks[k]:=by simpa using hk.2
 exact ⟨k,h1,e.symm,(f3 hc.1 hc.2 h1).2 h2⟩
theorem mM {w : Wld} {p : Nat} (h : p < (bC w).length) : ∃ i : Nat,∃ _ : i < w.queues.length,bK w.queues (bC w)[p] = i:=by
 have hc : ar w/\¬ w.step = 1000000:=Classical.byContradiction λc=>by rw [lq c] at h;simp at h
 have hm:=List.getElem_mem h;generalize (bC w)[p] = s at hm;rw [iw hc,List.mem_map] at hm;obtain ⟨q,hq,rfl⟩:=hm;rcases cz w.queues q.doc with ⟨k,hk,e,-⟩ | e
 ·exact ⟨k,hk,e⟩
 ·exfalso
  obtain ⟨j,hj,rfl⟩:=List.getElem_of_mem hq;rcases eF (λq' : Queue=>q'.doc = w.queues[j].doc) w.queues with ⟨k,hk,e',-⟩ | ⟨-,hn⟩
  ·unfold bK at e;omega
  ·exact hn j hj rfl
theorem sK {w : Wld} {k : Int} (h : (d5 w k).2 = true) : (d5 w k).1.step = w.step + 1:=by
 by_cases c : ar w/\¬ w.step = 1000000/\(0<=k/\k<=(w.tasks.length : Int) - 1)
 rotate_left
 ·rw [ix c] at h;cases h
 obtain ⟨c,hs,h1,h2⟩:=c;obtain ⟨k,rfl⟩ : ∃ n : Nat,k = n:=⟨k.toNat,by omega⟩;have hk : k < w.tasks.length:=by omega
 rw [jp c hs hk] at h ⊢;by_cases p0 : w.tasks[k].pc = 0
 ·by_cases d : aM w.tasks[k].c.kind
  ·by_cases f : w.locks[bc w.tasks[k].c.doc w.locks.length]? = some (-1)
   ·rw [fg p0 d f]
   ·rw [iy p0 d f] at h;cases h
  ·rw [fh p0 d];rfl
 ·by_cases p1 : w.tasks[k].pc = 1
  ·rw [d4 p1];rfl
  ·by_cases p3 : w.tasks[k].pc = 3
   ·rw [ff p3]
   ·rw [iz p0 p1 p3] at h;cases h
theorem wA {w : Wld} (h : ¬ d8 w = 0) {p : Nat} (hp : p < d8 w) : (bR w p).step = w.step + 1:=by
 obtain ⟨c,s⟩:=mV h;unfold bR;by_cases ha : p < (bZ w).length
 ·obtain ⟨k,hk,e,hy⟩:=nk ha
  rw [List.getElem?_eq_getElem ha];simp only [e];exact sK hy
 ·have hs : p - (bZ w).length < (bC w).length:=by unfold d8 at hp;omega
  obtain ⟨i,hi,e⟩:=mM hs;rw [List.getElem?_eq_none (by omega),List.getElem?_eq_getElem hs];exact (Dy c s hi e).2
def kH (w : Wld) (i : Nat) : Prop:=bW w.h<=2 ^ 28/\w.locks.length<=2 ^ 20/\nL dk w.queues<=2 ^ 20 + 32 * i/\(∀ t∈w.tasks,eL t<=2 ^ 25)/\nL eL w.tasks<=2 ^ 29
theorem wx {w : Wld} {i : Nat} (h : kH w i) (hi : i<=2 ^ 20) : fZ w<=2 ^ 30:=by
 obtain ⟨h1,h2,h3,-,h5⟩:=h;unfold fZ;omega
theorem m4 {w : Wld} (c : ar w) {i : Nat} (h : kH w i) {h' : Hub} {lk : List Int} {qs : List Queue} {t' : Task} {k : Nat} {st : Int} (h1 : bW h'<=2 ^ 28) (h2 : lk.length = w.locks.length) (h3 : nL dk qs<=nL dk w.queues + 32)
 (h4 : eL t'<=2 ^ 25) : kH ⟨h',lk,qs,w.tasks.set k t',st⟩ (i + 1):=by
 obtain ⟨-,g2,g3,g4,-⟩:=h
 have hm : ∀ t∈w.tasks.set k t',eL t<=2 ^ 25:=by
  intro t ht;rcases List.mem_or_eq_of_mem_set ht with ht | rfl
  ·exact g4 t ht
  ·exact h4
 refine ⟨h1,?_,?_,hm,?_⟩
 ·show lk.length<=_;omega
 ·show nL dk qs<=_;omega
 ·show nL eL (w.tasks.set k t')<=_
  have h5 : nL eL (w.tasks.set k t')<=(w.tasks.set k t').length * (2 ^ 25 + 1):=nI hm;rw [List.length_set] at h5;have h6:=Nat.mul_le_mul_right (2 ^ 25 + 1) c.2.2.2.1;omega
theorem m5 {w : Wld} (c : ar w) {i : Nat} (h : kH w i) {k : Nat} (hk : k < w.tasks.length) {lk : List Int} {qs : List Queue} (h2 : lk.length = w.locks.length) (h3 : nL dk qs<=nL dk w.queues + 32) (n : Int) :
 kH (bQ (jL ⟨w.h,lk,qs,w.tasks,w.step⟩ k w.tasks[k]) n) (i + 1):=by
 have h1:=JK w.h w.tasks[k].c;have h4:=jt (c.1 _ (List.getElem_mem hk)).1;have h5 : eL ⟨w.tasks[k].c,3,w.tasks[k].inv,w.step,w.tasks[k].rs,(fDo w.h w.tasks[k].c).2⟩ = dy w.tasks[k].c + dD (fDo w.h w.tasks[k].c).2:=rfl;have h6 : bW (fDo w.h w.tasks[k].c).1<=2 ^ 28:=by have:=h.1;omega
 have h7 : eL ⟨w.tasks[k].c,3,w.tasks[k].inv,w.step,w.tasks[k].rs,(fDo w.h w.tasks[k].c).2⟩<=2 ^ 25:=by omega
 exact m4 c h h6 h2 h3 h7
theorem vc {w : Wld} {i : Nat} (h : kH w i) {k : Int} (hy : (d5 w k).2 = true) : kH (d5 w k).1 (i + 1):=by
 by_cases c : ar w/\¬ w.step = 1000000/\(0<=k/\k<=(w.tasks.length : Int) - 1)
 rotate_left
 ·rw [ix c] at hy;cases hy
 obtain ⟨c,hs,h1,h2⟩:=c;obtain ⟨k,rfl⟩ : ∃ n : Nat,k = n:=⟨k.toNat,by omega⟩;have hk : k < w.tasks.length:=by omega
 rw [jp c hs hk] at hy ⊢
 have hold : ∀ pc rs : Int,eL ⟨w.tasks[k].c,pc,w.tasks[k].inv,w.tasks[k].lin,rs,w.tasks[k].a⟩<=2 ^ 25:=λ_ _=>by
  have ho : eL w.tasks[k]<=2 ^ 25:=h.2.2.2.1 _ (List.getElem_mem hk);exact ho
 by_cases p0 : w.tasks[k].pc = 0
 ·by_cases d : aM w.tasks[k].c.kind
  ·by_cases f : w.locks[bc w.tasks[k].c.doc w.locks.length]? = some (-1)
   ·rw [fg p0 d f];exact m4 c h h.1 (by simp) (by omega) (hold _ _)
   ·rw [iy p0 d f] at hy;cases hy
  ·rw [fh p0 d];exact m5 c h hk rfl (by omega) _
 ·by_cases p1 : w.tasks[k].pc = 1
  ·rw [d4 p1]
   have h2:=c.1 _ (List.getElem_mem hk);have hd:=h2.1.2.1;by_cases q : ¬ w.tasks[k].c.kind = 2\/w.h.shut = true\/az w.h.docs w.tasks[k].c.doc < 0
   ·rw [gJ q];exact m5 c h hk (by simp) (by omega) _
   ·rcases cz w.queues w.tasks[k].c.doc with ⟨j,hj,e,hn⟩ | e
    ·by_cases f : w.queues[j].list.length = 2
     ·rw [iU q hj e f]
      have h5:=jt h2.1;have h4 : eL ⟨w.tasks[k].c,3,w.tasks[k].inv,w.tasks[k].lin,w.tasks[k].rs,⟨11,0,[],[]⟩⟩ = dy w.tasks[k].c:=rfl;have h6 : eL ⟨w.tasks[k].c,3,w.tasks[k].inv,w.tasks[k].lin,w.tasks[k].rs,⟨11,0,[],[]⟩⟩<=2 ^ 25:=by omega
      exact m4 c h h.1 (by simp) (Nat.le_add_right _ _) h6
     ·rw [iT q hj e f]
      have hqa:=(l9 c.2.2.2.2.2.2.2 hj).1 hj;have h3:=r8 (f:=dk) w.queues j ⟨w.queues[j].doc,w.queues[j].list ++ [(k : Int)]⟩;have h4 : dk ⟨w.queues[j].doc,w.queues[j].list ++ [(k : Int)]⟩ = w.queues[j].doc.size + (w.queues[j].list.length + 1):=by unfold dk;simp
      have h6 : w.queues[j].doc.size<=8:=by rw [hn];exact hd
      have h5:=hqa.2.1.2;have h7 : nL dk (w.queues.set j ⟨w.queues[j].doc,w.queues[j].list ++ [(k : Int)]⟩)<=nL dk w.queues + 32:=by omega
      exact m4 c h h.1 (by simp) h7 (hold _ _)
    ·rw [iA q e]
     have h3:=eN (f:=dk) (w.queues.take (aN w.tasks[k].c.doc w.queues)) (w.queues.drop (aN w.tasks[k].c.doc w.queues));rw [List.take_append_drop] at h3;have h4 : dk ⟨w.tasks[k].c.doc,[(k : Int)]⟩ = w.tasks[k].c.doc.size + 1:=rfl
     have h7 : nL dk (w.queues.take (aN w.tasks[k].c.doc w.queues) ++ ⟨w.tasks[k].c.doc,[(k : Int)]⟩ :: w.queues.drop (aN w.tasks[k].c.doc w.queues))<=nL dk w.queues + 32:=by
      simp only [eN,mS];omega
     exact m4 c h h.1 (by simp) h7 (hold _ _)
  ·by_cases p3 : w.tasks[k].pc = 3
   ·rw [ff p3];exact m4 c h h.1 rfl (by omega) (hold _ _)
   ·rw [iz p0 p1 p3] at hy;cases hy
theorem Du {w : Wld} {i : Nat} (h : kH w i) (hm : ¬ d8 w = 0) {p : Nat} (hp : p < d8 w) : kH (bR w p) (i + 1):=by
 obtain ⟨c,s⟩:=mV hm;unfold bR;by_cases ha : p < (bZ w).length
 ·obtain ⟨k,hk,e,hy⟩:=nk ha
  rw [List.getElem?_eq_getElem ha];simp only [e];exact vc h hy
 ·have hs : p - (bZ w).length < (bC w).length:=by unfold d8 at hp;omega
  obtain ⟨j,hj,e⟩:=mM hs;rw [List.getElem?_eq_none (by omega),List.getElem?_eq_getElem hs];obtain ⟨k,hk,rest,hl,hr⟩:=dw c hj;have h2:=uF w.queues j w.queues[j] rest;have h3:=rP c hj;simp only;rw [ft c s hj e hk hl];exact m5 c h hk rfl (by omega) _
def cj (l : List Int) : List Int:=l.filter λn=>decide (n≠-1)
theorem gq (a b : List Int) : cj (a ++ b) = cj a ++ cj b:=by unfold cj;rw [List.filter_append]
theorem kR {step : Int} : ∀ (l met : List Int),(ba step met l).isSome = true ↔ (∀ n∈cj l,n < step)/\(cj l).Nodup/\∀ n∈cj l,n ∉ met
 | [],met=>by simp [ba,cj]
 | n :: l, met => by
   unfold ba;by_cases h : n = -1
   ·have e : cj (n :: l) = cj l:=by simp [cj,h]
    rw [if_pos h,e];exact kR l met
   ·have e : cj (n :: l) = n :: cj l:=by simp [cj,h]
    rw [if_neg h,e];by_cases h2 : n ≥ step\/n∈met
    ·rw [if_pos h2]
     simp only [Option.isSome_none,Bool.false_eq_true,false_iff]
     rintro ⟨h3,-,h4⟩
     rcases h2 with h2 | h2
     ·have:=h3 n (List.mem_cons_self ..);omega
     ·exact h4 n (List.mem_cons_self ..) h2
    ·rw [if_neg h2,kR l (met ++ [n]),List.nodup_cons]
     constructor
     ·rintro ⟨h3,h4,h5⟩
      refine ⟨λm hm=>?_,⟨λhm=>h5 n hm (by simp),h4⟩,λm hm=>?_⟩
      ·rcases List.mem_cons.1 hm with rfl | hm
       ·omega
       ·exact h3 m hm
      ·rcases List.mem_cons.1 hm with rfl | hm
       ·exact λh=>h2 (.inr h)
       ·exact λh=>h5 m hm (by simp [h])
     ·rintro ⟨h3,⟨h4,h5⟩,h6⟩
      refine ⟨λm hm=>h3 m (List.mem_cons_of_mem _ hm),h5,λm hm hc=>?_⟩;rcases List.mem_append.1 hc with hc | hc
      ·exact h6 m (List.mem_cons_of_mem _ hm) hc
      ·simp at hc;subst hc;exact h4 hm
def eR (tasks : List Task) (step : Int) : Prop:=(∀ n∈cj (tasks.flatMap bk),n < step)/\(cj (tasks.flatMap bk)).Nodup
theorem ql {w : Wld} : gt w ↔ eR w.tasks w.step:=by
 unfold gt eR;rw [kR];simp
theorem ry {l : List Task} {k : Nat} (hk : k < l.length) (t : Task) : cj ((l.set k t).flatMap bk) = cj ((l.take k).flatMap bk) ++ (cj (bk t) ++ cj ((l.drop (k + 1)).flatMap bk)):=by
 rw [List.set_eq_take_append_cons_drop,if_pos hk,List.flatMap_append,List.flatMap_cons,gq,gq]
theorem Bv {l : List Task} {k : Nat} (hk : k < l.length) : cj (l.flatMap bk) = cj ((l.take k).flatMap bk) ++ (cj (bk l[k]) ++ cj ((l.drop (k + 1)).flatMap bk)):=by
 have h:=ry hk l[k];rw [List.set_getElem_self] at h;exact h
theorem kQ {l : List Task} {step step' : Int} {k : Nat} (hk : k < l.length) {t : Task} (h : eR l step) (ht : cj (bk t) = cj (bk l[k])) (hs : step<=step') : eR (l.set k t) step':=by
 have e : cj ((l.set k t).flatMap bk) = cj (l.flatMap bk):=by rw [ry hk,Bv hk,ht]
 unfold eR;rw [e];exact ⟨λn hn=>by have:=h.1 n hn;omega,h.2⟩
theorem rF {l : List Task} {step : Int} {k : Nat} (hk : k < l.length) {t : Task} (h : eR l step) (ht : cj (bk t) = cj (bk l[k]) ++ [step]) : eR (l.set k t) (step + 1):=by
 have e : (cj ((l.set k t).flatMap bk)).Perm (step :: cj (l.flatMap bk)):=by
  rw [ry hk,Bv hk,ht];generalize cj ((l.take k).flatMap bk) = A;generalize cj (bk l[k]) = T;generalize cj ((l.drop (k + 1)).flatMap bk) = B;rw [List.append_assoc,<- List.append_assoc A T,<- List.append_assoc A T];exact List.perm_middle
 unfold eR;refine ⟨λn hn=>?_,?_⟩
 ·rcases List.mem_cons.1 (e.mem_iff.1 hn) with rfl | hn
  ·omega
  ·have:=h.1 n hn;omega
 ·rw [e.nodup_iff,List.nodup_cons]
  exact ⟨λhm=>by have:=h.1 _ hm;omega,h.2⟩
theorem zF {l : List Task} {step : Int} (h : eR l step) {c : Call} (h0 : 0<=step) : eR (l ++ [cA c step]) (step + 1):=by
 have e : cj ((l ++ [cA c step]).flatMap bk) = cj (l.flatMap bk) ++ [step]:=by
  rw [List.flatMap_append,gq]
  congr 1
  have : ¬ step = -1:=by omega
  simp [bk,cA,cj,this]
 unfold eR;rw [e];refine ⟨λn hn=>?_,?_⟩
 ·rcases List.mem_append.1 hn with hn | hn
  ·have:=h.1 n hn;omega
  ·simp at hn;omega
 ·rw [List.nodup_append]
  refine ⟨h.2,by simp,λa ha b hb=>?_⟩;simp at hb;have:=h.1 a ha;omega
theorem rG {l : List Task} {step : Int} (h : eR l step) {t : Task} (ht : t∈l) {n : Int} (hn : n∈bk t) (h1 : n≠-1) : n < step:=by
 refine h.1 n ?_;unfold cj;rw [List.mem_filter];exact ⟨List.mem_flatMap.2 ⟨t,ht,hn⟩,by simpa using h1⟩
def rR (docs : List Doc) (q : Queue) : Prop:=(1<=q.list.length/\q.list.length<=2)/\∃ d∈docs,d.name = q.doc
def iP (a b : Queue) : Prop:=sLt a.doc b.doc
def bu (l : List Queue) : List Int:=l.flatMap Queue.list
structure QIn (docs : List Doc) (queues : List Queue) (tasks : List Task) : Prop where
 one : ∀ q∈queues,rR docs q
 ord : queues.Pairwise iP
 may : ∀ q∈queues,∀ k∈q.list,eU tasks q.doc k
 nodup : (bu queues).Nodup
 all : ∀ k,∀ hk : k < tasks.length,tasks[k].pc = 2->(k : Int)∈bu queues
theorem oN {tasks : List Task} {doc : ByteArray} : ∀ (l all m : List Int),bE tasks doc all l = some m ↔ (∀ k∈l,eU tasks doc k)/\l.Nodup/\(∀ k∈l,k ∉ all)/\m = all ++ l
 | [],all,m=>by simp [bE];exact ⟨λh=>h.symm,λh=>h.symm⟩
 | k :: l, all, m => by
   unfold bE;by_cases h : eU tasks doc k/\k ∉ all
   ·rw [if_pos h,oN l (all ++ [k]) m,List.nodup_cons]
    constructor
    ·rintro ⟨h1,h2,h3,h4⟩
     refine ⟨λj hj=>?_,⟨λhm=>h3 k hm (by simp),h2⟩,λj hj=>?_,by rw [h4];simp⟩
     ·rcases List.mem_cons.1 hj with rfl | hj
      ·exact h.1
      ·exact h1 j hj
     ·rcases List.mem_cons.1 hj with rfl | hj
      ·exact h.2
      ·exact λhc=>h3 j hj (by simp [hc])
    ·rintro ⟨h1,⟨h2,h3⟩,h4,h5⟩
     refine ⟨λj hj=>h1 j (List.mem_cons_of_mem _ hj),h3,λj hj hc=>?_,by rw [h5];simp⟩;rcases List.mem_append.1 hc with hc | hc
     ·exact h4 j (List.mem_cons_of_mem _ hj) hc
     ·simp at hc;subst hc;exact h2 hj
   ·rw [if_neg h]
    simp only [reduceCtorEq,false_iff]
    rintro ⟨h1,-,h3,-⟩
    exact h ⟨h1 k (List.mem_cons_self ..),h3 k (List.mem_cons_self ..)⟩
theorem xx {l : List Queue} {i : Nat} (h : i < l.length) : bu (l.take (i + 1)) = bu (l.take i) ++ l[i].list:=by
 unfold bu;rw [<- List.take_append_getElem h,List.flatMap_append];simp
theorem jW {w : Wld} : ∀ (i : Nat),i<=w.queues.length->∀ all,bU w i = some all ↔ (∀ j,j < i->fO w.h w.queues j)/\(∀ q∈w.queues.take i,∀ k∈q.list,eU w.tasks q.doc k)/\(bu (w.queues.take i)).Nodup/\all = bu (w.queues.take i)
 | 0,_,all=>by simp [bU,bu];try exact ⟨λh=>h.symm,λh=>h.symm⟩
 | i + 1, hi, all => by
   have hlt : i < w.queues.length:=by omega
   have ih:=jW (w:=w) i (by omega);have hmem : ∀ q,q∈w.queues.take (i + 1) ↔ q∈w.queues.take i\/q = w.queues[i]:=λq=>by rw [<- List.take_append_getElem hlt,List.mem_append];simp
   rw [xx hlt];by_cases hq : fO w.h w.queues i
   rotate_left
   ·rw [ic hlt hq]
    simp only [reduceCtorEq,false_iff]
    rintro ⟨h,-⟩
    exact hq (h i (by omega))
   have hupto : (∀ j,j < i + 1->fO w.h w.queues j) ↔ ∀ j,j < i->fO w.h w.queues j:=by
    constructor
    ·exact λh j hj=>h j (by omega)
    ·intro h j hj
     by_cases e : j = i
     ·subst e;exact hq
     ·exact h j (by omega)
   rw [hupto]
   cases e : bU w i with
   | none =>
     have hn:=gB e 1;rw [hn];simp only [reduceCtorEq,false_iff]
     rintro ⟨h1,h2,h3,h4⟩
     have : bU w i = some (bu (w.queues.take i)):=(ih _).2 ⟨h1,λq hqm=>h2 q ((hmem q).2 (.inl hqm)),(List.nodup_append.1 h3).1,rfl⟩;rw [e] at this
     cases this
   | some m =>
     obtain ⟨h1,h2,h3,h4⟩:=(ih m).1 e;rw [ib hlt e hq,oN,h4,List.nodup_append]
     constructor
     ·rintro ⟨g1,g2,g3,g4⟩
      refine ⟨h1,λq hqm=>?_,⟨h3,g2,λa ha b hb hab=>?_⟩,g4⟩
      ·rcases (hmem q).1 hqm with hqm | rfl
       ·exact h2 q hqm
       ·exact g1
      ·subst hab;exact g3 a hb ha
     ·rintro ⟨-,g2,⟨g3,g4,g5⟩,g6⟩
      exact ⟨g2 _ ((hmem _).2 (.inr rfl)),g4,λk hk hc=>g5 k hc k hk rfl,g6⟩
theorem kW {w : Wld} : eh w ↔ QIn w.h.docs w.queues w.tasks:=by
 unfold eh
 constructor
 ·rintro ⟨all,h1,h2⟩
  obtain ⟨g1,g2,g3,g4⟩:=(jW w.queues.length (Nat.le_refl _) all).1 h1;rw [List.take_length] at g2 g3 g4;subst g4;refine ⟨λq hq=>?_,kz (R:=iP) (λ_ _ _=>mN) λi hi h0=>(g1 i hi hi).1 h0,g2,g3,h2⟩;obtain ⟨i,hi,rfl⟩:=List.getElem_of_mem hq;obtain ⟨-,k2,k3⟩:=g1 i hi hi;exact ⟨k2,lA.1 k3⟩
 ·rintro ⟨h1,h2,h3,h4,h5⟩
  refine ⟨bu w.queues,(jW w.queues.length (Nat.le_refl _) _).2 ⟨λj _ hj=>?_,?_,?_,?_⟩,h5⟩
  ·obtain ⟨k1,k2⟩:=h1 _ (List.getElem_mem hj)
   exact ⟨λh0=>nj h2 j hj h0,k1,lA.2 k2⟩
  ·rw [List.take_length];exact h3
  ·rw [List.take_length];exact h4
  ·rw [List.take_length]
structure WIn (w : Wld) : Prop where
 tasks : ∀ t∈w.tasks,ee t
 hub : ak w.h
 nlock : 1<=w.locks.length/\w.locks.length<=4
 ntask : w.tasks.length<=10
 step : 0<=w.step/\w.step<=1000000
 steps : eR w.tasks w.step
 locks : fT w
 queues : QIn w.h.docs w.queues w.tasks
theorem cS {w : Wld} : ar w ↔ WIn w:=by
 constructor
 ·rintro ⟨h1,h2,h3,h4,h5,h6,h7,h8⟩
  exact ⟨h1,h2,h3,h4,h5,ql.1 h6,h7,kW.1 h8⟩
 ·rintro ⟨h1,h2,h3,h4,h5,h6,h7,h8⟩
  exact ⟨h1,h2,h3,h4,h5,ql.2 h6,h7,kW.2 h8⟩
theorem dQ {l : List Task} {k j : Nat} {t : Task} (hj : j < (l.set k t).length) (hne : j≠k) : (l.set k t)[j] = l[j]'(by simpa using hj):=by rw [List.getElem_set_ne (λh=>hne h.symm)]
theorem v1 {tasks : List Task} {k : Nat} {t : Task} {doc : ByteArray} {j : Int} (h : eU tasks doc j) (hj : j≠k) : eU (tasks.set k t) doc j:=by
 obtain ⟨i,hi,rfl,h1,h2⟩:=h;have hik : i≠k:=by omega
 exact ⟨i,by simpa using hi,rfl,by rw [dQ _ hik];exact h1,by rw [dQ _ hik];exact h2⟩
theorem FO {tasks : List Task} {k : Nat} (hk : k < tasks.length) {doc : ByteArray} (h : eU tasks doc k) : tasks[k].pc = 2:=by
 obtain ⟨i,hi,e,h1,-⟩:=h;have : i = k:=by omega
 subst this;exact h1
theorem BI {docs docs' : List Doc} (h : fQ docs docs') {q : Queue} (hq : rR docs q) : rR docs' q:=⟨hq.1,h _ hq.2⟩
theorem rS {docs docs' : List Doc} {queues : List Queue} {tasks : List Task} (h : QIn docs queues tasks) (hn : fQ docs docs') {k : Nat} (hk : k < tasks.length) (h1 : tasks[k].pc≠2) {t : Task} (h2 : t.pc≠2) : QIn docs' queues (tasks.set k t):=by
 refine ⟨λq hq=>BI hn (h.one q hq),h.ord,λq hq j hj=>?_,h.nodup,λj hj hp=>?_⟩
 ·have hm:=h.may q hq j hj
  exact v1 hm (λe=>by subst e;exact h1 (FO hk hm))
 ·by_cases e : j = k
  ·subst e;simp at hp;exact absurd hp h2
  ·rw [dQ _ e] at hp
   exact h.all j (by simpa using hj) hp
theorem LI {docs : List Doc} {queues : List Queue} {tasks : List Task} (h : QIn docs queues tasks) {t : Task} (h2 : t.pc≠2) : QIn docs queues (tasks ++ [t]):=by
 refine ⟨h.one,h.ord,λq hq j hj=>?_,h.nodup,λj hj hp=>?_⟩
 ·obtain ⟨i,hi,rfl,h3,h4⟩:=h.may q hq j hj
  exact ⟨i,by simp;omega,rfl,by rw [List.getElem_append_left hi];exact h3,by rw [List.getElem_append_left hi];exact h4⟩
 ·by_cases e : j < tasks.length
  ·rw [List.getElem_append_left e] at hp
   exact h.all j e hp
  ·rw [List.getElem_append_right (by omega)] at hp
   simp at hp;exact absurd hp h2
theorem lW {l : List Queue} {i : Nat} (hi : i < l.length) (q : Queue) : bu (l.set i q) = bu (l.take i) ++ (q.list ++ bu (l.drop (i + 1))):=by
 unfold bu;rw [List.set_eq_take_append_cons_drop,if_pos hi,List.flatMap_append,List.flatMap_cons]
theorem rt {l : List Queue} {i : Nat} (hi : i < l.length) : bu l = bu (l.take i) ++ (l[i].list ++ bu (l.drop (i + 1))):=by
 have h:=lW hi l[i]
 rwa [List.set_getElem_self] at h
theorem tU {docs : List Doc} {queues : List Queue} {tasks : List Task} (h : QIn docs queues tasks) {k : Nat} (hk : k < tasks.length) (h1 : tasks[k].pc≠2) : (k : Int) ∉ bu queues:=by
 intro hm;obtain ⟨q,hq,hkq⟩:=List.mem_flatMap.1 hm;exact h1 (FO hk (h.may q hq k hkq))
theorem Fy {docs : List Doc} {queues queues' : List Queue} {tasks : List Task} (h : QIn docs queues tasks) {k : Nat} (hk : k < tasks.length) (h1 : tasks[k].pc≠2) {t : Task} (h2 : t.pc = 2)
 (hone : ∀ q∈queues',rR docs q) (hord : queues'.Pairwise iP) (hp : (bu queues').Perm ((k : Int) :: bu queues)) (hin : ∀ q∈queues',∀ j∈q.list,(j = k/\q.doc = t.c.doc)\/∃ q0∈queues,q0.doc = q.doc/\j∈q0.list) : QIn docs queues' (tasks.set k t):=by
 have hnot:=tU h hk h1;refine ⟨hone,hord,λq hq j hj=>?_,?_,λj hj hpc=>?_⟩
 ·rcases hin q hq j hj with ⟨rfl,e⟩ | ⟨q0,hq0,e,hj0⟩
  ·exact ⟨k,by simpa using hk,rfl,by simpa using h2,by simp [e]⟩
  ·have hm:=h.may q0 hq0 j hj0
   rw [e] at hm;refine v1 hm (λej=>hnot ?_);rw [<- ej];exact List.mem_flatMap.2 ⟨q0,hq0,hj0⟩
 ·rw [hp.nodup_iff,List.nodup_cons]
  exact ⟨hnot,h.nodup⟩
 ·rw [hp.mem_iff,List.mem_cons]
  by_cases e : j = k
  ·subst e;exact .inl rfl
  ·rw [dQ _ e] at hpc
   exact .inr (h.all j (by simpa using hj) hpc)
theorem BH {docs docs' : List Doc} {queues queues' : List Queue} {tasks : List Task} (h : QIn docs queues tasks) (hn : fQ docs docs') {k : Nat} (hk : k < tasks.length) {t : Task} (h2 : t.pc≠2)
 (hone : ∀ q∈queues',rR docs q) (hord : queues'.Pairwise iP) (hp : (bu queues).Perm ((k : Int) :: bu queues')) (hin : ∀ q∈queues',∀ j∈q.list,∃ q0∈queues,q0.doc = q.doc/\j∈q0.list) : QIn docs' queues' (tasks.set k t):=by
 have hnd:=h.nodup;rw [hp.nodup_iff,List.nodup_cons] at hnd;refine ⟨λq hq=>BI hn (hone q hq),hord,λq hq j hj=>?_,hnd.2,λj hj hpc=>?_⟩
 ·obtain ⟨q0,hq0,e,hj0⟩:=hin q hq j hj
  have hm:=h.may q0 hq0 j hj0;rw [e] at hm;refine v1 hm (λej=>hnd.1 ?_);rw [<- ej];exact List.mem_flatMap.2 ⟨q,hq,hj⟩
 ·by_cases e : j = k
  ·subst e;simp at hpc;exact absurd hpc h2
  ·rw [dQ _ e] at hpc
   have:=h.all j (by simpa using hj) hpc;rw [hp.mem_iff,List.mem_cons] at this;rcases this with h | h
   ·omega
   ·exact h
theorem oc {h h' : Hub} {lk : List Int} {qs qs' : List Queue} {tasks : List Task} {s s' : Int} (h0 : fT ⟨h,lk,qs,tasks,s⟩) {k : Nat} (hk : k < tasks.length) (h1 : tasks[k].pc≠1) {t : Task} (h2 : t.pc≠1) : fT ⟨h',lk,qs',tasks.set k t,s'⟩:=by
 obtain ⟨a,b⟩:=h0;refine ⟨λi hi=>?_,λj hj hp=>?_⟩
 ·rcases a i hi with h3 | ⟨j,hj,h3,h4,h5⟩
  ·exact .inl h3
  ·have e : j≠k:=λe=>by subst e;exact h1 h4
   exact .inr ⟨j,by simpa using hj,h3,by rw [dQ _ e];exact h4,by rw [dQ _ e];exact h5⟩
 ·by_cases e : j = k
  ·subst e;simp at hp;exact absurd hp h2
  ·simp only at hj hp ⊢
   rw [dQ _ e] at hp ⊢;exact b j (by simpa using hj) hp
theorem Al {h : Hub} {lk : List Int} {qs : List Queue} {tasks : List Task} {s s' : Int} (h0 : fT ⟨h,lk,qs,tasks,s⟩) {t : Task} (h2 : t.pc≠1) : fT ⟨h,lk,qs,tasks ++ [t],s'⟩:=by
 obtain ⟨a,b⟩:=h0;refine ⟨λi hi=>?_,λj hj hp=>?_⟩
 ·rcases a i hi with h3 | ⟨j,hj,h3,h4,h5⟩
  ·exact .inl h3
  ·have hj' : j < tasks.length:=hj
   exact .inr ⟨j,by simp;omega,h3,by rw [List.getElem_append_left hj];exact h4,by rw [List.getElem_append_left hj];exact h5⟩
 ·by_cases e : j < tasks.length
  ·simp only [List.getElem_append_left e] at hp ⊢
   exact b j e hp
  ·simp only at hp
   rw [List.getElem_append_right (by omega)] at hp;simp at hp;exact absurd hp h2
theorem Aj {h : Hub} {lk : List Int} {qs : List Queue} {tasks : List Task} {s s' : Int} (h0 : fT ⟨h,lk,qs,tasks,s⟩) {k : Nat} (hk : k < tasks.length) (h1 : tasks[k].pc≠1) {t : Task} (hc : t.c = tasks[k].c)
 (hf : lk[bc tasks[k].c.doc lk.length]? = some (-1)) : fT ⟨h,lk.set (bc tasks[k].c.doc lk.length) (k : Int),qs,tasks.set k ⟨t.c,1,t.inv,t.lin,t.rs,t.a⟩,s'⟩:=by
 obtain ⟨a,b⟩:=h0;obtain ⟨hs,hf⟩:=List.getElem?_eq_some_iff.1 hf;generalize hS : bc tasks[k].c.doc lk.length = S at hs hf;refine ⟨λi hi=>?_,λj hj hp=>?_⟩
 ·simp only [List.length_set] at hi ⊢
  by_cases e : S = i
  ·subst e
   exact .inr ⟨k,by simpa using hk,by simp,by simp,by simp [hc,hS]⟩
  ·rw [List.getElem_set_ne e]
   rcases a i hi with h3 | ⟨j,hj,h3,h4,h5⟩
   ·exact .inl h3
   ·have e2 : j≠k:=λe=>by subst e;exact h1 h4
    exact .inr ⟨j,by simpa using hj,h3,by rw [dQ _ e2];exact h4,by rw [dQ _ e2];exact h5⟩
 ·simp only [List.length_set] at hj hp ⊢
  by_cases e : j = k
  ·subst e
   simp [hc,hS,hs]
  ·rw [dQ _ e] at hp ⊢
   have h3:=b j hj hp;simp only at h3
   have e2 : S≠bc tasks[j].c.doc lk.length:=λe2=>by
    rw [<- e2,List.getElem?_eq_getElem hs,hf] at h3;simp at h3
    try omega
   rw [List.getElem?_set_ne e2];exact h3
theorem Ak {h h' : Hub} {lk : List Int} {qs qs' : List Queue} {tasks : List Task} {s s' : Int} (h0 : fT ⟨h,lk,qs,tasks,s⟩) {k : Nat} (hk : k < tasks.length) (h1 : tasks[k].pc = 1) {t : Task} (h2 : t.pc≠1) :
 fT ⟨h',lk.set (bc tasks[k].c.doc lk.length) (-1),qs',tasks.set k t,s'⟩:=by
 obtain ⟨a,b⟩:=h0;have hm:=b k hk h1;simp only at hm;generalize hS : bc tasks[k].c.doc lk.length = S at hm;refine ⟨λi hi=>?_,λj hj hp=>?_⟩
 ·simp only [List.length_set] at hi ⊢
  by_cases e : S = i
  ·subst e;exact .inl (by simp)
  ·rw [List.getElem_set_ne e]
   rcases a i hi with h3 | ⟨j,hj,h3,h4,h5⟩
   ·exact .inl h3
   ·have e2 : j≠k:=λe2=>by subst e2;exact e (hS ▸ h5)
    exact .inr ⟨j,by simpa using hj,h3,by rw [dQ _ e2];exact h4,by rw [dQ _ e2];exact h5⟩
 ·simp only [List.length_set] at hj hp ⊢
  by_cases e : j = k
  ·subst e;simp at hp;exact absurd hp h2
  ·rw [dQ _ e] at hp ⊢
   have h3:=b j hj hp;simp only at h3
   have e2 : S≠bc tasks[j].c.doc lk.length:=λe2=>by
    rw [<- e2,hm] at h3;simp at h3;omega
   rw [List.getElem?_set_ne e2];exact h3
end Go.Proofs.YtoldjebobgocpaaGreat
