import Derived.Test.YtoldjebobgocpaaGreatPG
import Derived.Test.YtoldjebobgocpaaGreatPI
import Derived.Test.YtoldjebobgocpaaGreatPH
import Derived.Test.YtoldjebobgocpaaGreatPF
import Derived.Test.YtoldjebobgocpaaGreatNA
namespace Go.Proofs.YtoldjebobgocpaaGreat
open Go.AM
set_option maxRecDepth 20000
set_option maxHeartbeats 6400000
theorem CQ (c:Call) (hl:dv c<=2 ^ 30):ai Tryz.prog 115 [.agg c.row] (.one (.agg c.res)):=by
 refine pci ae Tryz.func115 (λw0 base=>?_);unfold dv at hl;simp [Call.row];intro b1 b2;refine aa.pure (uO c.o (by omega)) (by simp) ?_;simp;intro H1;refine aa.pure (fT c.text (by omega)) (by simp) ?_;simp [Call.res]
theorem yP (a:Answer) (hl:cM a<=2 ^ 30):ai Tryz.prog 272 [.agg a.row] (.one (.agg a.res)):=by
 refine pci ae Tryz.func272 (λw0 base=>?_);unfold cM at hl;simp [Answer.row];intro b1 b2;refine aa.pure (fT a.text (by omega)) (by simp) ?_;simp;intro H1;refine aa.pure (gq a.list (by omega)) (by simp) ?_;simp [Answer.res]
theorem wN (c:Call) (hl:dv c<=2 ^ 30):ai Tryz.prog 228 [.agg c.row] (.one (.agg c.res)):=by
 refine pci ae Tryz.func228 (λw0 base=>?_);unfold dv at hl;have h8:c.text.length*8<=140737488355328:=by omega
 simp [Call.row];intro b1 b2;refine aa.pure (re c.o (by omega)) (by simp) ?_;simp [h8];intros;simp [Call.res]
theorem Ak (a:Answer) (hl:cM a<=2 ^ 30):ai Tryz.prog 263 [.agg a.row] (.one (.agg a.res)):=by
 refine pci ae Tryz.func263 (λw0 base=>?_);unfold cM at hl;have h8:a.text.length*8<=140737488355328:=by omega
 simp [Answer.row];intro b1 b2;simp [h8];intros;refine aa.pure (ep a.list (by omega)) (by simp) ?_;simp [Answer.res]
theorem EQ (t:Task) (hl:eF t<=2 ^ 30):ai Tryz.prog 164 [.agg t.row] (.one (.agg t.res)):=by
 refine pci ae Tryz.func164 (λw0 base=>?_);obtain ⟨n1,n2⟩:=lY hl;simp [Task.row];intro b1 b2;refine aa.pure (wN t.c n1) (by simp [Call.row]) ?_;simp [Call.res];intro H1 H2;refine aa.pure (Ak t.a n2) (by simp [Answer.row]) ?_;simp [Answer.res];intros;simp [Task.res]
theorem A0 (l:List Task) (hl:nL eF l<=2 ^ 30):ai Tryz.prog 173 [.c (.s (l.map Task.row))] (.one (.c (.s (l.map Task.row)) 15)):=by
 refine pci ae Tryz.func173 (λw0 base=>?_);have hle:=aB hl;simp;refine ag eok (λx:Nat×Hd=>x.1<=l.length) (λx=>⟨26,0,[(8,.v (.int .i64 x.1)),(7,.v (.int .i64 l.length)),(6,.ro (l.map Task.row)),(3,.sl 5000 x.2 15 0 x.1)],[(5000,.rows x.2 15 ((l.take x.1).map Task.row) true)]⟩) (λx=>l.length - x.1) (0,none) (by simp) (by simp) (λx hx=>Ent.refl ?_);obtain ⟨i,H⟩:=x;simp only at hx ⊢;by_cases hlt:i<l.length
 ·obtain ⟨n1,n2⟩:=lY (dO hl hlt)
  simp [hlt,Task.row];intro b5;refine aa.pure (CQ l[i].c n1) (by simp [Call.row]) ?_;simp [Call.res];intro H1 H2;refine aa.pure (yP l[i].a n2) (by simp [Answer.row]) ?_;simp [Answer.res];intro H3 H4;have e1:min i l.length=i:=by omega
  simp [e1];intro b6;refine ⟨by omega,λH2=>Ent.refl ⟨i+1,by omega,by omega,H2,?_⟩⟩;simp;exact ⟨ah (by omega),da (f:=Task.row) hlt⟩
 ·have e:l.length=i:=by omega
  simp [hlt];rw [List.take_of_length_le (by simp;omega)];simp [cut,e]
theorem nq (w:Wld) (hl:du w<=2 ^ 30):ai Tryz.prog 76 [.agg w.row] (.one (.agg w.res)):=by
 refine pci ae Tryz.func76 (λw0 base=>?_);obtain ⟨nh,n2,n3,n4⟩:=a9 hl;obtain ⟨hh,lk,qs,tasks,step⟩:=w;have hle:=aB n4;have hlq:=aB n3;simp only at hle hlq n2 n3 n4 nh;simp [Wld.row];intro b1 b2;refine bL (λx:Hd×Hd×Hd×Hd×Nat=>[(3,.p 48 x.2.2.2.2 0)]) (λx=>[(48,.vars x.2.2.2.2 39 [.v (.bool hh.shut),.sl 129 x.1 5 0 hh.docs.length,.sl 130 x.2.1 6 0 hh.subs.length,.v (.int .i64 hh.last),.sl 176 x.2.2.1 1 0 lk.length,.nil,.sl 224 x.2.2.2.1 15 0 tasks.length,.v (.int .i64 step)]),(129,.rows x.1 5 (hh.docs.map Doc.row) true),(130,.rows x.2.1 6 (hh.subs.map Sub.row) true),(176,.rows x.2.2.1 1 (lk.map ak) true),(224,.rows x.2.2.2.1 15 (tasks.map Task.row) true)]) [1,2] ?_ ?_
 ·refine drw eok mix [0,1,3,4,6,7,9,10] [2,5,8,11,12,13] (.c 8 2 64 191 (.c 8 5 16 175 (.c 8 8 4 171 (.c 8 11 1 170 (.c 8 12 0 170 (.c 8 13 170 0 (.l 8 0) .s) .s) (.c 8 12 0 171 (.c 8 11 1 170 (.c 8 13 170 0 (.l 8 0) .s) .s) .s)) (.c 8 12 0 175 (.c 8 8 4 171 (.c 8 11 1 170 (.c 8 13 170 0 (.l 8 0) .s) .s) .s) .s)) (.c 8 12 0 191 (.c 8 5 16 175 (.c 8 8 4 171 (.c 8 11 1 170 (.c 8 13 170 0 (.l 8 0) .s) .s) .s) .s) .s)) (.c 8 12 0 255 (.c 8 2 64 191 (.c 8 5 16 175 (.c 8 8 4 171 (.c 8 11 1 170 (.c 8 13 170 0 (.l 8 0) .s) .s) .s) .s) .s) .s)) ?_
  simp
  try intros
  repeat' first
   |(refine aa.pure (bP hh nh) (by simp [Hub.row]) ?_;simp [Hub.res];try intros)
   |(refine aa.pure (fT lk (by omega)) (by simp) ?_;simp;try intros)
   |(refine aa.pure (A0 tasks n4) (by simp) ?_;simp;try intros)
   |(rw [Trc];refine ⟨?_,?_⟩<;>(try simp)<;>try intros)
 rintro ⟨H1,H2,H3,H4,b3⟩
 simp
 refine ag eok (λx:Nat×Hd=>x.1<=qs.length) (λx=>⟨38,0,[(21,.v (.int .i64 x.1)),(20,.v (.int .i64 qs.length)),(19,.ro (qs.map Queue.row)),(3,.p 48 b3 0),(2,.p 32 b2 0)],
  [(48, .vars b3 39 [.v (.bool hh.shut), .sl 129 H1 5 0 hh.docs.length, .sl 130 H2 6 0 hh.subs.length, .v (.int .i64 hh.last), .sl 176 H3 1 0 lk.length, .sl 5000 x.2 2 0 x.1, .sl 224 H4 15 0 tasks.length, .v (.int .i64 step)]),
   (32,.vars b2 39 [.v (.bool false),.nil,.nil,.v (.int .i64 0),.nil,.nil,.nil,.v (.int .i64 0)]),
   (129,.rows H1 5 (hh.docs.map Doc.row) true),(130,.rows H2 6 (hh.subs.map Sub.row) true),(176,.rows H3 1 (lk.map ak) true),(224,.rows H4 15 (tasks.map Task.row) true),(5000,.rows x.2 2 ((qs.take x.1).map Queue.row) true)]⟩) (λx=>qs.length - x.1) (0,none) (by simp) (by simp) (λx hi=>Ent.refl ?_)
 obtain ⟨i,H⟩:=x;simp only at hi ⊢;by_cases hlt:i<qs.length
 ·have hm:=dO n3 hlt
  unfold dG at hm;have e1:min i qs.length=i:=by omega
  simp [hlt,Queue.row];intro b5;refine drw eok mix [0,1,2,3,4,5,10] [6,7,8,9,11] (.c 7 6 2 125 (.c 7 7 8 117 (.c 7 8 0 117 (.c 7 9 32 85 (.c 7 11 85 0 (.l 7 0) .s) .s) .s) .s) .s) ?_;simp
  try intros
  refine aa.pure (fT qs[i].list (by omega)) (by simp) ?_;simp
  try intros
  simp [e1];refine ⟨by omega,λH'=>Ent.refl ⟨i+1,by omega,by omega,H',?_⟩⟩;simp;exact ⟨ah (by omega),da (f:=Queue.row) hlt⟩
 have hm:i=qs.length:=by omega
 subst hm;simp [Wld.res]
theorem q9 (w:Wld) (hl:du w<=2 ^ 30):ai Tryz.prog 68 [.agg w.row] (.one (.agg w.res)):=by
 refine pci ae Tryz.func68 (λw0 base=>?_);obtain ⟨nh,n2,n3,n4⟩:=a9 hl;obtain ⟨hh,lk,qs,tasks,step⟩:=w;have hle:=aB n4;have hlq:=aB n3;simp only at hle hlq n2 n3 n4 nh;have h8:lk.length*8<=140737488355328:=by omega
 simp [Wld.row];intro b1 b2;refine bL (λx:Hd×Hd×Hd×Nat=>[(3,.p 48 x.2.2.2 0)]) (λx=>[(48,.vars x.2.2.2 39 [.v (.bool hh.shut),.sl 161 x.1 5 0 hh.docs.length,.sl 162 x.2.1 6 0 hh.subs.length,.v (.int .i64 hh.last),.sl 176 x.2.2.1 1 0 lk.length,.nil,.nil,.v (.int .i64 step)]),(161,.rows x.1 5 (hh.docs.map Doc.row) true),(162,.rows x.2.1 6 (hh.subs.map Sub.row) true),(176,.rows x.2.2.1 1 (lk.map ak) true)]) [1,2] ?_ ?_
 ·refine drw eok mix [0,1,4,5,7,8] [2,3,6,9,10,11] (.c 6 2 16 47 (.c 6 3 0 47 (.c 6 6 4 43 (.c 6 9 1 42 (.c 6 10 0 42 (.c 6 11 42 0 (.l 6 0) .s) .s) (.c 6 10 0 43 (.c 6 9 1 42 (.c 6 11 42 0 (.l 6 0) .s) .s) .s)) (.c 6 10 0 47 (.c 6 6 4 43 (.c 6 9 1 42 (.c 6 11 42 0 (.l 6 0) .s) .s) .s) .s)) (.c 6 10 0 47 (.c 6 3 0 47 (.c 6 6 4 43 (.c 6 9 1 42 (.c 6 11 42 0 (.l 6 0) .s) .s) .s) .s) .s)) (.c 6 3 0 63 (.c 6 2 16 47 (.c 6 6 4 43 (.c 6 9 1 42 (.c 6 10 0 42 (.c 6 11 42 0 (.l 6 0) .s) .s) (.c 6 10 0 43 (.c 6 9 1 42 (.c 6 11 42 0 (.l 6 0) .s) .s) .s)) (.c 6 10 0 47 (.c 6 6 4 43 (.c 6 9 1 42 (.c 6 11 42 0 (.l 6 0) .s) .s) .s) .s)) (.c 6 10 0 63 (.c 6 2 16 47 (.c 6 6 4 43 (.c 6 9 1 42 (.c 6 11 42 0 (.l 6 0) .s) .s) .s) .s) .s)) (.c 6 10 0 63 (.c 6 2 16 47 (.c 6 3 0 47 (.c 6 6 4 43 (.c 6 9 1 42 (.c 6 11 42 0 (.l 6 0) .s) .s) .s) .s) (.c 6 3 0 63 (.c 6 2 16 47 (.c 6 6 4 43 (.c 6 9 1 42 (.c 6 11 42 0 (.l 6 0) .s) .s) .s) .s) .s)) .s))) ?_
  simp
  try intros
  repeat' first
   |(refine aa.pure (bY hh nh) (by simp [Hub.row]) ?_;simp [Hub.res,h8];try intros)
   |(rw [Trc];refine ⟨?_,?_⟩<;>(try simp [h8])<;>try intros)
 rintro ⟨H1,H2,H3,b3⟩
 simp
 refine ag eok (λx:Nat×Hd=>x.1<=qs.length) (λx=>⟨54,0,[(21,.v (.int .i64 x.1)),(20,.v (.int .i64 qs.length)),(19,.ro (qs.map Queue.row)),(1,.p 16 b1 0),(3,.p 48 b3 0),(2,.p 32 b2 0)],
  [(48, .vars b3 39 [.v (.bool hh.shut), .sl 161 H1 5 0 hh.docs.length, .sl 162 H2 6 0 hh.subs.length, .v (.int .i64 hh.last), .sl 176 H3 1 0 lk.length, .sl 5000 x.2 2 0 x.1, .nil, .v (.int .i64 step)]),
   (32,.vars b2 39 [.v (.bool false),.nil,.nil,.v (.int .i64 0),.nil,.nil,.nil,.v (.int .i64 0)]),
   (16,.vars b1 39 [.v (.bool hh.shut),.ro (hh.docs.map Doc.row),.ro (hh.subs.map Sub.row),.v (.int .i64 hh.last),.ro (lk.map ak),.ro (qs.map Queue.row),.ro (tasks.map Task.row),.v (.int .i64 step)]),
   (161,.rows H1 5 (hh.docs.map Doc.row) true),(162,.rows H2 6 (hh.subs.map Sub.row) true),(176,.rows H3 1 (lk.map ak) true),(5000,.rows x.2 2 ((qs.take x.1).map Queue.row) true)]⟩) (λx=>qs.length - x.1) (0,none) (by simp) (by simp) (λx hi=>Ent.refl ?_)
 obtain ⟨i,H⟩:=x;simp only at hi ⊢;by_cases hlt:i<qs.length
 ·have hm:=dO n3 hlt
  unfold dG at hm;have e1:min i qs.length=i:=by omega
  have q8:qs[i].list.length*8<=140737488355328:=by omega
  simp [hlt,Queue.row];intro b5;refine drw eok mix [0,1,2,3,5,6,11] [4,7,8,9,10,12] (.c 7 4 0 127 (.c 7 7 2 125 (.c 7 8 8 117 (.c 7 9 0 117 (.c 7 10 32 85 (.c 7 12 85 0 (.l 7 0) .s) .s) .s) .s) .s) .s) ?_;simp [q8]
  try intros
  simp [e1];refine ⟨by omega,λH'=>Ent.refl ⟨i+1,by omega,by omega,H',?_⟩⟩;simp;exact ⟨ah (by omega),da (f:=Queue.row) hlt⟩
 have hm:i=qs.length:=by omega
 subst hm;simp
 refine ag eok (λx:Nat×Hd=>x.1<=tasks.length) (λx=>⟨54,0,[(41,.v (.int .i64 x.1)),(40,.v (.int .i64 tasks.length)),(39,.ro (tasks.map Task.row)),(3,.p 48 b3 0),(2,.p 32 b2 0)],
  [(48, .vars b3 39 [.v (.bool hh.shut), .sl 161 H1 5 0 hh.docs.length, .sl 162 H2 6 0 hh.subs.length, .v (.int .i64 hh.last), .sl 176 H3 1 0 lk.length, .sl 5000 H 2 0 qs.length, .sl 5001 x.2 15 0 x.1, .v (.int .i64 step)]),
   (32,.vars b2 39 [.v (.bool false),.nil,.nil,.v (.int .i64 0),.nil,.nil,.nil,.v (.int .i64 0)]),
   (161,.rows H1 5 (hh.docs.map Doc.row) true),(162,.rows H2 6 (hh.subs.map Sub.row) true),(176,.rows H3 1 (lk.map ak) true),(5000,.rows H 2 (qs.map Queue.row) true),(5001,.rows x.2 15 ((tasks.take x.1).map Task.row) true)]⟩) (λx=>tasks.length - x.1) (0,none) (by simp) (by simp) (λx hi=>Ent.refl ?_)
 obtain ⟨i,H'⟩:=x;simp only at hi ⊢;by_cases hlt:i<tasks.length
 ·have hm:=dO n4 hlt
  have e1:min i tasks.length=i:=by omega
  simp [hlt,Task.row];intro b7;refine drw eok mix [0,1,2,6] [3,4,5,7] (.c 4 3 2 13 (.c 4 4 0 13 (.c 4 5 4 9 (.c 4 7 9 0 (.l 4 0) .s) .s) .s) .s) ?_;simp
  try intros
  refine aa.pure (EQ tasks[i] hm) (by simp [Task.row]) ?_;simp [Task.res]
  try intros
  simp [e1];refine ⟨by omega,λH''=>Ent.refl ⟨i+1,by omega,by omega,H'',?_⟩⟩;simp;exact ⟨ah (by omega),da (f:=Task.row) hlt⟩
 have hm:i=tasks.length:=by omega
 subst hm;simp [Wld.res]
noncomputable def aL (name:ByteArray):List Queue->Nat
 | []=>0
 |x::l=>open Classical in if sLt x.doc name then aL name l+1 else 0
theorem kS (name:ByteArray):∀ l:List Queue,aL name l<=l.length
 | []=>by simp [aL]
 | x :: l => by
   unfold aL
   split
   ·have:=kS name l;simp;omega
   ·omega
theorem iS {name:ByteArray}:∀ {l:List Queue} {k:Nat},k<=aL name l->∀ hk:k<l.length,sLt l[k].doc name ↔ k<aL name l
 | x :: l, 0, _, _ => by
   unfold aL
   split
   ·rename_i h;simpa using h
   ·rename_i h;simpa using h
 | x :: l, k + 1, h, hk => by
   unfold aL at h ⊢
   split at h
   ·rename_i hx
    rw [if_pos hx];have:=iS (name:=name) (l:=l) (k:=k) (by omega) (by simpa using hk);simp only [List.getElem_cons_succ];rw [this];omega
   ·omega
theorem ch (l:List Queue) (name:ByteArray):(∃ k:Nat,∃ h:k<l.length,bE l name=k/\l[k].doc=name)\/bE l name = -1:=by
 rcases e8 (λq:Queue=>q.doc=name) l with ⟨k,h,e,hp,-⟩|⟨e,-⟩
 ·exact .inl ⟨k,h,e,hp⟩
 ·exact .inr e
noncomputable def ix (w:Wld) (k:Nat) (t:Task):Wld:=⟨(fDo w.h t.c).1,w.locks,w.queues,w.tasks.set k ⟨t.c,3,t.inv,w.step,t.rs,(fDo w.h t.c).2⟩,w.step⟩
noncomputable def IT (w:Wld) (k:Nat) (t:Task):Wld:=⟨w.h,w.locks,
 (match w.queues[(bE w.queues t.c.doc).toNat]? with
  |some q=>if 0<=bE w.queues t.c.doc then w.queues.set (bE w.queues t.c.doc).toNat ⟨q.doc,q.list++[(k:Int)]⟩ else w.queues.take (aL t.c.doc w.queues)++⟨t.c.doc,[(k:Int)]⟩::w.queues.drop (aL t.c.doc w.queues)
  |none=>w.queues.take (aL t.c.doc w.queues)++⟨t.c.doc,[(k:Int)]⟩::w.queues.drop (aL t.c.doc w.queues)),
 w.tasks.set k ⟨t.c,2,t.inv,t.lin,t.rs,t.a⟩,w.step⟩
def RM (w:Wld) (name:ByteArray):Prop:=∃ i:Nat,∃ h:i<w.queues.length,bE w.queues name=i/\w.queues[i].list.length=2
open Classical in
noncomputable def iW (w:Wld) (k:Nat) (t:Task):Wld:=
 if t.c.kind≠2\/w.h.shut=true\/az w.h.docs t.c.doc<0 then ix ⟨w.h,w.locks.set (aQ t.c.doc w.locks.length) (-1),w.queues,w.tasks,w.step⟩ k t
 else if RM w t.c.doc then ⟨w.h,w.locks.set (aQ t.c.doc w.locks.length) (-1),w.queues,w.tasks.set k ⟨t.c,3,t.inv,t.lin,t.rs,⟨11,0,[],[]⟩⟩,w.step⟩
 else IT ⟨w.h,w.locks.set (aQ t.c.doc w.locks.length) (-1),w.queues,w.tasks,w.step⟩ k t
def bm (w:Wld) (n:Int):Wld:=⟨w.h,w.locks,w.queues,w.tasks,n⟩
open Classical in
noncomputable def ip (w:Wld) (k:Nat) (t:Task):Wld×Bool:=
 if t.pc=0 then
  (if aJ t.c.kind then
   (if w.locks[aQ t.c.doc w.locks.length]? = some (-1) then (⟨w.h,w.locks.set (aQ t.c.doc w.locks.length) (k:Int),w.queues,w.tasks.set k ⟨t.c,1,t.inv,t.lin,t.rs,t.a⟩,w.step+1⟩,true) else (Wld.zero,false))
   else (bm (ix w k t) (w.step+1),true))
 else if t.pc=1 then (bm (iW w k t) (w.step+1),true)
 else if t.pc=3 then (⟨w.h,w.locks,w.queues,w.tasks.set k ⟨t.c,4,t.inv,t.lin,w.step,t.a⟩,w.step+1⟩,true)
 else (Wld.zero,false)
open Classical in
noncomputable def cr (w:Wld) (k:Int):Wld×Bool:=
 if ap w/\¬ w.step=1000000/\0<=k then (match w.tasks[k.toNat]? with|some t=>ip w k.toNat t|none=>(Wld.zero,false)) else (Wld.zero,false)
theorem io {w:Wld} {k:Int} (h:¬ (ap w/\¬ w.step=1000000/\(0<=k/\k<=(w.tasks.length:Int) - 1))):cr w k=(Wld.zero,false):=by
 unfold cr
 split
 ·rename_i h1
  have hb:¬ (0<=k/\k<=(w.tasks.length:Int) - 1):=λhb=>h ⟨h1.1,h1.2.1,hb⟩
  have h2:=h1.2.2;have:w.tasks[k.toNat]? = none:=by rw [List.getElem?_eq_none_iff];omega
  rw [this]
 ·rfl
theorem ji {w:Wld} {k:Nat} (h:ap w) (hs:¬ w.step=1000000) (hk:k<w.tasks.length):cr w k=ip w k w.tasks[k]:=by
 unfold cr;rw [if_pos ⟨h,hs,by omega⟩];simp [hk]
theorem eV {w:Wld} {k:Nat} {t:Task} (h0:t.pc=0) (h1:aJ t.c.kind) (h2:w.locks[aQ t.c.doc w.locks.length]? = some (-1)) :
 ip w k t=(⟨w.h,w.locks.set (aQ t.c.doc w.locks.length) (k:Int),w.queues,w.tasks.set k ⟨t.c,1,t.inv,t.lin,t.rs,t.a⟩,w.step+1⟩,true):=by unfold ip;rw [if_pos h0,if_pos h1,if_pos h2]
theorem fQ {w:Wld} {k:Nat} {t:Task} (h0:t.pc=0) (h1:aJ t.c.kind) (h2:¬ w.locks[aQ t.c.doc w.locks.length]? = some (-1)):ip w k t=(Wld.zero,false):=by unfold ip;rw [if_pos h0,if_pos h1,if_neg h2]
theorem eW {w:Wld} {k:Nat} {t:Task} (h0:t.pc=0) (h1:¬ aJ t.c.kind):ip w k t=(bm (ix w k t) (w.step+1),true):=by unfold ip;rw [if_pos h0,if_neg h1]
theorem dQ {w:Wld} {k:Nat} {t:Task} (h0:t.pc=1):ip w k t=(bm (iW w k t) (w.step+1),true):=by unfold ip;rw [if_neg (by omega),if_pos h0]
theorem eU {w:Wld} {k:Nat} {t:Task} (h0:t.pc=3):ip w k t=(⟨w.h,w.locks,w.queues,w.tasks.set k ⟨t.c,4,t.inv,t.lin,w.step,t.a⟩,w.step+1⟩,true):=by unfold ip;rw [if_neg (by omega),if_neg (by omega),if_pos h0]
theorem fR {w:Wld} {k:Nat} {t:Task} (h0:¬ t.pc=0) (h1:¬ t.pc=1) (h3:¬ t.pc=3):ip w k t=(Wld.zero,false):=by unfold ip;rw [if_neg h0,if_neg h1,if_neg h3]
theorem gd {w:Wld} {k:Nat} {t:Task} (q:¬ t.c.kind=2\/w.h.shut=true\/az w.h.docs t.c.doc<0):iW w k t=ix ⟨w.h,w.locks.set (aQ t.c.doc w.locks.length) (-1),w.queues,w.tasks,w.step⟩ k t:=by unfold iW;rw [if_pos q]
theorem ge {w:Wld} {k:Nat} {t:Task} (q:¬ (¬ t.c.kind=2\/w.h.shut=true\/az w.h.docs t.c.doc<0)) {i:Nat} (hi:i<w.queues.length) (e:bE w.queues t.c.doc=i) (f:w.queues[i].list.length=2) :
 iW w k t=⟨w.h,w.locks.set (aQ t.c.doc w.locks.length) (-1),w.queues,w.tasks.set k ⟨t.c,3,t.inv,t.lin,t.rs,⟨11,0,[],[]⟩⟩,w.step⟩:=by unfold iW;rw [if_neg q,if_pos ⟨i,hi,e,f⟩]
theorem gc {w:Wld} {k:Nat} {t:Task} (q:¬ (¬ t.c.kind=2\/w.h.shut=true\/az w.h.docs t.c.doc<0)) {i:Nat} (hi:i<w.queues.length) (e:bE w.queues t.c.doc=i) (f:¬ w.queues[i].list.length=2) :
 iW w k t=⟨w.h,w.locks.set (aQ t.c.doc w.locks.length) (-1),w.queues.set i ⟨w.queues[i].doc,w.queues[i].list++[(k:Int)]⟩,w.tasks.set k ⟨t.c,2,t.inv,t.lin,t.rs,t.a⟩,w.step⟩:=by
 unfold iW;rw [if_neg q,if_neg]
 ·unfold IT
  simp [e,hi]
 ·rintro ⟨j,hj,e',f'⟩
  have:j=i:=by omega
  subst this;exact f f'
theorem gS {w:Wld} {k:Nat} {t:Task} (q:¬ (¬ t.c.kind=2\/w.h.shut=true\/az w.h.docs t.c.doc<0)) (e:bE w.queues t.c.doc = -1) :
 iW w k t=⟨w.h,w.locks.set (aQ t.c.doc w.locks.length) (-1),w.queues.take (aL t.c.doc w.queues)++⟨t.c.doc,[(k:Int)]⟩::w.queues.drop (aL t.c.doc w.queues),w.tasks.set k ⟨t.c,2,t.inv,t.lin,t.rs,t.a⟩,w.step⟩:=by
 unfold iW;rw [if_neg q,if_neg]
 ·unfold IT
  simp only [e]
  split
  ·rw [if_neg (by omega)]
  ·rfl
 ·rintro ⟨j,hj,e',f'⟩
  omega
def eP (w:Wld) (t:Task):Prop:=(t.pc=0/\aJ t.c.kind->w.locks[aQ t.c.doc w.locks.length]? = some (-1))/\¬ t.pc=2/\¬ t.pc=4
theorem iL {w:Wld} {k:Nat} (h:ap w) (hs:¬ w.step=1000000) (hk:k<w.tasks.length):(cr w k).2=true ↔ eP w w.tasks[k]:=by
 rw [ji h hs hk];have hp:=(h.1 _ (List.getElem_mem hk)).2.2.1;generalize w.tasks[k]=t at hp;unfold eP;by_cases c0:t.pc=0
 ·by_cases c1:aJ t.c.kind
  ·by_cases c2:w.locks[aQ t.c.doc w.locks.length]? = some (-1)
   ·rw [eV c0 c1 c2];simp [c0,c2]
   ·rw [fQ c0 c1 c2];simp [c0,c1,c2]
  ·rw [eW c0 c1];simp [c0,c1]
 ·by_cases c1:t.pc=1
  ·rw [dQ c1];simp [c1]
  ·by_cases c3:t.pc=3
   ·rw [eU c3];simp [c3]
   ·rw [fR c0 c1 c3]
    have:t.pc=2\/t.pc=4:=by omega
    rcases this with e|e<;>simp [e]
open Classical in
noncomputable def dW (w:Wld) (i:Nat):List Int:=((List.range i).filter λk:Nat=>decide (∃ h:k<w.tasks.length,eP w w.tasks[k])).map (λk:Nat=>(k:Int))
open Classical in
noncomputable def cH (w:Wld):List Int:=if ap w/\¬ w.step=1000000 then dW w w.tasks.length else []
theorem oa {w:Wld} (h:ap w/\¬ w.step=1000000):cH w=dW w w.tasks.length:=by unfold cH;rw [if_pos h]
theorem qo {w:Wld} (h:¬ (ap w/\¬ w.step=1000000)):cH w=[]:=by unfold cH;rw [if_neg h]
theorem yY (w:Wld):dW w 0=[]:=by simp [dW]
theorem A6 {w:Wld} {i:Nat} (h:i<w.tasks.length) (ha:eP w w.tasks[i]):dW w (i+1)=dW w i++[(i:Int)]:=by
 classical
 unfold dW;rw [List.range_succ,List.filter_append,List.map_append];have:decide (∃ h:i<w.tasks.length,eP w w.tasks[i])=true:=decide_eq_true ⟨h,ha⟩;simp [this]
theorem CX {w:Wld} {i:Nat} (h:i<w.tasks.length) (ha:¬ eP w w.tasks[i]):dW w (i+1)=dW w i:=by
 classical
 unfold dW;rw [List.range_succ,List.filter_append,List.map_append];have:decide (∃ h:i<w.tasks.length,eP w w.tasks[i])=false:=decide_eq_false λhb=>ha hb.2
 simp [this]
theorem A7 (w:Wld) (i:Nat):(dW w i).length<=i:=by
 unfold dW;rw [List.length_map];exact Nat.le_trans (List.length_filter_le _ _) (by simp)
open Classical in
noncomputable def jd (w:Wld) (i:Nat):List Int:=if ap w/\¬ w.step=1000000 then dW w i else []
theorem BN (w:Wld):jd w 0=[]:=by unfold jd;split<;>simp [yY]
theorem Ep (w:Wld):jd w w.tasks.length=cH w:=(rfl)
theorem En {w:Wld} {i:Nat} (h:i<w.tasks.length) (ha:(cr w i).2=true):jd w (i+1)=jd w i++[(i:Int)]:=by
 by_cases c:ap w/\¬ w.step=1000000
 ·unfold jd
  rw [if_pos c,if_pos c];exact A6 h ((iL c.1 c.2 h).1 ha)
 ·rw [io (λh=>c ⟨h.1,h.2.1⟩)] at ha
  cases ha
theorem HL {w:Wld} {i:Nat} (h:i<w.tasks.length) (ha:(cr w i).2=false):jd w (i+1)=jd w i:=by
 unfold jd
 split
 ·rename_i c
  exact CX h (λhb=>by rw [(iL c.1 c.2 h).2 hb] at ha;cases ha)
 ·rfl
theorem Eo (w:Wld) (i:Nat):(jd w i).length<=i:=by
 unfold jd
 split
 ·exact A7 w i
 ·simp
set_option maxHeartbeats 3200000
set_option maxHeartbeats 6400000
theorem up {d:Doc} (h:aN d):(cY d).length<=200:=by
 have h9:=(mH h (rev:=ac d) (by have:=aX h;omega) (Int.le_refl _)).2.2.1.1;unfold cY;exact h9
theorem nP {α:Type} {f:α->Nat} (a:α) (l:List α):nL f (a::l)=nL f l+f a+1:=by
 simp only [nL,bV,List.length_cons];omega
theorem mY {α:Type} {f:α->Nat}:nL f ([]:List α)=0:=(rfl)
theorem Hr {r:Ring} (h:aZ r):cR r<=2 ^ 21:=by
 obtain ⟨h1,h2,h3,h4,-⟩:=h;have hb:nL aS r.list<=r.list.length*(2 ^ 18+1):=oI (λe he=>xS (h1 e he).2.2.1);have hc:=Nat.mul_le_mul_right (2 ^ 18+1) (show r.list.length<=6 by omega);unfold cR;omega
theorem Di {h:Hub} (c:ao h) {s:Sub} (hs:s∈h.subs):dX s<=2 ^ 22:=by
 obtain ⟨i,hi,rfl⟩:=List.getElem_of_mem hs;obtain ⟨-,h2,-,k,hk,e,-⟩:=c.2.2.2.2 i hi;have h3:=Hr h2
 have h4:h.subs[i].doc.size<=8:=by
  rcases bJ h.docs h.subs[i].doc with ⟨j,hj,e',hn⟩|e'
  ·rw [<- hn];exact (cA c hj).1.1.2
  ·omega
 unfold dX;omega
theorem dm {h:Hub} (c:ao h):bX h<=2 ^ 27/\nL cq h.docs<=2 ^ 26/\nL dX h.subs<=2 ^ 25:=by
 have h1:nL cq h.docs<=h.docs.length*(2 ^ 23+1):=oI (λd hd=>by
  obtain ⟨i,hi,rfl⟩:=List.getElem_of_mem hd;exact iX (cA c hi))
 have h2:nL dX h.subs<=h.subs.length*(2 ^ 22+1):=oI (λs hs=>Di c hs);have h3:=Nat.mul_le_mul_right (2 ^ 23+1) c.1;have h4:=Nat.mul_le_mul_right (2 ^ 22+1) c.2.1;unfold bX;omega
theorem cg:bX Hub.zero=0:=(rfl)
theorem CJ (h:Hub) (name:ByteArray) (t:List Int):bX (aY h name t).1<=2 ^ 28:=by
 unfold aY
 split
 ·rename_i c
  have h1:=dm c.1;have h2:=iX c.2
  repeat' split
  ·rw [cg];omega
  ·rw [cg];omega
  ·rw [cg];omega
  ·have h3:nL cq (gk (dM name t) h.docs)=nL cq h.docs+cq (dM name t)+1:=by
    rw [oc,fi,nP];have h4:=fi (f:=cq) (h.docs.take (dI (dM name t).name h.docs)) (h.docs.drop (dI (dM name t).name h.docs));rw [List.take_append_drop] at h4;omega
   unfold bX;simp only;omega
 ·rw [cg];omega
theorem D4 (name:ByteArray) (e:Entry) (s:Sub):dX (di name e s)<=dX s+aS e+1:=by
 unfold di
 split
 ·have:=AP s.r e
  unfold dX;simp only;omega
 ·omega
theorem AD {h:Hub} (c:ao h) (name:ByteArray) (k:Nat) (d0:Doc) {d:Doc} (hd:cq d<=2 ^ 24):bX (cB h name k d0 d)<=2 ^ 28:=by
 have h1:=dm c;have h2:=tZ (f:=cq) h.docs k d;unfold cB
 have h3:∀ e,d.list.getLast? = some e->nL dX (h.subs.map (di name e))<=6*(20971521+1):=by
  intro e he;have h5:aS e<=2 ^ 24:=Nat.le_trans (cU (co hd).1 (List.mem_of_getLast? he)) (Nat.le_refl _)
  have h4:nL dX (h.subs.map (di name e))<=(h.subs.map (di name e)).length*(20971521+1):=oI (λs hs=>by
   rw [List.mem_map] at hs;obtain ⟨s0,hs0,rfl⟩:=hs;have h6:=D4 name e s0;have h7:=Di c hs0;omega)
  rw [List.length_map] at h4;exact Nat.le_trans h4 (Nat.mul_le_mul_right _ c.2.1)
 unfold bX;simp only
 split
 ·split
  ·rename_i e he
   have:=h3 e he;omega
  ·omega
 ·omega
theorem yB (h:Hub) (name:ByteArray) (client seq base:Int) (o:List Part):bX (aF h name client seq base o).1<=2 ^ 28:=by
 unfold aF
 split
 ·rename_i c
  split
  ·rw [cg];omega
  ·split
   ·rename_i d0 hd0
    have hd:aN d0:=by
     obtain ⟨hi,rfl⟩:=List.getElem?_eq_some_iff.1 hd0;exact cA c hi
    repeat' split
    ·exact AD c _ _ _ (rt hd)
    ·rw [cg];omega
    ·rw [cg];omega
   ·rw [cg];omega
 ·rw [cg];omega
theorem sI (h:Hub) (name:ByteArray) (room:Int):bX (au h name room).1<=2 ^ 28:=by
 unfold au
 split
 ·rename_i c
  have h1:=dm c.1
  repeat' split
  all_goals first|(rw [cg];omega)|skip
  rename_i hi _
  have h3:name.size<=8:=by
   rcases bJ h.docs name with ⟨j,hj,e',hn⟩|e'
   ·rw [<- hn];exact (cA c.1 hj).1.1.2
   ·omega
  unfold bX;simp only [fi,nP,mY,dX,uw];omega
 ·rw [cg];omega
theorem CI (h:Hub) (id n:Int):bX (bo h id n).1<=2 ^ 28/\nL aS (bo h id n).2.1<=2 ^ 24:=by
 unfold bo
 split
 ·rename_i c
  have h1:=dm c.1
  split
  ·rename_i s hs
   have hm:=List.mem_of_getElem? hs;have h2:=Di c.1 hm;have h3:=AQ s.r n
   repeat' split
   ·have h4:=tZ (f:=dX) h.subs (eL h.subs id).toNat ⟨s.id,s.doc,(bj s.r n).1⟩
    have h5:dX ⟨s.id,s.doc,(bj s.r n).1⟩=s.doc.size+cR (bj s.r n).1:=rfl;have h6:dX s=s.doc.size+cR s.r:=rfl;unfold bX;simp only;omega
   ·simp only [cg,mY];omega
   ·simp only [cg,mY];omega
  ·simp only [cg,mY];omega
 ·simp only [cg,mY];omega
theorem yC (h:Hub) (id:Int):bX (aI h id).1<=2 ^ 28/\(aI h id).2.1.length<=200:=by
 unfold aI
 split
 ·rename_i c
  have h1:=dm c
  split
  ·rename_i s hs
   have hm:=List.mem_of_getElem? hs;have h2:=Di c hm
   split
   ·split
    ·rename_i d hd
     obtain ⟨hi,rfl⟩:=List.getElem?_eq_some_iff.1 hd;have h3:=up (cA c hi);have h4:=tZ (f:=dX) h.subs (eL h.subs id).toNat ⟨s.id,s.doc,(bI s.r (ac h.docs[(az h.docs s.doc).toNat])).1⟩
     have h5:cR (bI s.r (ac h.docs[(az h.docs s.doc).toNat])).1=0:=by
      unfold bI
      split
      ·exact uw _ _
      ·rfl
     refine ⟨?_,h3⟩;unfold bX;simp only;have h7:dX ⟨s.id,s.doc,(bI s.r (ac h.docs[(az h.docs s.doc).toNat])).1⟩=s.doc.size+cR (bI s.r (ac h.docs[(az h.docs s.doc).toNat])).1:=rfl;have h6:dX s=s.doc.size+cR s.r:=rfl;omega
    ·simp only [cg,List.length_nil];omega
   ·simp only [cg,List.length_nil];omega
  ·simp only [cg,List.length_nil];omega
 ·simp only [cg,List.length_nil];omega
theorem CH (h:Hub):bX (bS h).1<=2 ^ 28:=by
 unfold bS
 repeat' split
 all_goals first|(rw [cg];omega)|skip
 rename_i c _
 have:=(dm c).1;unfold bX at this ⊢;simp only;omega
theorem yQ (x:Int):cM (bK x)=0:=(rfl)
theorem K6 {h:Hub} (c:ao h) (x:Call):cM (jx h x)<=2 ^ 24:=by
 unfold jx
 repeat' split
 all_goals first|(rw [yQ];omega)|skip
 ·rename_i d hd _ _
  obtain ⟨hi,rfl⟩:=List.getElem?_eq_some_iff.1 hd;have h3:=up (cA c hi);unfold cM;simp only [mY];omega
 ·rename_i d hd _ _
  obtain ⟨hi,rfl⟩:=List.getElem?_eq_some_iff.1 hd;have h3:=(co (iX (cA c hi))).1;generalize h.docs[(az h.docs x.doc).toNat]=d at h3;unfold cM;simp only [List.length_nil,Nat.zero_add];unfold fS
  repeat' split
  all_goals first|(simp only [mY];omega)|skip
  have h4:=fi (f:=aS) (d.list.take (x.n - d.fr).toNat) (d.list.drop (x.n - d.fr).toNat);rw [List.take_append_drop] at h4;simp only;omega
theorem LU (h:Hub) (c:Call):(bX (fDo h c).1<=bX h\/bX (fDo h c).1<=2 ^ 28)/\cM (fDo h c).2<=2 ^ 24:=by
 have hz:∀ x y:Int,cM ⟨x,y,[],[]⟩=0:=λ_ _=>rfl
 unfold fDo
 split
 ·rename_i ok
  have h1:=CJ h c.doc c.text;have h2:=yB h c.doc c.client c.seq c.n c.o;have h3:=sI h c.doc c.n;have h4:=CI h c.client c.n;have h5:=yC h c.client;have h6:=CH h;have h7:=K6 ok.1 c
  repeat' split
  all_goals simp only [yQ,hz]
  all_goals first|omega|skip
  ·refine ⟨.inr h4.1,?_⟩
   unfold cM;simp only [List.length_nil];omega
  ·refine ⟨.inr h5.1,?_⟩
   unfold cM;simp only [mY];omega
 ·simp only [yQ];omega
set_option maxHeartbeats 3200000
open Classical in
noncomputable def bU (w:Wld):List ByteArray:=if ap w/\¬ w.step=1000000 then w.queues.map Queue.doc else []
theorem jh {w:Wld} (h:ap w/\¬ w.step=1000000):bU w=w.queues.map Queue.doc:=by unfold bU;rw [if_pos h]
theorem me {w:Wld} (h:¬ (ap w/\¬ w.step=1000000)):bU w=[]:=by unfold bU;rw [if_neg h]
theorem yg (w:Wld) (hl:du w<=2 ^ 30):ai Tryz.prog 42 [.agg w.row] (.one (.c (.s ((bU w).map D6)) 1)):=by
 refine pci ae Tryz.func42 (λw0 base=>?_);have hno:=@me w;have hyes:=@jh w;have hlq:=aB (a9 hl).2.2.1;simp [Wld.row];intro b1;refine aa.pure (eD w hl) (by simp [Wld.row]) ?_;by_cases c1:ap w
 rotate_left
 ·simp [ab c1,hno (λh=>c1 h.1)]
 simp [c1];by_cases c2:w.step=1000000
 ·simp [c2,hno (λh=>h.2 c2)]
 rw [hyes ⟨c1,c2⟩];simp [c2];refine ag eok (λx:Nat×Hd=>x.1<=w.queues.length) (λx=>⟨28,0,[(17,.v (.int .i64 x.1)),(16,.v (.int .i64 w.queues.length)),(15,.ro (w.queues.map Queue.row)),(3,.sl 5000 x.2 1 0 x.1)],[(5000,.rows x.2 1 ((w.queues.take x.1).map λq=>D6 q.doc) true)]⟩) (λx=>w.queues.length - x.1) (0,none) (by simp) (by simp) (λx hx=>Ent.refl ?_);obtain ⟨i,H⟩:=x;simp only at hx ⊢;by_cases hlt:i<w.queues.length
 ·have e1:min i w.queues.length=i:=by omega
  simp [hlt,Queue.row];intro b5;simp [e1];intro b6;refine ⟨by omega,λH2=>Ent.refl ⟨i+1,by omega,by omega,H2,?_⟩⟩;simp;exact ⟨ah (by omega),da (f:=λq:Queue=>D6 q.doc) hlt⟩
 ·have e:i=w.queues.length:=by omega
  subst e;simp [Function.comp_def]
theorem pN {tasks:List Task} {doc:ByteArray}:∀ (l all m:List Int),bg tasks doc all l=some m->∀ k∈l,eI tasks doc k
 | [],_,_,_,k,hk=>by cases hk
 | a :: l, all, m, h, k, hk => by
   unfold bg at h
   split at h
   ·rename_i c
    rcases List.mem_cons.1 hk with rfl|hk
    ·exact c.1
    ·exact pN l _ m h k hk
   ·cases h
theorem mR {w:Wld} (c:cJ w) {i:Nat} (hi:i<w.queues.length):eY w.h w.queues i/\∀ k∈w.queues[i].list,eI w.tasks w.queues[i].doc k:=by
 have h1:bT w (i+1)≠none:=λh=>eg hi h c
 by_cases hq:eY w.h w.queues i
 rotate_left
 ·exact absurd (fh hi hq) h1
 refine ⟨hq,?_⟩
 cases e:bT w i with
 |none=>exact absurd (ic e 1) h1
 | some all =>
   rw [fg hi e hq] at h1
   cases e2:bg w.tasks w.queues[i].doc all w.queues[i].list with
   |none=>exact absurd e2 h1
   |some m=>exact pN _ _ m e2
open Classical in
noncomputable def jC (l:List Queue) (i:Nat) (q:Queue) (rest:List Int):List Queue:=if rest=[] then l.eraseIdx i else l.set i ⟨q.doc,rest⟩
open Classical in
noncomputable def cf (w:Wld) (name:ByteArray):Wld×Bool:=
 if ap w/\¬ w.step=1000000/\0<=bE w.queues name then
  (match w.queues[(bE w.queues name).toNat]? with
   | some q => (match w.tasks[(q.list.headD 0).toNat]? with
     |some t=>(bm (ix ⟨w.h,w.locks,jC w.queues (bE w.queues name).toNat q q.list.tail,w.tasks,w.step⟩ (q.list.headD 0).toNat t) (w.step+1),true)
     |none=>(Wld.zero,false))
   |none=>(Wld.zero,false))
 else (Wld.zero,false)
theorem lG {w:Wld} {name:ByteArray} (h:¬ (ap w/\¬ w.step=1000000/\0<=bE w.queues name)):cf w name=(Wld.zero,false):=by unfold cf;rw [if_neg h]
theorem eB {w:Wld} (c:ap w) {i:Nat} (hi:i<w.queues.length):∃ k:Nat,∃ _:k<w.tasks.length,∃ rest,w.queues[i].list=(k:Int)::rest/\rest.length<=1:=by
 obtain ⟨hq,hw⟩:=mR c.2.2.2.2.2.2.2 hi;obtain ⟨-,⟨h1,h2⟩,-⟩:=hq hi
 cases e:w.queues[i].list with
 |nil=>rw [e] at h1;simp at h1
 | cons a rest =>
   rw [e] at hw h2;obtain ⟨k,hk,rfl,-⟩:=hw a (List.mem_cons_self ..);exact ⟨k,hk,rest,rfl,by simpa using h2⟩
theorem gb {w:Wld} {name:ByteArray} (c:ap w) (s:¬ w.step=1000000) {i:Nat} (hi:i<w.queues.length) (e:bE w.queues name=i) {k:Nat} (hk:k<w.tasks.length) {rest:List Int} (hl:w.queues[i].list=(k:Int)::rest) :
 cf w name=(bm (ix ⟨w.h,w.locks,jC w.queues i w.queues[i] rest,w.tasks,w.step⟩ k w.tasks[k]) (w.step+1),true):=by
 unfold cf;rw [if_pos ⟨c,s,by omega⟩];simp [e,hi,hl,hk]
theorem Ad {α:Type} {f:α->Nat}:∀ (l:List α) (i:Nat),nL f (l.eraseIdx i)<=nL f l
 | [],_=>by simp
 |a::l,0=>by rw [List.eraseIdx_cons_zero,nP];omega
 | a :: l, i + 1 => by
   have:=Ad (f:=f) l i;rw [List.eraseIdx_cons_succ,nP,nP];omega
theorem wd (l:List Queue) (i:Nat) (q:Queue) (rest:List Int):nL dG (jC l i q rest)<=nL dG l+q.doc.size+rest.length:=by
 unfold jC
 split
 ·have:=Ad (f:=dG) l i;omega
 ·have h1:=tZ (f:=dG) l i ⟨q.doc,rest⟩
  have h2:dG ⟨q.doc,rest⟩=q.doc.size+rest.length:=rfl;omega
theorem tH {w:Wld} (c:ap w) {i:Nat} (hi:i<w.queues.length):w.queues[i].doc.size<=8:=by
 obtain ⟨hq,-⟩:=mR c.2.2.2.2.2.2.2 hi;obtain ⟨-,-,h3⟩:=hq hi;rcases bJ w.h.docs w.queues[i].doc with ⟨j,hj,e',hn⟩|e'
 ·rw [<- hn];exact (cA c.2.1 hj).1.1.2
 ·omega
theorem Fi {w:Wld} {name:ByteArray} (c:ap w) (s:¬ w.step=1000000) {i:Nat} (hi:i<w.queues.length) (e:bE w.queues name=i):(cf w name).2=true/\(cf w name).1.step=w.step+1:=by
 obtain ⟨k,hk,rest,hl,hr⟩:=eB c hi;rw [gb c s hi e hk hl];exact ⟨rfl,rfl⟩
noncomputable def fF (w:Wld):Nat:=(cH w).length+(bU w).length
def lV (picks:List Int) (n m:Nat):Nat:=match picks[n]? with
 |some p=>(p % (m:Int)).toNat
 |none=>0
theorem wv (picks:List Int) (n:Nat) {m:Nat} (h:0<m):lV picks n m<m:=by
 unfold lV
 split
 ·rename_i p _
  have h1:=Int.emod_nonneg p (show (m:Int)≠0 by omega);have h2:=Int.emod_lt_of_pos p (show (0:Int)<m by omega);omega
 ·exact h
noncomputable def cN (w:Wld) (p:Nat):Wld:=match (cH w)[p]? with
 |some k=>(cr w k).1
 | none => match (bU w)[p - (cH w).length]? with
   |some s=>(cf w s).1
   |none=>w
noncomputable def mb (picks:List Int):Nat->Nat->Wld->Wld×Int
 |0,n,w=>(w,n)
 |f+1,n,w=>if fF w=0 then (w,n) else mb picks f (n+1) (cN w (lV picks n (fF w)))
noncomputable def qn (w:Wld) (picks:List Int):Wld×Int:=mb picks 1000001 0 w
theorem uq {picks:List Int} {f n:Nat} {w:Wld} (h:fF w=0):mb picks f n w=(w,(n:Int)):=by
 cases f with
 |zero=>rfl
 |succ f=>rw [mb,if_pos h]
theorem w9 {picks:List Int} {f n:Nat} {w:Wld} (h:¬ fF w=0):mb picks (f+1) n w=mb picks f (n+1) (cN w (lV picks n (fF w))):=by rw [mb,if_neg h]
theorem pV {w:Wld} (h:¬ fF w=0):ap w/\¬ w.step=1000000:=by
 refine Classical.byContradiction λc=>h ?_
 unfold fF;rw [qo c,me c];rfl
theorem qA {w:Wld} {p:Nat} (h:p<(cH w).length):∃ k:Nat,∃ _:k<w.tasks.length,(cH w)[p]=(k:Int)/\(cr w k).2=true:=by
 have hc:ap w/\¬ w.step=1000000:=Classical.byContradiction λc=>by rw [qo c] at h;simp at h
 have hm:=List.getElem_mem h;generalize (cH w)[p]=x at hm ⊢;rw [oa hc] at hm;unfold dW at hm;rw [List.mem_map] at hm;obtain ⟨k,hk,e⟩:=hm;rw [List.mem_filter] at hk;obtain ⟨h1,h2⟩:∃ h:k<w.tasks.length,eP w w.tasks[k]:=by simpa using hk.2
 exact ⟨k,h1,e.symm,(iL hc.1 hc.2 h1).2 h2⟩
theorem qW {w:Wld} {p:Nat} (h:p<(bU w).length):∃ i:Nat,∃ _:i<w.queues.length,bE w.queues (bU w)[p]=i:=by
 have hc:ap w/\¬ w.step=1000000:=Classical.byContradiction λc=>by rw [me c] at h;simp at h
 have hm:=List.getElem_mem h;generalize (bU w)[p]=s at hm;rw [jh hc,List.mem_map] at hm;obtain ⟨q,hq,rfl⟩:=hm;rcases ch w.queues q.doc with ⟨k,hk,e,-⟩|e
 ·exact ⟨k,hk,e⟩
 ·exfalso
  obtain ⟨j,hj,rfl⟩:=List.getElem_of_mem hq;rcases e8 (λq':Queue=>q'.doc=w.queues[j].doc) w.queues with ⟨k,hk,e',-⟩|⟨-,hn⟩
  ·unfold bE at e;omega
  ·exact hn j hj rfl
theorem ux {w:Wld} {k:Int} (h:(cr w k).2=true):(cr w k).1.step=w.step+1:=by
 by_cases c:ap w/\¬ w.step=1000000/\(0<=k/\k<=(w.tasks.length:Int) - 1)
 rotate_left
 ·rw [io c] at h;cases h
 obtain ⟨c,hs,h1,h2⟩:=c;obtain ⟨k,rfl⟩:∃ n:Nat,k=n:=⟨k.toNat,by omega⟩;have hk:k<w.tasks.length:=by omega
 rw [ji c hs hk] at h ⊢;by_cases p0:w.tasks[k].pc=0
 ·by_cases d:aJ w.tasks[k].c.kind
  ·by_cases f:w.locks[aQ w.tasks[k].c.doc w.locks.length]? = some (-1)
   ·rw [eV p0 d f]
   ·rw [fQ p0 d f] at h;cases h
  ·rw [eW p0 d];rfl
 ·by_cases p1:w.tasks[k].pc=1
  ·rw [dQ p1];rfl
  ·by_cases p3:w.tasks[k].pc=3
   ·rw [eU p3]
   ·rw [fR p0 p1 p3] at h;cases h
theorem yy {w:Wld} (h:¬ fF w=0) {p:Nat} (hp:p<fF w):(cN w p).step=w.step+1:=by
 obtain ⟨c,s⟩:=pV h;unfold cN;by_cases ha:p<(cH w).length
 ·obtain ⟨k,hk,e,hy⟩:=qA ha
  rw [List.getElem?_eq_getElem ha];simp only [e];exact ux hy
 ·have hs:p - (cH w).length<(bU w).length:=by unfold fF at hp;omega
  obtain ⟨i,hi,e⟩:=qW hs;rw [List.getElem?_eq_none (by omega),List.getElem?_eq_getElem hs];exact (Fi c s hi e).2
def lF (w:Wld) (i:Nat):Prop:=bX w.h<=2 ^ 28/\w.locks.length<=2 ^ 20/\nL dG w.queues<=2 ^ 20+32*i/\(∀ t∈w.tasks,eF t<=2 ^ 25)/\nL eF w.tasks<=2 ^ 29
theorem rm {w:Wld} {i:Nat} (h:lF w i) (hi:i<=2 ^ 20):du w<=2 ^ 30:=by
 obtain ⟨h1,h2,h3,-,h5⟩:=h;unfold du;omega
theorem n7 {w:Wld} (c:ap w) {i:Nat} (h:lF w i) {h':Hub} {lk:List Int} {qs:List Queue} {t':Task} {k:Nat} {st:Int} (h1:bX h'<=2 ^ 28) (h2:lk.length=w.locks.length) (h3:nL dG qs<=nL dG w.queues+32)
 (h4:eF t'<=2 ^ 25):lF ⟨h',lk,qs,w.tasks.set k t',st⟩ (i+1):=by
 obtain ⟨-,g2,g3,g4,-⟩:=h
 have hm:∀ t∈w.tasks.set k t',eF t<=2 ^ 25:=by
  intro t ht;rcases List.mem_or_eq_of_mem_set ht with ht|rfl
  ·exact g4 t ht
  ·exact h4
 refine ⟨h1,?_,?_,hm,?_⟩
 ·show lk.length<=_;omega
 ·show nL dG qs<=_;omega
 ·show nL eF (w.tasks.set k t')<=_
  have h5:nL eF (w.tasks.set k t')<=(w.tasks.set k t').length*(2 ^ 25+1):=oI hm;rw [List.length_set] at h5;have h6:=Nat.mul_le_mul_right (2 ^ 25+1) c.2.2.2.1;omega
theorem n8 {w:Wld} (c:ap w) {i:Nat} (h:lF w i) {k:Nat} (hk:k<w.tasks.length) {lk:List Int} {qs:List Queue} (h2:lk.length=w.locks.length) (h3:nL dG qs<=nL dG w.queues+32) (n:Int) :
 lF (bm (ix ⟨w.h,lk,qs,w.tasks,w.step⟩ k w.tasks[k]) n) (i+1):=by
 have h1:=LU w.h w.tasks[k].c;have h4:=ir (c.1 _ (List.getElem_mem hk)).1;have h5:eF ⟨w.tasks[k].c,3,w.tasks[k].inv,w.step,w.tasks[k].rs,(fDo w.h w.tasks[k].c).2⟩=dv w.tasks[k].c+cM (fDo w.h w.tasks[k].c).2:=rfl;have h6:bX (fDo w.h w.tasks[k].c).1<=2 ^ 28:=by have:=h.1;omega
 have h7:eF ⟨w.tasks[k].c,3,w.tasks[k].inv,w.step,w.tasks[k].rs,(fDo w.h w.tasks[k].c).2⟩<=2 ^ 25:=by omega
 exact n7 c h h6 h2 h3 h7
theorem w8 {w:Wld} {i:Nat} (h:lF w i) {k:Int} (hy:(cr w k).2=true):lF (cr w k).1 (i+1):=by
 by_cases c:ap w/\¬ w.step=1000000/\(0<=k/\k<=(w.tasks.length:Int) - 1)
 rotate_left
 ·rw [io c] at hy;cases hy
 obtain ⟨c,hs,h1,h2⟩:=c;obtain ⟨k,rfl⟩:∃ n:Nat,k=n:=⟨k.toNat,by omega⟩;have hk:k<w.tasks.length:=by omega
 rw [ji c hs hk] at hy ⊢
 have hold:∀ pc rs:Int,eF ⟨w.tasks[k].c,pc,w.tasks[k].inv,w.tasks[k].lin,rs,w.tasks[k].a⟩<=2 ^ 25:=λ_ _=>by
  have ho:eF w.tasks[k]<=2 ^ 25:=h.2.2.2.1 _ (List.getElem_mem hk);exact ho
 by_cases p0:w.tasks[k].pc=0
 ·by_cases d:aJ w.tasks[k].c.kind
  ·by_cases f:w.locks[aQ w.tasks[k].c.doc w.locks.length]? = some (-1)
   ·rw [eV p0 d f];exact n7 c h h.1 (by simp) (by omega) (hold _ _)
   ·rw [fQ p0 d f] at hy;cases hy
  ·rw [eW p0 d];exact n8 c h hk rfl (by omega) _
 ·by_cases p1:w.tasks[k].pc=1
  ·rw [dQ p1]
   have h2:=c.1 _ (List.getElem_mem hk);have hd:=h2.1.2.1;by_cases q:¬ w.tasks[k].c.kind=2\/w.h.shut=true\/az w.h.docs w.tasks[k].c.doc<0
   ·rw [gd q];exact n8 c h hk (by simp) (by omega) _
   ·rcases ch w.queues w.tasks[k].c.doc with ⟨j,hj,e,hn⟩|e
    ·by_cases f:w.queues[j].list.length=2
     ·rw [ge q hj e f]
      have h5:=ir h2.1;have h4:eF ⟨w.tasks[k].c,3,w.tasks[k].inv,w.tasks[k].lin,w.tasks[k].rs,⟨11,0,[],[]⟩⟩=dv w.tasks[k].c:=rfl;have h6:eF ⟨w.tasks[k].c,3,w.tasks[k].inv,w.tasks[k].lin,w.tasks[k].rs,⟨11,0,[],[]⟩⟩<=2 ^ 25:=by omega
      exact n7 c h h.1 (by simp) (Nat.le_add_right _ _) h6
     ·rw [gc q hj e f]
      have hqa:=(mR c.2.2.2.2.2.2.2 hj).1 hj;have h3:=tZ (f:=dG) w.queues j ⟨w.queues[j].doc,w.queues[j].list++[(k:Int)]⟩;have h4:dG ⟨w.queues[j].doc,w.queues[j].list++[(k:Int)]⟩=w.queues[j].doc.size+(w.queues[j].list.length+1):=by unfold dG;simp
      have h6:w.queues[j].doc.size<=8:=by rw [hn];exact hd
      have h5:=hqa.2.1.2;have h7:nL dG (w.queues.set j ⟨w.queues[j].doc,w.queues[j].list++[(k:Int)]⟩)<=nL dG w.queues+32:=by omega
      exact n7 c h h.1 (by simp) h7 (hold _ _)
    ·rw [gS q e]
     have h3:=fi (f:=dG) (w.queues.take (aL w.tasks[k].c.doc w.queues)) (w.queues.drop (aL w.tasks[k].c.doc w.queues));rw [List.take_append_drop] at h3;have h4:dG ⟨w.tasks[k].c.doc,[(k:Int)]⟩=w.tasks[k].c.doc.size+1:=rfl
     have h7:nL dG (w.queues.take (aL w.tasks[k].c.doc w.queues)++⟨w.tasks[k].c.doc,[(k:Int)]⟩::w.queues.drop (aL w.tasks[k].c.doc w.queues))<=nL dG w.queues+32:=by
      simp only [fi,nP];omega
     exact n7 c h h.1 (by simp) h7 (hold _ _)
  ·by_cases p3:w.tasks[k].pc=3
   ·rw [eU p3];exact n7 c h h.1 rfl (by omega) (hold _ _)
   ·rw [fR p0 p1 p3] at hy;cases hy
theorem Fe {w:Wld} {i:Nat} (h:lF w i) (hm:¬ fF w=0) {p:Nat} (hp:p<fF w):lF (cN w p) (i+1):=by
 obtain ⟨c,s⟩:=pV hm;unfold cN;by_cases ha:p<(cH w).length
 ·obtain ⟨k,hk,e,hy⟩:=qA ha
  rw [List.getElem?_eq_getElem ha];simp only [e];exact w8 h hy
 ·have hs:p - (cH w).length<(bU w).length:=by unfold fF at hp;omega
  obtain ⟨j,hj,e⟩:=qW hs;rw [List.getElem?_eq_none (by omega),List.getElem?_eq_getElem hs];obtain ⟨k,hk,rest,hl,hr⟩:=eB c hj;have h2:=wd w.queues j w.queues[j] rest;have h3:=tH c hj;simp only;rw [gb c s hj e hk hl];exact n8 c h hk rfl (by omega) _
def dZ (l:List Task) (k:Nat):Int:=match l[k]? with
 |some t=>t.lin
 |none=>0
def mz (f:Nat->Int) (x:Nat) (l:List Nat):Nat:=l.length - (l.reverse.takeWhile λy=>decide (f x<f y)).length
def d6 (f:Nat->Int) (x:Nat) (l:List Nat):List Nat:=l.take (mz f x l)++x::l.drop (mz f x l)
def bq (l:List Task):Nat->List Nat
 |0=>[]
 |i+1=>if dZ l i = -1 then bq l i else d6 (dZ l) i (bq l i)
def fe (w:Wld):List Int:=(bq w.tasks w.tasks.length).map λk:Nat=>(k:Int)
theorem zV (f:Nat->Int) (x:Nat) (l:List Nat):mz f x l<=l.length:=Nat.sub_le _ _
theorem pa (f:Nat->Int) (x:Nat) (l:List Nat):(d6 f x l).length=l.length+1:=by
 have:=zV f x l;unfold d6;simp only [List.length_append,List.length_take,List.length_cons,List.length_drop];omega
theorem o9 {f:Nat->Int} {x:Nat} {l:List Nat} {y:Nat} (h:y∈d6 f x l):y=x\/y∈l:=by
 unfold d6 at h;rcases List.mem_append.1 h with h|h
 ·exact .inr (List.mem_of_mem_take h)
 ·rcases List.mem_cons.1 h with h|h
  ·exact .inl h
  ·exact .inr (List.mem_of_mem_drop h)
theorem mI {p:Nat->Bool}:∀ (l:List Nat) (y:Nat),((l++[y]).reverse.takeWhile p)=if p y then y::l.reverse.takeWhile p else []
 | l, y => by
   rw [List.reverse_append];simp only [List.reverse_cons,List.reverse_nil,List.nil_append,List.cons_append,List.takeWhile_cons]
theorem tT {f:Nat->Int} {x:Nat}:∀ (l:List Nat) (k:Nat) (_:k<=l.length),(∀ j,k<=j->∀ h:j<l.length,f x<f l[j])->(∀ _h:0<k,∀ h':k - 1<l.length,¬ f x<f l[k - 1])->mz f x l=k:=by
 intro l k hk h1 h2
 have key:(l.reverse.takeWhile λy=>decide (f x<f y))=(l.drop k).reverse:=by
  have e:l.reverse=(l.drop k).reverse++(l.take k).reverse:=by rw [<- List.reverse_append,List.take_append_drop]
  rw [e,List.takeWhile_append_of_pos]
  ·have:((l.take k).reverse.takeWhile λy=>decide (f x<f y))=[]:=by
    rcases Nat.eq_zero_or_pos k with h0|h0
    ·subst h0;simp
    ·have hl:k - 1<l.length:=by omega
     have e2:l.take k=l.take (k - 1)++[l[k - 1]]:=by rw [List.take_append_getElem hl,Nat.sub_add_cancel h0]
     rw [e2,mI,if_neg (by simpa using h2 h0 hl)]
   rw [this,List.append_nil]
  ·intro y hy
   rw [List.mem_reverse] at hy;obtain ⟨j,hj,rfl⟩:=List.getElem_of_mem hy;rw [List.getElem_drop];rw [List.length_drop] at hj;exact decide_eq_true (h1 (k+j) (by omega) (by omega))
 unfold mz;rw [key,List.length_reverse,List.length_drop];omega
theorem mV (l:List Task):∀ i,(bq l i).length<=i
 |0=>Nat.le_refl 0
 | i + 1 => by
   have:=mV l i;unfold bq
   split
   ·omega
   ·rw [pa];omega
theorem eT {l:List Task}:∀ {i k:Nat},k∈bq l i->k<i
 |0,k,h=>by cases h
 | i + 1, k, h => by
   unfold bq at h
   split at h
   ·have:=eT h;omega
   ·rcases o9 h with rfl|h
    ·omega
    ·have:=eT h;omega
noncomputable def cw:Hub->List Call->Hub×List Answer
 |h,[]=>(h,[])
 |h,c::l=>((cw (fDo h c).1 l).1,(fDo h c).2::(cw (fDo h c).1 l).2)
theorem nk:∀ (l:List Call) (h:Hub) (c:Call),cw h (l++[c])=((fDo (cw h l).1 c).1,(cw h l).2++[(fDo (cw h l).1 c).2])
 | [],h,c=>rfl
 | a :: l, h, c => by
   simp only [List.cons_append,cw,nk l (fDo h a).1 c]
theorem po:∀ (l:List Call) (h:Hub),(cw h l).2.length=l.length
 | [],_=>rfl
 |a::l,h=>by simp only [cw,List.length_cons,po l]
theorem uC {B:Nat} (hB:2 ^ 28<=B):∀ (l:List Call) (h:Hub),bX h<=B->bX (cw h l).1<=B/\∀ a∈(cw h l).2,cM a<=2 ^ 24
 | [],h,hl=>⟨hl,λa ha=>by cases ha⟩
 | c :: l, h, hl => by
   have h1:=LU h c;have h2:=uC hB l (fDo h c).1 (by omega);refine ⟨h2.1,λa ha=>?_⟩;rcases List.mem_cons.1 ha with rfl|ha
   ·exact h1.2
   ·exact h2.2 a ha
def nR (k:Nat):List CD:=[.v (.int .i64 (k:Int))]
@[simp] theorem TZ (k:Nat):(nR k).length=1:=rfl
def ik (x:Nat) (P:List Nat) (j:Nat):List Nat:=P.take j++x::P.drop j
theorem EX {x:Nat} {P:List Nat} {j:Nat} (h:j<=P.length):(ik x P j).length=P.length+1:=by
 unfold ik;simp only [List.length_append,List.length_take,List.length_cons,List.length_drop];omega
theorem EY {x:Nat} {P R:List Nat} {j:Nat} (h:j<=P.length):(ik x P j++R)[j]? = some x:=by
 unfold ik;rw [List.append_assoc,List.getElem?_append_right (by rw [List.length_take];omega),List.length_take,Nat.min_eq_left h];simp
theorem EW {x:Nat} {P R:List Nat} {j:Nat} (h:j<P.length):(ik x P (j+1)++R)[j]? = some P[j]:=by
 unfold ik;rw [List.append_assoc,List.getElem?_append_left (by rw [List.length_take];omega),List.getElem?_take_of_lt (by omega),List.getElem?_eq_getElem h]
theorem EZ (x:Nat) (P R:List Nat):P++x::R=ik x P P.length++R:=by unfold ik;simp
theorem Ch {x:Nat} {P R:List Nat} {j:Nat} (h:j<P.length):((ik x P (j+1)++R).set (j+1) P[j]).set j x=ik x P j++R:=by
 have e1:P.take (j+1)=P.take j++[P[j]]:=by rw [List.take_append_getElem h]
 have e2:P.drop j=P[j]::P.drop (j+1):=by rw [List.drop_eq_getElem_cons h]
 have hl:(P.take j).length=j:=by rw [List.length_take];omega
 unfold ik;rw [e1,e2];generalize P.take j=A at hl;generalize P[j]=y;generalize P.drop (j+1)=B;subst hl;have f:∀ (A C:List Nat) (a b:Nat) (i:Nat),(A++a::C).set A.length b=A++b::C:=λA C a b _=>by rw [List.set_append_right _ _ (Nat.le_refl _)];simp
 have s1:(A++[y]++x::B++R)=((A++[y])++x::(B++R)):=by simp
 rw [s1];have s2:=f (A++[y]) (B++R) x y 0;rw [List.length_append,List.length_singleton] at s2;rw [s2];have s3:(A++[y]++y::(B++R))=A++y::(y::(B++R)):=by simp
 rw [s3,f A _ y x 0];simp
def dK (f:Nat->Int):List Nat->List Nat->List Nat
 |P,[]=>P
 |P,x::O=>dK f (d6 f x P) O
theorem m5 (f:Nat->Int) (x:Nat):∀ (O P:List Nat),dK f P (O++[x])=d6 f x (dK f P O)
 | [],P=>rfl
 |y::O,P=>by rw [List.cons_append,dK,dK,m5 f x O]
theorem pl (f:Nat->Int):∀ (O P:List Nat),(dK f P O).length=P.length+O.length
 | [],P=>rfl
 |y::O,P=>by rw [dK,pl f O,pa,List.length_cons];omega
def fp (l:List Task):Nat->List Nat
 |0=>[]
 |i+1=>if dZ l i = -1 then fp l i else fp l i++[i]
theorem tR (l:List Task):∀ i,(fp l i).length<=i
 |0=>Nat.le_refl 0
 | i + 1 => by
   have:=tR l i;unfold fp
   split
   ·omega
   ·rw [List.length_append,List.length_singleton];omega
theorem o8 {l:List Task}:∀ {i k:Nat},k∈fp l i->k<i
 |0,_,h=>by cases h
 | i + 1, k, h => by
   unfold fp at h
   split at h
   ·have:=o8 h;omega
   ·rcases List.mem_append.1 h with h|h
    ·have:=o8 h;omega
    ·simp at h;omega
theorem mW (l:List Task):∀ i,bq l i=dK (dZ l) [] (fp l i)
 |0=>rfl
 | i + 1 => by
   unfold bq fp
   split
   ·exact mW l i
   ·rw [m5,mW l i]
theorem ug {f:Nat->Int} {x:Nat}:∀ {O P:List Nat},x∈dK f P O->x∈P\/x∈O
 | [],_,h=>.inl h
 | y :: O, P, h => by
   rcases ug (O:=O) h with h|h
   ·rcases o9 h with h|h
    ·exact .inr (by rw [h];exact List.mem_cons_self ..)
    ·exact .inl h
   ·exact .inr (List.mem_cons_of_mem _ h)
theorem BO (f:Nat->Int) (x:Nat):d6 f x []=[x]:=by simp [d6,mz]
theorem Et {f:Nat->Int} {x:Nat} {P:List Nat} {j:Nat} (hj:j<=P.length) (h1:∀ k,j<=k->∀ h:k<P.length,f x<f P[k]) (h2:∀ _h:0<j,∀ h':j - 1<P.length,¬ f x<f P[j - 1]):d6 f x P=ik x P j:=by
 unfold d6 ik;rw [tT P j hj h1 h2]
theorem Cj (f:Nat->Int) (O:List Nat):dK f [] (O.take 1)++O.drop 1=O:=by
 cases O with
 |nil=>rfl
 |cons x O=>simp [dK,BO]
theorem Ci {f:Nat->Int} {O:List Nat} {m:Nat} (h:m<O.length):dK f [] (O.take (m+1))=d6 f O[m] (dK f [] (O.take m)):=by
 rw [<- List.take_append_getElem h,m5]
end Go.Proofs.YtoldjebobgocpaaGreat
