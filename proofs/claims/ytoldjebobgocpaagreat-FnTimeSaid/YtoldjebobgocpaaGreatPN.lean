import Derived.Test.YtoldjebobgocpaaGreatPL
import Derived.Test.YtoldjebobgocpaaGreatPK
import Derived.Test.YtoldjebobgocpaaGreatPM
import Derived.Test.YtoldjebobgocpaaGreatMF
namespace Go.Proofs.YtoldjebobgocpaaGreat
open Go.AM
set_option maxRecDepth 20000
set_option maxHeartbeats 6400000
theorem xH {E : Env} {id : Nat} {ops : List Oper} {Q : Exit->ASt->Prop} {n kb : Nat} {t : List (Nat × AV)} {h : AH} (h' : am E id ops Q ⟨n,kb,AM.hush t,h⟩) : am E id ops Q ⟨n,kb,t,h⟩:=λa w hR=>h' a w hR.hush
theorem ma (w : Wld) (hl : ed w<=2 ^ 30) (name : ByteArray) : aj Tryz.prog 93 [.agg w.row,.c (.v (.string name))] (.tup [.agg (cf w name).1.res,.c (.v (.bool (cf w name).2)) 1]):=by
 refine aj.introL ae Tryz.func93 (by kernel_rfl) rfl rfl rfl (Nat.le_of_ble_eq_true rfl) rfl (λw0 base us hrd=>?_);have hno:=@kQ w name;have hwo:=j6 w (by omega);have hcp:=pX w (by omega);obtain ⟨nh,n2,n3,n4⟩:=bg hl;have hle:=aA n4;have hlq:=aA n3;simp [Wld.row] at hrd;obtain ⟨r1,r2,r3,r4,r5⟩:=hrd;simp [Wld.row];intro b2 b4;refine aa.pure (gm (w.h.docs.map Doc.row) (w.h.subs.map Sub.row) (w.locks.map ak) (w.tasks.map Task.row) w.h.shut w.h.last w.step (mZ w.queues) (by omega) name) (by simp [r1,r2,r3,r4,r5]) ?_;simp;refine aa.pure hwo (by simp [Wld.row,r1,r2,r3,r4,r5]) ?_;by_cases c1 : ao w
 rotate_left
 ·simp [ab c1,hno (λh=>c1 h.1),Wld.res,Wld.zero,Hub.zero]
 have hhb:=(eL c1.2.1).1;simp [c1];by_cases c2 : w.step = 1000000
 ·simp [c2,hno (λh=>h.2.1 c2),Wld.res,Wld.zero,Hub.zero]
 simp [c2];rcases cr w.queues name with ⟨i,hi,eq,hd⟩ | eq;rotate_left
 ·simp [eq,hno (λh=>by have:=h.2.2;omega),Wld.res,Wld.zero,Hub.zero]
 obtain ⟨k,hk,rest,hql,hrl⟩:=eH c1 hi;have hi0 : ¬ (i : Int) < 0:=by omega
 rw [go c1 c2 hi eq hk hql];obtain ⟨q,hq⟩ : ∃ q,w.queues[i] = q:=⟨_,rfl⟩;rw [hq] at hql ⊢;simp [eq,hi0];refine aa.pure hcp (by simp [Wld.row,r1,r2,r3,r4,r5]) ?_;have htk:=(c1.1 _ (List.getElem_mem hk));obtain ⟨t,ht⟩ : ∃ t,w.tasks[k] = t:=⟨_,rfl⟩;rw [ht] at htk ⊢;have hm:=λg=>im (f:=Task.row) hk ht g
 have ew : Go.IntKind.i64.wrap (w.step + 1) = w.step + 1:=Go.IntWalk.i64_in _ (by have:=c1.2.2.2.2.1;omega);have ei : Go.IntKind.i64.wrap ((i : Int) + 1) = ((i + 1 : Nat) : Int):=ah (by omega);have hk2:=(jt (dA.1 c1) hi hk (hq.symm ▸ hql)).1;rw [ht] at hk2;have hdo:=Cl w.h (by omega) t.c (by have:=jD htk.1;omega) (htk.2.2.2.2.1 hk2);have hlen : q.list.length = rest.length + 1:=by rw [hql];rfl
 simp [Wld.res,hi,hq,Queue.row,hql];intro H1 H2 H3 H4 H5 b7;have hrow : ∀ d,iV (w.queues.map Queue.row) i 1 d = (w.queues.map Queue.row).set i [.v (.string q.doc),d]:=λd=>by have:=im (f:=Queue.row) hi hq (λrow=>row.set 1 d);exact this
 refine xH ?_;simp;refine am.open (λ_ h=>h) (k:=437) (i:=i) (j:=1) (k':=60000) (sz':=1) (sz:=2) (H:=H4) (rows:=w.queues.map Queue.row) (srows:=q.list.map ak) (row:=q.row) (by simp) (by simp [hi,hq]) rfl (by simp) (by decide) (by simp [ak]) (by simp) (λG=>?_);have hpos : 0 < q.list.length:=by omega
 refine drw eok mix [0,1,2,3,4,5,6,7,8,9,10,11] [12] (.c 12 12 4093 2 (.l 12 2) .s) ?_;simp [hi,hrow,hlen]
 try intros
 refine ⟨by omega,?_⟩;have hct : cut (q.list.map ak) 1 rest.length = rest.map ak:=by rw [hql,cM,List.map_cons,List.drop_one,List.tail_cons];exact List.take_of_length_le (by simp)
 have hA : ∀ Y,cut ((w.queues.map Queue.row).set i Y) 0 i = (w.queues.take i).map Queue.row:=λY=>by rw [cM,List.drop_zero,List.take_set,List.set_eq_of_length_le (by simp;omega),List.map_take]
 have hB : ∀ Y,cut ((w.queues.map Queue.row).set i Y) (i + 1) (w.queues.length - (i + 1)) = (w.queues.drop (i + 1)).map Queue.row:=λY=>by
  rw [cM,List.drop_set_of_lt (by omega),List.map_drop];exact List.take_of_length_le (by simp)
 have hmin : min i w.queues.length = i:=by omega
 generalize hR : fDo w.h t.c = R at hdo;obtain ⟨h',a'⟩:=R;by_cases hz : rest = []
 ·subst hz
  simp at hct;simp [hct,ei,bW,hA,hB,hmin];intro b56;refine ⟨by omega,by omega,λH=>⟨by omega,by omega,by omega,by omega,λH6=>?_⟩⟩;refine inl ae Tryz.func70 40000 (λw1 F=>?_);refine bE (λx : (Hd × Hd × Hd × Hd) × Nat × Nat=>[(4,.p 40064 x.2.1 0),(5,.p 40080 x.2.2 0)]) (λx=>[(40064,.vars x.2.1 35 [.v (.bool h'.shut),.sl 40305 x.1.1 5 0 h'.docs.length,.sl 40306 x.1.2.1 6 0 h'.subs.length,.v (.int .i64 h'.last)]),(40080,.vars x.2.2 72 [.v (.int .i64 a'.code),.v (.int .i64 a'.rev),.sl 40310 x.1.2.2.1 1 0 a'.text.length,.sl 40311 x.1.2.2.2 3 0 a'.list.length]),(40305,.rows x.1.1 5 (h'.docs.map Doc.row) true),(40306,.rows x.1.2.1 6 (h'.subs.map Sub.row) true),(40310,.rows x.1.2.2.1 1 (a'.text.map ak) true),(40311,.rows x.1.2.2.2 3 (a'.list.map Entry.row) true)]) [0,1] ?_ ?_
  ·refine drw eok mix [0,1,2,3,4,5,6,7,8,9,10,11] [12,13,14,15,16,17,18,19] (.c 12 12 257 3838 (.c 12 13 0 3838 (.c 12 14 0 3838 (.c 12 15 0 3838 (.c 12 16 0 3838 (.c 12 17 0 3838 (.c 12 18 3838 0 (.c 12 19 0 0 (.l 12 0) .s) .s) .s) (.c 12 17 0 3838 (.c 12 16 0 3838 (.c 12 18 3838 0 (.c 12 19 0 0 (.l 12 0) .s) .s) .s) .s)) .s) .s) .s) (.c 12 16 0 4095 (.c 12 12 257 3838 (.c 12 13 0 3838 (.c 12 14 0 3838 (.c 12 15 0 3838 (.c 12 17 0 3838 (.c 12 18 3838 0 (.c 12 19 0 0 (.l 12 0) .s) .s) .s) .s) .s) .s) (.c 12 17 0 4095 (.c 12 12 257 3838 (.c 12 13 0 3838 (.c 12 14 0 3838 (.c 12 15 0 3838 (.c 12 18 3838 0 (.c 12 19 0 0 (.l 12 0) .s) .s) .s) .s) .s) .s) .s)) (.c 12 17 0 4095 (.c 12 12 257 3838 (.c 12 13 0 3838 (.c 12 14 0 3838 (.c 12 15 0 3838 (.c 12 16 0 3838 (.c 12 18 3838 0 (.c 12 19 0 0 (.l 12 0) .s) .s) .s) .s) .s) .s) (.c 12 16 0 4095 (.c 12 12 257 3838 (.c 12 13 0 3838 (.c 12 14 0 3838 (.c 12 15 0 3838 (.c 12 18 3838 0 (.c 12 19 0 0 (.l 12 0) .s) .s) .s) .s) .s) .s) .s)) .s))) ?_
   simp [hk,ht,Task.row]
   try intros
   repeat' first
    | (refine aa.pure (hdo) (by simp [Hub.row,Call.row]) ?_;simp [Hub.res,Answer.res];try intros)
    | (rw [Trc];refine ⟨?_,?_⟩<;>(try simp [hk,ht,Task.row])<;>try intros)
   all_goals
    exact ⟨_,_,_,_,_,_,⟨rfl,rfl⟩,⟨rfl,rfl,rfl⟩,⟨rfl,rfl,rfl⟩,rfl,rfl,rfl,rfl⟩
  rintro ⟨⟨K1,K2,K3,K4⟩,e1,e2⟩
  simp;refine drw eok mix [0,1,2,3,4,5,6,7] [8] (.c 8 8 253 2 (.l 8 2) .s) ?_;simp [hk,Task.row,hm]
  try intros
  refine drw eok mix [0,1,2,3,4,5,6,7,8,9,10] [11] (.c 11 11 2045 2 (.l 11 2) .s) ?_;simp [hk,bW]
  try intros
  simp [ew,bj,gU,hR,Task.row,iU,List.eraseIdx_eq_take_drop_succ,hmin];exact ⟨λr hr=>hr.elim (λh=>v7 (List.mem_of_mem_take h)) (λh=>v7 (List.mem_of_mem_drop h)),λr hr=>iI rfl r hr⟩
 ·simp [hct,hz]
  refine inl ae Tryz.func70 20000 (λw1 F=>?_);refine bE (λx : (Hd × Hd × Hd × Hd) × Nat × Nat=>[(4,.p 20064 x.2.1 0),(5,.p 20080 x.2.2 0)]) (λx=>[(20064,.vars x.2.1 35 [.v (.bool h'.shut),.sl 20305 x.1.1 5 0 h'.docs.length,.sl 20306 x.1.2.1 6 0 h'.subs.length,.v (.int .i64 h'.last)]),(20080,.vars x.2.2 72 [.v (.int .i64 a'.code),.v (.int .i64 a'.rev),.sl 20310 x.1.2.2.1 1 0 a'.text.length,.sl 20311 x.1.2.2.2 3 0 a'.list.length]),(20305,.rows x.1.1 5 (h'.docs.map Doc.row) true),(20306,.rows x.1.2.1 6 (h'.subs.map Sub.row) true),(20310,.rows x.1.2.2.1 1 (a'.text.map ak) true),(20311,.rows x.1.2.2.2 3 (a'.list.map Entry.row) true)]) [0,1] ?_ ?_
  ·refine drw eok mix [0,1,2,3,4,5,6,7,8,9,10,11] [12,13,14,15,16,17,18,19] (.c 12 12 257 3838 (.c 12 13 0 3838 (.c 12 14 0 3838 (.c 12 15 0 3838 (.c 12 16 0 3838 (.c 12 17 0 3838 (.c 12 18 3838 0 (.c 12 19 0 0 (.l 12 0) .s) .s) .s) (.c 12 17 0 3838 (.c 12 16 0 3838 (.c 12 18 3838 0 (.c 12 19 0 0 (.l 12 0) .s) .s) .s) .s)) .s) .s) .s) (.c 12 16 0 4095 (.c 12 12 257 3838 (.c 12 13 0 3838 (.c 12 14 0 3838 (.c 12 15 0 3838 (.c 12 17 0 3838 (.c 12 18 3838 0 (.c 12 19 0 0 (.l 12 0) .s) .s) .s) .s) .s) .s) (.c 12 17 0 4095 (.c 12 12 257 3838 (.c 12 13 0 3838 (.c 12 14 0 3838 (.c 12 15 0 3838 (.c 12 18 3838 0 (.c 12 19 0 0 (.l 12 0) .s) .s) .s) .s) .s) .s) .s)) (.c 12 17 0 4095 (.c 12 12 257 3838 (.c 12 13 0 3838 (.c 12 14 0 3838 (.c 12 15 0 3838 (.c 12 16 0 3838 (.c 12 18 3838 0 (.c 12 19 0 0 (.l 12 0) .s) .s) .s) .s) .s) .s) (.c 12 16 0 4095 (.c 12 12 257 3838 (.c 12 13 0 3838 (.c 12 14 0 3838 (.c 12 15 0 3838 (.c 12 18 3838 0 (.c 12 19 0 0 (.l 12 0) .s) .s) .s) .s) .s) .s) .s)) .s))) ?_
   simp [hk,ht,Task.row]
   try intros
   repeat' first
    | (refine aa.pure (hdo) (by simp [Hub.row,Call.row]) ?_;simp [Hub.res,Answer.res];try intros)
    | (rw [Trc];refine ⟨?_,?_⟩<;>(try simp [hk,ht,Task.row])<;>try intros)
   all_goals
    exact ⟨_,_,_,_,_,_,⟨rfl,rfl⟩,⟨rfl,rfl,rfl⟩,⟨rfl,rfl,rfl⟩,rfl,rfl,rfl,rfl⟩
  rintro ⟨⟨K1,K2,K3,K4⟩,e1,e2⟩
  simp;refine drw eok mix [0,1,2,3,4,5,6,7] [8] (.c 8 8 253 2 (.l 8 2) .s) ?_;simp [hk,Task.row,hm]
  try intros
  refine drw eok mix [0,1,2,3,4,5,6,7,8,9,10] [11] (.c 11 11 2045 2 (.l 11 2) .s) ?_;simp [hk,bW]
  try intros
  simp [ew,bj,gU,hR,Task.row,iU,hz];exact ⟨λr hr=>Fi rfl r hr,rfl,λr hr=>iI rfl r hr⟩
theorem am.weak {E : Env} {id : Nat} {ops : List Oper} {Q : Exit->ASt->Prop} {st : ASt} (st2 : ASt) (hw : tY st st2) (h2 : am E id ops Q st2) : am E id ops Q st:=am.ent λ_a _w hR=>⟨st2,h2,hw.rep hR⟩
theorem qZ (w : Wld) (hl : ed w<=2 ^ 30) (name : ByteArray) : aj Tryz.prog 44 [.agg w.row,.c (.v (.string name))] (.tup [.agg (cf w name).1.res,.c (.v (.bool (cf w name).2)) 1]):=by
 refine pci ae Tryz.func44 (λw0 base=>?_);have hno:=@kQ w name;have hwo:=io w (by omega);have hcp:=mH w (by omega);obtain ⟨nh,n2,n3,n4⟩:=bg hl;have hle:=aA n4;have hlq:=aA n3;simp [Wld.row];intro b2 b3 b4;refine inl ae Tryz.func130 20000 (λw1 F=>?_);simp
 refine au.intro eok (λi : Nat=>i<=w.queues.length/\∀ j,j < i->∀ hj : j < w.queues.length,¬ w.queues[j].doc = name) (λi=>⟨19,20000,[(8,.v (.int .i64 i)),(7,.v (.int .i64 w.queues.length)),(0,.ro (w.queues.map Queue.row)),(1,.clo 131 [.p 48 b3 0])],
  [(48, .vars b3 9 [.v (.string name)]), (64, .vars b4 39 [.v (.bool false), .nil, .nil, .v (.int .i64 0), .nil, .nil, .nil, .v (.int .i64 0)]),
   (32,.vars b2 39 [.v (.bool w.h.shut),.ro (w.h.docs.map Doc.row),.ro (w.h.subs.map Sub.row),.v (.int .i64 w.h.last),.ro (w.locks.map ak),.ro (w.queues.map Queue.row),.ro (w.tasks.map Task.row),.v (.int .i64 w.step)])]⟩) (λi=>w.queues.length - i) 0 (by simp) (by simp) (λi hi=>?_)
 by_cases hlt : i < w.queues.length
 rotate_left
 ·have eq : bq w.queues name = -1:=ie (λj hj=>hi.2 j (by omega) hj)
  simp [hlt,hno (λh=>by have:=h.2.2;omega),Wld.res,Wld.zero,Hub.zero]
 simp [hlt];refine inl ae Tryz.func131 40000 (λw2 F2=>?_);simp [Queue.row];intro b;by_cases c : w.queues[i].doc = name
 rotate_left
 ·simp [c]
  exact ⟨i + 1,⟨by omega,λj hj hjl=>by
   by_cases hji : j = i
   ·subst hji;exact c
   ·exact hi.2 j (by omega) hjl⟩,by omega,ah (by omega)⟩
 have eq : bq w.queues name = i:=jT hlt c hi.2;have hi0 : ¬ (i : Int) < 0:=by omega
 simp [c,hi0];refine aa.pure hwo (by simp [Wld.row]) ?_;by_cases c1 : ao w
 rotate_left
 ·simp [ab c1,hno (λh=>c1 h.1),Wld.res,Wld.zero,Hub.zero]
 have hhb:=(eL c1.2.1).1;simp [c1];by_cases c2 : w.step = 1000000
 ·simp [c2,hno (λh=>h.2.1 c2),Wld.res,Wld.zero,Hub.zero]
 simp [c2];obtain ⟨k,hk,rest,hql,hrl⟩:=eH c1 hlt;rw [go c1 c2 hlt eq hk hql];have hk2:=(jt (dA.1 c1) hlt hk hql).1;obtain ⟨q,hq⟩ : ∃ q,w.queues[i] = q:=⟨_,rfl⟩;rw [hq] at hql ⊢;refine aa.pure hcp (by simp [Wld.row]) ?_;have htk:=(c1.1 _ (List.getElem_mem hk));obtain ⟨t,ht⟩ : ∃ t,w.tasks[k] = t:=⟨_,rfl⟩;rw [ht] at htk hk2 ⊢;have hm:=λg=>im (f:=Task.row) hk ht g
 have ew : Go.IntKind.i64.wrap (w.step + 1) = w.step + 1:=Go.IntWalk.i64_in _ (by have:=c1.2.2.2.2.1;omega);have ei : Go.IntKind.i64.wrap ((i : Int) + 1) = (i : Int) + 1:=Go.IntWalk.i64_in _ (by omega);have hdo:=De w.h (by omega) t.c (by have:=jD htk.1;omega) (htk.2.2.2.2.1 hk2);have hlen : q.list.length = rest.length + 1:=by rw [hql];rfl
 simp [Wld.res,hlt,hq,Queue.row,hql];intro H1 H2 H3 H4 H5 b7;refine inl ae Tryz.func79 50000 (λw3 F3=>?_);simp [hk];generalize hR : fDo w.h t.c = R at hdo;obtain ⟨h',a'⟩:=R;refine drw eok mix [0,1,2,3,4,5,6,7,8,9,14,15,17,18] [10,11,12,13,16,19] (.c 14 10 272 16111 (.c 14 11 0 16111 (.c 14 12 0 16111 (.c 14 13 0 16111 (.c 14 16 12004 4107 (.c 14 19 4105 2 (.l 14 2) .s) .s) .s) .s) .s) .s) ?_;simp [hk,ht,Task.row]
 try intros
 refine aa.pure (hdo) (by simp [Hub.row,Call.row]) ?_;simp [Hub.res,Answer.res,hk,Task.row,hm,bW]
 try intros
 rename_i K1 K2 K3 K4
 refine am.weak (⟨68,0,[(4,.p 64 b4 0),(6,.v (.int .i64 i)),(7,.p 112 b7 0)],
  [(422, .rows H5 15 ((w.tasks.map Task.row).set k (Task.row ⟨t.c, 3, t.inv, w.step, t.rs, a'⟩)) true),
   (112,.vars b7 39 [.v (.bool h'.shut),.sl 50353 K1 5 0 h'.docs.length,.sl 50354 K2 6 0 h'.subs.length,.v (.int .i64 h'.last),.sl 420 H3 1 0 w.locks.length,.sl 421 H4 2 0 w.queues.length,.sl 422 H5 15 0 w.tasks.length,.v (.int .i64 w.step)]),
   (50354,.rows K2 6 (h'.subs.map Sub.row) true),(50353,.rows K1 5 (h'.docs.map Doc.row) true),(421,.rows H4 2 (w.queues.map Queue.row) true),(420,.rows H3 1 (w.locks.map ak) true),
   (64,.vars b4 39 [.v (.bool false),.nil,.nil,.v (.int .i64 0),.nil,.nil,.nil,.v (.int .i64 0)])]⟩) (by simp [Task.row]) ?_
 have hrow : ∀ d,iV (w.queues.map Queue.row) i 1 d = (w.queues.map Queue.row).set i [.v (.string q.doc),d]:=λd=>by have:=im (f:=Queue.row) hlt hq (λrow=>row.set 1 d);exact this
 refine am.open (λ_ h=>h) (k:=421) (i:=i) (j:=1) (k':=60000) (sz':=1) (sz:=2) (H:=H4) (rows:=w.queues.map Queue.row) (srows:=q.list.map ak) (row:=q.row) (by simp) (by simp [hlt,hq]) rfl (by simp) (by decide) (by simp [ak]) (by simp) (λG=>?_);have hpos : 0 < q.list.length:=by omega
 refine drw eok mix [0,1,2,3,4,5,6,7,8,9,10,11] [12] (.c 12 12 4093 2 (.l 12 2) .s) ?_;simp [hlt,hrow,hlen]
 try intros
 refine ⟨by omega,?_⟩;have hct : cut (q.list.map ak) 1 rest.length = rest.map ak:=by rw [hql,cM,List.map_cons,List.drop_one,List.tail_cons];exact List.take_of_length_le (by simp)
 have hE : ∀ Y,((w.queues.map Queue.row).set i Y).eraseIdx i = (w.queues.eraseIdx i).map Queue.row:=λY=>by rw [List.eraseIdx_set_eq,List.eraseIdx_eq_take_drop_succ,List.eraseIdx_eq_take_drop_succ];simp [List.map_take,List.map_drop]
 have hEl : (w.queues.eraseIdx i).length = w.queues.length - 1:=by rw [List.length_eraseIdx,if_pos hlt]
 by_cases hz : rest = []
 ·subst hz
  simp at hct;simp [hct,ei,bW];refine xJ AY (by decide) (n:=w.queues.length) (rows:=(w.queues.map Queue.row).set i [.v (.string q.doc),.s []]) (own:=true) (i:=i) (k:=421) (by simp) (by simp) (by simp;omega) (λH6=>?_);simp [ew,bj,gU,hR,iU,hE,Task.row];exact ⟨by omega,by unfold cut;rw [if_pos ⟨rfl,by simp [hEl]⟩],λr hr=>iI rfl r hr⟩
 ·simp [hct,hz,bW,ew,bj,gU,hR,iU,Task.row]
  exact ⟨λr hr=>Fi rfl r hr,rfl,λr hr=>iI rfl r hr⟩
end Go.Proofs.YtoldjebobgocpaaGreat
namespace Go.AM
open Go.RowKit
def lO (w : World) (S : Nat->Prop) (v : Value) : VD->Prop
 | .c d=>Rd w false S v d
 | .agg ds=>∃ xs : Array Value,v = .agg xs/\xs.size = ds.length/\∀ j d,ds[j]? = some d->Rd w false S (xs.getD j undef) d
def gg (P : Program) (T : TypeId) (bs : List (List CD)) (f : Nat) (args : List VD) (R : RR->Prop) : Prop:=
 uF P f /\ ∀ (w : World) (b : Nat) (u : Value) (i h : Int) (xs : Array Value),0 <= i -> i <= bs.length ->
  w.heap[b]? = some (.cells #[u,.int .i64 i,.int .i64 h] T (0,0)) -> Rd w false (λc => c ≠ b) u (.s bs) ->
  xs.size = args.length + 1 -> xs.getD 0 undef = .pointer (some ⟨b,0,none⟩) -> (∀ j vd,args[j]? = some vd -> lO w (λc => c ≠ b) (xs.getD (j + 1) undef) vd) ->
  Calls P f xs w λe w' => ∃ (v : Value) (rr : RR) (i' h' : Int),e = .returned v /\ R rr /\ 0 <= i' /\ i' <= bs.length /\ w'.heap[b]? = some (.cells #[u,.int .i64 i',.int .i64 h'] T (0,0)) /\
   BelowF (λc=>c < w.heap.size/\c≠b) w w'/\xC w' (λc=>w.heap.size<=c/\c < w'.heap.size) v rr
def cN (u : Value) (n : Nat) (i h : Int) : List AV:=[.cv u n,.v (.int .i64 i),.v (.int .i64 h)]
def tC (T : TypeId) (b : Nat) (u : Value) (n : Nat) (h : AH) : Prop:=∃ i h2,h.get 0 = .vars b T (cN u n i h2)/\0<=i/\i<=(n : Int)
def Dv (T : TypeId) (b : Nat) (u : Value) (n : Nat) (h : AH) (R : RR->Prop) (l : List AV) : Prop:=
 ∃ rr,R rr/\match rr with
 | .one r => match l with
   | [x]=>n8 h x r (tC T b u n)
   | _=>False
 | .tup rs=>l.length≠1/\lL h l rs (tC T b u n)
def xn (E : Env) (T : TypeId) (b : Nat) (u : Value) (n : Nat) (rs : List ResultVar) (R : RR->Prop) : Exit->ASt->Prop
 | .normal,st=>dE E st rs (Dv T b u n st.h R)
 | .ret,st=>dE E st rs (Dv T b u n st.h R)
 | _,_=>False
theorem lO.rel {w : World} {M : Nat->Prop} {v : Value} {d : VD} (h : lO w (λb=>¬ M b) v d) : VRel w M d.toAV v:=by
 cases d with
 | c d=>exact fR h
 | agg ds =>
   obtain ⟨xs,rfl,hs,hr⟩:=h;refine .agg _ _ (by simp [hs]) (λi av hi=>?_);simp only [List.getElem?_map,Option.map_eq_some_iff] at hi;obtain ⟨d,hd,rfl⟩:=hi;exact fR (hr i d hd)
theorem Rd.slice_len {w : World} {x : Bool} {S : Nat->Prop} {u : Value} {rows : List (List CD)} (h : Rd w x S u (.s rows)) : ∃ a c,u = .slice a rows.length c:=by
 cases h with
 | empty a cap=>exact ⟨a,cap,rfl⟩
 | slice b off cap=>exact ⟨_,cap,rfl⟩
theorem gg.intro {P : Program} {Ty : Nat → Option TI} (hT : ∀ t ti, Ty t = some ti → TIok P t ti) {f : Nat} {fn : Func} {c : Code} (hf : P.funcs[f]? = some fn) (hname : (fn.name == "runtime.NumGoroutine") = false) (hb : fn.body = some c)
 {n : Nat} {rs : List ResultVar} (hnt : fn.ntmps = n) (hrs : fn.results = ⟨rs⟩) {T : TypeId} {bs : List (List CD)} {args : List VD} {R : RR->Prop} (hn : args.length + 1<=n)
 (h : ∀ w0 base b u i h,0<=i->i<=(bs.length : Int)->Rd w0 false base u (.s bs)->d5 ⟨P,Ty,w0,⟨base,base,false,λ_=>True⟩⟩ c (xn ⟨P,Ty,w0,⟨base,base,false,λ_=>True⟩⟩ T b u bs.length rs R)
  { n:=n,kb:=0,t:=(0,.p 0 b 0) :: jG 1 args,h:=[(0,.vars b T (cN u bs.length i h))] }) : gg P T bs f args R:=by
 subst hnt;have hrs' : fn.results.toList = rs:=by rw [hrs]
 subst hrs';refine ⟨⟨fn,hf,hname,by rw [hb];rfl⟩,λw b u i hh xs hi0 hi1 hcell hu hs hx0 hx=>calls_of_wp hf hb ?_⟩
 let F : Nat->Prop:=λc=>c < w.heap.size/\c≠b
 let bs0 : Bs:=⟨F,F,false,λ_=>True⟩
 have hE : EOk ⟨P,Ty,w,bs0⟩:=⟨hT,λw' hb=>trivial⟩;have hget : ∀ k,AH.get [(0,.vars b T (cN u bs.length i hh))] k = if k = 0 then .vars b T (cN u bs.length i hh) else .dead:=λk=>by rw [aH];rfl
 have hblk : ∀ k c,(AH.get [(0,.vars b T (cN u bs.length i hh))] k).blk = some c->k = 0/\c = b:=by
  intro k c hk;rw [hget] at hk
  split at hk
  ·rename_i h0;simp [AObj.blk] at hk;exact ⟨h0,hk.symm⟩
  ·simp [AObj.blk] at hk
 have hM : ∀ c,AH.M [(0,.vars b T (cN u bs.length i hh))] c->c = b:=λc ⟨k,hk⟩=>(hblk k c hk).2
 obtain ⟨ua,uc,hlen⟩:=hu.slice_len
 have hR : Rep w bs0 { n:=fn.ntmps,kb:=0,t:=(0,.p 0 b 0) :: jG 1 args,h:=[(0,.vars b T (cN u bs.length i hh))] } { tmps:=xs ++ Array.replicate (fn.ntmps - xs.size) undef,defers:=[] } w:=by
  refine ⟨rfl,by simp;omega,λq=>?_,⟨λ_ _=>False,λk=>?_,λk k' c hk hk'=>(hblk k c hk).1.trans (hblk k' c hk').1.symm,λk c hk=>?_,λk c hc=>hc.elim,λk k' c hc=>hc.elim,λk c hc=>hc.elim⟩,BelowF.refl _ _,λc hc=>hc.elim (λh=>h.1) (λh=>h.1)⟩
  ·show VRel w _ (aD ((0,.p 0 b 0) :: jG 1 args) q) _
   have e : ∀ q,q < xs.size->(xs ++ Array.replicate (fn.ntmps - xs.size) undef).getD q undef = xs.getD q undef:=λq hq=>by
    simp only [Array.getD_eq_getD_getElem?];rw [Array.getElem?_append_left hq]
   unfold aD
   split
   ·rename_i h0
    subst h0;rw [e 0 (by omega),hx0];exact .p _ _ _
   ·rename_i h0
    rw [jF]
    split
    ·split
     ·rename_i v hv
      have hlt : q - 1 < args.length:=(List.getElem?_eq_some_iff.1 hv).1;rw [e q (by omega)];have:=hx (q - 1) v hv;rw [show q - 1 + 1 = q by omega] at this;refine lO.rel ?_;have mono : ∀ v d,Rd w false (λc=>c≠b) v d->Rd w false (λc=>¬ AH.M [(0,.vars b T (cN u bs.length i hh))] c) v d:=λv d h=>h.map (λ_ _ _=>rfl) (λc hc _ hm=>hc (hM c hm))
      cases v with
      | c d=>exact mono _ _ this
      | agg ds =>
        obtain ⟨ys,h1,h2,h3⟩:=this;exact ⟨ys,h1,h2,λj d hd=>mono _ _ (h3 j d hd)⟩
     ·exact .any _
    ·exact .any _
  ·rw [hget]
   split
   ·refine ⟨_,hcell,rfl,λj av hj=>?_⟩
    match j,hj with
    | 0,hj=>cases hj;exact .cv _ _ ⟨ua,uc,hlen⟩
    | 1,hj=>cases hj;exact .v _ rfl
    | 2,hj=>cases hj;exact .v _ rfl
    | j + 3,hj=>cases hj
   ·trivial
  ·obtain ⟨-,rfl⟩:=hblk k c hk
   exact ⟨λh=>h.2 rfl,λh=>h.2 rfl⟩
 have hu0 : Rd w false F u (.s bs):=hu.map (λ_ _ _=>rfl) (λc hc hl=>⟨hl,hc⟩);refine wp_mono (bM hE c _ _ _ w hR (h w F b u i hh hi0 hi1 hu0)) ?_
 rintro e a' w' ⟨st',hq,hR'⟩
 have key : dE ⟨P,Ty,w,bs0⟩ st' fn.results.toList (Dv T b u bs.length st'.h R) -> a'.defers = [] /\ ∃ v,(results fn a'.tmps).run P w' = .ok v w' /\ ∃ (v' : Value) (rr : RR) (i' h' : Int),Ending.returned v = .returned v' /\ R rr /\ 0 <= i' /\ i' <= bs.length /\ w'.heap[b]? = some (.cells #[u,.int .i64 i',.int .i64 h'] T (0,0)) /\
  BelowF (λc=>c < w.heap.size/\c≠b) w w'/\xC w' (λc=>w.heap.size<=c/\c < w'.heap.size) v' rr:=by
  intro hq;obtain ⟨vs,l,h1,h2,h3,rr,hRR,h4⟩:=dt hE hR' fn.results.toList hq;obtain ⟨Es,hH⟩:=hR'.heap;refine ⟨hR'.dfr,if vs.length = 1 then vs.getD 0 undef else .tuple vs.toArray,?_,?_⟩
  ·have h1' : (fn.results.toList.mapM (fX a'.tmps)).run P w' = .ok vs w':=h1
   rw [fo,Array.mapM_eq_mapM_toList];simp only [Sem.run_bind,Sem.run_map,h1',Result.andThen_ok,Sem.run_pure]
   cases vs with
   | nil=>simp
   | cons v vs=>cases vs<;>simp
  ·have low : ∀ {h' E' S},Outs bs0 st'.h w' Es h' E' S->tC T b u bs.length h'->∀ c,S c->w.heap.size<=c/\c < w'.heap.size:=by
    rintro h' E' S O ⟨i',h2,hg,-⟩ c hc
    obtain ⟨g1,g2,g3⟩:=O.own c hc;have hcb : c≠b:=λhe=>g3 ⟨0,by rw [hg,he];rfl⟩
    rcases g1 with ⟨k,hk⟩ | ⟨k,hk⟩
    ·exact ⟨Nat.le_of_not_lt (λhlt=>(hH.elow k c hk).1 ⟨hlt,hcb⟩),(hH.elow k c hk).2⟩
    ·exact ⟨Nat.le_of_not_lt (λhlt=>(hH.low k c hk).1 ⟨hlt,hcb⟩),hH.lt hk⟩
   have cell : ∀ {h' E' S},Outs bs0 st'.h w' Es h' E' S->tC T b u bs.length h'->∃ (i' h' : Int),0<=i'/\i'<=(bs.length : Int)/\w'.heap[b]? = some (.cells #[u,.int .i64 i',.int .i64 h'] T (0,0)):=by
    rintro h' E' S O ⟨i',h2,hg,k1,k2⟩
    have ho:=O.rel.obj 0;rw [hg] at ho;obtain ⟨cs,g1,g2,g3⟩:=ho;refine ⟨i',h2,k1,k2,?_⟩;rw [g1];have c0:=g3 0 _ rfl;have c1:=g3 1 _ rfl;have c2:=g3 2 _ rfl;have hs3 : cs.size = 3:=g2;have e0 : cs.getD 0 undef = u:=by generalize cs.getD 0 undef = y at c0;cases c0;rfl
    have e1 : cs.getD 1 undef = .int .i64 i':=by generalize cs.getD 1 undef = y at c1;cases c1;rfl
    have e2 : cs.getD 2 undef = .int .i64 h2:=by generalize cs.getD 2 undef = y at c2;cases c2;rfl
    have : cs = #[u,.int .i64 i',.int .i64 h2]:=by
     refine Array.ext (by simp [hs3]) (λj h1 h2'=>?_);simp only [Array.getD_eq_getD_getElem?] at e0 e1 e2;rcases j with _ | _ | _ | j
     ·rw [Array.getElem?_eq_getElem h1] at e0;exact e0
     ·rw [Array.getElem?_eq_getElem h1] at e1;exact e1
     ·rw [Array.getElem?_eq_getElem h1] at e2;exact e2
     ·omega
    rw [this]
   have hbel : BelowF (λc=>c < w.heap.size/\c≠b) w w':=hR'.below
   cases rr with
   | one r =>
     simp only at h4
     split at h4
     ·rename_i x
      obtain ⟨h',E',S,hk,hr,O⟩:=jX hH (h3 0 x rfl) h4;obtain ⟨i',h'',g1,g2,g3⟩:=cell O hk;refine ⟨_,.one r,i',h'',rfl,hRR,g1,g2,g3,hbel,?_⟩;rw [if_pos (by simpa using h2)];exact mR.mono hr (λc hc=>low O hk c hc)
     ·exact h4.elim
   | tup rs =>
     obtain ⟨hne,h4⟩:=h4;obtain ⟨h',E',S,G,hk,hl,hF,hd,hr,O⟩:=jf l rs hH h3 h4;obtain ⟨i',h'',g1,g2,g3⟩:=cell O hk;refine ⟨_,.tup rs,i',h'',rfl,hRR,g1,g2,g3,hbel,?_⟩;rw [if_neg (by omega)];exact ⟨vs.toArray,G,rfl,by simp;omega,λj c hc=>low O hk c (hF j c hc),hd,λj t hj=>by simpa using hr j t hj⟩
 cases e with
 | normal=>exact key hq
 | ret=>exact key hq
 | _=>exact hq.elim
theorem oB {base : Bs} {h : AH} {w : World} {E : Nat->Nat->Prop} (H : HRel base h w E) {S : Nat->Prop} (hS : ∀ c,¬ h.M c->S c) (hSr : ∀ k b o C sz rows own,h.get k = .rows (some (b,o,C)) sz rows own->S b)
 {x : AV} {u : Value} {R : Value->CD->Prop} (hR : ∀ u d,R u d->Rd w false S u d) (hv : VRel w h.M x u) {d : CD} (hk : aIn R h x d) : Rd w false S u d:=by
 unfold aIn at hk
 split at hk
 ·cases hv;exact hR _ _ hk
 ·rename_i k Hd sz len
  split at hk
  ·rename_i H' sz' rows own hget
   obtain ⟨rfl,rfl,rfl,rfl⟩:=hk
   cases hv with
   | ml _ _ _ _ _ hx =>
     rcases hx with ⟨hp,hx⟩ | ⟨h0,-,a,c,rfl⟩
     ·have ho:=H.obj k
      rw [hget] at ho
      cases Hd with
      | none =>
        obtain ⟨⟨a,rfl⟩,h0⟩:=hx;rw [List.eq_nil_of_length_eq_zero h0];exact .empty _ _ (by intro h;cases h)
      | some q =>
        obtain ⟨b,o,C⟩:=q;obtain ⟨S0,hrd,hS0⟩:=gi ho ⟨k,by rw [hget];rfl⟩ hx (show 0 + rows.length<=rows.length by omega);have:=hrd.weaken.map (S':=S) (λ_ _ _=>rfl) (λc hc _=>(hS0 c hc).elim (λe=>e ▸ hSr _ _ _ _ _ _ _ hget) (λh=>hS c h.2))
        simpa [cM] using this
     ·rw [List.eq_nil_of_length_eq_zero h0]
      exact .empty _ _ (by intro h;cases h)
  ·exact hk.elim
 ·subst hk;cases hv with | v u hp=>exact .plain hp
 ·subst hk;cases hv;exact .empty _ _ (by intro h;cases h)
 ·subst hk;cases hv with | ro rows x hr=>exact hr.map (λ_ _ _=>rfl) (λc hc _=>hS c hc)
 ·rename_i k Hd sz off len
  split at hk
  ·rename_i H' sz' rows own hget
   obtain ⟨rfl,rfl,hlen,rfl⟩:=hk
   cases hv with
   | sl _ _ _ _ _ _ hx =>
     have ho:=H.obj k;rw [hget] at ho
     cases Hd with
     | none =>
       obtain ⟨⟨a,rfl⟩,rfl⟩:=hx;rw [show rows = [] from ho,show cut ([] : List (List CD)) off 0 = [] from by simp [cM]];exact .empty _ _ (by intro h;cases h)
     | some q =>
       obtain ⟨b,o,C⟩:=q;obtain ⟨S0,hrd,hS0⟩:=gi ho ⟨k,by rw [hget];rfl⟩ hx hlen;exact hrd.weaken.map (λ_ _ _=>rfl) (λc hc _=>(hS0 c hc).elim (λe=>e ▸ hSr _ _ _ _ _ _ _ hget) (λh=>hS c h.2))
  ·rename_i H' sz' rows hget
   obtain ⟨rfl,rfl,rfl,rfl,rfl⟩:=hk
   cases hv with
   | sl _ _ _ _ _ _ hx =>
     have ho:=H.obj k;rw [hget] at ho;exact (ho.2.2 _ hx).map (λ_ _ _=>rfl) (λc hc _=>hS c hc)
  ·exact hk.elim
 ·exact hk.elim
theorem mO {base : Bs} {h : AH} {w : World} {E : Nat->Nat->Prop} (H : HRel base h w E) {S : Nat->Prop} (hS : ∀ c,¬ h.M c->S c) (hSr : ∀ k b o C sz rows own,h.get k = .rows (some (b,o,C)) sz rows own->S b)
 {R : Value->CD->Prop} (hR : ∀ u d,R u d->Rd w false S u d) : ∀ (l : List AV) (ds : List CD) {us : Nat->Value} (_ : ∀ i av,l[i]? = some av->VRel w h.M av (us i)) (_ : tU R h l ds),
 l.length = ds.length/\∀ i d,ds[i]? = some d->Rd w false S (us i) d
 | [],[],us,hv,hk=>⟨rfl,λi d hd=>by simp at hd⟩
 | a :: l, d :: ds, us, hv, hk => by
   obtain ⟨h1,h2⟩:=mO H hS hSr hR l ds (us:=λi=>us (i + 1)) (λi av hi=>hv (i + 1) av (by simpa using hi)) hk.2;refine ⟨by simp [h1],λi d' hd=>?_⟩
   cases i with
   | zero=>simp at hd;subst hd;exact oB H hS hSr hR (hv 0 a rfl) hk.1
   | succ i=>exact h2 i d' (by simpa using hd)
 | [],_ :: _,us,hv,hk=>hk.elim
 | _ :: _,[],us,hv,hk=>hk.elim
theorem zx {base : Bs} {h : AH} {w : World} {E : Nat->Nat->Prop} (H : HRel base h w E) {S : Nat->Prop} (hS : ∀ c,¬ h.M c->S c) (hSr : ∀ k b o C sz rows own,h.get k = .rows (some (b,o,C)) sz rows own->S b)
 {x : AV} {u : Value} {R : Value->CD->Prop} (hR : ∀ u d,R u d->Rd w false S u d) (hv : VRel w h.M x u) {d : VD} (hk : xy R h x d) : lO w S u d:=by
 unfold xy at hk
 split at hk
 ·exact oB H hS hSr hR hv hk
 ·split at hk
  ·rename_i ds _ l
   cases hv with
   | agg _ xs hs hl =>
     obtain ⟨h1,h2⟩:=mO H hS hSr hR l ds hl hk;exact ⟨xs,rfl,by omega,h2⟩
  ·exact hk.elim
theorem pB {base : Bs} {h : AH} {w : World} {E : Nat->Nat->Prop} (H : HRel base h w E) {S : Nat->Prop} (hS : ∀ c,¬ h.M c->S c) (hSr : ∀ k b o C sz rows own,h.get k = .rows (some (b,o,C)) sz rows own->S b)
 {R : Value->CD->Prop} (hR : ∀ u d,R u d->Rd w false S u d) : ∀ (l : List AV) (ds : List VD) {us : Nat->Value} (_ : ∀ i av,l[i]? = some av->VRel w h.M av (us i)) (_ : kU R h l ds),
 l.length = ds.length/\∀ i d,ds[i]? = some d->lO w S (us i) d
 | [],[],us,hv,hk=>⟨rfl,λi d hd=>by simp at hd⟩
 | a :: l, d :: ds, us, hv, hk => by
   obtain ⟨h1,h2⟩:=pB H hS hSr hR l ds (us:=λi=>us (i + 1)) (λi av hi=>hv (i + 1) av (by simpa using hi)) hk.2;refine ⟨by simp [h1],λi d' hd=>?_⟩
   cases i with
   | zero=>simp at hd;subst hd;exact zx H hS hSr hR (hv 0 a rfl) hk.1
   | succ i=>exact h2 i d' (by simpa using hd)
 | [],_ :: _,us,hv,hk=>hk.elim
 | _ :: _,[],us,hv,hk=>hk.elim
theorem aa.cur {E : Env} {T : TypeId} {bs : List (List CD)} {f : Nat} {args : List VD} {R : RR->Prop} (hc : gg E.P T bs f args R) {kc b n : Nat} {u : Value} {i hh : Int} {avs : List AV} {st : ASt} {dst : Option Nat} {K : ASt->Prop}
 (hu : E.rd u (.s bs)) (hn : bs.length = n) (hget : st.h.get kc = .vars b T (cN u n i hh)) (hi0 : 0<=i) (hi1 : i<=(n : Int)) (hin : kU E.rd st.h avs args)
 (hout : ∀ rr i' h',R rr->0<=i'->i'<=(n : Int)->sQ ((kc,.vars b T (cN u n i' h')) :: st.h) (st.key dst) rr λav h'=>aW { st with h:=h' } dst av K) : aa E f (.p kc b 0 :: avs) st dst K:=by
 subst hn;refine ⟨hc.1,λa w hR xs hs hx=>?_⟩;obtain ⟨Es,hH⟩:=hR.heap;have hblk : (st.h.get kc).blk = some b:=by rw [hget];rfl
 have hMb : st.h.M b:=⟨kc,hblk⟩;have ho:=hH.obj kc;rw [hget] at ho;obtain ⟨cs,g1,g2,g3⟩:=ho;have c0:=g3 0 _ rfl;have c1:=g3 1 _ rfl;have c2:=g3 2 _ rfl;have hs3 : cs.size = 3:=g2;have e0 : cs.getD 0 undef = u:=by generalize cs.getD 0 undef = y at c0;cases c0;rfl
 have e1 : cs.getD 1 undef = .int .i64 i:=by generalize cs.getD 1 undef = y at c1;cases c1;rfl
 have e2 : cs.getD 2 undef = .int .i64 hh:=by generalize cs.getD 2 undef = y at c2;cases c2;rfl
 have hcs : cs = #[u,.int .i64 i,.int .i64 hh]:=by
  refine Array.ext (by simp [hs3]) (λj h1 h2'=>?_);simp only [Array.getD_eq_getD_getElem?] at e0 e1 e2;rcases j with _ | _ | _ | j
  ·rw [Array.getElem?_eq_getElem h1] at e0;exact e0
  ·rw [Array.getElem?_eq_getElem h1] at e1;exact e1
  ·rw [Array.getElem?_eq_getElem h1] at e2;exact e2
  ·omega
 rw [hcs] at g1;have hur : ∀ v d,E.rd v d->Rd w false (λc=>c≠b) v d:=λv d h=>Rd.map h (λb hb _=>hR.below.block b hb) (λc hc _ he=>(hH.low kc b hblk).1 (he ▸ hc))
 obtain ⟨hl,hr⟩:=pB hH (S:=λc=>c≠b) (λc hc he=>hc (he ▸ hMb)) (λk b' o C sz rows own hg he=>by
  have:=hH.inj k kc b (by rw [hg,<- he];rfl) hblk;subst this;rw [hg] at hget;cases hget) hur avs args (us:=λj=>xs.getD (j + 1) undef) (λj av hj=>hx (j + 1) av (by simpa using hj)) hin
 have hx0 : xs.getD 0 undef = .pointer (some ⟨b,0,none⟩):=by
  have:=hx 0 _ rfl;generalize xs.getD 0 undef = y at this
  cases this;rfl
 refine (hc.2 w b u i hh xs hi0 hi1 g1 (hur _ _ hu) (by simp at hs;omega) hx0 hr).mono ?_
 rintro e w' ⟨v,rr,i',h',rfl,hRR,k1,k2,hcell,hb,hrr⟩
 have hM : ∀ c,AH.M ((kc,.vars b T (cN u bs.length i' h')) :: st.h) c ↔ st.h.M c:=by
  intro c
  constructor
  ·intro hm
   rcases gQ.1 hm with h1 | ⟨j,_,hj⟩
   ·simp [AObj.blk] at h1;exact h1 ▸ hMb
   ·exact ⟨j,hj⟩
  ·rintro ⟨j,hj⟩
   by_cases hjk : j = kc
   ·subst hjk;rw [hblk] at hj;cases hj;exact gQ.2 (.inl rfl)
   ·exact gQ.2 (.inr ⟨j,hjk,hj⟩)
 have fr : ∀ c,c < w.heap.size->c≠b->w'.heap[c]? = w.heap[c]?:=λc h1 h2=>hb.block c ⟨h1,h2⟩
 have t : Tr st.h.M w (λc=>AH.M ((kc,.vars b T (cN u bs.length i' h')) :: st.h) c\/(w.heap.size<=c/\c < w'.heap.size)) w':=
  ⟨hb.size,λc hlt hm=>fr c hlt (λhe=>hm (he ▸ hMb)),λc hlt hm=>hm.elim (λh=>(hM c).1 h) (λh=>by omega)⟩
 have gblk : ∀ k,(AH.get ((kc,.vars b T (cN u bs.length i' h')) :: st.h) k).blk = (st.h.get k).blk:=by
  intro k;rw [aH]
  split
  ·rename_i h;subst h;rw [hblk];rfl
  ·rfl
 have HXr : HX E.base ((kc,.vars b T (cN u bs.length i' h')) :: st.h) w' Es (λc=>w.heap.size<=c/\c < w'.heap.size):=by
  refine ⟨λk=>?_,λk k' c h1 h2=>hH.inj _ _ c (by rw [<- gblk];exact h1) (by rw [<- gblk];exact h2),λk c h1=>hH.low k c (by rw [<- gblk];exact h1),λk c hc=>⟨(hH.elow k c hc).1,Nat.lt_of_lt_of_le (hH.elow k c hc).2 hb.size⟩,hH.einj,
   λk c hc=>⟨λh=>hH.em k c hc ((hM c).1 h),λh=>by have:=(hH.elow k c hc).2;omega⟩,λc hc=>⟨hR.newer hc.1,hc.2,λh=>by obtain ⟨k,hk⟩:=(hM c).1 h;have:=hH.lt hk;omega⟩⟩
  rw [aH]
  split
  ·refine ⟨_,hcell,rfl,λj av hj=>?_⟩
   obtain ⟨ua,uc,hlen⟩:=Rd.slice_len hu
   match j,hj with
   | 0,hj=>cases hj;exact .cv _ _ ⟨ua,uc,hlen⟩
   | 1,hj=>cases hj;exact .v _ rfl
   | 2,hj=>cases hj;exact .v _ rfl
   | j + 3,hj=>cases hj
  ·rename_i hne
   exact (hH.obj k).tr t (λc hk=>fr c (hH.lt hk) (λhe=>hne (hH.inj k kc b (he ▸ hk) hblk))) (λc hc _=>hc)
 obtain ⟨av,h'',E',hK,hH',hM',hv⟩:=qW HXr hrr (hout rr i' h' hRR k1 k2);have t' : Tr st.h.M w h''.M w':=⟨t.size,t.frame,λc hlt hm=>(hM' c hm).elim (λh=>(hM c).1 h) (λh=>by omega)⟩;obtain ⟨av',h3,h1,h2,h4,h5⟩:=(hR.move hH' t' ⟨hb.os,hb.tape,hb.output⟩).put hv hK;exact ⟨v,av',h3,rfl,h1,h2,h4,h5⟩
theorem DF {E : Env} {T : TypeId} {b : Nat} {u : Value} {n : Nat} {rs : List ResultVar} {R : RR->Prop} {st : ASt} : xn E T b u n rs R .normal st = dE E st rs (Dv T b u n st.h R):=(rfl)
theorem DE {E : Env} {T : TypeId} {b : Nat} {u : Value} {n : Nat} {rs : List ResultVar} {R : RR->Prop} {st : ASt} : xn E T b u n rs R .ret st = dE E st rs (Dv T b u n st.h R):=(rfl)
theorem aS {T : TypeId} {b : Nat} {u : Value} {n : Nat} {h : AH} {R : RR->Prop} {x : AV} (r : RV) (hR : R (.one r)) (hx : n8 h x r (tC T b u n)) : Dv T b u n h R [x]:=⟨_,hR,hx⟩
theorem ai {T : TypeId} {b : Nat} {u : Value} {n : Nat} {h : AH} {i h2 : Int} (hg : h.get 0 = .vars b T [.cv u n,.v (.int .i64 i),.v (.int .i64 h2)]) (h0 : 0<=i) (h1 : i<=(n : Int)) : tC T b u n h:=⟨i,h2,hg,h0,h1⟩
attribute [simp ↓] DF DE
attribute [simp] cN
end Go.AM
