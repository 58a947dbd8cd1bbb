import Derived.Test.YtoeofekglbdemaaGreatPI
import Derived.Test.YtoeofekglbdemaaGreatPL
import Derived.Test.YtoeofekglbdemaaGreatPK
import Derived.Test.YtoeofekglbdemaaGreatPG
import Derived.Test.YtoeofekglbdemaaGreatNB
import Derived.Test.YtoeofekglbdemaaGreatPF
import Derived.Test.YtoeofekglbdemaaGreatMG
import Derived.Shelf.RegionOpenPlain
import Derived.Test.YtoeofekglbdemaaGreatPH
namespace Go.Proofs.YtoeofekglbdemaaGreat
open Go.AM
set_option maxRecDepth 20000
set_option maxHeartbeats 6400000
theorem copyCall_c (c : Call) (hl : nCall c≤2 ^ 30) : PureC Tryz.prog 104 [.agg c.row] (.one (.agg c.res)):=by
 refine PureC.intro' tt_ok Tryz.func104 (by kernel_rfl) rfl rfl rfl (Nat.le_of_ble_eq_true rfl) (fun w0 base=>?_);unfold nCall at hl;simp [Call.row];intro b1 b2;refine ACall.pure (copyOp_c c.o (by omega)) (by simp) ?_;simp;intro H1;refine ACall.pure (copyInts_c c.text (by omega)) (by simp) ?_;simp [Call.res]
theorem copyAnswer_c (a : Answer) (hl : nAnswer a≤2 ^ 30) : PureC Tryz.prog 220 [.agg a.row] (.one (.agg a.res)):=by
 refine PureC.intro' tt_ok Tryz.func220 (by kernel_rfl) rfl rfl rfl (Nat.le_of_ble_eq_true rfl) (fun w0 base=>?_);unfold nAnswer at hl;simp [Answer.row];intro b1 b2;refine ACall.pure (copyInts_c a.text (by omega)) (by simp) ?_;simp;intro H1;refine ACall.pure (copyEntries_c a.list (by omega)) (by simp) ?_;simp [Answer.res]
theorem l12Call_c (c : Call) (hl : nCall c≤2 ^ 30) : PureC Tryz.prog 197 [.agg c.row] (.one (.agg c.res)):=by
 refine PureC.intro' tt_ok Tryz.func197 (by kernel_rfl) rfl rfl rfl (Nat.le_of_ble_eq_true rfl) (fun w0 base=>?_);unfold nCall at hl;have h8 : c.text.length * 8≤140737488355328:=by omega
 simp [Call.row];intro b1 b2;refine ACall.pure (l02Copy_c c.o (by omega)) (by simp) ?_;simp [h8];intros;simp [Call.res]
theorem l12Answer_c (a : Answer) (hl : nAnswer a≤2 ^ 30) : PureC Tryz.prog 211 [.agg a.row] (.one (.agg a.res)):=by
 refine PureC.intro' tt_ok Tryz.func211 (by kernel_rfl) rfl rfl rfl (Nat.le_of_ble_eq_true rfl) (fun w0 base=>?_);unfold nAnswer at hl;have h8 : a.text.length * 8≤140737488355328:=by omega
 simp [Answer.row];intro b1 b2;simp [h8];intros;refine ACall.pure (l08Entries_c a.list (by omega)) (by simp) ?_;simp [Answer.res]
theorem l14Task_c (t : Task) (hl : nTask t≤2 ^ 30) : PureC Tryz.prog 132 [.agg t.row] (.one (.agg t.res)):=by
 refine PureC.intro' tt_ok Tryz.func132 (by kernel_rfl) rfl rfl rfl (Nat.le_of_ble_eq_true rfl) (fun w0 base=>?_);obtain ⟨n1,n2⟩:=nTask_call hl;simp [Task.row];intro b1 b2;refine ACall.pure (l12Call_c t.c n1) (by simp [Call.row]) ?_;simp [Call.res];intro H1 H2;refine ACall.pure (l12Answer_c t.a n2) (by simp [Answer.row]) ?_;simp [Answer.res];intros;simp [Task.res]
theorem copyTasks_c (l : List Task) (hl : nL nTask l≤2 ^ 30) : PureC Tryz.prog 137 [.c (.s (l.map Task.row))] (.one (.c (.s (l.map Task.row)) 15)):=by
 refine PureC.intro' tt_ok Tryz.func137 (by kernel_rfl) rfl rfl rfl (Nat.le_of_ble_eq_true rfl) (fun w0 base=>?_);have hle:=nL_len hl;simp;refine LoopT.introG eok (fun x : Nat × Hd=>x.1≤l.length) (fun x=>⟨26,0,[(8,.v (.int .i64 x.1)),(7,.v (.int .i64 l.length)),(6,.ro (l.map Task.row)),(3,.sl 5000 x.2 15 0 x.1)],[(5000,.rows x.2 15 ((l.take x.1).map Task.row) true)]⟩) (fun x=>l.length - x.1) (0,none) (by simp) (by simp) (fun x hx=>Ent.refl ?_);obtain ⟨i,H⟩:=x;simp only at hx ⊢;by_cases hlt : i < l.length
 ·obtain ⟨n1,n2⟩:=nTask_call (nL_at hl hlt)
  simp [hlt,Task.row];intro b5;refine ACall.pure (copyCall_c l[i].c n1) (by simp [Call.row]) ?_;simp [Call.res];intro H1 H2;refine ACall.pure (copyAnswer_c l[i].a n2) (by simp [Answer.row]) ?_;simp [Answer.res];intro H3 H4;have e1 : min i l.length = i:=by omega
  simp [e1];intro b6;refine ⟨by omega,fun H2=>Ent.refl ⟨i + 1,by omega,by omega,H2,?_⟩⟩;simp;exact ⟨i64_suc (by omega),take_snoc (f:=Task.row) hlt⟩
 ·have e : l.length = i:=by omega
  simp [hlt];rw [List.take_of_length_le (by simp;omega)];simp [cut,e]
theorem copyWorld_c (w : Wld) (hl : nWorld w≤2 ^ 30) : PureC Tryz.prog 60 [.agg w.row] (.one (.agg w.res)):=by
 refine PureC.intro' tt_ok Tryz.func60 (by kernel_rfl) rfl rfl rfl (Nat.le_of_ble_eq_true rfl) (fun w0 base=>?_);obtain ⟨nh,n2,n3,n4⟩:=nWorld_parts hl;obtain ⟨hh,lk,qs,tasks,step⟩:=w;have hle:=nL_len n4;have hlq:=nL_len n3;simp only at hle hlq n2 n3 n4 nh;simp [Wld.row];intro b1 b2;refine DrawT.cutS (fun x : Hd × Hd × Hd × Hd × Nat=>[(3,.p 48 x.2.2.2.2 0)]) (fun x=>[(48,.vars x.2.2.2.2 39 [.v (.bool hh.shut),.sl 129 x.1 5 0 hh.docs.length,.sl 130 x.2.1 6 0 hh.subs.length,.v (.int .i64 hh.last),.sl 176 x.2.2.1 1 0 lk.length,.nil,.sl 224 x.2.2.2.1 15 0 tasks.length,.v (.int .i64 step)]),(129,.rows x.1 5 (hh.docs.map Doc.row) true),(130,.rows x.2.1 6 (hh.subs.map Sub.row) true),(176,.rows x.2.2.1 1 (lk.map intR) true),(224,.rows x.2.2.2.1 15 (tasks.map Task.row) true)]) [1,2] ?_ ?_
 ·refine DrawT.introS eok mix [0,1,3,4,6,7,9,10] [2,5,8,11,12,13] (.child 2 [false,false,false,false,false,false,true,false] [true,true,true,true,true,true,false,true] (.child 5 [false,false,false,false,true,false,false,false] [true,true,true,true,false,true,false,true] (.child 8 [false,false,true,false,false,false,false,false] [true,true,false,true,false,true,false,true] (.child 11 [true,false,false,false,false,false,false,false] [false,true,false,true,false,true,false,true] (.child 12 [false,false,false,false,false,false,false,false] [false,true,false,true,false,true,false,true] (.child 13 [false,true,false,true,false,true,false,true] [false,false,false,false,false,false,false,false] (.leaf [false,false,false,false,false,false,false,false]) .stop) .stop) (.child 12 [false,false,false,false,false,false,false,false] [true,true,false,true,false,true,false,true] (.child 11 [true,false,false,false,false,false,false,false] [false,true,false,true,false,true,false,true] (.child 13 [false,true,false,true,false,true,false,true] [false,false,false,false,false,false,false,false] (.leaf [false,false,false,false,false,false,false,false]) .stop) .stop) .stop)) (.child 12 [false,false,false,false,false,false,false,false] [true,true,true,true,false,true,false,true] (.child 8 [false,false,true,false,false,false,false,false] [true,true,false,true,false,true,false,true] (.child 11 [true,false,false,false,false,false,false,false] [false,true,false,true,false,true,false,true] (.child 13 [false,true,false,true,false,true,false,true] [false,false,false,false,false,false,false,false] (.leaf [false,false,false,false,false,false,false,false]) .stop) .stop) .stop) .stop)) (.child 12 [false,false,false,false,false,false,false,false] [true,true,true,true,true,true,false,true] (.child 5 [false,false,false,false,true,false,false,false] [true,true,true,true,false,true,false,true] (.child 8 [false,false,true,false,false,false,false,false] [true,true,false,true,false,true,false,true] (.child 11 [true,false,false,false,false,false,false,false] [false,true,false,true,false,true,false,true] (.child 13 [false,true,false,true,false,true,false,true] [false,false,false,false,false,false,false,false] (.leaf [false,false,false,false,false,false,false,false]) .stop) .stop) .stop) .stop) .stop)) (.child 12 [false,false,false,false,false,false,false,false] [true,true,true,true,true,true,true,true] (.child 2 [false,false,false,false,false,false,true,false] [true,true,true,true,true,true,false,true] (.child 5 [false,false,false,false,true,false,false,false] [true,true,true,true,false,true,false,true] (.child 8 [false,false,true,false,false,false,false,false] [true,true,false,true,false,true,false,true] (.child 11 [true,false,false,false,false,false,false,false] [false,true,false,true,false,true,false,true] (.child 13 [false,true,false,true,false,true,false,true] [false,false,false,false,false,false,false,false] (.leaf [false,false,false,false,false,false,false,false]) .stop) .stop) .stop) .stop) .stop) .stop)) (by kernel_rfl) ?_
  simp
  try intros
  rw [Tr_child];refine ⟨?_,?_⟩
  ·skip
   simp
   try intros
   refine ACall.pure (copyHub_c hh nh) (by simp [Hub.row]) ?_;simp [Hub.res]
   try intros
   rw [Tr_child];refine ⟨?_,?_⟩
   ·skip
    simp
    try intros
    refine ACall.pure (copyInts_c lk (by omega)) (by simp) ?_;simp
    try intros
    rw [Tr_child];refine ⟨?_,?_⟩
    ·skip
     simp
     try intros
     refine ACall.pure (copyTasks_c tasks n4) (by simp) ?_;simp
     try intros
     rw [Tr_child];refine ⟨?_,?_⟩
     ·skip
      simp
      try intros
     ·skip
      simp
      try intros
    ·skip
     simp
     try intros
     refine ACall.pure (copyTasks_c tasks n4) (by simp) ?_;simp
     try intros
   ·skip
    simp
    try intros
    refine ACall.pure (copyInts_c lk (by omega)) (by simp) ?_;simp
    try intros
    refine ACall.pure (copyTasks_c tasks n4) (by simp) ?_;simp
    try intros
  ·skip
   simp
   try intros
   refine ACall.pure (copyHub_c hh nh) (by simp [Hub.row]) ?_;simp [Hub.res]
   try intros
   refine ACall.pure (copyInts_c lk (by omega)) (by simp) ?_;simp
   try intros
   refine ACall.pure (copyTasks_c tasks n4) (by simp) ?_;simp
   try intros
 rintro ⟨H1,H2,H3,H4,b3⟩
 simp
 refine LoopT.introG eok (fun x : Nat × Hd=>x.1≤qs.length) (fun x=>⟨38,0,[(21,.v (.int .i64 x.1)),(20,.v (.int .i64 qs.length)),(19,.ro (qs.map Queue.row)),(3,.p 48 b3 0),(2,.p 32 b2 0)],
  [(48,.vars b3 39 [.v (.bool hh.shut),.sl 129 H1 5 0 hh.docs.length,.sl 130 H2 6 0 hh.subs.length,.v (.int .i64 hh.last),.sl 176 H3 1 0 lk.length,.sl 5000 x.2 2 0 x.1,.sl 224 H4 15 0 tasks.length,.v (.int .i64 step)]),
   (32,.vars b2 39 [.v (.bool false),.nil,.nil,.v (.int .i64 0),.nil,.nil,.nil,.v (.int .i64 0)]),
   (129,.rows H1 5 (hh.docs.map Doc.row) true),(130,.rows H2 6 (hh.subs.map Sub.row) true),(176,.rows H3 1 (lk.map intR) true),(224,.rows H4 15 (tasks.map Task.row) true),(5000,.rows x.2 2 ((qs.take x.1).map Queue.row) true)]⟩) (fun x=>qs.length - x.1) (0,none) (by simp) (by simp) (fun x hi=>Ent.refl ?_)
 obtain ⟨i,H⟩:=x;simp only at hi ⊢;by_cases hlt : i < qs.length
 ·have hm:=nL_at n3 hlt
  unfold nQueue at hm;have e1 : min i qs.length = i:=by omega
  simp [hlt,Queue.row];intro b5;refine DrawT.introS eok mix [0,1,2,3,4,5,10] [6,7,8,9,11] (.child 6 [false,true,false,false,false,false,false] [true,false,true,true,true,true,true] (.child 7 [false,false,false,true,false,false,false] [true,false,true,false,true,true,true] (.child 8 [false,false,false,false,false,false,false] [true,false,true,false,true,true,true] (.child 9 [false,false,false,false,false,true,false] [true,false,true,false,true,false,true] (.child 11 [true,false,true,false,true,false,true] [false,false,false,false,false,false,false] (.leaf [false,false,false,false,false,false,false]) .stop) .stop) .stop) .stop) .stop) (by kernel_rfl) ?_;simp
  try intros
  refine ACall.pure (copyInts_c qs[i].list (by omega)) (by simp) ?_;simp
  try intros
  simp [e1];refine ⟨by omega,fun H'=>Ent.refl ⟨i + 1,by omega,by omega,H',?_⟩⟩;simp;exact ⟨i64_suc (by omega),take_snoc (f:=Queue.row) hlt⟩
 have hm : i = qs.length:=by omega
 subst hm;simp [Wld.res]
theorem l14Copy_c (w : Wld) (hl : nWorld w≤2 ^ 30) : PureC Tryz.prog 54 [.agg w.row] (.one (.agg w.res)):=by
 refine PureC.intro' tt_ok Tryz.func54 (by kernel_rfl) rfl rfl rfl (Nat.le_of_ble_eq_true rfl) (fun w0 base=>?_);obtain ⟨nh,n2,n3,n4⟩:=nWorld_parts hl;obtain ⟨hh,lk,qs,tasks,step⟩:=w;have hle:=nL_len n4;have hlq:=nL_len n3;simp only at hle hlq n2 n3 n4 nh;have h8 : lk.length * 8≤140737488355328:=by omega
 simp [Wld.row];intro b1 b2;refine DrawT.cutS (fun x : Hd × Hd × Hd × Nat=>[(3,.p 48 x.2.2.2 0)]) (fun x=>[(48,.vars x.2.2.2 39 [.v (.bool hh.shut),.sl 161 x.1 5 0 hh.docs.length,.sl 162 x.2.1 6 0 hh.subs.length,.v (.int .i64 hh.last),.sl 176 x.2.2.1 1 0 lk.length,.nil,.nil,.v (.int .i64 step)]),(161,.rows x.1 5 (hh.docs.map Doc.row) true),(162,.rows x.2.1 6 (hh.subs.map Sub.row) true),(176,.rows x.2.2.1 1 (lk.map intR) true)]) [1,2] ?_ ?_
 ·refine DrawT.introS eok mix [0,1,4,5,7,8] [2,3,6,9,10,11] (.child 2 [false,false,false,false,true,false] [true,true,true,true,false,true] (.child 3 [false,false,false,false,false,false] [true,true,true,true,false,true] (.child 6 [false,false,true,false,false,false] [true,true,false,true,false,true] (.child 9 [true,false,false,false,false,false] [false,true,false,true,false,true] (.child 10 [false,false,false,false,false,false] [false,true,false,true,false,true] (.child 11 [false,true,false,true,false,true] [false,false,false,false,false,false] (.leaf [false,false,false,false,false,false]) .stop) .stop) (.child 10 [false,false,false,false,false,false] [true,true,false,true,false,true] (.child 9 [true,false,false,false,false,false] [false,true,false,true,false,true] (.child 11 [false,true,false,true,false,true] [false,false,false,false,false,false] (.leaf [false,false,false,false,false,false]) .stop) .stop) .stop)) (.child 10 [false,false,false,false,false,false] [true,true,true,true,false,true] (.child 6 [false,false,true,false,false,false] [true,true,false,true,false,true] (.child 9 [true,false,false,false,false,false] [false,true,false,true,false,true] (.child 11 [false,true,false,true,false,true] [false,false,false,false,false,false] (.leaf [false,false,false,false,false,false]) .stop) .stop) .stop) .stop)) (.child 10 [false,false,false,false,false,false] [true,true,true,true,false,true] (.child 3 [false,false,false,false,false,false] [true,true,true,true,false,true] (.child 6 [false,false,true,false,false,false] [true,true,false,true,false,true] (.child 9 [true,false,false,false,false,false] [false,true,false,true,false,true] (.child 11 [false,true,false,true,false,true] [false,false,false,false,false,false] (.leaf [false,false,false,false,false,false]) .stop) .stop) .stop) .stop) .stop)) (.child 3 [false,false,false,false,false,false] [true,true,true,true,true,true] (.child 2 [false,false,false,false,true,false] [true,true,true,true,false,true] (.child 6 [false,false,true,false,false,false] [true,true,false,true,false,true] (.child 9 [true,false,false,false,false,false] [false,true,false,true,false,true] (.child 10 [false,false,false,false,false,false] [false,true,false,true,false,true] (.child 11 [false,true,false,true,false,true] [false,false,false,false,false,false] (.leaf [false,false,false,false,false,false]) .stop) .stop) (.child 10 [false,false,false,false,false,false] [true,true,false,true,false,true] (.child 9 [true,false,false,false,false,false] [false,true,false,true,false,true] (.child 11 [false,true,false,true,false,true] [false,false,false,false,false,false] (.leaf [false,false,false,false,false,false]) .stop) .stop) .stop)) (.child 10 [false,false,false,false,false,false] [true,true,true,true,false,true] (.child 6 [false,false,true,false,false,false] [true,true,false,true,false,true] (.child 9 [true,false,false,false,false,false] [false,true,false,true,false,true] (.child 11 [false,true,false,true,false,true] [false,false,false,false,false,false] (.leaf [false,false,false,false,false,false]) .stop) .stop) .stop) .stop)) (.child 10 [false,false,false,false,false,false] [true,true,true,true,true,true] (.child 2 [false,false,false,false,true,false] [true,true,true,true,false,true] (.child 6 [false,false,true,false,false,false] [true,true,false,true,false,true] (.child 9 [true,false,false,false,false,false] [false,true,false,true,false,true] (.child 11 [false,true,false,true,false,true] [false,false,false,false,false,false] (.leaf [false,false,false,false,false,false]) .stop) .stop) .stop) .stop) .stop)) (.child 10 [false,false,false,false,false,false] [true,true,true,true,true,true] (.child 2 [false,false,false,false,true,false] [true,true,true,true,false,true] (.child 3 [false,false,false,false,false,false] [true,true,true,true,false,true] (.child 6 [false,false,true,false,false,false] [true,true,false,true,false,true] (.child 9 [true,false,false,false,false,false] [false,true,false,true,false,true] (.child 11 [false,true,false,true,false,true] [false,false,false,false,false,false] (.leaf [false,false,false,false,false,false]) .stop) .stop) .stop) .stop) (.child 3 [false,false,false,false,false,false] [true,true,true,true,true,true] (.child 2 [false,false,false,false,true,false] [true,true,true,true,false,true] (.child 6 [false,false,true,false,false,false] [true,true,false,true,false,true] (.child 9 [true,false,false,false,false,false] [false,true,false,true,false,true] (.child 11 [false,true,false,true,false,true] [false,false,false,false,false,false] (.leaf [false,false,false,false,false,false]) .stop) .stop) .stop) .stop) .stop)) .stop))) (by kernel_rfl) ?_
  simp
  try intros
  rw [Tr_child];refine ⟨?_,?_⟩
  ·skip
   simp
   try intros
   refine ACall.pure (l11Copy_c hh nh) (by simp [Hub.row]) ?_;simp [Hub.res]
   try intros
   rw [Tr_child];refine ⟨?_,?_⟩
   ·skip
    simp
    try intros
    rw [Tr_child];refine ⟨?_,?_⟩
    ·skip
     simp [h8]
     try intros
     rw [Tr_child];refine ⟨?_,?_⟩
     ·skip
      simp
      try intros
     ·skip
      simp
      try intros
    ·skip
     simp [h8]
     try intros
   ·skip
    simp [h8]
    try intros
  ·skip
   rw [Tr_child];refine ⟨?_,?_⟩
   ·skip
    simp
    try intros
    rw [Tr_child];refine ⟨?_,?_⟩
    ·skip
     simp
     try intros
     refine ACall.pure (l11Copy_c hh nh) (by simp [Hub.row]) ?_;simp [Hub.res]
     try intros
     rw [Tr_child];refine ⟨?_,?_⟩
     ·skip
      simp [h8]
      try intros
      rw [Tr_child];refine ⟨?_,?_⟩
      ·skip
       simp
       try intros
      ·skip
       simp
       try intros
     ·skip
      simp [h8]
      try intros
    ·skip
     simp
     try intros
     refine ACall.pure (l11Copy_c hh nh) (by simp [Hub.row]) ?_;simp [Hub.res,h8]
     try intros
   ·skip
    simp
    try intros
    rw [Tr_child];refine ⟨?_,?_⟩
    ·skip
     simp [h8]
     try intros
     refine ACall.pure (l11Copy_c hh nh) (by simp [Hub.row]) ?_;simp [Hub.res]
     try intros
    ·skip
     simp
     try intros
     refine ACall.pure (l11Copy_c hh nh) (by simp [Hub.row]) ?_;simp [Hub.res,h8]
     try intros
 rintro ⟨H1,H2,H3,b3⟩
 simp
 refine LoopT.introG eok (fun x : Nat × Hd=>x.1≤qs.length) (fun x=>⟨54,0,[(21,.v (.int .i64 x.1)),(20,.v (.int .i64 qs.length)),(19,.ro (qs.map Queue.row)),(1,.p 16 b1 0),(3,.p 48 b3 0),(2,.p 32 b2 0)],
  [(48,.vars b3 39 [.v (.bool hh.shut),.sl 161 H1 5 0 hh.docs.length,.sl 162 H2 6 0 hh.subs.length,.v (.int .i64 hh.last),.sl 176 H3 1 0 lk.length,.sl 5000 x.2 2 0 x.1,.nil,.v (.int .i64 step)]),
   (32,.vars b2 39 [.v (.bool false),.nil,.nil,.v (.int .i64 0),.nil,.nil,.nil,.v (.int .i64 0)]),
   (16,.vars b1 39 [.v (.bool hh.shut),.ro (hh.docs.map Doc.row),.ro (hh.subs.map Sub.row),.v (.int .i64 hh.last),.ro (lk.map intR),.ro (qs.map Queue.row),.ro (tasks.map Task.row),.v (.int .i64 step)]),
   (161,.rows H1 5 (hh.docs.map Doc.row) true),(162,.rows H2 6 (hh.subs.map Sub.row) true),(176,.rows H3 1 (lk.map intR) true),(5000,.rows x.2 2 ((qs.take x.1).map Queue.row) true)]⟩) (fun x=>qs.length - x.1) (0,none) (by simp) (by simp) (fun x hi=>Ent.refl ?_)
 obtain ⟨i,H⟩:=x;simp only at hi ⊢;by_cases hlt : i < qs.length
 ·have hm:=nL_at n3 hlt
  unfold nQueue at hm;have e1 : min i qs.length = i:=by omega
  have q8 : qs[i].list.length * 8≤140737488355328:=by omega
  simp [hlt,Queue.row];intro b5;refine DrawT.introS eok mix [0,1,2,3,5,6,11] [4,7,8,9,10,12] (.child 4 [false,false,false,false,false,false,false] [true,true,true,true,true,true,true] (.child 7 [false,true,false,false,false,false,false] [true,false,true,true,true,true,true] (.child 8 [false,false,false,true,false,false,false] [true,false,true,false,true,true,true] (.child 9 [false,false,false,false,false,false,false] [true,false,true,false,true,true,true] (.child 10 [false,false,false,false,false,true,false] [true,false,true,false,true,false,true] (.child 12 [true,false,true,false,true,false,true] [false,false,false,false,false,false,false] (.leaf [false,false,false,false,false,false,false]) .stop) .stop) .stop) .stop) .stop) .stop) (by kernel_rfl) ?_;simp [q8]
  try intros
  simp [e1];refine ⟨by omega,fun H'=>Ent.refl ⟨i + 1,by omega,by omega,H',?_⟩⟩;simp;exact ⟨i64_suc (by omega),take_snoc (f:=Queue.row) hlt⟩
 have hm : i = qs.length:=by omega
 subst hm;simp
 refine LoopT.introG eok (fun x : Nat × Hd=>x.1≤tasks.length) (fun x=>⟨54,0,[(41,.v (.int .i64 x.1)),(40,.v (.int .i64 tasks.length)),(39,.ro (tasks.map Task.row)),(3,.p 48 b3 0),(2,.p 32 b2 0)],
  [(48,.vars b3 39 [.v (.bool hh.shut),.sl 161 H1 5 0 hh.docs.length,.sl 162 H2 6 0 hh.subs.length,.v (.int .i64 hh.last),.sl 176 H3 1 0 lk.length,.sl 5000 H 2 0 qs.length,.sl 5001 x.2 15 0 x.1,.v (.int .i64 step)]),
   (32,.vars b2 39 [.v (.bool false),.nil,.nil,.v (.int .i64 0),.nil,.nil,.nil,.v (.int .i64 0)]),
   (161,.rows H1 5 (hh.docs.map Doc.row) true),(162,.rows H2 6 (hh.subs.map Sub.row) true),(176,.rows H3 1 (lk.map intR) true),(5000,.rows H 2 (qs.map Queue.row) true),(5001,.rows x.2 15 ((tasks.take x.1).map Task.row) true)]⟩) (fun x=>tasks.length - x.1) (0,none) (by simp) (by simp) (fun x hi=>Ent.refl ?_)
 obtain ⟨i,H'⟩:=x;simp only at hi ⊢;by_cases hlt : i < tasks.length
 ·have hm:=nL_at n4 hlt
  have e1 : min i tasks.length = i:=by omega
  simp [hlt,Task.row];intro b7;refine DrawT.introS eok mix [0,1,2,6] [3,4,5,7] (.child 3 [false,true,false,false] [true,false,true,true] (.child 4 [false,false,false,false] [true,false,true,true] (.child 5 [false,false,true,false] [true,false,false,true] (.child 7 [true,false,false,true] [false,false,false,false] (.leaf [false,false,false,false]) .stop) .stop) .stop) .stop) (by kernel_rfl) ?_;simp
  try intros
  refine ACall.pure (l14Task_c tasks[i] hm) (by simp [Task.row]) ?_;simp [Task.res]
  try intros
  simp [e1];refine ⟨by omega,fun H''=>Ent.refl ⟨i + 1,by omega,by omega,H'',?_⟩⟩;simp;exact ⟨i64_suc (by omega),take_snoc (f:=Task.row) hlt⟩
 have hm : i = tasks.length:=by omega
 subst hm;simp [Wld.res]
theorem queueIdx_cases (l : List Queue) (name : ByteArray) : (∃ k : Nat,∃ h : k < l.length,queueIdx l name = k∧l[k].doc = name)∨queueIdx l name = -1:=by
 rcases fIdx_cases (fun q : Queue=>q.doc = name) l with ⟨k,h,e,hp,-⟩ | ⟨e,-⟩
 ·exact .inl ⟨k,h,e,hp⟩
 ·exact .inr e
noncomputable def fExec (w : Wld) (k : Nat) (t : Task) : Wld:=⟨(fDo w.h t.c).1,w.locks,w.queues,w.tasks.set k ⟨t.c,3,t.inv,w.step,t.rs,(fDo w.h t.c).2⟩,w.step⟩
def stepped (w : Wld) (n : Int) : Wld:=⟨w.h,w.locks,w.queues,w.tasks,n⟩
set_option maxHeartbeats 3200000
set_option maxHeartbeats 6400000
theorem headText_n {d : Doc} (h : docOk d) : (headText d).length≤200:=by
 have h9:=(textAt_some h (rev:=headRev d) (by have:=docOk_head h;omega) (Int.le_refl _)).2.2.1.1;unfold headText;exact h9
theorem nL_cons {α : Type} {f : α→Nat} (a : α) (l : List α) : nL f (a :: l) = nL f l + f a + 1:=by
 simp only [nL,sumN,List.length_cons];omega
theorem nL_nil {α : Type} {f : α→Nat} : nL f ([] : List α) = 0:=(rfl)
theorem ringOk_n {r : Ring} (h : ringOk r) : nRing r≤2 ^ 21:=by
 obtain ⟨h1,h2,h3,h4,-⟩:=h;have hb : nL nEntry r.list≤r.list.length * (2 ^ 18 + 1):=nL_le (fun e he=>opOk_n (h1 e he).2.2.1);have hc:=Nat.mul_le_mul_right (2 ^ 18 + 1) (show r.list.length≤6 by omega);unfold nRing;omega
theorem sub_n {h : Hub} (c : hubOk h) {s : Sub} (hs : s∈h.subs) : nSub s≤2 ^ 22:=by
 obtain ⟨i,hi,rfl⟩:=List.getElem_of_mem hs;obtain ⟨-,h2,-,k,hk,e,-⟩:=c.2.2.2.2 i hi;have h3:=ringOk_n h2
 have h4 : h.subs[i].doc.size≤8:=by
  rcases docIdx_cases h.docs h.subs[i].doc with ⟨j,hj,e',hn⟩ | e'
  ·rw [← hn];exact (hub_doc c hj).1.1.2
  ·omega
 unfold nSub;omega
theorem hubOk_n {h : Hub} (c : hubOk h) : nHub h≤2 ^ 27∧nL nDoc h.docs≤2 ^ 26∧nL nSub h.subs≤2 ^ 25:=by
 have h1 : nL nDoc h.docs≤h.docs.length * (2 ^ 23 + 1):=nL_le (fun d hd=>by
  obtain ⟨i,hi,rfl⟩:=List.getElem_of_mem hd;exact docOk_n (hub_doc c hi))
 have h2 : nL nSub h.subs≤h.subs.length * (2 ^ 22 + 1):=nL_le (fun s hs=>sub_n c hs);have h3:=Nat.mul_le_mul_right (2 ^ 23 + 1) c.1;have h4:=Nat.mul_le_mul_right (2 ^ 22 + 1) c.2.1;unfold nHub;omega
theorem hubZero_n : nHub Hub.zero = 0:=(rfl)
theorem fHubOpen_n (h : Hub) (name : ByteArray) (t : List Int) : nHub (fHubOpen h name t).1≤2 ^ 28:=by
 unfold fHubOpen
 split
 ·rename_i c
  have h1:=hubOk_n c.1;have h2:=docOk_n c.2
  repeat' split
  ·rw [hubZero_n];omega
  ·rw [hubZero_n];omega
  ·rw [hubZero_n];omega
  ·have h3 : nL nDoc (docPut (doc0 name t) h.docs) = nL nDoc h.docs + nDoc (doc0 name t) + 1:=by
    rw [docPut_eq,nL_append,nL_cons];have h4:=nL_append (f:=nDoc) (h.docs.take (docAhead (doc0 name t).name h.docs)) (h.docs.drop (docAhead (doc0 name t).name h.docs));rw [List.take_append_drop] at h4;omega
   unfold nHub;simp only;omega
 ·rw [hubZero_n];omega
theorem tellSub_n (name : ByteArray) (e : Entry) (s : Sub) : nSub (tellSub name e s)≤nSub s + nEntry e + 1:=by
 unfold tellSub
 split
 ·have:=fRingPush_n s.r e
  unfold nSub;simp only;omega
 ·omega
theorem hubCommit_n {h : Hub} (c : hubOk h) (name : ByteArray) (k : Nat) (d0 : Doc) {d : Doc} (hd : nDoc d≤2 ^ 24) : nHub (hubCommit h name k d0 d)≤2 ^ 28:=by
 have h1:=hubOk_n c;have h2:=nL_set (f:=nDoc) h.docs k d;unfold hubCommit
 have h3 : ∀ e,d.list.getLast? = some e→nL nSub (h.subs.map (tellSub name e))≤6 * (20971521 + 1):=by
  intro e he;have h5 : nEntry e≤2 ^ 24:=Nat.le_trans (nL_mem (nDoc_list hd).1 (List.mem_of_getLast? he)) (Nat.le_refl _)
  have h4 : nL nSub (h.subs.map (tellSub name e))≤(h.subs.map (tellSub name e)).length * (20971521 + 1):=nL_le (fun s hs=>by
   rw [List.mem_map] at hs;obtain ⟨s0,hs0,rfl⟩:=hs;have h6:=tellSub_n name e s0;have h7:=sub_n c hs0;omega)
  rw [List.length_map] at h4;exact Nat.le_trans h4 (Nat.mul_le_mul_right _ c.2.1)
 unfold nHub;simp only
 split
 ·split
  ·rename_i e he
   have:=h3 e he;omega
  ·omega
 ·omega
theorem fHubSubmit_n (h : Hub) (name : ByteArray) (client seq base : Int) (o : List Part) : nHub (fHubSubmit h name client seq base o).1≤2 ^ 28:=by
 unfold fHubSubmit
 split
 ·rename_i c
  split
  ·rw [hubZero_n];omega
  ·split
   ·rename_i d0 hd0
    have hd : docOk d0:=by
     obtain ⟨hi,rfl⟩:=List.getElem?_eq_some_iff.1 hd0;exact hub_doc c hi
    repeat' split
    ·exact hubCommit_n c _ _ _ (fSubmit_n hd)
    ·rw [hubZero_n];omega
    ·rw [hubZero_n];omega
   ·rw [hubZero_n];omega
 ·rw [hubZero_n];omega
theorem fHubSubscribe_n (h : Hub) (name : ByteArray) (room : Int) : nHub (fHubSubscribe h name room).1≤2 ^ 28:=by
 unfold fHubSubscribe
 split
 ·rename_i c
  have h1:=hubOk_n c.1
  repeat' split
  all_goals first | (rw [hubZero_n];omega) | skip
  rename_i hi _
  have h3 : name.size≤8:=by
   rcases docIdx_cases h.docs name with ⟨j,hj,e',hn⟩ | e'
   ·rw [← hn];exact (hub_doc c.1 hj).1.1.2
   ·omega
  unfold nHub;simp only [nL_append,nL_cons,nL_nil,nSub,fRingNew_n];omega
 ·rw [hubZero_n];omega
theorem fHubPoll_n (h : Hub) (id n : Int) : nHub (fHubPoll h id n).1≤2 ^ 28∧nL nEntry (fHubPoll h id n).2.1≤2 ^ 24:=by
 unfold fHubPoll
 split
 ·rename_i c
  have h1:=hubOk_n c.1
  split
  ·rename_i s hs
   have hm:=List.mem_of_getElem? hs;have h2:=sub_n c.1 hm;have h3:=fRingPoll_n s.r n
   repeat' split
   ·have h4:=nL_set (f:=nSub) h.subs (subIdx h.subs id).toNat ⟨s.id,s.doc,(fRingPoll s.r n).1⟩
    have h5 : nSub ⟨s.id,s.doc,(fRingPoll s.r n).1⟩ = s.doc.size + nRing (fRingPoll s.r n).1:=rfl;have h6 : nSub s = s.doc.size + nRing s.r:=rfl;unfold nHub;simp only;omega
   ·simp only [hubZero_n,nL_nil];omega
   ·simp only [hubZero_n,nL_nil];omega
  ·simp only [hubZero_n,nL_nil];omega
 ·simp only [hubZero_n,nL_nil];omega
theorem fHubResync_n (h : Hub) (id : Int) : nHub (fHubResync h id).1≤2 ^ 28∧(fHubResync h id).2.1.length≤200:=by
 unfold fHubResync
 split
 ·rename_i c
  have h1:=hubOk_n c
  split
  ·rename_i s hs
   have hm:=List.mem_of_getElem? hs;have h2:=sub_n c hm
   split
   ·split
    ·rename_i d hd
     obtain ⟨hi,rfl⟩:=List.getElem?_eq_some_iff.1 hd;have h3:=headText_n (hub_doc c hi);have h4:=nL_set (f:=nSub) h.subs (subIdx h.subs id).toNat ⟨s.id,s.doc,(fRingResync s.r (headRev h.docs[(docIdx h.docs s.doc).toNat])).1⟩
     have h5 : nRing (fRingResync s.r (headRev h.docs[(docIdx h.docs s.doc).toNat])).1 = 0:=by
      unfold fRingResync
      split
      ·exact fRingNew_n _ _
      ·rfl
     refine ⟨?_,h3⟩;unfold nHub;simp only;have h7 : nSub ⟨s.id,s.doc,(fRingResync s.r (headRev h.docs[(docIdx h.docs s.doc).toNat])).1⟩ = s.doc.size + nRing (fRingResync s.r (headRev h.docs[(docIdx h.docs s.doc).toNat])).1:=rfl;have h6 : nSub s = s.doc.size + nRing s.r:=rfl;omega
    ·simp only [hubZero_n,List.length_nil];omega
   ·simp only [hubZero_n,List.length_nil];omega
  ·simp only [hubZero_n,List.length_nil];omega
 ·simp only [hubZero_n,List.length_nil];omega
theorem fHubShut_n (h : Hub) : nHub (fHubShut h).1≤2 ^ 28:=by
 unfold fHubShut
 repeat' split
 all_goals first | (rw [hubZero_n];omega) | skip
 rename_i c _
 have:=(hubOk_n c).1;unfold nHub at this ⊢;simp only;omega
theorem codeA_n (x : Int) : nAnswer (codeA x) = 0:=(rfl)
theorem fLook_n {h : Hub} (c : hubOk h) (x : Call) : nAnswer (fLook h x)≤2 ^ 24:=by
 unfold fLook
 repeat' split
 all_goals first | (rw [codeA_n];omega) | skip
 ·rename_i d hd _ _
  obtain ⟨hi,rfl⟩:=List.getElem?_eq_some_iff.1 hd;have h3:=headText_n (hub_doc c hi);unfold nAnswer;simp only [nL_nil];omega
 ·rename_i d hd _ _
  obtain ⟨hi,rfl⟩:=List.getElem?_eq_some_iff.1 hd;have h3:=(nDoc_list (docOk_n (hub_doc c hi))).1;generalize h.docs[(docIdx h.docs x.doc).toNat] = d at h3;unfold nAnswer;simp only [List.length_nil,Nat.zero_add];unfold fFetch
  repeat' split
  all_goals first | (simp only [nL_nil];omega) | skip
  have h4:=nL_append (f:=nEntry) (d.list.take (x.n - d.fr).toNat) (d.list.drop (x.n - d.fr).toNat);rw [List.take_append_drop] at h4;simp only;omega
theorem fDo_n (h : Hub) (c : Call) : (nHub (fDo h c).1≤nHub h∨nHub (fDo h c).1≤2 ^ 28)∧nAnswer (fDo h c).2≤2 ^ 24:=by
 have hz : ∀ x y : Int,nAnswer ⟨x,y,[],[]⟩ = 0:=fun _ _=>rfl
 unfold fDo
 split
 ·rename_i ok
  have h1:=fHubOpen_n h c.doc c.text;have h2:=fHubSubmit_n h c.doc c.client c.seq c.n c.o;have h3:=fHubSubscribe_n h c.doc c.n;have h4:=fHubPoll_n h c.client c.n;have h5:=fHubResync_n h c.client;have h6:=fHubShut_n h;have h7:=fLook_n ok.1 c
  repeat' split
  all_goals simp only [codeA_n,hz]
  all_goals first | omega | skip
  ·refine ⟨.inr h4.1,?_⟩
   unfold nAnswer;simp only [List.length_nil];omega
  ·refine ⟨.inr h5.1,?_⟩
   unfold nAnswer;simp only [nL_nil];omega
 ·simp only [codeA_n];omega
theorem rowT15 {l : List Task} {k : Nat} {row : List CD} (h : row.length = 15) : ∀ r∈(l.map Task.row).set k row,r.length = 15:=by
 intro r hr;rcases List.mem_or_eq_of_mem_set hr with h1 | h1
 ·rw [List.mem_map] at h1
  obtain ⟨x,-,rfl⟩:=h1;rfl
 ·rw [h1];exact h
theorem mod_row {α : Type} {f : α→List CD} {l : List α} {k : Nat} {t : α} (hk : k < l.length) (ht : l[k] = t) (g : List CD→List CD) : (l.map f).modify k g = (l.map f).set k (g (f t)):=by
 refine List.ext_getElem (by simp) (fun j h1 h2=>?_);simp only [List.getElem_modify,List.getElem_map,List.getElem_set]
 split
 ·rename_i e;subst e;rw [ht]
 ·rfl
theorem rowQ2 {l : List Queue} {k : Nat} {row : List CD} (h : row.length = 2) : ∀ r∈(l.map Queue.row).set k row,r.length = 2:=by
 intro r hr;rcases List.mem_or_eq_of_mem_set hr with h1 | h1
 ·rw [List.mem_map] at h1
  obtain ⟨x,-,rfl⟩:=h1;rfl
 ·rw [h1];exact h
theorem queue2 {l : List Queue} {r : List CD} (h : r∈l.map Queue.row) : r.length = 2:=by
 rw [List.mem_map] at h;obtain ⟨x,-,rfl⟩:=h;rfl
theorem one_toAV (d : CD) : AV.one (toAV d) = true:=by cases d<;>rfl
def qRows (l : List Queue) (qr : List (List CD)) : Prop:=qr.length = l.length∧∀ j,∀ h : j < l.length,∃ d,qr[j]? = some [.v (.string l[j].doc),d]
theorem qRows_map (l : List Queue) : qRows l (l.map Queue.row):=⟨by simp,fun j h=>⟨.s (l[j].list.map intR),by simp [h,Queue.row]⟩⟩
theorem l15QueueG_c (ds ss ls ts : List (List CD)) (sh : Bool) (last step : Int) {qr : List (List CD)} {l : List Queue} (hq : qRows l qr) (hle : l.length≤2 ^ 40) (name : ByteArray) :
 PureC Tryz.prog 52 [.agg [.v (.bool sh),.s ds,.s ss,.v (.int .i64 last),.s ls,.s qr,.s ts,.v (.int .i64 step)],.c (.v (.string name))] (.one (.c (vi (queueIdx l name)) 1)):=by
 refine PureC.intro' tt_ok Tryz.func52 (by kernel_rfl) rfl rfl rfl (Nat.le_of_ble_eq_true rfl) (fun w0 base=>?_);obtain ⟨hq1,hq2⟩:=hq;simp [hq1];intro b2;refine LoopT.intro eok (fun i : Nat=>i≤l.length∧∀ j,j < i→∀ hj : j < l.length,¬ l[j].doc = name) (fun i=>⟨21,0,[(10,.v (.int .i64 i)),(9,.v (.int .i64 l.length)),(8,.ro qr),(1,.v (.string name))],[]⟩) (fun i=>l.length - i) 0 (by simp) (by simp) (fun i hi=>?_);by_cases hlt : i < l.length
 ·obtain ⟨d,hd⟩:=hq2 i hlt
  obtain ⟨hd1,hd2⟩:=List.getElem?_eq_some_iff.1 hd;simp [hlt,hq1,hd2,one_toAV];intro b;by_cases c : l[i].doc = name
  ·have e : queueIdx l name = i:=fIdx_at hlt c hi.2
   simp [c,e]
  ·simp [c]
   exact ⟨i + 1,⟨by omega,fun j hj hjl=>by
    by_cases hji : j = i
    ·subst hji;exact c
    ·exact hi.2 j (by omega) hjl⟩,by omega,i64_suc (by omega)⟩
 ·have e : queueIdx l name = -1:=fIdx_none (fun j hj=>hi.2 j (by omega) hj)
  simp [hlt,e]
theorem fExec_n {w : Wld} (c : worldOk w) {k : Nat} (hk : k < w.tasks.length) (lk : List Int) (qs : List Queue) : nWorld (fExec ⟨w.h,lk,qs,w.tasks,w.step⟩ k w.tasks[k])≤nHub w.h + lk.length + nL nQueue qs + nL nTask w.tasks + 2 ^ 29:=by
 have h1:=fDo_n w.h w.tasks[k].c;have h2:=callOk_n (c.1 _ (List.getElem_mem hk)).1;have h3:=nL_set (f:=nTask) w.tasks k ⟨w.tasks[k].c,3,w.tasks[k].inv,w.step,w.tasks[k].rs,(fDo w.h w.tasks[k].c).2⟩;have h4 : nTask ⟨w.tasks[k].c,3,w.tasks[k].inv,w.step,w.tasks[k].rs,(fDo w.h w.tasks[k].c).2⟩ = nCall w.tasks[k].c + nAnswer (fDo w.h w.tasks[k].c).2:=rfl;unfold fExec nWorld;simp only;omega
theorem stepped_n (w : Wld) (n : Int) : nWorld (stepped w n) = nWorld w:=(rfl)
set_option maxHeartbeats 3200000
theorem queueRun_all {tasks : List Task} {doc : ByteArray} : ∀ (l all m : List Int),queueRun tasks doc all l = some m→∀ k∈l,mayWait tasks doc k
 | [],_,_,_,k,hk=>by cases hk
 | a :: l,all,m,h,k,hk=>by
   unfold queueRun at h
   split at h
   ·rename_i c
    rcases List.mem_cons.1 hk with rfl | hk
    ·exact c.1
    ·exact queueRun_all l _ m h k hk
   ·cases h
theorem queue_waits {w : Wld} (c : queuesOk w) {i : Nat} (hi : i < w.queues.length) : queueAt w.h w.queues i∧∀ k∈w.queues[i].list,mayWait w.tasks w.queues[i].doc k:=by
 have h1 : queuesRun w (i + 1)≠none:=fun h=>queuesOk_no hi h c
 by_cases hq : queueAt w.h w.queues i
 rotate_left
 ·exact absurd (queuesRun_bad hi hq) h1
 refine ⟨hq,?_⟩
 cases e : queuesRun w i with
 | none=>exact absurd (queuesRun_none e 1) h1
 | some all=>
   rw [queuesRun_suc hi e hq] at h1
   cases e2 : queueRun w.tasks w.queues[i].doc all w.queues[i].list with
   | none=>exact absurd e2 h1
   | some m=>exact queueRun_all _ _ m e2
open Classical in
noncomputable def shifted (l : List Queue) (i : Nat) (q : Queue) (rest : List Int) : List Queue:=if rest = [] then l.eraseIdx i else l.set i ⟨q.doc,rest⟩
open Classical in
noncomputable def fServe (w : Wld) (name : ByteArray) : Wld × Bool:=
 if worldOk w∧¬ w.step = 1000000∧0≤queueIdx w.queues name then
  (match w.queues[(queueIdx w.queues name).toNat]? with
   | some q=>(match w.tasks[(q.list.headD 0).toNat]? with
     | some t=>(stepped (fExec ⟨w.h,w.locks,shifted w.queues (queueIdx w.queues name).toNat q q.list.tail,w.tasks,w.step⟩ (q.list.headD 0).toNat t) (w.step + 1),true)
     | none=>(Wld.zero,false))
   | none=>(Wld.zero,false))
 else (Wld.zero,false)
theorem fServe_no {w : Wld} {name : ByteArray} (h : ¬ (worldOk w∧¬ w.step = 1000000∧0≤queueIdx w.queues name)) : fServe w name = (Wld.zero,false):=by unfold fServe;rw [if_neg h]
theorem queue_head {w : Wld} (c : worldOk w) {i : Nat} (hi : i < w.queues.length) : ∃ k : Nat,∃ _ : k < w.tasks.length,∃ rest,w.queues[i].list = (k : Int) :: rest∧rest.length≤1:=by
 obtain ⟨hq,hw⟩:=queue_waits c.2.2.2.2.2.2.2 hi;obtain ⟨-,⟨h1,h2⟩,-⟩:=hq hi
 cases e : w.queues[i].list with
 | nil=>rw [e] at h1;simp at h1
 | cons a rest=>
   rw [e] at hw h2;obtain ⟨k,hk,rfl,-⟩:=hw a (List.mem_cons_self ..);exact ⟨k,hk,rest,rfl,by simpa using h2⟩
theorem fServe_at {w : Wld} {name : ByteArray} (c : worldOk w) (s : ¬ w.step = 1000000) {i : Nat} (hi : i < w.queues.length) (e : queueIdx w.queues name = i) {k : Nat} (hk : k < w.tasks.length) {rest : List Int} (hl : w.queues[i].list = (k : Int) :: rest) :
 fServe w name = (stepped (fExec ⟨w.h,w.locks,shifted w.queues i w.queues[i] rest,w.tasks,w.step⟩ k w.tasks[k]) (w.step + 1),true):=by
 unfold fServe;rw [if_pos ⟨c,s,by omega⟩];simp [e,hi,hl,hk]
theorem nL_erase {α : Type} {f : α→Nat} : ∀ (l : List α) (i : Nat),nL f (l.eraseIdx i)≤nL f l
 | [],_=>by simp
 | a :: l,0=>by rw [List.eraseIdx_cons_zero,nL_cons];omega
 | a :: l,i + 1=>by
   have:=nL_erase (f:=f) l i;rw [List.eraseIdx_cons_succ,nL_cons,nL_cons];omega
theorem shifted_n (l : List Queue) (i : Nat) (q : Queue) (rest : List Int) : nL nQueue (shifted l i q rest)≤nL nQueue l + q.doc.size + rest.length:=by
 unfold shifted
 split
 ·have:=nL_erase (f:=nQueue) l i;omega
 ·have h1:=nL_set (f:=nQueue) l i ⟨q.doc,rest⟩
  have h2 : nQueue ⟨q.doc,rest⟩ = q.doc.size + rest.length:=rfl;omega
theorem queue_name {w : Wld} (c : worldOk w) {i : Nat} (hi : i < w.queues.length) : w.queues[i].doc.size≤8:=by
 obtain ⟨hq,-⟩:=queue_waits c.2.2.2.2.2.2.2 hi;obtain ⟨-,-,h3⟩:=hq hi;rcases docIdx_cases w.h.docs w.queues[i].doc with ⟨j,hj,e',hn⟩ | e'
 ·rw [← hn];exact (hub_doc c.2.1 hj).1.1.2
 ·omega
theorem fServe_n (w : Wld) (name : ByteArray) : nWorld (fServe w name).1≤nWorld w + 2 ^ 30:=by
 by_cases h : worldOk w∧¬ w.step = 1000000∧0≤queueIdx w.queues name
 rotate_left
 ·rw [fServe_no h];have hz : nWorld Wld.zero = 0:=rfl;simp only [hz];omega
 obtain ⟨c,s,h0⟩:=h;rcases queueIdx_cases w.queues name with ⟨i,hi,e,-⟩ | e;rotate_left
 ·omega
 obtain ⟨k,hk,rest,hl,hr⟩:=queue_head c hi;rw [fServe_at c s hi e hk hl];have h1:=fExec_n c hk w.locks (shifted w.queues i w.queues[i] rest);have h2:=shifted_n w.queues i w.queues[i] rest;have h3:=queue_name c hi;have e2 : nWorld w = nHub w.h + (w.locks.length + (nL nQueue w.queues + (nL nTask w.tasks))):=rfl;simp only [stepped_n];omega
theorem fServe_b (w : Wld) (_ : w.fits) (h : nWorld w≤2 ^ 20) (name : ByteArray) (_ : name.size≤9223372036854775807) (_ : name.size≤2 ^ 20) : nWorld (fServe w name).1≤2 ^ 36:=by
 have:=fServe_n w name;omega
open Go.AM Go.RowKit
set_option maxRecDepth 100000
set_option maxHeartbeats 4000000
set_option linter.unusedVariables false
set_option linter.unusedSimpArgs false
set_option maxRecDepth 20000
set_option maxHeartbeats 6400000
theorem implRingPush_c (r : Ring) (hl : nRing r≤2 ^ 30) (e : Entry) (he : nEntry e≤2 ^ 29) : PureC Tryz.prog 254 [.agg r.row,.agg e.row] (.one (.agg (fRingPush r e).res)):=by
 refine PureC.intro' tt_ok Tryz.func254 (by kernel_rfl) rfl rfl rfl (Nat.le_of_ble_eq_true rfl) (fun w0 base=>?_);have hno:=@fRingPush_no r e;have hfull:=@fRingPush_full r e;have hroom:=@fRingPush_room r e;have hle:=nL_len (f:=nEntry) (B:=2 ^ 30) (l:=r.list) (by unfold nRing at hl;omega);have he1 : nL nEntry [e]≤2 ^ 30:=by simp [nL,sumN];omega
 simp [Ring.row,Entry.row];intro b2 b3 b4;refine ACall.pure (copyRing_c r hl) (by simp [Ring.row]) ?_;simp [Ring.res];intro H b5;refine ACall.pure (implRingOk_c r (by omega)) (by simp [Ring.row]) ?_;by_cases c1 : ringOk r
 rotate_left
 ·simp [dc_neg c1,hno (fun h=>c1 h.1)]
 simp [c1];refine ACall.pure (implEntryOk_c e (by omega)) (by simp [Entry.row]) ?_;by_cases c2 : entryOk e
 rotate_left
 ·simp [dc_neg c2,hno (fun h=>c2 h.2.1)]
 simp [c2]
 cases c3 : r.out with
 | true=>simp [hno (fun h=>by rw [c3] at h;exact absurd h.2.2 (by simp)),c3]
 | false=>
 simp;by_cases c4 : (r.list.length : Int) = r.cap
 ·have e1:=hfull ⟨c1,c2,c3⟩ c4
  simp [c4,e1]
 have e1:=hroom ⟨c1,c2,c3⟩ c4;simp [c4];refine DrawT.introS eok mix [0,1,2,6] [3,4,5,7] (.child 3 [false,true,false,false] [true,false,true,true] (.child 4 [false,false,false,false] [true,false,true,true] (.child 5 [false,false,true,false] [true,false,false,true] (.child 7 [true,false,false,true] [false,false,false,false] (.leaf [false,false,false,false]) .stop) .stop) .stop) .stop) (by kernel_rfl) ?_;simp
 try intros
 refine ACall.pure (copyEntries_c [e] he1) (by simp [Entry.row]) ?_;simp
 try intros
 refine ⟨by omega,?_⟩;rw [e1];simp [c3,Entry.row]
 try (rintro row (⟨a,-,rfl⟩ | rfl)<;>rfl)
theorem implHubSubmit_c (h : Hub) (hl : nHub h≤2 ^ 28) (name : ByteArray) (client seq base : Int) (o : List Part) (ho : nL nPart o≤2 ^ 40) :
 PureC Tryz.prog 188 [.agg h.row,.c (.v (.string name)),.c (vi client),.c (vi seq),.c (vi base),.c (.s (o.map Part.row))]
 (.tup [.agg (fHubSubmit h name client seq base o).1.res,.c (vi (fHubSubmit h name client seq base o).2.1) 1,.c (vi (fHubSubmit h name client seq base o).2.2) 1]):=by
 refine PureC.intro' tt_ok Tryz.func188 (by kernel_rfl) rfl rfl rfl (Nat.le_of_ble_eq_true rfl) (fun w0 bs=>?_);have hls:=nL_len (hub_n hl).2;simp [Hub.row];intro b6 b12;refine ACall.pure (implHubDoc_c h (by omega) name) (by simp [Hub.row]) ?_;simp;refine ACall.pure (implHubOk_c h (by omega)) (by simp [Hub.row]) ?_;by_cases c1 : hubOk h
 rotate_left
 ·simp [dc_neg c1,fHubSubmit_no c1,Hub.res,Hub.zero]
 simp [c1]
 cases c2 : h.shut with
 | true=>simp [fHubSubmit_shut c1 c2,Hub.res,Hub.zero]
 | false=>
 have c2' : ¬ h.shut = true:=by rw [c2];simp
 simp;rcases docIdx_cases h.docs name with ⟨k,hk,e,-⟩ | e;rotate_left
 ·simp [e,fHubSubmit_none c1 c2' e,Hub.res,Hub.zero]
 have hk0 : ¬ (k : Int) < 0:=by omega
 have hat:=fHubSubmit_at (client:=client) (seq:=seq) (base:=base) (o:=o) c1 c2' hk e;have hdn:=nL_at (f:=nDoc) (hub_n hl).1 hk;have hdo:=hub_doc c1 hk;have hDn:=fSubmit_n (client:=client) (seq:=seq) (base:=base) (o:=o) hdo;have hok:=fSubmit_ok (client:=client) (seq:=seq) (base:=base) (o:=o) hdo;obtain ⟨d,hd⟩ : ∃ d,h.docs[k] = d:=⟨_,rfl⟩;rw [hd] at hat hdn hDn hok;have hc:=implSubmit_c d hdn client seq base o ho;generalize fSubmit d client seq base o = S at hc hat hDn hok;obtain ⟨D,rev,code⟩:=S;simp only at hc hat hDn hok;simp [e,hk0,hk,hd,Doc.row];refine ACall.pure hc (by simp [Doc.row]) ?_;simp [Doc.res];intro H1 H2 H3 b16;by_cases c3 : code = 0
 rotate_left
 ·rw [if_neg c3] at hat
  simp [c3,hat,Hub.res,Hub.zero]
 rw [if_pos c3] at hat;have hok:=hok c3;simp [c3];refine ACall.pure (copyHub_c h (by omega)) (by simp [Hub.row,c2]) ?_;simp [Hub.res,c2,hk];intro K1 K2 b19;refine DrawT.introS eok mix [0,2,3,4,5,6] [1,7,8] (.child 1 [false,false,false,false,false,true] [true,true,true,true,true,false] (.child 7 [true,false,false,false,false,false] [false,true,true,true,true,false] (.child 8 [false,false,false,false,false,false] [false,true,true,true,true,false] (.leaf [false,true,true,true,true,false]) .stop) .stop) .stop) (by kernel_rfl) ?_;simp [hk,hd,Doc.row]
 try intros
 refine ACall.pure (implHeadRev_c D) (by simp [Doc.row,Doc.row]) ?_;simp
 try intros
 refine ACall.pure (implHeadRev_c d) (by simp [Doc.row,Doc.row]) ?_;simp
 try intros
 by_cases c5 : headRev D = headRev d
 ·have hcm : hubCommit h name k d D = ⟨h.shut,h.docs.set k D,h.subs,h.last⟩:=by unfold hubCommit;rw [if_neg (by omega)]
  rw [hcm] at hat;simp [c5,hat,c2];exact ⟨rows5_set,rfl⟩
 rcases hok with rfl | ⟨e,he1,he2⟩
 ·exact absurd rfl c5
 have hcm : hubCommit h name k d D = ⟨h.shut,h.docs.set k D,h.subs.map (tellSub name e),h.last⟩:=by unfold hubCommit;rw [if_pos (by omega),he2]
 rw [hcm] at hat;have hgt : headRev d < headRev D:=by omega
 have hmem : e∈D.list:=List.mem_of_getLast? he2;have hpos : 0 < D.list.length:=List.length_pos_of_mem hmem;obtain ⟨m,hm⟩ : ∃ m,D.list.length = m + 1:=⟨D.list.length - 1,by omega⟩;have hml : m < D.list.length:=by omega
 have hme : D.list[m] = e:=by
  rw [List.getLast?_eq_getElem?,hm,Nat.add_sub_cancel,List.getElem?_eq_getElem hml] at he2;exact Option.some.inj he2
 have hDl : nL nEntry D.list≤2 ^ 24:=by unfold nDoc at hDn;omega
 have hen:=nL_mem (f:=nEntry) hDl hmem;have hlen24:=nL_len hDl;have ew : Go.IntKind.i64.wrap ((D.list.length : Int) - 1) = (m : Int):=by rw [Go.IntWalk.i64_in _ (by omega)];omega
 have em : Go.IntKind.i64.wrap (m : Int) = m:=i64_nat (by omega);simp [hgt]
 refine LoopT.introG eok (fun i : Nat=>i≤h.subs.length) (fun i=>⟨103,0,[(75,.v (.int .i64 i)),(74,.v (.int .i64 h.subs.length)),(73,.sl 914 K2 6 0 h.subs.length),(19,.p 304 b19 0),(16,.p 256 b16 0),(17,.v (.int .i64 rev)),(1,.v (.string name)),(12,.p 192 b12 0)],
  [(304,.vars b19 35 [.v (.bool false),.sl 913 K1 5 0 h.docs.length,.sl 914 K2 6 0 h.subs.length,.v (.int .i64 h.last)]),(192,.vars b12 35 [.v (.bool false),.nil,.nil,.v (.int .i64 0)]),
   (256,.vars b16 139 [.v (.string D.name),.v (.int .i64 D.fr),.sl 770 H1 1 0 D.text.length,.sl 771 H2 3 0 D.list.length,.sl 772 H3 3 0 D.seen.length]),
   (771,.lent H2 3 (D.list.map Entry.row)),(913,.rows K1 5 ((h.docs.set k D).map Doc.row) true),(914,.rows K2 6 ((toldTo name e h.subs i).map Sub.row) true)]⟩) (fun i=>h.subs.length - i) 0 (by simp) (by simp [toldTo_zero];rfl) (fun i hi=>Ent.refl ?_)
 have htl:=toldTo_len name e h.subs i;by_cases hlt : i < h.subs.length
 ·have hti:=toldTo_at (name:=name) (e:=e) hlt
  have hlt' : i < (toldTo name e h.subs i).length:=by omega
  have hsk:=toldTo_skip (name:=name) (e:=e) hlt;have hsu:=toldTo_suc (name:=name) (e:=e) hlt;have hmd:=mod_sub hlt' (fRingPush h.subs[i].r e);have hmn:=nL_at (f:=nSub) (hub_n hl).2 hlt;unfold nSub at hmn;rw [hti] at hmd;obtain ⟨s,hs⟩ : ∃ s,h.subs[i] = s:=⟨_,rfl⟩;rw [hs] at hti hsk hsu hmd hmn;simp [hlt,htl,hti,Sub.row];intro b21;by_cases c6 : s.doc = name
  rotate_left
  ·simp [c6]
   refine Ent.refl ⟨i + 1,by omega,by omega,?_⟩;rw [← hsk c6];simp;exact i64_suc (by omega)
  have htell : tellSub name e s = ⟨s.id,s.doc,fRingPush s.r e⟩:=by unfold tellSub;rw [if_pos c6]
  rw [htell] at hsu;rw [hsu] at hmd;have hpc:=implRingPush_c s.r (by omega) e (by omega);generalize fRingPush s.r e = R at hpc hmd;simp [c6];have hmm : (m : Int) < (m : Int) + 1:=by omega
  refine DrawT.introS eok mix [0,1,2,3,4,5,6,7,8,9,10,11,12,14,15] [13,16] (.child 13 [false,false,true,false,false,false,false,false,false,false,true,false,false,false,false] [true,true,false,true,true,true,true,true,true,true,false,true,true,true,true] (.child 16 [true,false,false,true,true,true,true,true,true,true,false,true,true,true,true] [false,true,false,false,false,false,false,false,false,false,false,false,false,false,false] (.leaf [false,true,false,false,false,false,false,false,false,false,false,false,false,false,false]) .stop) .stop) (by kernel_rfl) ?_;simp [hlt,hm,em,hme,hmm,Entry.row]
  try intros
  refine ACall.pure (hpc) (by simp [Ring.row,Entry.row,Entry.row]) ?_;simp [Ring.res,hlt,htl]
  try intros
  refine Ent.refl ⟨i + 1,by omega,by omega,?_⟩;rw [← hmd];simp;exact i64_suc (by omega)
 have hie : i = h.subs.length:=by omega
 subst hie;rw [toldTo_all];simp [hat,c2];exact rows5_set
theorem specDo2_i (h : Hub) (hl : nHub h≤2 ^ 28) (c : Call) (hc : nCall c≤2 ^ 28) (k : c.kind = 2) : PureC Tryz.prog 133 [.agg h.row,.agg c.row] (.tup [.agg (fDo h c).1.res,.agg (fDo h c).2.res]):=by
 refine PureC.intro' tt_ok Tryz.func133 (by kernel_rfl) rfl rfl rfl (Nat.le_of_ble_eq_true rfl) (fun w0 base=>?_);have hcn : c.doc.size≤2 ^ 28∧nL nPart c.o≤2 ^ 28∧c.text.length≤2 ^ 28:=by unfold nCall at hc;omega
 simp [Hub.row,Call.row];intro b2 b3 b4 b5;refine ACall.pure (specHubOk_c h (by omega)) (by simp [Hub.row]) ?_;by_cases c1 : hubOk h
 rotate_left
 ·simp [dc_neg c1]
  refine ACall.pure (l11Copy_c h (by omega)) (by simp [Hub.row]) ?_;simp [Hub.res,fDo_no (fun h=>c1 h.1),Answer.res,codeA]
 simp [c1];refine ACall.pure (specCallOk_c c (by omega)) (by simp [Call.row]) ?_;by_cases c2 : callOk c
 rotate_left
 ·simp [dc_neg c2]
  refine ACall.pure (l11Copy_c h (by omega)) (by simp [Hub.row]) ?_;simp [Hub.res,fDo_no (fun h=>c2 h.2),Answer.res,codeA]
 simp [c2];intro b6 b23 b24;have hat:=fDo_2 ⟨c1,c2⟩ k;have hd:=specHubSubmit_c h (by omega) c.doc c.client c.seq c.n c.o (by omega);generalize fHubSubmit h c.doc c.client c.seq c.n c.o = R at hd hat;obtain ⟨X,rev,code⟩:=R;simp only at hd hat;simp [k];refine ACall.pure hd (by simp [Hub.row]) ?_;simp [Hub.res];intros;by_cases z : code = 0
 ·rw [if_pos z] at hat
  simp [z,hat,Answer.res]
 ·rw [if_neg z] at hat
  simp [z];refine ACall.pure (l11Copy_c h (by omega)) (by simp [Hub.row]) ?_;simp [Hub.res,hat,Answer.res,codeA]
theorem implDo2_i (h : Hub) (hl : nHub h≤2 ^ 28) (c : Call) (hc : nCall c≤2 ^ 28) (k : c.kind = 2) : PureC Tryz.prog 105 [.agg h.row,.agg c.row] (.tup [.agg (fDo h c).1.res,.agg (fDo h c).2.res]):=by
 refine PureC.intro' tt_ok Tryz.func105 (by kernel_rfl) rfl rfl rfl (Nat.le_of_ble_eq_true rfl) (fun w0 base=>?_);have hcn : c.doc.size≤2 ^ 28∧nL nPart c.o≤2 ^ 28∧c.text.length≤2 ^ 28:=by unfold nCall at hc;omega
 simp [Hub.row,Call.row];intro b2 b3 b4 b5;refine ACall.pure (implHubOk_c h (by omega)) (by simp [Hub.row]) ?_;by_cases c1 : hubOk h
 rotate_left
 ·simp [dc_neg c1]
  refine ACall.pure (copyHub_c h (by omega)) (by simp [Hub.row]) ?_;simp [Hub.res,fDo_no (fun h=>c1 h.1),Answer.res,codeA]
 simp [c1];refine ACall.pure (implCallOk_c c (by omega)) (by simp [Call.row]) ?_;by_cases c2 : callOk c
 rotate_left
 ·simp [dc_neg c2]
  refine ACall.pure (copyHub_c h (by omega)) (by simp [Hub.row]) ?_;simp [Hub.res,fDo_no (fun h=>c2 h.2),Answer.res,codeA]
 simp [c2];intro b6 b7;have hat:=fDo_2 ⟨c1,c2⟩ k;have hd:=implHubSubmit_c h (by omega) c.doc c.client c.seq c.n c.o (by omega);generalize fHubSubmit h c.doc c.client c.seq c.n c.o = R at hd hat;obtain ⟨X,rev,code⟩:=R;simp only at hd hat;simp [k];refine ACall.pure hd (by simp [Hub.row]) ?_;simp [Hub.res];intros;by_cases z : code = 0
 ·rw [if_pos z] at hat
  simp [z];refine DrawT.introS eok mix [0,1] [2,3] (.child 2 [false,true] [true,false] (.child 3 [true,false] [false,false] (.leaf [false,false]) .stop) .stop) (by kernel_rfl) ?_;simp
  try intros
  rw [hat];simp [Answer.res]
 ·rw [if_neg z] at hat
  simp [z];refine DrawT.introS eok mix [0,2,3,4] [1,5,6] (.child 1 [false,false,false,true] [true,true,true,false] (.child 5 [false,false,false,false] [true,true,true,false] (.child 6 [true,true,true,false] [false,false,false,false] (.leaf [false,false,false,false]) .stop) .stop) .stop) (by kernel_rfl) ?_;simp
  try intros
  refine ACall.pure (copyHub_c h (by omega)) (by simp [Hub.row]) ?_;simp [Hub.res]
  try intros
  rw [hat];simp [Answer.res,codeA]
theorem u8_lt {a b : UInt8} : a < b ↔ a.toNat < b.toNat:=UInt8.lt_iff_toNat_lt
theorem bl_trans : ∀ x y z : List UInt8,Go.Op.bytesLess x y = true→Go.Op.bytesLess y z = true→Go.Op.bytesLess x z = true
 | [],[],_,h,_=>by simp [Go.Op.bytesLess] at h
 | _ :: _,[],_,h,_=>by simp [Go.Op.bytesLess] at h
 | _,_ :: _,[],_,h=>by simp [Go.Op.bytesLess] at h
 | [],_ :: _,_ :: _,_,_=>rfl
 | a :: x,b :: y,c :: z,h1,h2=>by
   rw [Go.Op.bytesLess] at h1 h2 ⊢;simp only [Bool.or_eq_true,Bool.and_eq_true,decide_eq_true_eq,beq_iff_eq] at h1 h2 ⊢;rcases h1 with h1 | ⟨rfl,h1⟩
   ·rcases h2 with h2 | ⟨rfl,h2⟩
    ·rw [u8_lt] at h1 h2 ⊢;exact .inl (by omega)
    ·exact .inl h1
   ·rcases h2 with h2 | ⟨rfl,h2⟩
    ·exact .inl h2
    ·exact .inr ⟨rfl,bl_trans x y z h1 h2⟩
theorem sLt_trans {a b c : ByteArray} (h1 : sLt a b) (h2 : sLt b c) : sLt a c:=bl_trans _ _ _ h1 h2
theorem docIdx_pos {l : List Doc} {name : ByteArray} : 0≤docIdx l name ↔ ∃ d∈l,d.name = name:=by
 constructor
 ·intro h
  rcases docIdx_cases l name with ⟨k,hk,-,hn⟩ | e
  ·exact ⟨_,List.getElem_mem hk,hn⟩
  ·omega
 ·rintro ⟨d,hd,hn⟩
  rcases fIdx_cases (fun d : Doc=>d.name = name) l with ⟨k,hk,e,-⟩ | ⟨-,h⟩
  ·unfold docIdx;omega
  ·obtain ⟨i,hi,rfl⟩:=List.getElem_of_mem hd
   exact absurd hn (h i hi)
end Go.Proofs.YtoeofekglbdemaaGreat
