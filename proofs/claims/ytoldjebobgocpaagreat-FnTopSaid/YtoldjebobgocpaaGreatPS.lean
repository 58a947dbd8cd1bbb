import Derived.Test.YtoldjebobgocpaaGreatPR
import Derived.Test.YtoldjebobgocpaaGreatPK
import Derived.Test.YtoldjebobgocpaaGreatPL
import Derived.Test.YtoldjebobgocpaaGreatPM
import Derived.Test.YtoldjebobgocpaaGreatPI
import Derived.Test.YtoldjebobgocpaaGreatPF
import Derived.Test.YtoldjebobgocpaaGreatPO
import Derived.Test.YtoldjebobgocpaaGreatPP
import Derived.Test.YtoldjebobgocpaaGreatPQ
namespace Go.Proofs.YtoldjebobgocpaaGreat
open Go.AM
set_option maxRecDepth 20000
set_option maxHeartbeats 51200000
def TM (p:Wld->Prop) (rr:RR):Prop:=∃ w:Wld,p w/\rr=.one (.agg w.res)
theorem KB (l:List UInt8) (hl:l.length<=2 ^ 40) (hb:Hub) (hok:ao hb) (j:Nat) (hj:j<=2 ^ 20) (a:Wld) (r:Reach hb j a):pE Tryz.prog 141 (l.map ff) 127 [.agg a.row] (TM (Reach hb (j+1))):=by
 refine pE.intro ae Tryz.func127 (by kernel_rfl) rfl rfl rfl (Nat.le_of_ble_eq_true rfl) (λw0 base o b u i h hi0 hi1 hu=>?_);have hi1:i<=(l.length:Int):=by simpa using hi1
 obtain ⟨wok,-,wt⟩:=jZ hok r;have hn:=rm wt hj;have hhn:bX a.h<=2 ^ 28:=wt.1;simp [Wld.row];intro b3 b4;refine aa.cur (al l hl 12) hu (by simp) rfl hi0 hi1 (by simp) ?_
 rintro _ i1 h1 ⟨z,hz,rfl⟩ g0 g1
 simp;by_cases e0:a.tasks=[]
 ·simp [e0]
  refine bL (λx:{x:Wld×Bool // x.2=true->stepTo a x.1} × {q:Int // 0<=q/\q<=(l.length:Int)}×Int×Nat=>[(6,.p 96 x.2.2.2 0),(7,.v (.bool x.1.1.2))]) (λx=>[(96,.vars x.2.2.2 39 [.v (.bool x.1.1.1.h.shut),.ro (x.1.1.1.h.docs.map Doc.row),.ro (x.1.1.1.h.subs.map Sub.row),.v (.int .i64 x.1.1.1.h.last),.ro (x.1.1.1.locks.map ak),.ro (x.1.1.1.queues.map Queue.row),.ro (x.1.1.1.tasks.map Task.row),.v (.int .i64 x.1.1.1.step)]),(0,.vars b 141 (cV u l.length x.2.1.1 x.2.2.1))]) [0,3,4,5] ?_ ?_
  ·refine drw eok mix [0,1,2,3] [4,5,6,7,8,9,10,11] (.c 4 4 5 10 (.c 4 5 8 2 (.c 4 6 0 2 (.c 4 7 0 2 (.c 4 8 0 2 (.c 4 9 0 2 (.c 4 10 2 0 (.c 4 11 0 0 (.l 4 0) .s) .s) .s) .s) .s) .s) (.c 4 9 0 10 (.c 4 5 8 2 (.c 4 6 0 2 (.c 4 7 0 2 (.c 4 8 0 2 (.c 4 10 2 0 (.c 4 11 0 0 (.l 4 0) .s) .s) .s) .s) .s) .s) .s)) (.c 4 9 0 15 (.c 4 4 5 10 (.c 4 5 8 2 (.c 4 6 0 2 (.c 4 7 0 2 (.c 4 8 0 2 (.c 4 10 2 0 (.c 4 11 0 0 (.l 4 0) .s) .s) .s) .s) .s) .s) .s) .s)) ?_
   simp
   try intros
   repeat' first
    |(refine bM (ra l hl a.h wok.2.1) hu (by simp) rfl g0 g1 (by simp [Hub.row]) ?_;rintro _ i2 h2 ⟨c,hc,rfl⟩ g0 g1;simp [Call.res];try intros)
    |(have hx:(eG a c).2=true->stepTo a (eG a c).1:=λh=>.come h;have cc:=o7 a hn c (by unfold xh at hc;omega);generalize eG a c=q at hx cc;obtain ⟨x,okx⟩:=q;simp only at hx cc;refine aa.ro cc (by simp [Wld.row,Call.row,e0]) ?_;simp [Wld.res];try intros)
    |(rw [Trc];refine ⟨?_,?_⟩<;>(try simp)<;>try intros)
   all_goals
    cases okx with
    |false=>exact ⟨x,.inl ⟨_,⟨g0,g1⟩,_,_,⟨rfl,rfl⟩,⟨rfl,rfl,rfl,rfl,rfl,rfl,rfl,rfl,rfl⟩,rfl,rfl⟩⟩
    |true=>exact ⟨x,.inr ⟨hx rfl,_,⟨g0,g1⟩,_,_,⟨rfl,rfl⟩,⟨rfl,rfl,rfl,rfl,rfl,rfl,rfl,rfl,rfl⟩,rfl,rfl⟩⟩
  rintro ⟨⟨⟨x,okx⟩,hx⟩,⟨i2,g0,g1⟩,h2,b6⟩
  simp;simp only at hx g0 g1
  cases okx with
  | true =>
    simp;refine ⟨_,⟨x,.step r (hx rfl),rfl⟩,?_,aj rfl g0 g1⟩;simp [Wld.res]
  | false =>
    simp;by_cases z5:z<5
    ·simp [z5]
     by_cases q0:a.queues=[]
     ·simp [q0]
      refine ⟨_,⟨a,.same r,rfl⟩,?_,aj rfl g0 g1⟩;simp [Wld.res,q0,e0]
     have qpos:0<a.queues.length:=List.length_pos_iff.2 q0;simp [qpos];refine bL (λx:{x:Wld×Bool // x.2=true->stepTo a x.1} × {q:Int // 0<=q/\q<=(l.length:Int)}×Int×Nat=>[(8,.p 128 x.2.2.2 0),(9,.v (.bool x.1.1.2))]) (λx=>[(128,.vars x.2.2.2 39 [.v (.bool x.1.1.1.h.shut),.ro (x.1.1.1.h.docs.map Doc.row),.ro (x.1.1.1.h.subs.map Sub.row),.v (.int .i64 x.1.1.1.h.last),.ro (x.1.1.1.locks.map ak),.ro (x.1.1.1.queues.map Queue.row),.ro (x.1.1.1.tasks.map Task.row),.v (.int .i64 x.1.1.1.step)]),(0,.vars b 141 (cV u l.length x.2.1.1 x.2.2.1))]) [0,3,4,5] ?_ ?_
     ·refine drw eok mix [0,1,2,3,4,5,6] [7,8,9,10,11,12,13,14,15,16,17] (.c 7 7 9 118 (.c 7 8 16 102 (.c 7 9 0 102 (.c 7 10 0 102 (.c 7 11 64 38 (.c 7 12 0 38 (.c 7 13 0 38 (.c 7 14 0 38 (.c 7 15 0 38 (.c 7 16 38 0 (.c 7 17 0 0 (.l 7 0) .s) .s) .s) .s) .s) .s) (.c 7 15 0 102 (.c 7 11 64 38 (.c 7 12 0 38 (.c 7 13 0 38 (.c 7 14 0 38 (.c 7 16 38 0 (.c 7 17 0 0 (.l 7 0) .s) .s) .s) .s) .s) .s) .s)) (.c 7 15 0 102 (.c 7 10 0 102 (.c 7 11 64 38 (.c 7 12 0 38 (.c 7 13 0 38 (.c 7 14 0 38 (.c 7 16 38 0 (.c 7 17 0 0 (.l 7 0) .s) .s) .s) .s) .s) .s) .s) .s)) (.c 7 15 0 102 (.c 7 9 0 102 (.c 7 10 0 102 (.c 7 11 64 38 (.c 7 12 0 38 (.c 7 13 0 38 (.c 7 14 0 38 (.c 7 16 38 0 (.c 7 17 0 0 (.l 7 0) .s) .s) .s) .s) .s) .s) .s) .s) .s)) (.c 7 15 0 118 (.c 7 8 16 102 (.c 7 9 0 102 (.c 7 10 0 102 (.c 7 11 64 38 (.c 7 12 0 38 (.c 7 13 0 38 (.c 7 14 0 38 (.c 7 16 38 0 (.c 7 17 0 0 (.l 7 0) .s) .s) .s) .s) .s) .s) .s) .s) .s) .s)) (.c 7 15 0 127 (.c 7 7 9 118 (.c 7 8 16 102 (.c 7 9 0 102 (.c 7 10 0 102 (.c 7 11 64 38 (.c 7 12 0 38 (.c 7 13 0 38 (.c 7 14 0 38 (.c 7 16 38 0 (.c 7 17 0 0 (.l 7 0) .s) .s) .s) .s) .s) .s) .s) .s) .s) .s) .s)) ?_
      simp
      try intros
      repeat' first
       |(refine aa.cur (al l hl a.queues.length) hu (by simp) rfl g0 g1 (by simp) ?_;rintro _ i2 h2 ⟨kk,hkk,rfl⟩ g0 g1;obtain ⟨k,rfl⟩:∃ k:Nat,kk=(k:Int):=⟨kk.toNat,by have:=hkk.1;omega⟩;have hk:k<a.queues.length:=(by have:=hkk.2.2 (by omega);omega);obtain ⟨qd,hqd⟩:∃ d,a.queues[k]=d:=⟨_,rfl⟩;simp [hk,hqd,Queue.row];try intros)
       |(have hx:(cf a qd.doc).2=true->stepTo a (cf a qd.doc).1:=λh=>.serve h;have cc:=mK a hn qd.doc;generalize cf a qd.doc=q at hx cc;obtain ⟨x,okx⟩:=q;simp only at hx cc;refine aa.ro cc (by simp [Wld.row,e0]) ?_;simp [Wld.res];try intros)
       |(rw [Trc];refine ⟨?_,?_⟩<;>(first|simp [hk,hqd,Queue.row]|simp|skip)<;>try intros)
      all_goals
       cases okx with
       |false=>exact ⟨x,.inl ⟨_,⟨g0,g1⟩,_,_,⟨rfl,rfl⟩,⟨rfl,rfl,rfl,rfl,rfl,rfl,rfl,rfl,rfl⟩,rfl,rfl⟩⟩
       |true=>exact ⟨x,.inr ⟨hx rfl,_,⟨g0,g1⟩,_,_,⟨rfl,rfl⟩,⟨rfl,rfl,rfl,rfl,rfl,rfl,rfl,rfl,rfl⟩,rfl,rfl⟩⟩
     rintro ⟨⟨⟨x,okx⟩,hx⟩,⟨i2,g0,g1⟩,h2,b6⟩
     simp;simp only at hx g0 g1
     cases okx with
     | true =>
       simp;refine ⟨_,⟨x,.step r (hx rfl),rfl⟩,?_,aj rfl g0 g1⟩;simp [Wld.res]
     | false =>
       simp;refine ⟨_,⟨a,.same r,rfl⟩,?_,aj rfl g0 g1⟩;simp [Wld.res,e0]
    ·simp [z5]
     refine ⟨_,⟨a,.same r,rfl⟩,?_,aj rfl g0 g1⟩;simp [Wld.res,e0]
 simp [e0];by_cases z2:z<2
 ·simp [z2]
  refine bL (λx:{x:Wld×Bool // x.2=true->stepTo a x.1} × {q:Int // 0<=q/\q<=(l.length:Int)}×Int×Nat=>[(6,.p 96 x.2.2.2 0),(7,.v (.bool x.1.1.2))]) (λx=>[(96,.vars x.2.2.2 39 [.v (.bool x.1.1.1.h.shut),.ro (x.1.1.1.h.docs.map Doc.row),.ro (x.1.1.1.h.subs.map Sub.row),.v (.int .i64 x.1.1.1.h.last),.ro (x.1.1.1.locks.map ak),.ro (x.1.1.1.queues.map Queue.row),.ro (x.1.1.1.tasks.map Task.row),.v (.int .i64 x.1.1.1.step)]),(0,.vars b 141 (cV u l.length x.2.1.1 x.2.2.1))]) [0,3,4,5] ?_ ?_
  ·refine drw eok mix [0,1,2,3] [4,5,6,7,8,9,10,11] (.c 4 4 5 10 (.c 4 5 8 2 (.c 4 6 0 2 (.c 4 7 0 2 (.c 4 8 0 2 (.c 4 9 0 2 (.c 4 10 2 0 (.c 4 11 0 0 (.l 4 0) .s) .s) .s) .s) .s) .s) (.c 4 9 0 10 (.c 4 5 8 2 (.c 4 6 0 2 (.c 4 7 0 2 (.c 4 8 0 2 (.c 4 10 2 0 (.c 4 11 0 0 (.l 4 0) .s) .s) .s) .s) .s) .s) .s)) (.c 4 9 0 15 (.c 4 4 5 10 (.c 4 5 8 2 (.c 4 6 0 2 (.c 4 7 0 2 (.c 4 8 0 2 (.c 4 10 2 0 (.c 4 11 0 0 (.l 4 0) .s) .s) .s) .s) .s) .s) .s) .s)) ?_
   simp
   try intros
   repeat' first
    |(refine bM (ra l hl a.h wok.2.1) hu (by simp) rfl g0 g1 (by simp [Hub.row]) ?_;rintro _ i2 h2 ⟨c,hc,rfl⟩ g0 g1;simp [Call.res];try intros)
    |(have hx:(eG a c).2=true->stepTo a (eG a c).1:=λh=>.come h;have cc:=o7 a hn c (by unfold xh at hc;omega);generalize eG a c=q at hx cc;obtain ⟨x,okx⟩:=q;simp only at hx cc;refine aa.ro cc (by simp [Wld.row,Call.row]) ?_;simp [Wld.res];try intros)
    |(rw [Trc];refine ⟨?_,?_⟩<;>(try simp)<;>try intros)
   all_goals
    cases okx with
    |false=>exact ⟨x,.inl ⟨_,⟨g0,g1⟩,_,_,⟨rfl,rfl⟩,⟨rfl,rfl,rfl,rfl,rfl,rfl,rfl,rfl,rfl⟩,rfl,rfl⟩⟩
    |true=>exact ⟨x,.inr ⟨hx rfl,_,⟨g0,g1⟩,_,_,⟨rfl,rfl⟩,⟨rfl,rfl,rfl,rfl,rfl,rfl,rfl,rfl,rfl⟩,rfl,rfl⟩⟩
  rintro ⟨⟨⟨x,okx⟩,hx⟩,⟨i2,g0,g1⟩,h2,b6⟩
  simp;simp only at hx g0 g1
  cases okx with
  | true =>
    simp;refine ⟨_,⟨x,.step r (hx rfl),rfl⟩,?_,aj rfl g0 g1⟩;simp [Wld.res]
  | false =>
    simp;have z5:z<5:=by omega
    simp [z5];by_cases q0:a.queues=[]
    ·simp [q0]
     by_cases t0:a.tasks=[]
     ·simp [t0]
      refine ⟨_,⟨a,.same r,rfl⟩,?_,aj rfl g0 g1⟩;simp [Wld.res,t0,q0]
     have tpos:0<a.tasks.length:=List.length_pos_iff.2 t0;simp [t0];refine drw eok mix [0,1,2,3,4] [5,6,7,8,9,10,11,12] (.c 5 5 9 22 (.c 5 6 16 6 (.c 5 7 0 6 (.c 5 8 0 6 (.c 5 9 0 6 (.c 5 10 0 6 (.c 5 11 6 0 (.c 5 12 0 0 (.l 5 0) .s) .s) .s) .s) .s) .s) (.c 5 10 0 22 (.c 5 6 16 6 (.c 5 7 0 6 (.c 5 8 0 6 (.c 5 9 0 6 (.c 5 11 6 0 (.c 5 12 0 0 (.l 5 0) .s) .s) .s) .s) .s) .s) .s)) (.c 5 10 0 31 (.c 5 5 9 22 (.c 5 6 16 6 (.c 5 7 0 6 (.c 5 8 0 6 (.c 5 9 0 6 (.c 5 11 6 0 (.c 5 12 0 0 (.l 5 0) .s) .s) .s) .s) .s) .s) .s) .s)) ?_;simp
     try intros
     repeat' first
      |(refine aa.cur (al l hl a.tasks.length) hu (by simp) rfl g0 g1 (by simp) ?_;rintro _ i2 h2 ⟨kk,hkk,rfl⟩ g0 g1;simp;try intros)
      |(have hx:(cr a kk).2=true->stepTo a (cr a kk).1:=λh=>.pick h;have cc:=jT a hn kk;generalize cr a kk=q at hx cc;obtain ⟨x,okx⟩:=q;simp only at hx cc;refine aa.ro cc (by simp [Wld.row,q0]) ?_;simp [Wld.res];try intros)
      |(rw [Trc];refine ⟨?_,?_⟩<;>(try simp)<;>try intros)
     all_goals
      cases okx with
      | true =>
        simp;refine ⟨_,⟨x,.step r (hx rfl),rfl⟩,?_,aj rfl g0 g1⟩;simp [Wld.res]
      | false =>
        simp;refine ⟨_,⟨a,.same r,rfl⟩,?_,aj rfl g0 g1⟩;simp [Wld.res,q0]
    have qpos:0<a.queues.length:=List.length_pos_iff.2 q0;simp [qpos];refine bL (λx:{x:Wld×Bool // x.2=true->stepTo a x.1} × {q:Int // 0<=q/\q<=(l.length:Int)}×Int×Nat=>[(8,.p 128 x.2.2.2 0),(9,.v (.bool x.1.1.2))]) (λx=>[(128,.vars x.2.2.2 39 [.v (.bool x.1.1.1.h.shut),.ro (x.1.1.1.h.docs.map Doc.row),.ro (x.1.1.1.h.subs.map Sub.row),.v (.int .i64 x.1.1.1.h.last),.ro (x.1.1.1.locks.map ak),.ro (x.1.1.1.queues.map Queue.row),.ro (x.1.1.1.tasks.map Task.row),.v (.int .i64 x.1.1.1.step)]),(0,.vars b 141 (cV u l.length x.2.1.1 x.2.2.1))]) [0,3,4,5] ?_ ?_
    ·refine drw eok mix [0,1,2,3,4,5,6] [7,8,9,10,11,12,13,14,15,16,17] (.c 7 7 9 118 (.c 7 8 16 102 (.c 7 9 0 102 (.c 7 10 0 102 (.c 7 11 64 38 (.c 7 12 0 38 (.c 7 13 0 38 (.c 7 14 0 38 (.c 7 15 0 38 (.c 7 16 38 0 (.c 7 17 0 0 (.l 7 0) .s) .s) .s) .s) .s) .s) (.c 7 15 0 102 (.c 7 11 64 38 (.c 7 12 0 38 (.c 7 13 0 38 (.c 7 14 0 38 (.c 7 16 38 0 (.c 7 17 0 0 (.l 7 0) .s) .s) .s) .s) .s) .s) .s)) (.c 7 15 0 102 (.c 7 10 0 102 (.c 7 11 64 38 (.c 7 12 0 38 (.c 7 13 0 38 (.c 7 14 0 38 (.c 7 16 38 0 (.c 7 17 0 0 (.l 7 0) .s) .s) .s) .s) .s) .s) .s) .s)) (.c 7 15 0 102 (.c 7 9 0 102 (.c 7 10 0 102 (.c 7 11 64 38 (.c 7 12 0 38 (.c 7 13 0 38 (.c 7 14 0 38 (.c 7 16 38 0 (.c 7 17 0 0 (.l 7 0) .s) .s) .s) .s) .s) .s) .s) .s) .s)) (.c 7 15 0 118 (.c 7 8 16 102 (.c 7 9 0 102 (.c 7 10 0 102 (.c 7 11 64 38 (.c 7 12 0 38 (.c 7 13 0 38 (.c 7 14 0 38 (.c 7 16 38 0 (.c 7 17 0 0 (.l 7 0) .s) .s) .s) .s) .s) .s) .s) .s) .s) .s)) (.c 7 15 0 127 (.c 7 7 9 118 (.c 7 8 16 102 (.c 7 9 0 102 (.c 7 10 0 102 (.c 7 11 64 38 (.c 7 12 0 38 (.c 7 13 0 38 (.c 7 14 0 38 (.c 7 16 38 0 (.c 7 17 0 0 (.l 7 0) .s) .s) .s) .s) .s) .s) .s) .s) .s) .s) .s)) ?_
     simp
     try intros
     repeat' first
      |(refine aa.cur (al l hl a.queues.length) hu (by simp) rfl g0 g1 (by simp) ?_;rintro _ i2 h2 ⟨kk,hkk,rfl⟩ g0 g1;obtain ⟨k,rfl⟩:∃ k:Nat,kk=(k:Int):=⟨kk.toNat,by have:=hkk.1;omega⟩;have hk:k<a.queues.length:=(by have:=hkk.2.2 (by omega);omega);obtain ⟨qd,hqd⟩:∃ d,a.queues[k]=d:=⟨_,rfl⟩;simp [hk,hqd,Queue.row];try intros)
      |(have hx:(cf a qd.doc).2=true->stepTo a (cf a qd.doc).1:=λh=>.serve h;have cc:=mK a hn qd.doc;generalize cf a qd.doc=q at hx cc;obtain ⟨x,okx⟩:=q;simp only at hx cc;refine aa.ro cc (by simp [Wld.row]) ?_;simp [Wld.res];try intros)
      |(rw [Trc];refine ⟨?_,?_⟩<;>(first|simp [hk,hqd,Queue.row]|simp|skip)<;>try intros)
     all_goals
      cases okx with
      |false=>exact ⟨x,.inl ⟨_,⟨g0,g1⟩,_,_,⟨rfl,rfl⟩,⟨rfl,rfl,rfl,rfl,rfl,rfl,rfl,rfl,rfl⟩,rfl,rfl⟩⟩
      |true=>exact ⟨x,.inr ⟨hx rfl,_,⟨g0,g1⟩,_,_,⟨rfl,rfl⟩,⟨rfl,rfl,rfl,rfl,rfl,rfl,rfl,rfl,rfl⟩,rfl,rfl⟩⟩
    rintro ⟨⟨⟨x,okx⟩,hx⟩,⟨i2,g0,g1⟩,h2,b6⟩
    simp;simp only at hx g0 g1
    cases okx with
    | true =>
      simp;refine ⟨_,⟨x,.step r (hx rfl),rfl⟩,?_,aj rfl g0 g1⟩;simp [Wld.res]
    | false =>
      simp;by_cases t0:a.tasks=[]
      ·simp [t0]
       refine ⟨_,⟨a,.same r,rfl⟩,?_,aj rfl g0 g1⟩;simp [Wld.res,t0]
      have tpos:0<a.tasks.length:=List.length_pos_iff.2 t0;simp [t0];refine drw eok mix [0,1,2,3,4] [5,6,7,8,9,10,11,12] (.c 5 5 9 22 (.c 5 6 16 6 (.c 5 7 0 6 (.c 5 8 0 6 (.c 5 9 0 6 (.c 5 10 0 6 (.c 5 11 6 0 (.c 5 12 0 0 (.l 5 0) .s) .s) .s) .s) .s) .s) (.c 5 10 0 22 (.c 5 6 16 6 (.c 5 7 0 6 (.c 5 8 0 6 (.c 5 9 0 6 (.c 5 11 6 0 (.c 5 12 0 0 (.l 5 0) .s) .s) .s) .s) .s) .s) .s)) (.c 5 10 0 31 (.c 5 5 9 22 (.c 5 6 16 6 (.c 5 7 0 6 (.c 5 8 0 6 (.c 5 9 0 6 (.c 5 11 6 0 (.c 5 12 0 0 (.l 5 0) .s) .s) .s) .s) .s) .s) .s) .s)) ?_;simp
      try intros
      repeat' first
       |(refine aa.cur (al l hl a.tasks.length) hu (by simp) rfl g0 g1 (by simp) ?_;rintro _ i2 h2 ⟨kk,hkk,rfl⟩ g0 g1;simp;try intros)
       |(have hx:(cr a kk).2=true->stepTo a (cr a kk).1:=λh=>.pick h;have cc:=jT a hn kk;generalize cr a kk=q at hx cc;obtain ⟨x,okx⟩:=q;simp only at hx cc;refine aa.ro cc (by simp [Wld.row]) ?_;simp [Wld.res];try intros)
       |(rw [Trc];refine ⟨?_,?_⟩<;>(try simp)<;>try intros)
      all_goals
       cases okx with
       | true =>
         simp;refine ⟨_,⟨x,.step r (hx rfl),rfl⟩,?_,aj rfl g0 g1⟩;simp [Wld.res]
       | false =>
         simp;refine ⟨_,⟨a,.same r,rfl⟩,?_,aj rfl g0 g1⟩;simp [Wld.res]
 simp [z2];by_cases z5:z<5
 ·simp [z5]
  by_cases q0:a.queues=[]
  ·simp [q0]
   by_cases t0:a.tasks=[]
   ·simp [t0]
    refine ⟨_,⟨a,.same r,rfl⟩,?_,aj rfl g0 g1⟩;simp [Wld.res,t0,q0]
   have tpos:0<a.tasks.length:=List.length_pos_iff.2 t0;simp [t0];refine drw eok mix [0,1,2,3,4] [5,6,7,8,9,10,11,12] (.c 5 5 9 22 (.c 5 6 16 6 (.c 5 7 0 6 (.c 5 8 0 6 (.c 5 9 0 6 (.c 5 10 0 6 (.c 5 11 6 0 (.c 5 12 0 0 (.l 5 0) .s) .s) .s) .s) .s) .s) (.c 5 10 0 22 (.c 5 6 16 6 (.c 5 7 0 6 (.c 5 8 0 6 (.c 5 9 0 6 (.c 5 11 6 0 (.c 5 12 0 0 (.l 5 0) .s) .s) .s) .s) .s) .s) .s)) (.c 5 10 0 31 (.c 5 5 9 22 (.c 5 6 16 6 (.c 5 7 0 6 (.c 5 8 0 6 (.c 5 9 0 6 (.c 5 11 6 0 (.c 5 12 0 0 (.l 5 0) .s) .s) .s) .s) .s) .s) .s) .s)) ?_;simp
   try intros
   repeat' first
    |(refine aa.cur (al l hl a.tasks.length) hu (by simp) rfl g0 g1 (by simp) ?_;rintro _ i2 h2 ⟨kk,hkk,rfl⟩ g0 g1;simp;try intros)
    |(have hx:(cr a kk).2=true->stepTo a (cr a kk).1:=λh=>.pick h;have cc:=jT a hn kk;generalize cr a kk=q at hx cc;obtain ⟨x,okx⟩:=q;simp only at hx cc;refine aa.ro cc (by simp [Wld.row,q0]) ?_;simp [Wld.res];try intros)
    |(rw [Trc];refine ⟨?_,?_⟩<;>(try simp)<;>try intros)
   all_goals
    cases okx with
    | true =>
      simp;refine ⟨_,⟨x,.step r (hx rfl),rfl⟩,?_,aj rfl g0 g1⟩;simp [Wld.res]
    | false =>
      simp;refine ⟨_,⟨a,.same r,rfl⟩,?_,aj rfl g0 g1⟩;simp [Wld.res,q0]
  have qpos:0<a.queues.length:=List.length_pos_iff.2 q0;simp [qpos];refine bL (λx:{x:Wld×Bool // x.2=true->stepTo a x.1} × {q:Int // 0<=q/\q<=(l.length:Int)}×Int×Nat=>[(8,.p 128 x.2.2.2 0),(9,.v (.bool x.1.1.2))]) (λx=>[(128,.vars x.2.2.2 39 [.v (.bool x.1.1.1.h.shut),.ro (x.1.1.1.h.docs.map Doc.row),.ro (x.1.1.1.h.subs.map Sub.row),.v (.int .i64 x.1.1.1.h.last),.ro (x.1.1.1.locks.map ak),.ro (x.1.1.1.queues.map Queue.row),.ro (x.1.1.1.tasks.map Task.row),.v (.int .i64 x.1.1.1.step)]),(0,.vars b 141 (cV u l.length x.2.1.1 x.2.2.1))]) [0,3,4,5] ?_ ?_
  ·refine drw eok mix [0,1,2,3,4,5,6] [7,8,9,10,11,12,13,14,15,16,17] (.c 7 7 9 118 (.c 7 8 16 102 (.c 7 9 0 102 (.c 7 10 0 102 (.c 7 11 64 38 (.c 7 12 0 38 (.c 7 13 0 38 (.c 7 14 0 38 (.c 7 15 0 38 (.c 7 16 38 0 (.c 7 17 0 0 (.l 7 0) .s) .s) .s) .s) .s) .s) (.c 7 15 0 102 (.c 7 11 64 38 (.c 7 12 0 38 (.c 7 13 0 38 (.c 7 14 0 38 (.c 7 16 38 0 (.c 7 17 0 0 (.l 7 0) .s) .s) .s) .s) .s) .s) .s)) (.c 7 15 0 102 (.c 7 10 0 102 (.c 7 11 64 38 (.c 7 12 0 38 (.c 7 13 0 38 (.c 7 14 0 38 (.c 7 16 38 0 (.c 7 17 0 0 (.l 7 0) .s) .s) .s) .s) .s) .s) .s) .s)) (.c 7 15 0 102 (.c 7 9 0 102 (.c 7 10 0 102 (.c 7 11 64 38 (.c 7 12 0 38 (.c 7 13 0 38 (.c 7 14 0 38 (.c 7 16 38 0 (.c 7 17 0 0 (.l 7 0) .s) .s) .s) .s) .s) .s) .s) .s) .s)) (.c 7 15 0 118 (.c 7 8 16 102 (.c 7 9 0 102 (.c 7 10 0 102 (.c 7 11 64 38 (.c 7 12 0 38 (.c 7 13 0 38 (.c 7 14 0 38 (.c 7 16 38 0 (.c 7 17 0 0 (.l 7 0) .s) .s) .s) .s) .s) .s) .s) .s) .s) .s)) (.c 7 15 0 127 (.c 7 7 9 118 (.c 7 8 16 102 (.c 7 9 0 102 (.c 7 10 0 102 (.c 7 11 64 38 (.c 7 12 0 38 (.c 7 13 0 38 (.c 7 14 0 38 (.c 7 16 38 0 (.c 7 17 0 0 (.l 7 0) .s) .s) .s) .s) .s) .s) .s) .s) .s) .s) .s)) ?_
   simp
   try intros
   repeat' first
    |(refine aa.cur (al l hl a.queues.length) hu (by simp) rfl g0 g1 (by simp) ?_;rintro _ i2 h2 ⟨kk,hkk,rfl⟩ g0 g1;obtain ⟨k,rfl⟩:∃ k:Nat,kk=(k:Int):=⟨kk.toNat,by have:=hkk.1;omega⟩;have hk:k<a.queues.length:=(by have:=hkk.2.2 (by omega);omega);obtain ⟨qd,hqd⟩:∃ d,a.queues[k]=d:=⟨_,rfl⟩;simp [hk,hqd,Queue.row];try intros)
    |(have hx:(cf a qd.doc).2=true->stepTo a (cf a qd.doc).1:=λh=>.serve h;have cc:=mK a hn qd.doc;generalize cf a qd.doc=q at hx cc;obtain ⟨x,okx⟩:=q;simp only at hx cc;refine aa.ro cc (by simp [Wld.row]) ?_;simp [Wld.res];try intros)
    |(rw [Trc];refine ⟨?_,?_⟩<;>(first|simp [hk,hqd,Queue.row]|simp|skip)<;>try intros)
   all_goals
    cases okx with
    |false=>exact ⟨x,.inl ⟨_,⟨g0,g1⟩,_,_,⟨rfl,rfl⟩,⟨rfl,rfl,rfl,rfl,rfl,rfl,rfl,rfl,rfl⟩,rfl,rfl⟩⟩
    |true=>exact ⟨x,.inr ⟨hx rfl,_,⟨g0,g1⟩,_,_,⟨rfl,rfl⟩,⟨rfl,rfl,rfl,rfl,rfl,rfl,rfl,rfl,rfl⟩,rfl,rfl⟩⟩
  rintro ⟨⟨⟨x,okx⟩,hx⟩,⟨i2,g0,g1⟩,h2,b6⟩
  simp;simp only at hx g0 g1
  cases okx with
  | true =>
    simp;refine ⟨_,⟨x,.step r (hx rfl),rfl⟩,?_,aj rfl g0 g1⟩;simp [Wld.res]
  | false =>
    simp;by_cases t0:a.tasks=[]
    ·simp [t0]
     refine ⟨_,⟨a,.same r,rfl⟩,?_,aj rfl g0 g1⟩;simp [Wld.res,t0]
    have tpos:0<a.tasks.length:=List.length_pos_iff.2 t0;simp [t0];refine drw eok mix [0,1,2,3,4] [5,6,7,8,9,10,11,12] (.c 5 5 9 22 (.c 5 6 16 6 (.c 5 7 0 6 (.c 5 8 0 6 (.c 5 9 0 6 (.c 5 10 0 6 (.c 5 11 6 0 (.c 5 12 0 0 (.l 5 0) .s) .s) .s) .s) .s) .s) (.c 5 10 0 22 (.c 5 6 16 6 (.c 5 7 0 6 (.c 5 8 0 6 (.c 5 9 0 6 (.c 5 11 6 0 (.c 5 12 0 0 (.l 5 0) .s) .s) .s) .s) .s) .s) .s)) (.c 5 10 0 31 (.c 5 5 9 22 (.c 5 6 16 6 (.c 5 7 0 6 (.c 5 8 0 6 (.c 5 9 0 6 (.c 5 11 6 0 (.c 5 12 0 0 (.l 5 0) .s) .s) .s) .s) .s) .s) .s) .s)) ?_;simp
    try intros
    repeat' first
     |(refine aa.cur (al l hl a.tasks.length) hu (by simp) rfl g0 g1 (by simp) ?_;rintro _ i2 h2 ⟨kk,hkk,rfl⟩ g0 g1;simp;try intros)
     |(have hx:(cr a kk).2=true->stepTo a (cr a kk).1:=λh=>.pick h;have cc:=jT a hn kk;generalize cr a kk=q at hx cc;obtain ⟨x,okx⟩:=q;simp only at hx cc;refine aa.ro cc (by simp [Wld.row]) ?_;simp [Wld.res];try intros)
     |(rw [Trc];refine ⟨?_,?_⟩<;>(try simp)<;>try intros)
    all_goals
     cases okx with
     | true =>
       simp;refine ⟨_,⟨x,.step r (hx rfl),rfl⟩,?_,aj rfl g0 g1⟩;simp [Wld.res]
     | false =>
       simp;refine ⟨_,⟨a,.same r,rfl⟩,?_,aj rfl g0 g1⟩;simp [Wld.res]
 ·simp [z5]
  by_cases t0:a.tasks=[]
  ·simp [t0]
   refine ⟨_,⟨a,.same r,rfl⟩,?_,aj rfl g0 g1⟩;simp [Wld.res,t0]
  have tpos:0<a.tasks.length:=List.length_pos_iff.2 t0;simp [t0];refine drw eok mix [0,1,2,3,4] [5,6,7,8,9,10,11,12] (.c 5 5 9 22 (.c 5 6 16 6 (.c 5 7 0 6 (.c 5 8 0 6 (.c 5 9 0 6 (.c 5 10 0 6 (.c 5 11 6 0 (.c 5 12 0 0 (.l 5 0) .s) .s) .s) .s) .s) .s) (.c 5 10 0 22 (.c 5 6 16 6 (.c 5 7 0 6 (.c 5 8 0 6 (.c 5 9 0 6 (.c 5 11 6 0 (.c 5 12 0 0 (.l 5 0) .s) .s) .s) .s) .s) .s) .s)) (.c 5 10 0 31 (.c 5 5 9 22 (.c 5 6 16 6 (.c 5 7 0 6 (.c 5 8 0 6 (.c 5 9 0 6 (.c 5 11 6 0 (.c 5 12 0 0 (.l 5 0) .s) .s) .s) .s) .s) .s) .s) .s)) ?_;simp
  try intros
  repeat' first
   |(refine aa.cur (al l hl a.tasks.length) hu (by simp) rfl g0 g1 (by simp) ?_;rintro _ i2 h2 ⟨kk,hkk,rfl⟩ g0 g1;simp;try intros)
   |(have hx:(cr a kk).2=true->stepTo a (cr a kk).1:=λh=>.pick h;have cc:=jT a hn kk;generalize cr a kk=q at hx cc;obtain ⟨x,okx⟩:=q;simp only at hx cc;refine aa.ro cc (by simp [Wld.row]) ?_;simp [Wld.res];try intros)
   |(rw [Trc];refine ⟨?_,?_⟩<;>(try simp)<;>try intros)
  all_goals
   cases okx with
   | true =>
     simp;refine ⟨_,⟨x,.step r (hx rfl),rfl⟩,?_,aj rfl g0 g1⟩;simp [Wld.res]
   | false =>
     simp;refine ⟨_,⟨a,.same r,rfl⟩,?_,aj rfl g0 g1⟩;simp [Wld.res]
theorem Af (l:List UInt8) (hl:l.length<=2 ^ 40):dD Tryz.prog 38 [.c (.s (l.map ff))] (λrr=>∃ h w,ao h/\Reach h 40 w/\rr=.tup [.agg h.res,.agg w.res]):=by
 refine qJ ae Tryz.func38 (by kernel_rfl) rfl rfl rfl (Nat.le_of_ble_eq_true rfl) (λw0 base o u hu=>?_);simp;intro b2 b3;refine vo (Ao l hl) hu (by simp) (λb h=>?_);simp;refine bM (ER l hl 6 (by omega) (by omega)) hu (by simp) rfl (by omega) (by omega) (by simp) ?_
 rintro _ i1 h1 ⟨hb,hok,rfl⟩ g0 g1
 simp [Hub.res];intro b5;have hn:bX hb<=2 ^ 28:=Nat.le_trans (dm hok).1 (by decide);refine bL (λx:{x:Wld // Reach hb 0 x} × {q:Int // 0<=q/\q<=(l.length:Int)}×Int×Nat=>[(6,.p 96 x.2.2.2 0)]) (λx=>[(96,.vars x.2.2.2 39 [.v (.bool x.1.1.h.shut),.ro (x.1.1.h.docs.map Doc.row),.ro (x.1.1.h.subs.map Sub.row),.v (.int .i64 x.1.1.h.last),.ro (x.1.1.locks.map ak),.ro (x.1.1.queues.map Queue.row),.ro (x.1.1.tasks.map Task.row),.v (.int .i64 x.1.1.step)]),(208,.vars b 141 (cV u l.length x.2.1.1 x.2.2.1))]) [0,2,3,4,5] ?_ ?_
 ·refine drw eok mix [0,1] [2,3,4,5,6,7,8,9,10] (.c 2 2 1 2 (.c 2 3 0 2 (.c 2 4 2 0 (.c 2 5 0 0 (.c 2 6 0 0 (.c 2 7 0 0 (.c 2 8 0 0 (.c 2 9 0 0 (.c 2 10 0 0 (.l 2 0) .s) .s) .s) .s) .s) .s) (.c 2 8 0 2 (.c 2 4 2 0 (.c 2 5 0 0 (.c 2 6 0 0 (.c 2 7 0 0 (.c 2 9 0 0 (.c 2 10 0 0 (.l 2 0) .s) .s) .s) .s) .s) .s) .s)) (.c 2 8 0 2 (.c 2 3 0 2 (.c 2 4 2 0 (.c 2 5 0 0 (.c 2 6 0 0 (.c 2 7 0 0 (.c 2 9 0 0 (.c 2 10 0 0 (.l 2 0) .s) .s) .s) .s) .s) .s) .s) .s)) (.c 2 8 0 3 (.c 2 2 1 2 (.c 2 3 0 2 (.c 2 4 2 0 (.c 2 5 0 0 (.c 2 6 0 0 (.c 2 7 0 0 (.c 2 9 0 0 (.c 2 10 0 0 (.l 2 0) .s) .s) .s) .s) .s) .s) .s) .s) .s)) ?_
  simp
  try intros
  repeat' first
   |(refine aa.cur (al l hl 4) hu (by simp) rfl g0 g1 (by simp) ?_;rintro _ i2 h2 ⟨y,hy,rfl⟩ g0 g1;have wy:=Go.IntWalk.i64_in (1+y) (by have:=hy.1;have:=hy.2.2 (by omega);omega);simp;try intros)
   |(have hx:Reach hb 0 (fj hb (1+y)).1:=.new (by rw [iV ⟨hok,by have:=hy.1;have:=hy.2.2 (by omega);omega⟩]);have cc:=tu hb (by omega) (1+y);generalize fj hb (1+y)=q at hx cc;obtain ⟨x,okx⟩:=q;simp only at hx cc;refine aa.ro cc (by simp [Hub.row,wy]) ?_;simp [Wld.res];try intros)
   |(rw [Trc];refine ⟨?_,?_⟩<;>(try simp)<;>try intros)
  all_goals
   exact ⟨x,hx,⟨g0,g1⟩,rfl,rfl,rfl,rfl,rfl,rfl,rfl,rfl⟩
 rintro ⟨⟨x,hx⟩,⟨i2,g0,g1⟩,h2,b6⟩
 simp [Wld.res]
 try simp only at hx g0 g1
 refine aa.cur (al l hl 6) hu (by simp) rfl g0 g1 (by simp) ?_
 rintro _ i5 h5 ⟨zn,hzn,rfl⟩ g0 g1
 simp;have hzn':=hzn.2.2 (by omega)
 refine ag eok (λx:Wld×Nat×Int×Int=>x.2.1<=5/\Reach hb (5 - x.2.1) x.1/\0<=x.2.2.1/\x.2.2.1<=(l.length:Int))
  (λx=>⟨51,0,[(8,.v (.int .i64 x.2.1)),(6,.p 96 b6 0),(5,.p 80 b5 0),(4,.p 208 b 0),(3,.p 48 b3 0),(2,.p 32 b2 0)],
   (96,.vars b6 39 [.v (.bool x.1.h.shut),.ro (x.1.h.docs.map Doc.row),.ro (x.1.h.subs.map Sub.row),.v (.int .i64 x.1.h.last),.ro (x.1.locks.map ak),.ro (x.1.queues.map Queue.row),.ro (x.1.tasks.map Task.row),.v (.int .i64 x.1.step)])::(80,.vars b5 35 [.v (.bool hb.shut),.ro (hb.docs.map Doc.row),.ro (hb.subs.map Sub.row),.v (.int .i64 hb.last)])::(208,.vars b 141 (cV u l.length x.2.2.1 x.2.2.2))::(48,.vars b3 39 [.v (.bool false),.nil,.nil,.v (.int .i64 0),.nil,.nil,.nil,.v (.int .i64 0)])::(32,.vars b2 35 [.v (.bool false),.nil,.nil,.v (.int .i64 0)])::phs o⟩) (λx=>x.2.1)
  (x,zn.toNat,i5,h5) ⟨by simp only;omega,j5 hx (by simp only;omega),g0,g1⟩ (by simp;have:=hzn.1;omega) (λx hx=>Ent.refl ?_)
 obtain ⟨a,n,i6,h6⟩:=x;obtain ⟨x1,x2,g0,g1⟩:=hx;simp only at x1 x2 g0 g1 ⊢;simp;by_cases c:0<n
 ·have c':(0:Int)<n:=by omega
  simp [c];obtain ⟨wok,-,wt⟩:=jZ hok x2;have hwn:=rm wt (by omega);have wn:=Go.IntWalk.i64_in ((n:Int) - 1) (by omega);refine bL (λx:{x:Wld×Bool // x.2=true->stepTo a x.1} × {q:Int // 0<=q/\q<=(l.length:Int)}×Int×Nat=>[(9,.p 144 x.2.2.2 0),(10,.v (.bool x.1.1.2))]) (λx=>[(144,.vars x.2.2.2 39 [.v (.bool x.1.1.1.h.shut),.ro (x.1.1.1.h.docs.map Doc.row),.ro (x.1.1.1.h.subs.map Sub.row),.v (.int .i64 x.1.1.1.h.last),.ro (x.1.1.1.locks.map ak),.ro (x.1.1.1.queues.map Queue.row),.ro (x.1.1.1.tasks.map Task.row),.v (.int .i64 x.1.1.1.step)]),(208,.vars b 141 (cV u l.length x.2.1.1 x.2.2.1))]) [2,3,4,5,6,8] ?_ ?_
  ·refine drw eok mix [0,1,2] [3,4,5,6,7,8,9,10] (.c 3 3 3 4 (.c 3 4 4 0 (.c 3 5 0 0 (.c 3 6 0 0 (.c 3 7 0 0 (.c 3 8 0 0 (.c 3 9 0 0 (.c 3 10 0 0 (.l 3 0) .s) .s) .s) .s) .s) .s) (.c 3 8 0 4 (.c 3 4 4 0 (.c 3 5 0 0 (.c 3 6 0 0 (.c 3 7 0 0 (.c 3 9 0 0 (.c 3 10 0 0 (.l 3 0) .s) .s) .s) .s) .s) .s) .s)) (.c 3 8 0 7 (.c 3 3 3 4 (.c 3 4 4 0 (.c 3 5 0 0 (.c 3 6 0 0 (.c 3 7 0 0 (.c 3 9 0 0 (.c 3 10 0 0 (.l 3 0) .s) .s) .s) .s) .s) .s) .s) .s)) ?_
   simp
   try intros
   repeat' first
    |(refine bM (ra l hl hb hok) hu (by simp) rfl g0 g1 (by simp [Hub.row]) ?_;rintro _ i2 h2 ⟨c,hc,rfl⟩ g0 g1;simp [Call.res];try intros)
    |(have hx:(eG a c).2=true->stepTo a (eG a c).1:=λh=>.come h;have cc:=o7 a hwn c (by unfold xh at hc;omega);generalize eG a c=q at hx cc;obtain ⟨x,okx⟩:=q;simp only at hx cc;refine aa.ro cc (by simp [Wld.row,Call.row]) ?_;simp [Wld.res];try intros)
    |(rw [Trc];refine ⟨?_,?_⟩<;>(try simp)<;>try intros)
   all_goals
    cases okx with
    |false=>exact ⟨x,.inl ⟨_,⟨g0,g1⟩,_,_,⟨rfl,rfl⟩,⟨rfl,rfl,rfl,rfl,rfl,rfl,rfl,rfl,rfl⟩,rfl,rfl⟩⟩
    |true=>exact ⟨x,.inr ⟨hx rfl,_,⟨g0,g1⟩,_,_,⟨rfl,rfl⟩,⟨rfl,rfl,rfl,rfl,rfl,rfl,rfl,rfl,rfl⟩,rfl,rfl⟩⟩
  rintro ⟨⟨⟨x,okx⟩,hx⟩,⟨i2,g0,g1⟩,h2,b9⟩
  simp
  try simp only at hx g0 g1
  cases okx with
  | false =>
    simp;refine Ent.refl ⟨a,n - 1,_,⟨by omega,j5 x2 (by omega),g0,g1⟩,by omega,?_⟩;simp [wn];omega
  | true =>
    simp;refine Ent.refl ⟨x,n - 1,_,⟨by omega,j5 (Reach.step x2 (hx rfl)) (by omega),g0,g1⟩,by omega,?_⟩;simp [wn];omega
 have:n=0:=by omega
 subst this;simp;refine aa.cur (al l hl 30) hu (by simp) rfl g0 g1 (by simp) ?_
 rintro _ i7 h7 ⟨zm,hzm,rfl⟩ g0 g1
 simp;have hzm':=hzm.2.2 (by omega)
 refine ag eok (λx:Wld×Nat×Int×Int=>x.2.1<=29/\Reach hb (34 - x.2.1) x.1/\0<=x.2.2.1/\x.2.2.1<=(l.length:Int))
  (λx=>⟨51,0,[(11,.v (.int .i64 x.2.1)),(6,.p 96 b6 0),(5,.p 80 b5 0),(4,.p 208 b 0),(3,.p 48 b3 0),(2,.p 32 b2 0)],
   (96,.vars b6 39 [.v (.bool x.1.h.shut),.ro (x.1.h.docs.map Doc.row),.ro (x.1.h.subs.map Sub.row),.v (.int .i64 x.1.h.last),.ro (x.1.locks.map ak),.ro (x.1.queues.map Queue.row),.ro (x.1.tasks.map Task.row),.v (.int .i64 x.1.step)])::(80,.vars b5 35 [.v (.bool hb.shut),.ro (hb.docs.map Doc.row),.ro (hb.subs.map Sub.row),.v (.int .i64 hb.last)])::(208,.vars b 141 (cV u l.length x.2.2.1 x.2.2.2))::(48,.vars b3 39 [.v (.bool false),.nil,.nil,.v (.int .i64 0),.nil,.nil,.nil,.v (.int .i64 0)])::(32,.vars b2 35 [.v (.bool false),.nil,.nil,.v (.int .i64 0)])::phs o⟩) (λx=>x.2.1)
  (a,zm.toNat,i7,h7) ⟨by simp only;omega,j5 x2 (by simp only;omega),g0,g1⟩ (by simp;have:=hzm.1;omega) (λx hx=>Ent.refl ?_)
 obtain ⟨a,n,i6,h6⟩:=x;obtain ⟨x1,x2,g0,g1⟩:=hx;simp only at x1 x2 g0 g1 ⊢;simp;by_cases c:0<n
 ·have c':(0:Int)<n:=by omega
  simp [c];have wn:=Go.IntWalk.i64_in ((n:Int) - 1) (by omega);refine bM (KB l hl hb hok (34 - n) (by omega) a x2) hu (by simp) rfl g0 g1 (by simp [Wld.row]) ?_
  rintro _ i8 h8 ⟨x,hx,rfl⟩ g0 g1
  simp [Wld.res];refine Ent.refl ⟨x,n - 1,_,⟨by omega,j5 hx (by omega),g0,g1⟩,by omega,?_⟩;simp [wn];omega
 have:n=0:=by omega
 subst this;simp;refine drw eok mix [0,1] [2,3] (.c 2 2 2 1 (.c 2 3 1 0 (.l 2 0) .s) .s) ?_;simp
 try intros
 refine ⟨_,⟨hb,hok,a,j5 x2 (by omega),rfl⟩,?_⟩;simp
set_option maxHeartbeats 3200000
theorem ui (w:Wld) (hl:du w<=2 ^ 30):ai Tryz.prog 43 [.agg w.row] (.one (.c (vi (dg w)) 1)):=by
 refine pci ae Tryz.func43 (λw0 base=>?_);have hlq:=aB (a9 hl).2.2.2;simp [Wld.row];intro b1;refine aa.pure (eD w hl) (by simp [Wld.row]) ?_;unfold dg;by_cases c1:ap w
 rotate_left
 ·simp [c1]
 rw [if_pos c1];have hpc:=c1.1;simp [c1];refine ag eok (λi:Nat=>i<=w.tasks.length) (λi=>⟨50,0,[(13,.v (.int .i64 i)),(12,.v (.int .i64 w.tasks.length)),(11,.ro (w.tasks.map Task.row)),(3,.v (.int .i64 (ii (w.tasks.take i))))],[]⟩) (λi=>w.tasks.length - i) 0 (by simp) (by simp [ii]) (λi hi=>Ent.refl ?_);by_cases hlt:i<w.tasks.length
 ·have hs:=wL hlt
  have hb:=nT (w.tasks.take i);have hp:=(hpc _ (List.getElem_mem hlt)).2.2.1;obtain ⟨t,ht⟩:∃ t,w.tasks[i]=t:=⟨_,rfl⟩;rw [ht] at hs hp;rw [List.length_take] at hb;obtain ⟨q,hq⟩:∃ q,ii (w.tasks.take i)=q:=⟨_,rfl⟩;rw [hq] at hs hb;have w1:Go.IntKind.i64.wrap (q+1)=q+1:=Go.IntWalk.i64_in _ (by omega);have w2:Go.IntKind.i64.wrap (q+2)=q+2:=Go.IntWalk.i64_in _ (by omega);have w3:Go.IntKind.i64.wrap (q+3)=q+3:=Go.IntWalk.i64_in _ (by omega);have w4:Go.IntKind.i64.wrap (q+4)=q+4:=Go.IntWalk.i64_in _ (by omega);have v1:Go.IntKind.i64.wrap 1=1:=Go.IntWalk.i64_in _ (by omega);have v2:Go.IntKind.i64.wrap 2=2:=Go.IntWalk.i64_in _ (by omega);have v3:Go.IntKind.i64.wrap 3=3:=Go.IntWalk.i64_in _ (by omega);have ei:Go.IntKind.i64.wrap ((i:Int)+1)=((i+1:Nat):Int):=ah (by omega)
  have hpc5:t.pc=0\/t.pc=1\/t.pc=2\/t.pc=3\/t.pc=4:=by omega
  simp [hlt,ht,hq,Task.row];intro b5;unfold eN at hs;by_cases k2:t.c.kind=2
  ·simp [k2]
   rcases hpc5 with p|p|p|p|p
   all_goals
    simp [p,k2] at hs;simp [p,w1,w2,w3,w4,v3];exact Ent.refl ⟨i+1,by omega,by omega,by simp [hs,ei]⟩
  simp [k2];refine aa.pure (aP t.c.kind) (by simp) ?_;by_cases k3:aJ t.c.kind
  ·simp [k3]
   rcases hpc5 with p|p|p|p|p
   all_goals
    simp [p,k2,k3] at hs;simp [p,w1,w2,w3,v2];exact Ent.refl ⟨i+1,by omega,by omega,by simp [hs,ei]⟩
  simp [ab k3];rcases hpc5 with p|p|p|p|p
  all_goals
   simp [p,k2,k3] at hs;simp [p,w1,w2,v1];exact Ent.refl ⟨i+1,by omega,by omega,by simp [hs,ei]⟩
 ·have e:i=w.tasks.length:=by omega
  subst e;simp
set_option maxHeartbeats 25600000
theorem Cb (l:List UInt8) (hl:l.length<=9223372036854775807):ai Tryz.prog 9 [.c (.s (l.map ff))] (.one (.c (.v (.bool true)) 1)):=by
 refine xu rfl (dD.intro ae Tryz.func9 (by kernel_rfl) rfl rfl rfl (Nat.le_of_ble_eq_true rfl) (λw0 base o=>?_));simp;by_cases hbig:1048576<(l.length:Int)
 ·simp [hbig]
 have hl2:l.length<=2 ^ 40:=by omega
 simp [hbig];refine dA (Af l hl2) (by simp) ?_
 rintro _ ⟨h,w,hok,hr,rfl⟩
 simp [Hub.res,Wld.res];intro b3 b4;obtain ⟨wok,⟨hs0,hs⟩,wt⟩:=jZ hok hr;have wn:=rm wt (by omega);have hn:bX h<=2 ^ 28:=Nat.le_trans (dm hok).1 (by decide);have hlw:=Id hok wok (zK hr);refine aa.ro (eD w (by omega)) (by simp [Wld.row]) ?_;simp [wok];refine aa.ro (qa h (by omega) w (by omega)) (by simp [Hub.row,Wld.row]) ?_;simp [hlw]
 refine bL (λx:{x:Wld×Nat // Reach h (40+x.2) x.1/\(∀ t∈x.1.tasks,t.pc=4)/\(x.2:Int)<=dg w/\x.2<=40}×Nat=>[(5,.p 80 x.2 0),(6,.v (.int .i64 x.1.1.2))]) (λx=>[(80,.vars x.2 39 [.v (.bool x.1.1.1.h.shut),.ro (x.1.1.1.h.docs.map Doc.row),.ro (x.1.1.1.h.subs.map Sub.row),.v (.int .i64 x.1.1.1.h.last),.ro (x.1.1.1.locks.map ak),.ro (x.1.1.1.queues.map Queue.row),.ro (x.1.1.1.tasks.map Task.row),.v (.int .i64 x.1.1.1.step)])]) [3,4] ?_ ?_
 ·refine drw eok mix [0,1] [2,3,4,5,6,7,8,9] (.c 2 2 1 2 (.c 2 3 2 0 (.c 2 4 0 0 (.c 2 5 0 0 (.c 2 6 0 0 (.c 2 7 0 0 (.c 2 8 0 0 (.c 2 9 0 0 (.l 2 0) .s) .s) .s) .s) .s) .s) (.c 2 7 0 2 (.c 2 3 2 0 (.c 2 4 0 0 (.c 2 5 0 0 (.c 2 6 0 0 (.c 2 8 0 0 (.c 2 9 0 0 (.l 2 0) .s) .s) .s) .s) .s) .s) .s)) (.c 2 7 0 3 (.c 2 2 1 2 (.c 2 3 2 0 (.c 2 4 0 0 (.c 2 5 0 0 (.c 2 6 0 0 (.c 2 8 0 0 (.c 2 9 0 0 (.l 2 0) .s) .s) .s) .s) .s) .s) .s) .s)) ?_
  simp
  try intros
  repeat' first
   |(refine dA (Ag l hl2) (by simp) ?_;rintro _ ⟨ps,⟨hps,hps2⟩,rfl⟩;simp;try intros)
   |(obtain ⟨e,m,he,hre,hme,hm1,hm2,hlen,ewok,hpc,hst⟩:=CB hok (by omega) hr ps;have hc:=yn w 40 (by omega) wt hs0 (by omega) ps (by omega) (λp hp=>by have:=hps2 p hp;unfold Rz;omega);rw [he] at hc;refine dA hc (by simp [Wld.row]) ?_;rintro _ rfl;simp [Wld.res];try intros)
   |(rw [Trc];refine ⟨?_,?_⟩<;>(try simp)<;>try intros)
  all_goals
   exact ⟨e,m,⟨hre,hpc,hm1,hm2⟩,_,⟨rfl,rfl⟩,rfl,rfl,rfl,rfl,rfl,rfl,rfl,rfl,rfl⟩
 rintro ⟨⟨⟨e,m⟩,hre,hpc,hm1,hm2⟩,b5⟩
 simp;simp only at hre hpc hm1 hm2;obtain ⟨ewok,-,et⟩:=jZ hok hre;have en:=rm et (by omega);obtain ⟨hle,hcnt,hpw,hall⟩:=JQ hok hre hpc;refine aa.ro (oL e (by omega) ewok.2.2.2.1) (by simp [Wld.row]) ?_;have hrest:zI e:=Ei.2 hpc;obtain ⟨O,hO⟩:∃ O,bq e.tasks e.tasks.length=O:=⟨_,rfl⟩
 have f2:∀ i,∀ hi:i<O.length,O[i]<e.tasks.length:=λi hi=>by
  have h1:=List.getElem_mem hi;generalize O[i]=y at h1;rw [<- hO] at h1;exact eT h1
 obtain ⟨T,hT⟩:∃ T,jH e.tasks=T:=⟨_,rfl⟩;have hTO:T=O.map (tAt e.tasks):=by rw [<- hT,<- hO];rfl
 have f1:T.length=O.length:=by rw [hTO,List.length_map]
 have f3:∀ i,∀ hi:i<O.length,∀ hk:O[i]<e.tasks.length,T[i]'(by omega)=e.tasks[O[i]]:=λi hi hk=>by
  subst hTO;rw [List.getElem_map,o6 hk]
 have f4:(fe e).map ak=O.map nR:=by rw [<- hO];unfold fe;rw [List.map_map];rfl
 have f5:(fe e).length=O.length:=by rw [<- hO];unfold fe;rw [List.length_map]
 have hOl:O.length<=10:=by
  have:=mV e.tasks e.tasks.length;have:=ewok.2.2.2.1;rw [hO] at *;omega
 rw [hT] at hpw hall;rw [f5] at hcnt;obtain ⟨L,hL⟩:∃ L,T.map Task.c=L:=⟨_,rfl⟩;rw [hL] at hall;have hLl:L.length=O.length:=by rw [<- hL,List.length_map,f1]
 have hLn:∀ c∈L,dv c<=2 ^ 28:=λc hc=>by
  rw [<- hL] at hc;obtain ⟨t,ht,rfl⟩:=List.mem_map.1 hc;obtain ⟨k,hk,rfl⟩:=List.getElem_of_mem ht;rw [f3 k (by omega) (f2 k (by omega))];have:=ir (ewok.1 _ (List.getElem_mem (f2 k (by omega)))).1;omega
 rw [f4];simp;intro b41
 refine ag eok (λx:Nat×List Call×Hd×Bool=>x.1<=O.length/\x.2.1=L.take x.1)
  (λx=>⟨153,0,[(44,.v (.int .i64 x.1)),(43,.v (.int .i64 O.length)),(42,.ro (O.map nR)),(8,.sl 656 x.2.2.1 7 0 x.2.1.length),(7,.ro (O.map nR)),(6,.v (.int .i64 m)),(5,.p 80 b5 0),(4,.p 64 b4 0),(3,.p 48 b3 0)],
   (80,.vars b5 39 [.v (.bool e.h.shut),.ro (e.h.docs.map Doc.row),.ro (e.h.subs.map Sub.row),.v (.int .i64 e.h.last),.ro (e.locks.map ak),.ro (e.queues.map Queue.row),.ro (e.tasks.map Task.row),.v (.int .i64 e.step)])::(64,.vars b4 39 [.v (.bool w.h.shut),.ro (w.h.docs.map Doc.row),.ro (w.h.subs.map Sub.row),.v (.int .i64 w.h.last),.ro (w.locks.map ak),.ro (w.queues.map Queue.row),.ro (w.tasks.map Task.row),.v (.int .i64 w.step)])::(48,.vars b3 35 [.v (.bool h.shut),.ro (h.docs.map Doc.row),.ro (h.subs.map Sub.row),.v (.int .i64 h.last)])::(656,.rows x.2.2.1 7 (x.2.1.map Call.row) x.2.2.2)::phs o⟩) (λx=>O.length - x.1)
  (0,[],some (b41,0,0),true) ⟨by simp,by simp⟩ (by simp) (λx hx=>Ent.refl ?_)
 obtain ⟨i,Q,Hh,ow⟩:=x;obtain ⟨x1,hQ⟩:=hx;simp only at x1 hQ ⊢;by_cases hlt:i<O.length
 ·obtain ⟨k,hke⟩:∃ k,O[i]=k:=⟨_,rfl⟩
  have hk:k<e.tasks.length:=by rw [<- hke];exact f2 i hlt
  obtain ⟨t,hte⟩:∃ t,e.tasks[k]=t:=⟨_,rfl⟩;have ht:T[i]'(by omega)=t:=by rw [f3 i hlt (f2 i hlt),<- hte];simp only [hke]
  have hLi:Q++[t.c]=L.take (i+1):=by
   rw [hQ,<- List.take_append_getElem (l:=L) (i:=i) (by omega)]
   congr 2
   subst hL;rw [List.getElem_map,ht]
  have hQl:Q.length=i:=by rw [hQ,List.length_take];omega
  have hk2:¬ e.tasks.length<=k:=by omega
  rcases i with _|i
  ·simp [hlt,hke,nR]
   refine am.quiet eok mix (by kernel_rfl) ?_;simp [hk,hk2,hte,Task.row];intro bA;refine ⟨by omega,λH2=>Ent.refl ⟨0+1,Q++[t.c],⟨by omega,hLi⟩,by omega,H2,Or.inl ?_⟩⟩;simp [Call.row];exact Go.IntWalk.i64_in _ (by omega)
  ·have hlt2:(i:Int)+1<(O.length:Int):=by omega
   have hi1:i<O.length:=by omega
   have hlp:=List.pairwise_iff_getElem.1 hpw i (i+1) (by omega) (by omega) (by omega);obtain ⟨k3,hke3⟩:∃ k3,O[i]=k3:=⟨_,rfl⟩;have hj:k3<e.tasks.length:=by rw [<- hke3];exact f2 i hi1
   obtain ⟨u,hue⟩:∃ u,e.tasks[k3]=u:=⟨_,rfl⟩;have hu:T[i]'(by omega)=u:=by rw [f3 i hi1 (f2 i hi1),<- hue];simp only [hke3]
   rw [hu,ht] at hlp;have hnl:¬ t.lin<=u.lin:=by omega
   have k5:(0:Int)<(i:Int)+1:=by omega
   have k0:(0:Int)<=(i:Int)+1:=by omega
   have wj2:Go.IntKind.i64.wrap (i:Int)=i:=Go.IntWalk.i64_in _ (by omega);simp [hlt,hlt2,k0,hke,nR];refine am.quiet eok mix (by kernel_rfl) ?_;simp [hk,hk2,k5,wj2,hi1,hke3,hj,hue,hte,nR,Task.row,hnl];intro bA;refine ⟨by omega,λH2=>Ent.refl ⟨(i+1)+1,Q++[t.c],⟨by omega,hLi⟩,by omega,H2,Or.inl ?_⟩⟩;simp [Call.row];exact Go.IntWalk.i64_in _ (by omega)
 have hie:i=O.length:=by omega
 subst hie;have hQL:Q=L:=by rw [hQ,List.take_of_length_le (by omega)]
 subst hQL;simp;refine qN (H:=Hh) (sz:=7) (rs:=Q.map Call.row) (own:=ow) 656 (sa h hok Q (by omega) hLn) (by simp) (by simp [Hub.row]) ?_
 rintro _ rfl
 rw [hall];simp [Hub.res];intro b11;have hen:bX e.h<=2 ^ 40:=by have:=(dm ewok.2.1).1;omega
 refine ag eok (λi:Nat=>i<=O.length)
  (λi=>⟨153,0,[(99,.v (.int .i64 i)),(98,.v (.int .i64 O.length)),(97,.ro (O.map nR)),(12,.ro ((T.map Task.a).map Answer.row)),(11,.p 176 b11 0),(7,.ro (O.map nR)),(6,.v (.int .i64 m)),(5,.p 80 b5 0),(4,.p 64 b4 0),(3,.p 48 b3 0)],
   (176,.vars b11 35 [.v (.bool e.h.shut),.ro (e.h.docs.map Doc.row),.ro (e.h.subs.map Sub.row),.v (.int .i64 e.h.last)])::(80,.vars b5 39 [.v (.bool e.h.shut),.ro (e.h.docs.map Doc.row),.ro (e.h.subs.map Sub.row),.v (.int .i64 e.h.last),.ro (e.locks.map ak),.ro (e.queues.map Queue.row),.ro (e.tasks.map Task.row),.v (.int .i64 e.step)])::(64,.vars b4 39 [.v (.bool w.h.shut),.ro (w.h.docs.map Doc.row),.ro (w.h.subs.map Sub.row),.v (.int .i64 w.h.last),.ro (w.locks.map ak),.ro (w.queues.map Queue.row),.ro (w.tasks.map Task.row),.v (.int .i64 w.step)])::(48,.vars b3 35 [.v (.bool h.shut),.ro (h.docs.map Doc.row),.ro (h.subs.map Sub.row),.v (.int .i64 h.last)])::phs o⟩) (λi=>O.length - i)
  0 (by simp) (by simp) (λi hi=>Ent.refl ?_)
 by_cases hlt:i<O.length
 ·obtain ⟨k,hke⟩:∃ k,O[i]=k:=⟨_,rfl⟩
  have hk:k<e.tasks.length:=by rw [<- hke];exact f2 i hlt
  obtain ⟨t,hte⟩:∃ t,e.tasks[k]=t:=⟨_,rfl⟩;have ht:T[i]'(by omega)=t:=by rw [f3 i hlt (f2 i hlt),<- hte];simp only [hke]
  have hai:i<T.length:=by omega
  have hai2:¬ T.length<=i:=by omega
  have htn:cM t.a<=2 ^ 40:=by
   have h1:=cU (a9 en).2.2.2 (List.getElem_mem hk);rw [hte] at h1;unfold eF at h1;omega
  simp [hlt,hke,nR];refine am.quiet eok mix (by kernel_rfl) ?_;simp [hk,hte,hai,hai2,ht,Task.row,Answer.row];refine ⟨_,_,df t.a t.a htn,by simp [Answer.row],?_⟩;simp;exact Ent.refl ⟨i+1,by omega,by omega,by simp;exact ah (by omega)⟩
 have hb:=yR e.tasks;have wsum:=Go.IntWalk.i64_in (e.tasks.length:Int) (by have:=ewok.2.2.2.1;omega);simp [hlt];refine am.quiet eok mix (by kernel_rfl) ?_;simp;refine ⟨_,_,ui w (by omega),by simp [Wld.row],?_⟩;simp [hm1];refine ⟨_,_,Cn e (by omega),by simp [Wld.row],?_⟩;simp [hrest];refine ⟨_,_,qa h (by omega) e (by omega),by simp [Hub.row,Wld.row],?_⟩;simp [hle];refine ⟨_,_,oM e.h e.h hen,by simp [Hub.row],?_⟩;simp;refine ⟨_,_,Cr e (by omega),by simp [Wld.row],?_⟩;simp [wsum,hcnt]
end Go.Proofs.YtoldjebobgocpaaGreat
