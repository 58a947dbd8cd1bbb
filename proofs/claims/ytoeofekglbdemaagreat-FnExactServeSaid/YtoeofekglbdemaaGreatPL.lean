import Derived.Test.YtoeofekglbdemaaGreatPK
import Derived.Test.YtoeofekglbdemaaGreatPH
namespace Go.Proofs.YtoeofekglbdemaaGreat
open Go.AM
set_option maxRecDepth 20000
set_option maxHeartbeats 6400000
theorem nWorld_parts {w : Wld} {B : Nat} (h : nWorld w≤B) : nHub w.h≤B∧w.locks.length≤B∧nL nQueue w.queues≤B∧nL nTask w.tasks≤B:=by unfold nWorld at h;omega
theorem nTask_doc {t : Task} {B : Nat} (h : nTask t≤B) : t.c.doc.size≤B:=by unfold nTask nCall at h;omega
theorem specSteps_c (w : Wld) (hl : nWorld w≤2 ^ 30) : PureC Tryz.prog 128 [.agg w.row] (.one (.c (vb (stepsOk w)) 1)):=by
 refine PureC.intro' tt_ok Tryz.func128 (by kernel_rfl) rfl rfl rfl (Nat.le_of_ble_eq_true rfl) (fun w0 base=>?_);obtain ⟨-,-,-,n4⟩:=nWorld_parts hl;obtain ⟨hh,lk,qs,tasks,step⟩:=w;have hl:=nL_len n4;simp only at hl;simp [Wld.row];intro b1 b8
 refine LoopT.introG eok (fun x : Nat × List Int × Hd=>x.1≤tasks.length∧stepsRun step [] ((tasks.take x.1).flatMap toldOf) = some x.2.1) (fun x=>⟨45,0,[(12,.v (.int .i64 x.1)),(11,.v (.int .i64 tasks.length)),(10,.ro (tasks.map Task.row)),(1,.p 16 b1 0),(3,.sl 128 x.2.2 1 0 x.2.1.length)],
  [(16,.vars b1 39 [.v (.bool hh.shut),.ro (hh.docs.map Doc.row),.ro (hh.subs.map Sub.row),.v (.int .i64 hh.last),.ro (lk.map intR),.ro (qs.map Queue.row),.ro (tasks.map Task.row),.v (.int .i64 step)]),
   (128,.rows x.2.2 1 (x.2.1.map intR) true)]⟩) (fun x=>tasks.length - x.1) (0,[],some (b8,0,0)) (by simp [stepsRun]) (by simp) (fun x hi=>Ent.refl ?_)
 obtain ⟨i,met,H⟩:=x;obtain ⟨hi,hr⟩:=hi;simp only at hi hr ⊢
 have hml : met.length≤3 * tasks.length:=by
  have:=stepsRun_len _ _ _ hr;have h2:=told_len (tasks.take i);simp at this h2;omega
 by_cases hlt : i < tasks.length
 rotate_left
 ·have : i = tasks.length:=by omega
  subst this;rw [List.take_length] at hr;have h:=steps_end hr hh lk qs;simp [h]
 have hsuc : stepsRun step [] ((tasks.take (i + 1)).flatMap toldOf) = stepsRun step met (toldOf tasks[i]):=by
  rw [told_suc hlt,stepsRun_append,hr];rfl
 have hno:=fun hn=>stepsOk_no (w:=⟨hh,lk,qs,tasks,step⟩) hlt hr hn
 simp only at hno;obtain ⟨t,ht⟩ : ∃ t,tasks[i] = t:=⟨_,rfl⟩;rw [ht] at hsuc hno;obtain ⟨told,htold⟩ : ∃ l,toldOf t = l:=⟨_,rfl⟩;have hrow : [[CD.v (.int .i64 t.inv)],[CD.v (.int .i64 t.lin)],[CD.v (.int .i64 t.rs)]] = told.map intR:=by rw [← htold];rfl
 have htl : told.length = 3:=by rw [← htold];rfl
 rw [htold] at hsuc hno;simp [hlt,ht,Task.row];intro b5 b22;rw [hrow]
 refine LoopT.introG eok (fun x : Nat × List Int × Hd=>x.1≤3∧stepsRun step met (told.take x.1) = some x.2.1) (fun x=>⟨45,0,[(24,.v (.int .i64 x.1)),(23,.v (.int .i64 3)),(22,.sl 352 (some (b22,0,3)) 1 0 3),(12,.v (.int .i64 i)),(11,.v (.int .i64 tasks.length)),(10,.ro (tasks.map Task.row)),(1,.p 16 b1 0),(3,.sl 128 x.2.2 1 0 x.2.1.length)],
  [(16,.vars b1 39 [.v (.bool hh.shut),.ro (hh.docs.map Doc.row),.ro (hh.subs.map Sub.row),.v (.int .i64 hh.last),.ro (lk.map intR),.ro (qs.map Queue.row),.ro (tasks.map Task.row),.v (.int .i64 step)]),
   (352,.rows (some (b22,0,3)) 1 (told.map intR) true),(128,.rows x.2.2 1 (x.2.1.map intR) true)]⟩) (fun x=>3 - x.1) (0,met,H) (by simp [stepsRun]) (by simp) (fun x hi=>Ent.refl ?_)
 obtain ⟨j,m,G⟩:=x;obtain ⟨hj,hm⟩:=hi;simp only at hj hm ⊢
 have hmm : m.length≤met.length + 3:=by
  have:=stepsRun_len _ _ _ hm;simp at this;omega
 by_cases hjt : j < 3
 rotate_left
 ·have : j = 3:=by omega
  subst this;rw [List.take_of_length_le (by omega)] at hm;simp;refine Ent.refl ⟨i + 1,m,⟨by omega,by rw [hsuc,hm]⟩,by omega,G,?_⟩;simp;exact i64_suc (by omega)
 have hj' : (j : Int) < 3:=by omega
 have hjl : j < told.length:=by omega
 obtain ⟨o1,o2,o3⟩:=stepsRun_one hjl hm;simp [hj',hjl];generalize told[j] = n at o1 o2 o3 ⊢;by_cases c1 : n = -1
 ·simp [c1]
  refine Ent.refl ⟨j + 1,m,⟨by omega,o1 c1⟩,by omega,G,?_⟩;simp;exact i64_suc (by omega)
 simp [c1];by_cases c2 : step≤n
 ·have h:=hno (o3 c1 (.inl c2))
  simp [c2,dc_neg h]
 simp [c2];refine ACall.pure (specHas_c m (by omega) n) (by simp) ?_;by_cases c3 : n∈m
 ·have h:=hno (o3 c1 (.inr c3))
  simp [c3,dc_neg h]
 simp [dc_neg c3];intro b40;refine ⟨by omega,fun G'=>Ent.refl ⟨j + 1,m ++ [n],⟨by omega,o2 c1 (fun h=>h.elim (fun h=>c2 h) c3)⟩,by omega,G',?_⟩⟩;simp;exact i64_suc (by omega)
theorem specLocks_c (w : Wld) (hl : nWorld w≤2 ^ 30) (hn : 1≤w.locks.length) : PureC Tryz.prog 129 [.agg w.row] (.one (.c (vb (locksOk w)) 1)):=by
 refine PureC.intro' tt_ok Tryz.func129 (by kernel_rfl) rfl rfl rfl (Nat.le_of_ble_eq_true rfl) (fun w0 base=>?_);obtain ⟨-,n2,-,n4⟩:=nWorld_parts hl;obtain ⟨hh,lk,qs,tasks,step⟩:=w;have hle:=nL_len n4;simp only at hle n2 hn n4;simp [Wld.row];intro b1
 refine LoopT.introG eok (fun i : Nat=>i≤lk.length∧∀ s,s < i→lockAt tasks lk s) (fun i=>⟨76,0,[(10,.v (.int .i64 i)),(9,.v (.int .i64 lk.length)),(8,.ro (lk.map intR)),(1,.p 16 b1 0)],
  [(16,.vars b1 39 [.v (.bool hh.shut),.ro (hh.docs.map Doc.row),.ro (hh.subs.map Sub.row),.v (.int .i64 hh.last),.ro (lk.map intR),.ro (qs.map Queue.row),.ro (tasks.map Task.row),.v (.int .i64 step)])]⟩) (fun i=>lk.length - i) 0 (by simp) (by simp) (fun i hi=>Ent.refl ?_)
 by_cases hlt : i < lk.length
 ·obtain ⟨x,hx⟩ : ∃ x,lk[i] = x:=⟨_,rfl⟩
  have hno : (¬ (lk[i] = -1∨∃ k : Nat,∃ hk : k < tasks.length,lk[i] = k∧tasks[k].pc = 1∧stripe tasks[k].c.doc lk.length = i))→dc (locksOk ⟨hh,lk,qs,tasks,step⟩) = false:=fun h=>dc_neg (fun h'=>h (h'.1 i hlt))
  rw [hx] at hno;have ew : Go.IntKind.i64.wrap ((tasks.length : Int) - 1) = (tasks.length : Int) - 1:=Go.IntWalk.i64_in _ (by omega);simp [hlt,hx];by_cases c0 : x = -1
  ·simp [c0]
   exact Ent.refl ⟨i + 1,⟨by omega,upto_suc hi.2 (fun _=>.inl (by rw [hx,c0]))⟩,by omega,by simp;exact i64_suc (by omega)⟩
  simp [c0];refine DrawT.quiet eok mix (by kernel_rfl) ?_;simp [ew];refine ⟨_,_,l01In_c x 0 ((tasks.length : Int) - 1),by simp,?_⟩;by_cases c1 : 0≤x∧x≤(tasks.length : Int) - 1
  rotate_left
  ·have h:=hno (fun h=>h.elim c0 (fun ⟨k,hk,e,_⟩=>c1 (by omega)))
   simp [dc_neg c1,h]
  obtain ⟨k,rfl⟩ : ∃ k : Nat,x = k:=⟨x.toNat,by omega⟩;have hk : k < tasks.length:=by omega
  obtain ⟨t,ht⟩ : ∃ t,tasks[k] = t:=⟨_,rfl⟩;have hm:=nTask_doc (nL_at n4 hk);rw [ht] at hm;simp [c1,hk,ht,Task.row];by_cases c2 : t.pc = 1
  rotate_left
  ·have h:=hno (fun h=>h.elim c0 (fun ⟨k',hk',e,h2,_⟩=>c2 (by obtain rfl : k = k':=(by omega);rwa [ht] at h2)))
   simp [c2,h]
  simp [c2,hk,ht,Task.row];refine ⟨_,_,specStripe_c t.c.doc (by omega) lk.length hn (by omega),by simp,?_⟩;by_cases c3 : stripe t.c.doc lk.length = i
  rotate_left
  ·have h:=hno (fun h=>h.elim c0 (fun ⟨k',hk',e,h2,h3⟩=>c3 (by obtain rfl : k = k':=(by omega);rwa [ht] at h3)))
   have c3' : ¬ (stripe t.c.doc lk.length : Int) = i:=by omega
   simp [c3',h]
  have c3' : (stripe t.c.doc lk.length : Int) = i:=by omega
  simp [c3'];exact Ent.refl ⟨i + 1,⟨by omega,upto_suc hi.2 (fun _=>.inr ⟨k,hk,hx,by rw [ht];exact c2,by rw [ht];exact c3⟩)⟩,by omega,by simp;exact i64_suc (by omega)⟩
 have hall : ∀ s,lockAt tasks lk s:=fun s=>by
  by_cases h : s < lk.length
  ·exact hi.2 s (by omega)
  ·exact fun h'=>absurd h' h
 simp [hlt]
 refine LoopT.introG eok (fun i : Nat=>i≤tasks.length∧∀ s,s < i→lockedAt tasks lk s) (fun i=>⟨76,0,[(52,.v (.int .i64 i)),(51,.v (.int .i64 tasks.length)),(50,.ro (tasks.map Task.row)),(1,.p 16 b1 0)],
  [(16,.vars b1 39 [.v (.bool hh.shut),.ro (hh.docs.map Doc.row),.ro (hh.subs.map Sub.row),.v (.int .i64 hh.last),.ro (lk.map intR),.ro (qs.map Queue.row),.ro (tasks.map Task.row),.v (.int .i64 step)])]⟩) (fun i=>tasks.length - i) 0 (by simp) (by simp) (fun i hi=>Ent.refl ?_)
 by_cases hlt : i < tasks.length
 ·obtain ⟨t,ht⟩ : ∃ t,tasks[i] = t:=⟨_,rfl⟩
  have hm:=nTask_doc (nL_at n4 hlt);rw [ht] at hm;simp [hlt,ht,Task.row];intro b6;refine DrawT.quiet eok mix (by kernel_rfl) ?_;simp;by_cases c1 : t.pc = 1
  rotate_left
  ·simp [c1]
   exact Ent.refl ⟨i + 1,⟨by omega,upto_suc hi.2 (fun _ h=>absurd h (by rw [ht];exact c1))⟩,by omega,by simp;exact i64_suc (by omega)⟩
  simp [c1];refine ⟨_,_,specStripe_c t.c.doc (by omega) lk.length hn (by omega),by simp,?_⟩;have hs : stripe t.c.doc lk.length < lk.length:=(stripe_eq t.c.doc hn).2;simp [hs];by_cases c2 : lk[stripe t.c.doc lk.length] = (i : Int)
  rotate_left
  ·have h : ¬ locksOk ⟨hh,lk,qs,tasks,step⟩:=fun h=>c2 (by
    have:=h.2 i hlt (by simp only [ht];exact c1);simp only [ht] at this;rw [List.getElem?_eq_getElem hs] at this;exact Option.some.inj this)
   simp [c2,dc_neg h]
  simp [c2];exact Ent.refl ⟨i + 1,⟨by omega,upto_suc hi.2 (fun _ h=>by rw [ht,List.getElem?_eq_getElem hs,c2])⟩,by omega,by simp;exact i64_suc (by omega)⟩
 have h : locksOk ⟨hh,lk,qs,tasks,step⟩:=⟨hall,fun s=>by
  by_cases h : s < tasks.length
  ·exact hi.2 s (by omega)
  ·exact fun h'=>absurd h' h⟩
 simp [hlt,h]
theorem implQueues_c (w : Wld) (hl : nWorld w≤2 ^ 30) : PureC Tryz.prog 121 [.agg w.row] (.one (.c (vb (queuesOk w)) 1)):=by
 refine PureC.intro' tt_ok Tryz.func121 (by kernel_rfl) rfl rfl rfl (Nat.le_of_ble_eq_true rfl) (fun w0 base=>?_);obtain ⟨nh,n2,n3,n4⟩:=nWorld_parts hl;obtain ⟨hh,lk,qs,tasks,step⟩:=w;have hle:=nL_len n4;have hlq:=nL_len n3;simp only at hle hlq n2 n3 n4 nh;have ew : Go.IntKind.i64.wrap ((tasks.length : Int) - 1) = (tasks.length : Int) - 1:=Go.IntWalk.i64_in _ (by omega);simp [Wld.row];intro b1
 refine LoopT.introG eok (fun x : Nat × List Int × Hd=>x.1≤qs.length∧queuesRun ⟨hh,lk,qs,tasks,step⟩ x.1 = some x.2.1∧x.2.1.length≤2 * x.1) (fun x=>⟨111,0,[(13,.v (.int .i64 x.1)),(12,.v (.int .i64 qs.length)),(11,.ro (qs.map Queue.row)),(1,.p 16 b1 0),(3,.sl 5000 x.2.2 1 0 x.2.1.length)],
  [(16,.vars b1 39 [.v (.bool hh.shut),.ro (hh.docs.map Doc.row),.ro (hh.subs.map Sub.row),.v (.int .i64 hh.last),.ro (lk.map intR),.ro (qs.map Queue.row),.ro (tasks.map Task.row),.v (.int .i64 step)]),
   (5000,.rows x.2.2 1 (x.2.1.map intR) true)]⟩) (fun x=>qs.length - x.1) (0,[],none) (by simp [queuesRun]) (by simp) (fun x hi=>Ent.refl ?_)
 obtain ⟨i,all,H⟩:=x;obtain ⟨hi,hr,hal⟩:=hi;simp only at hi hr hal ⊢;by_cases hlt : i < qs.length
 ·obtain ⟨q,hq⟩ : ∃ q,qs[i] = q:=⟨_,rfl⟩
  have hbad : ¬ queueAt hh qs i→¬ queuesOk ⟨hh,lk,qs,tasks,step⟩:=fun h=>queuesOk_no (w:=⟨hh,lk,qs,tasks,step⟩) hlt (queuesRun_bad (w:=⟨hh,lk,qs,tasks,step⟩) hlt h)
  simp [hlt,hq,Queue.row];intro b5;refine DrawT.quiet eok mix (by kernel_rfl) ?_;simp;have hprev : 0 = i∨0 < i:=by omega
  obtain ⟨prev,hcase⟩ : ∃ prev : Prop,prev = ∀ h : 0 < i,sLt qs[i - 1].doc q.doc:=⟨_,rfl⟩;have hat : ∀ (_ : 1≤q.list.length∧q.list.length≤2) (_ : 0≤docIdx hh.docs q.doc) (_ : ∀ h : 0 < i,sLt qs[i - 1].doc q.doc),queueAt hh qs i:=fun s2 s3 s1=>fun _=>by rw [hq];exact ⟨s1,s2,s3⟩
  cases i with
  | zero=>
  replace hat:=fun s2 s3=>hat s2 s3 (fun h=>absurd h (by omega))
  simp;refine ⟨_,_,within_c q.list.length 1 2,by simp,?_⟩;by_cases s2 : 1≤q.list.length∧q.list.length≤2
  rotate_left
  ·have s2' : ¬ (1≤(q.list.length : Int)∧(q.list.length : Int)≤2):=by omega
   have h:=hbad (fun h=>s2 (by have:=(h hlt).2.1;rwa [hq] at this));simp [dc_neg s2',dc_neg h]
  have s2' : 1≤(q.list.length : Int)∧(q.list.length : Int)≤2:=by omega
  simp [s2'];refine ⟨_,_,implHubDoc_c hh (by omega) q.doc,by simp [Hub.row],?_⟩;by_cases s3 : 0≤docIdx hh.docs q.doc
  rotate_left
  ·have h:=hbad (fun h=>s3 (by have:=(h hlt).2.2;rwa [hq] at this))
   have s3' : docIdx hh.docs q.doc < 0:=by omega
   simp [s3',dc_neg h]
  have s3' : ¬ docIdx hh.docs q.doc < 0:=by omega
  have hsuc:=queuesRun_suc (w:=⟨hh,lk,qs,tasks,step⟩) hlt hr (hat s2 s3);have hbad2 : queueRun tasks q.doc all q.list = none→¬ queuesOk ⟨hh,lk,qs,tasks,step⟩:=fun h=>queuesOk_no (w:=⟨hh,lk,qs,tasks,step⟩) hlt (by rw [hsuc];simp only;rw [hq];exact h)
  simp only [hq] at hsuc;simp [s3']
  refine LoopT.introG eok (fun x : Nat × List Int × Hd=>x.1≤q.list.length∧queueRun tasks q.doc all (q.list.take x.1) = some x.2.1) (fun x=>⟨111,0,[(50,.v (.int .i64 x.1)),(49,.v (.int .i64 q.list.length)),(48,.ro (q.list.map intR)),(5,.p 80 b5 0),(13,.v (.int .i64 0)),(12,.v (.int .i64 qs.length)),(11,.ro (qs.map Queue.row)),(1,.p 16 b1 0),(3,.sl 5000 x.2.2 1 0 x.2.1.length)],
   [(16,.vars b1 39 [.v (.bool hh.shut),.ro (hh.docs.map Doc.row),.ro (hh.subs.map Sub.row),.v (.int .i64 hh.last),.ro (lk.map intR),.ro (qs.map Queue.row),.ro (tasks.map Task.row),.v (.int .i64 step)]),(80,.vars b5 93 [.v (.string q.doc),.ro (q.list.map intR)]),
    (5000,.rows x.2.2 1 (x.2.1.map intR) true)]⟩) (fun x=>q.list.length - x.1) (0,all,H) (by simp [queueRun]) (by simp) (fun x hi=>Ent.refl ?_)
  obtain ⟨j,m,G⟩:=x;obtain ⟨hj,hm⟩:=hi;simp only at hj hm ⊢
  have hml : m.length≤2 * qs.length:=by
   have:=queueRun_len _ _ _ hm;simp at this;omega
  by_cases hjt : j < q.list.length
  rotate_left
  ·have hje : j = q.list.length:=by omega
   subst hje;rw [List.take_length] at hm;simp;refine Ent.refl ⟨1,m,⟨by omega,by rw [hsuc,hm],?_⟩,by omega,G,?_⟩
   ·have:=queueRun_len _ _ _ hm
    omega
   ·simp
    exact i64_suc (n:=0) (by omega)
  obtain ⟨o1,o2⟩:=queueRun_one hjt hm;obtain ⟨x,hx⟩ : ∃ x,q.list[j] = x:=⟨_,rfl⟩;rw [hx] at o1 o2;simp [hjt,hx];refine DrawT.quiet eok mix (by kernel_rfl) ?_;simp [ew];refine ⟨_,_,within_c x 0 ((tasks.length : Int) - 1),by simp,?_⟩;by_cases c1 : 0≤x∧x≤(tasks.length : Int) - 1
  rotate_left
  ·have h:=hbad2 (o2 (fun h=>by obtain ⟨⟨k,hk,e,-⟩,-⟩:=h;exact c1 (by omega)))
   simp [dc_neg c1,dc_neg h]
  obtain ⟨k,rfl⟩ : ∃ k : Nat,x = k:=⟨x.toNat,by omega⟩;have hk : k < tasks.length:=by omega
  obtain ⟨t,ht⟩ : ∃ t,tasks[k] = t:=⟨_,rfl⟩
  have hmay : mayWait tasks q.doc k ↔ t.pc = 2∧t.c.doc = q.doc:=by
   constructor
   ·rintro ⟨k',hk',e,h1,h2⟩
    have : k = k':=by omega
    subst this;rw [ht] at h1 h2;exact ⟨h1,h2⟩
   ·rintro ⟨h1,h2⟩
    exact ⟨k,hk,rfl,by rw [ht];exact h1,by rw [ht];exact h2⟩
  simp [c1,hk,ht,Task.row];by_cases c2 : t.pc = 2
  rotate_left
  ·have h:=hbad2 (o2 (fun h=>c2 (hmay.1 h.1).1))
   simp [c2,dc_neg h]
  simp [c2,hk,ht,Task.row];by_cases c3 : t.c.doc = q.doc
  rotate_left
  ·have h:=hbad2 (o2 (fun h=>c3 (hmay.1 h.1).2))
   simp [c3,dc_neg h]
  simp [c3];refine ⟨_,_,indexInt_c m (by omega) k,by simp,?_⟩;by_cases c4 : (k : Int)∈m
  ·have h:=hbad2 (o2 (fun h=>h.2 c4))
   simp [c4,dc_neg h]
  simp [dc_neg c4];intro b40;refine ⟨by omega,fun G'=>Ent.refl ⟨j + 1,m ++ [(k : Int)],⟨by omega,o1 ⟨hmay.2 ⟨c2,c3⟩,c4⟩⟩,by omega,G',?_⟩⟩;simp;exact i64_suc (by omega)
  | succ p=>
  have hp1 : p < qs.length:=by omega
  have ek : Go.IntKind.i64.wrap (p : Int) = p:=i64_nat (by omega);have hp0 : (0 : Int) < (p : Int) + 1:=by omega
  obtain ⟨y,hy⟩ : ∃ y,qs[p] = y:=⟨_,rfl⟩;simp [ek,hp0,hp1,hy,Queue.row];by_cases s1 : sLt y.doc q.doc
  rotate_left
  ·have h:=hbad (fun h=>s1 (by have:=(h hlt).1 (by omega);rw [hq] at this;simp only [Nat.add_sub_cancel] at this;rwa [hy] at this))
   simp [dc_neg s1,dc_neg h]
  replace hat:=fun s2 s3=>hat s2 s3 (fun _=>by simp only [Nat.add_sub_cancel];rwa [hy])
  simp [s1];refine ⟨_,_,within_c q.list.length 1 2,by simp,?_⟩;by_cases s2 : 1≤q.list.length∧q.list.length≤2
  rotate_left
  ·have s2' : ¬ (1≤(q.list.length : Int)∧(q.list.length : Int)≤2):=by omega
   have h:=hbad (fun h=>s2 (by have:=(h hlt).2.1;rwa [hq] at this));simp [dc_neg s2',dc_neg h]
  have s2' : 1≤(q.list.length : Int)∧(q.list.length : Int)≤2:=by omega
  simp [s2'];refine ⟨_,_,implHubDoc_c hh (by omega) q.doc,by simp [Hub.row],?_⟩;by_cases s3 : 0≤docIdx hh.docs q.doc
  rotate_left
  ·have h:=hbad (fun h=>s3 (by have:=(h hlt).2.2;rwa [hq] at this))
   have s3' : docIdx hh.docs q.doc < 0:=by omega
   simp [s3',dc_neg h]
  have s3' : ¬ docIdx hh.docs q.doc < 0:=by omega
  have hsuc:=queuesRun_suc (w:=⟨hh,lk,qs,tasks,step⟩) hlt hr (hat s2 s3);have hbad2 : queueRun tasks q.doc all q.list = none→¬ queuesOk ⟨hh,lk,qs,tasks,step⟩:=fun h=>queuesOk_no (w:=⟨hh,lk,qs,tasks,step⟩) hlt (by rw [hsuc];simp only;rw [hq];exact h)
  simp only [hq] at hsuc;simp [s3']
  refine LoopT.introG eok (fun x : Nat × List Int × Hd=>x.1≤q.list.length∧queueRun tasks q.doc all (q.list.take x.1) = some x.2.1) (fun x=>⟨111,0,[(50,.v (.int .i64 x.1)),(49,.v (.int .i64 q.list.length)),(48,.ro (q.list.map intR)),(5,.p 80 b5 0),(13,.v (.int .i64 ((p : Int) + 1))),(12,.v (.int .i64 qs.length)),(11,.ro (qs.map Queue.row)),(1,.p 16 b1 0),(3,.sl 5000 x.2.2 1 0 x.2.1.length)],
   [(16,.vars b1 39 [.v (.bool hh.shut),.ro (hh.docs.map Doc.row),.ro (hh.subs.map Sub.row),.v (.int .i64 hh.last),.ro (lk.map intR),.ro (qs.map Queue.row),.ro (tasks.map Task.row),.v (.int .i64 step)]),(80,.vars b5 93 [.v (.string q.doc),.ro (q.list.map intR)]),
    (5000,.rows x.2.2 1 (x.2.1.map intR) true)]⟩) (fun x=>q.list.length - x.1) (0,all,H) (by simp [queueRun]) (by simp) (fun x hi=>Ent.refl ?_)
  obtain ⟨j,m,G⟩:=x;obtain ⟨hj,hm⟩:=hi;simp only at hj hm ⊢
  have hml : m.length≤2 * qs.length:=by
   have:=queueRun_len _ _ _ hm;simp at this;omega
  by_cases hjt : j < q.list.length
  rotate_left
  ·have hje : j = q.list.length:=by omega
   subst hje;rw [List.take_length] at hm;simp;refine Ent.refl ⟨p + 2,m,⟨by omega,by rw [hsuc,hm],?_⟩,by omega,G,?_⟩
   ·have:=queueRun_len _ _ _ hm
    omega
   ·simp
    exact (by rw [Go.IntWalk.i64_in _ (by omega)];omega)
  obtain ⟨o1,o2⟩:=queueRun_one hjt hm;obtain ⟨x,hx⟩ : ∃ x,q.list[j] = x:=⟨_,rfl⟩;rw [hx] at o1 o2;simp [hjt,hx];refine DrawT.quiet eok mix (by kernel_rfl) ?_;simp [ew];refine ⟨_,_,within_c x 0 ((tasks.length : Int) - 1),by simp,?_⟩;by_cases c1 : 0≤x∧x≤(tasks.length : Int) - 1
  rotate_left
  ·have h:=hbad2 (o2 (fun h=>by obtain ⟨⟨k,hk,e,-⟩,-⟩:=h;exact c1 (by omega)))
   simp [dc_neg c1,dc_neg h]
  obtain ⟨k,rfl⟩ : ∃ k : Nat,x = k:=⟨x.toNat,by omega⟩;have hk : k < tasks.length:=by omega
  obtain ⟨t,ht⟩ : ∃ t,tasks[k] = t:=⟨_,rfl⟩
  have hmay : mayWait tasks q.doc k ↔ t.pc = 2∧t.c.doc = q.doc:=by
   constructor
   ·rintro ⟨k',hk',e,h1,h2⟩
    have : k = k':=by omega
    subst this;rw [ht] at h1 h2;exact ⟨h1,h2⟩
   ·rintro ⟨h1,h2⟩
    exact ⟨k,hk,rfl,by rw [ht];exact h1,by rw [ht];exact h2⟩
  simp [c1,hk,ht,Task.row];by_cases c2 : t.pc = 2
  rotate_left
  ·have h:=hbad2 (o2 (fun h=>c2 (hmay.1 h.1).1))
   simp [c2,dc_neg h]
  simp [c2,hk,ht,Task.row];by_cases c3 : t.c.doc = q.doc
  rotate_left
  ·have h:=hbad2 (o2 (fun h=>c3 (hmay.1 h.1).2))
   simp [c3,dc_neg h]
  simp [c3];refine ⟨_,_,indexInt_c m (by omega) k,by simp,?_⟩;by_cases c4 : (k : Int)∈m
  ·have h:=hbad2 (o2 (fun h=>h.2 c4))
   simp [c4,dc_neg h]
  simp [dc_neg c4];intro b40;refine ⟨by omega,fun G'=>Ent.refl ⟨j + 1,m ++ [(k : Int)],⟨by omega,o1 ⟨hmay.2 ⟨c2,c3⟩,c4⟩⟩,by omega,G',?_⟩⟩;simp;exact i64_suc (by omega)
 have hie : i = qs.length:=by omega
 subst hie;simp
 refine LoopT.introG eok (fun k : Nat=>k≤tasks.length∧∀ j,j < k→∀ hj : j < tasks.length,tasks[j].pc = 2→(j : Int)∈all) (fun k=>⟨111,0,[(96,.v (.int .i64 k)),(95,.v (.int .i64 tasks.length)),(94,.ro (tasks.map Task.row)),(3,.sl 5000 H 1 0 all.length)],
  [(5000,.rows H 1 (all.map intR) true)]⟩) (fun k=>tasks.length - k) 0 (by simp) (by simp) (fun k hk=>Ent.refl ?_)
 by_cases hlt : k < tasks.length
 ·obtain ⟨t,ht⟩ : ∃ t,tasks[k] = t:=⟨_,rfl⟩
  simp [hlt,ht,Task.row];intro b9;by_cases c1 : t.pc = 2
  rotate_left
  ·simp [c1]
   exact Ent.refl ⟨k + 1,⟨by omega,upto_suc (P:=fun j=>∀ hj : j < tasks.length,tasks[j].pc = 2→(j : Int)∈all) hk.2 (fun _ h=>absurd h (by rw [ht];exact c1))⟩,by omega,by simp;exact i64_suc (by omega)⟩
  simp [c1];refine ACall.pure (indexInt_c all (by omega) k) (by simp) ?_;by_cases c2 : (k : Int)∈all
  rotate_left
  ·have h : ¬ queuesOk ⟨hh,lk,qs,tasks,step⟩:=by
    rintro ⟨all',e,h⟩
    simp only at e h;rw [hr] at e;obtain rfl:=Option.some.inj e;exact c2 (h k hlt (by rw [ht];exact c1))
   simp [dc_neg c2,dc_neg h]
  simp [c2];exact Ent.refl ⟨k + 1,⟨by omega,upto_suc (P:=fun j=>∀ hj : j < tasks.length,tasks[j].pc = 2→(j : Int)∈all) hk.2 (fun _ _=>c2)⟩,by omega,by simp;exact i64_suc (by omega)⟩
 have h : queuesOk ⟨hh,lk,qs,tasks,step⟩:=⟨all,hr,fun j hj=>hk.2 j (by simp only at hj;omega) hj⟩;simp [hlt,h]
theorem specQueues_c (w : Wld) (hl : nWorld w≤2 ^ 30) : PureC Tryz.prog 130 [.agg w.row] (.one (.c (vb (queuesOk w)) 1)):=by
 refine PureC.intro' tt_ok Tryz.func130 (by kernel_rfl) rfl rfl rfl (Nat.le_of_ble_eq_true rfl) (fun w0 base=>?_);obtain ⟨nh,n2,n3,n4⟩:=nWorld_parts hl;obtain ⟨hh,lk,qs,tasks,step⟩:=w;have hle:=nL_len n4;have hlq:=nL_len n3;simp only at hle hlq n2 n3 n4 nh;have ew : Go.IntKind.i64.wrap ((tasks.length : Int) - 1) = (tasks.length : Int) - 1:=Go.IntWalk.i64_in _ (by omega);simp [Wld.row];intro b1 b10
 refine LoopT.introG eok (fun x : Nat × List Int × Hd=>x.1≤qs.length∧queuesRun ⟨hh,lk,qs,tasks,step⟩ x.1 = some x.2.1∧x.2.1.length≤2 * x.1) (fun x=>⟨112,0,[(14,.v (.int .i64 x.1)),(13,.v (.int .i64 qs.length)),(12,.ro (qs.map Queue.row)),(1,.p 16 b1 0),(3,.sl 160 x.2.2 1 0 x.2.1.length)],
  [(16,.vars b1 39 [.v (.bool hh.shut),.ro (hh.docs.map Doc.row),.ro (hh.subs.map Sub.row),.v (.int .i64 hh.last),.ro (lk.map intR),.ro (qs.map Queue.row),.ro (tasks.map Task.row),.v (.int .i64 step)]),
   (160,.rows x.2.2 1 (x.2.1.map intR) true)]⟩) (fun x=>qs.length - x.1) (0,[],some (b10,0,0)) (by simp [queuesRun]) (by simp) (fun x hi=>Ent.refl ?_)
 obtain ⟨i,all,H⟩:=x;obtain ⟨hi,hr,hal⟩:=hi;simp only at hi hr hal ⊢;by_cases hlt : i < qs.length
 ·obtain ⟨q,hq⟩ : ∃ q,qs[i] = q:=⟨_,rfl⟩
  have hbad : ¬ queueAt hh qs i→¬ queuesOk ⟨hh,lk,qs,tasks,step⟩:=fun h=>queuesOk_no (w:=⟨hh,lk,qs,tasks,step⟩) hlt (queuesRun_bad (w:=⟨hh,lk,qs,tasks,step⟩) hlt h)
  simp [hlt,hq,Queue.row];intro b5;refine DrawT.quiet eok mix (by kernel_rfl) ?_;simp;have hprev : 0 = i∨0 < i:=by omega
  obtain ⟨prev,hcase⟩ : ∃ prev : Prop,prev = ∀ h : 0 < i,sLt qs[i - 1].doc q.doc:=⟨_,rfl⟩;have hat : ∀ (_ : 1≤q.list.length∧q.list.length≤2) (_ : 0≤docIdx hh.docs q.doc) (_ : ∀ h : 0 < i,sLt qs[i - 1].doc q.doc),queueAt hh qs i:=fun s2 s3 s1=>fun _=>by rw [hq];exact ⟨s1,s2,s3⟩
  cases i with
  | zero=>
  replace hat:=fun s2 s3=>hat s2 s3 (fun h=>absurd h (by omega))
  simp;refine ⟨_,_,l01In_c q.list.length 1 2,by simp,?_⟩;by_cases s2 : 1≤q.list.length∧q.list.length≤2
  rotate_left
  ·have s2' : ¬ (1≤(q.list.length : Int)∧(q.list.length : Int)≤2):=by omega
   have h:=hbad (fun h=>s2 (by have:=(h hlt).2.1;rwa [hq] at this));simp [dc_neg s2',dc_neg h]
  have s2' : 1≤(q.list.length : Int)∧(q.list.length : Int)≤2:=by omega
  simp [s2'];refine ⟨_,_,specHubDoc_c hh (by omega) q.doc,by simp [Hub.row],?_⟩;by_cases s3 : 0≤docIdx hh.docs q.doc
  rotate_left
  ·have h:=hbad (fun h=>s3 (by have:=(h hlt).2.2;rwa [hq] at this))
   have s3' : docIdx hh.docs q.doc < 0:=by omega
   simp [s3',dc_neg h]
  have s3' : ¬ docIdx hh.docs q.doc < 0:=by omega
  have hsuc:=queuesRun_suc (w:=⟨hh,lk,qs,tasks,step⟩) hlt hr (hat s2 s3);have hbad2 : queueRun tasks q.doc all q.list = none→¬ queuesOk ⟨hh,lk,qs,tasks,step⟩:=fun h=>queuesOk_no (w:=⟨hh,lk,qs,tasks,step⟩) hlt (by rw [hsuc];simp only;rw [hq];exact h)
  simp only [hq] at hsuc;simp [s3']
  refine LoopT.introG eok (fun x : Nat × List Int × Hd=>x.1≤q.list.length∧queueRun tasks q.doc all (q.list.take x.1) = some x.2.1) (fun x=>⟨112,0,[(51,.v (.int .i64 x.1)),(50,.v (.int .i64 q.list.length)),(49,.ro (q.list.map intR)),(5,.p 80 b5 0),(14,.v (.int .i64 0)),(13,.v (.int .i64 qs.length)),(12,.ro (qs.map Queue.row)),(1,.p 16 b1 0),(3,.sl 160 x.2.2 1 0 x.2.1.length)],
   [(16,.vars b1 39 [.v (.bool hh.shut),.ro (hh.docs.map Doc.row),.ro (hh.subs.map Sub.row),.v (.int .i64 hh.last),.ro (lk.map intR),.ro (qs.map Queue.row),.ro (tasks.map Task.row),.v (.int .i64 step)]),(80,.vars b5 93 [.v (.string q.doc),.ro (q.list.map intR)]),
    (160,.rows x.2.2 1 (x.2.1.map intR) true)]⟩) (fun x=>q.list.length - x.1) (0,all,H) (by simp [queueRun]) (by simp) (fun x hi=>Ent.refl ?_)
  obtain ⟨j,m,G⟩:=x;obtain ⟨hj,hm⟩:=hi;simp only at hj hm ⊢
  have hml : m.length≤2 * qs.length:=by
   have:=queueRun_len _ _ _ hm;simp at this;omega
  by_cases hjt : j < q.list.length
  rotate_left
  ·have hje : j = q.list.length:=by omega
   subst hje;rw [List.take_length] at hm;simp;refine Ent.refl ⟨1,m,⟨by omega,by rw [hsuc,hm],?_⟩,by omega,G,?_⟩
   ·have:=queueRun_len _ _ _ hm
    omega
   ·simp
    exact i64_suc (n:=0) (by omega)
  obtain ⟨o1,o2⟩:=queueRun_one hjt hm;obtain ⟨x,hx⟩ : ∃ x,q.list[j] = x:=⟨_,rfl⟩;rw [hx] at o1 o2;simp [hjt,hx];refine DrawT.quiet eok mix (by kernel_rfl) ?_;simp [ew];refine ⟨_,_,l01In_c x 0 ((tasks.length : Int) - 1),by simp,?_⟩;by_cases c1 : 0≤x∧x≤(tasks.length : Int) - 1
  rotate_left
  ·have h:=hbad2 (o2 (fun h=>by obtain ⟨⟨k,hk,e,-⟩,-⟩:=h;exact c1 (by omega)))
   simp [dc_neg c1,dc_neg h]
  obtain ⟨k,rfl⟩ : ∃ k : Nat,x = k:=⟨x.toNat,by omega⟩;have hk : k < tasks.length:=by omega
  obtain ⟨t,ht⟩ : ∃ t,tasks[k] = t:=⟨_,rfl⟩
  have hmay : mayWait tasks q.doc k ↔ t.pc = 2∧t.c.doc = q.doc:=by
   constructor
   ·rintro ⟨k',hk',e,h1,h2⟩
    have : k = k':=by omega
    subst this;rw [ht] at h1 h2;exact ⟨h1,h2⟩
   ·rintro ⟨h1,h2⟩
    exact ⟨k,hk,rfl,by rw [ht];exact h1,by rw [ht];exact h2⟩
  simp [c1,hk,ht,Task.row];by_cases c2 : t.pc = 2
  rotate_left
  ·have h:=hbad2 (o2 (fun h=>c2 (hmay.1 h.1).1))
   simp [c2,dc_neg h]
  simp [c2,hk,ht,Task.row];by_cases c3 : t.c.doc = q.doc
  rotate_left
  ·have h:=hbad2 (o2 (fun h=>c3 (hmay.1 h.1).2))
   simp [c3,dc_neg h]
  simp [c3];refine ⟨_,_,specHas_c m (by omega) k,by simp,?_⟩;by_cases c4 : (k : Int)∈m
  ·have h:=hbad2 (o2 (fun h=>h.2 c4))
   simp [c4,dc_neg h]
  simp [dc_neg c4];intro b40;refine ⟨by omega,fun G'=>Ent.refl ⟨j + 1,m ++ [(k : Int)],⟨by omega,o1 ⟨hmay.2 ⟨c2,c3⟩,c4⟩⟩,by omega,G',?_⟩⟩;simp;exact i64_suc (by omega)
  | succ p=>
  have hp1 : p < qs.length:=by omega
  have ek : Go.IntKind.i64.wrap (p : Int) = p:=i64_nat (by omega);have hp0 : (0 : Int) < (p : Int) + 1:=by omega
  obtain ⟨y,hy⟩ : ∃ y,qs[p] = y:=⟨_,rfl⟩;simp [ek,hp0,hp1,hy,Queue.row];by_cases s1 : sLt y.doc q.doc
  rotate_left
  ·have h:=hbad (fun h=>s1 (by have:=(h hlt).1 (by omega);rw [hq] at this;simp only [Nat.add_sub_cancel] at this;rwa [hy] at this))
   simp [dc_neg s1,dc_neg h]
  replace hat:=fun s2 s3=>hat s2 s3 (fun _=>by simp only [Nat.add_sub_cancel];rwa [hy])
  simp [s1];refine ⟨_,_,l01In_c q.list.length 1 2,by simp,?_⟩;by_cases s2 : 1≤q.list.length∧q.list.length≤2
  rotate_left
  ·have s2' : ¬ (1≤(q.list.length : Int)∧(q.list.length : Int)≤2):=by omega
   have h:=hbad (fun h=>s2 (by have:=(h hlt).2.1;rwa [hq] at this));simp [dc_neg s2',dc_neg h]
  have s2' : 1≤(q.list.length : Int)∧(q.list.length : Int)≤2:=by omega
  simp [s2'];refine ⟨_,_,specHubDoc_c hh (by omega) q.doc,by simp [Hub.row],?_⟩;by_cases s3 : 0≤docIdx hh.docs q.doc
  rotate_left
  ·have h:=hbad (fun h=>s3 (by have:=(h hlt).2.2;rwa [hq] at this))
   have s3' : docIdx hh.docs q.doc < 0:=by omega
   simp [s3',dc_neg h]
  have s3' : ¬ docIdx hh.docs q.doc < 0:=by omega
  have hsuc:=queuesRun_suc (w:=⟨hh,lk,qs,tasks,step⟩) hlt hr (hat s2 s3);have hbad2 : queueRun tasks q.doc all q.list = none→¬ queuesOk ⟨hh,lk,qs,tasks,step⟩:=fun h=>queuesOk_no (w:=⟨hh,lk,qs,tasks,step⟩) hlt (by rw [hsuc];simp only;rw [hq];exact h)
  simp only [hq] at hsuc;simp [s3']
  refine LoopT.introG eok (fun x : Nat × List Int × Hd=>x.1≤q.list.length∧queueRun tasks q.doc all (q.list.take x.1) = some x.2.1) (fun x=>⟨112,0,[(51,.v (.int .i64 x.1)),(50,.v (.int .i64 q.list.length)),(49,.ro (q.list.map intR)),(5,.p 80 b5 0),(14,.v (.int .i64 ((p : Int) + 1))),(13,.v (.int .i64 qs.length)),(12,.ro (qs.map Queue.row)),(1,.p 16 b1 0),(3,.sl 160 x.2.2 1 0 x.2.1.length)],
   [(16,.vars b1 39 [.v (.bool hh.shut),.ro (hh.docs.map Doc.row),.ro (hh.subs.map Sub.row),.v (.int .i64 hh.last),.ro (lk.map intR),.ro (qs.map Queue.row),.ro (tasks.map Task.row),.v (.int .i64 step)]),(80,.vars b5 93 [.v (.string q.doc),.ro (q.list.map intR)]),
    (160,.rows x.2.2 1 (x.2.1.map intR) true)]⟩) (fun x=>q.list.length - x.1) (0,all,H) (by simp [queueRun]) (by simp) (fun x hi=>Ent.refl ?_)
  obtain ⟨j,m,G⟩:=x;obtain ⟨hj,hm⟩:=hi;simp only at hj hm ⊢
  have hml : m.length≤2 * qs.length:=by
   have:=queueRun_len _ _ _ hm;simp at this;omega
  by_cases hjt : j < q.list.length
  rotate_left
  ·have hje : j = q.list.length:=by omega
   subst hje;rw [List.take_length] at hm;simp;refine Ent.refl ⟨p + 2,m,⟨by omega,by rw [hsuc,hm],?_⟩,by omega,G,?_⟩
   ·have:=queueRun_len _ _ _ hm
    omega
   ·simp
    exact (by rw [Go.IntWalk.i64_in _ (by omega)];omega)
  obtain ⟨o1,o2⟩:=queueRun_one hjt hm;obtain ⟨x,hx⟩ : ∃ x,q.list[j] = x:=⟨_,rfl⟩;rw [hx] at o1 o2;simp [hjt,hx];refine DrawT.quiet eok mix (by kernel_rfl) ?_;simp [ew];refine ⟨_,_,l01In_c x 0 ((tasks.length : Int) - 1),by simp,?_⟩;by_cases c1 : 0≤x∧x≤(tasks.length : Int) - 1
  rotate_left
  ·have h:=hbad2 (o2 (fun h=>by obtain ⟨⟨k,hk,e,-⟩,-⟩:=h;exact c1 (by omega)))
   simp [dc_neg c1,dc_neg h]
  obtain ⟨k,rfl⟩ : ∃ k : Nat,x = k:=⟨x.toNat,by omega⟩;have hk : k < tasks.length:=by omega
  obtain ⟨t,ht⟩ : ∃ t,tasks[k] = t:=⟨_,rfl⟩
  have hmay : mayWait tasks q.doc k ↔ t.pc = 2∧t.c.doc = q.doc:=by
   constructor
   ·rintro ⟨k',hk',e,h1,h2⟩
    have : k = k':=by omega
    subst this;rw [ht] at h1 h2;exact ⟨h1,h2⟩
   ·rintro ⟨h1,h2⟩
    exact ⟨k,hk,rfl,by rw [ht];exact h1,by rw [ht];exact h2⟩
  simp [c1,hk,ht,Task.row];by_cases c2 : t.pc = 2
  rotate_left
  ·have h:=hbad2 (o2 (fun h=>c2 (hmay.1 h.1).1))
   simp [c2,dc_neg h]
  simp [c2,hk,ht,Task.row];by_cases c3 : t.c.doc = q.doc
  rotate_left
  ·have h:=hbad2 (o2 (fun h=>c3 (hmay.1 h.1).2))
   simp [c3,dc_neg h]
  simp [c3];refine ⟨_,_,specHas_c m (by omega) k,by simp,?_⟩;by_cases c4 : (k : Int)∈m
  ·have h:=hbad2 (o2 (fun h=>h.2 c4))
   simp [c4,dc_neg h]
  simp [dc_neg c4];intro b40;refine ⟨by omega,fun G'=>Ent.refl ⟨j + 1,m ++ [(k : Int)],⟨by omega,o1 ⟨hmay.2 ⟨c2,c3⟩,c4⟩⟩,by omega,G',?_⟩⟩;simp;exact i64_suc (by omega)
 have hie : i = qs.length:=by omega
 subst hie;simp
 refine LoopT.introG eok (fun k : Nat=>k≤tasks.length∧∀ j,j < k→∀ hj : j < tasks.length,tasks[j].pc = 2→(j : Int)∈all) (fun k=>⟨112,0,[(97,.v (.int .i64 k)),(96,.v (.int .i64 tasks.length)),(95,.ro (tasks.map Task.row)),(3,.sl 160 H 1 0 all.length)],
  [(160,.rows H 1 (all.map intR) true)]⟩) (fun k=>tasks.length - k) 0 (by simp) (by simp) (fun k hk=>Ent.refl ?_)
 by_cases hlt : k < tasks.length
 ·obtain ⟨t,ht⟩ : ∃ t,tasks[k] = t:=⟨_,rfl⟩
  simp [hlt,ht,Task.row];intro b9;by_cases c1 : t.pc = 2
  rotate_left
  ·simp [c1]
   exact Ent.refl ⟨k + 1,⟨by omega,upto_suc (P:=fun j=>∀ hj : j < tasks.length,tasks[j].pc = 2→(j : Int)∈all) hk.2 (fun _ h=>absurd h (by rw [ht];exact c1))⟩,by omega,by simp;exact i64_suc (by omega)⟩
  simp [c1];refine ACall.pure (specHas_c all (by omega) k) (by simp) ?_;by_cases c2 : (k : Int)∈all
  rotate_left
  ·have h : ¬ queuesOk ⟨hh,lk,qs,tasks,step⟩:=by
    rintro ⟨all',e,h⟩
    simp only at e h;rw [hr] at e;obtain rfl:=Option.some.inj e;exact c2 (h k hlt (by rw [ht];exact c1))
   simp [dc_neg c2,dc_neg h]
  simp [c2];exact Ent.refl ⟨k + 1,⟨by omega,upto_suc (P:=fun j=>∀ hj : j < tasks.length,tasks[j].pc = 2→(j : Int)∈all) hk.2 (fun _ _=>c2)⟩,by omega,by simp;exact i64_suc (by omega)⟩
 have h : queuesOk ⟨hh,lk,qs,tasks,step⟩:=⟨all,hr,fun j hj=>hk.2 j (by simp only at hj;omega) hj⟩;simp [hlt,h]
def initL (n i : Nat) : List Int:=List.replicate i (-1) ++ List.replicate (n - i) 0
theorem initL_zero (n : Nat) : List.replicate n [CD.v (.int .i64 0)] = (initL n 0).map intR:=by
 unfold initL;simp [intR]
theorem initL_full (n : Nat) : initL n n = List.replicate n (-1):=by unfold initL;simp
theorem initL_len {n i : Nat} (h : i≤n) : (initL n i).length = n:=by unfold initL;simp;omega
theorem initL_set {n i : Nat} (h : i < n) : (initL n i).set i (-1) = initL n (i + 1):=by
 unfold initL;refine List.ext_getElem (by simp;omega) (fun j h1 h2=>?_);simp only [List.getElem_set,List.getElem_append,List.length_replicate,List.getElem_replicate]
 repeat' split
 all_goals omega
theorem set_int {l : List Int} {i : Nat} {x : Int} : (l.map intR).set i [.v (.int .i64 x)] = (l.set i x).map intR:=by rw [List.map_set]
theorem worldOk_taken {w : Wld} (h : ¬ ∀ t∈w.tasks,taskOk t) : ¬ worldOk w:=fun h'=>h h'.1
theorem implWorldOk_i (w : Wld) (hl : nWorld w≤2 ^ 30) : PureC Tryz.prog 45 [.agg w.row] (.one (.c (vb (worldOk w)) 1)):=by
 refine PureC.intro' tt_ok Tryz.func45 (by kernel_rfl) rfl rfl rfl (Nat.le_of_ble_eq_true rfl) (fun w0 base=>?_);have hSt:=implStepsOk_c w (by have:=nL_len (nWorld_parts hl).2.2.2;omega);have hQu:=implQueues_c w hl;obtain ⟨nh,n2,n3,n4⟩:=nWorld_parts hl;obtain ⟨hh,lk,qs,tasks,step⟩:=w;have hle:=nL_len n4;simp only at hle n2 n4 nh hSt;simp [Wld.row];intro b1;refine ACall.pure (implHubOk_c hh (by omega)) (by simp [Hub.row]) ?_;by_cases c1 : hubOk hh
 rotate_left
 ·have h : ¬ worldOk ⟨hh,lk,qs,tasks,step⟩:=fun h=>c1 h.2.1
  simp [dc_neg c1,dc_neg h]
 simp [c1];refine ACall.pure (within_c lk.length 1 4) (by simp) ?_;by_cases c2 : 1≤lk.length∧lk.length≤4
 rotate_left
 ·have h : ¬ worldOk ⟨hh,lk,qs,tasks,step⟩:=fun h=>c2 h.2.2.1
  have c2' : ¬ (1≤(lk.length : Int)∧(lk.length : Int)≤4):=by omega
  simp [dc_neg c2',dc_neg h]
 have c2' : 1≤(lk.length : Int)∧(lk.length : Int)≤4:=by omega
 simp [c2'];by_cases c3 : tasks.length≤10
 rotate_left
 ·have h : ¬ worldOk ⟨hh,lk,qs,tasks,step⟩:=fun h=>c3 h.2.2.2.1
  have c3' : 10 < (tasks.length : Int):=by omega
  simp [c3',dc_neg h]
 have c3' : ¬ 10 < (tasks.length : Int):=by omega
 simp [c3'];refine ACall.pure (within_c step 0 1000000) (by simp) ?_;by_cases c4 : 0≤step∧step≤1000000
 rotate_left
 ·have h : ¬ worldOk ⟨hh,lk,qs,tasks,step⟩:=fun h=>c4 h.2.2.2.2.1
  simp [dc_neg c4,dc_neg h]
 simp [c4];refine ⟨by omega,fun b=>?_⟩
 refine LoopT.introG eok (fun i : Nat=>i≤lk.length) (fun i=>⟨88,0,[(37,.v (.int .i64 i)),(36,.v (.int .i64 lk.length)),(4,.sl 544 (some (b,0,lk.length)) 1 0 lk.length),(3,.v (.int .i64 lk.length)),(1,.p 16 b1 0)],
  [(16,.vars b1 39 [.v (.bool hh.shut),.ro (hh.docs.map Doc.row),.ro (hh.subs.map Sub.row),.v (.int .i64 hh.last),.ro (lk.map intR),.ro (qs.map Queue.row),.ro (tasks.map Task.row),.v (.int .i64 step)]),
   (544,.rows (some (b,0,lk.length)) 1 ((initL lk.length i).map intR) true)]⟩) (fun i=>lk.length - i) 0 (by simp) (by simp [initL_zero]) (fun i hi=>Ent.refl ?_)
 by_cases hlt : i < lk.length
 ·have hL:=initL_len (n:=lk.length) (i:=i) (by omega)
  have hli : i < (initL lk.length i).length:=by omega
  simp [hlt,hL,set_int,initL_set hlt];refine Ent.refl ⟨i + 1,by omega,by omega,?_⟩;simp;exact i64_suc (by omega)
 have hie : i = lk.length:=by omega
 subst hie;rw [initL_full];simp [-List.map_replicate]
 refine LoopT.introG eok (fun x : Nat × List Int=>x.1≤tasks.length∧(∀ t∈tasks.take x.1,taskOk t)∧heldBy tasks lk.length x.1 x.2) (fun x=>⟨88,0,[(47,.v (.int .i64 x.1)),(46,.v (.int .i64 tasks.length)),(45,.ro (tasks.map Task.row)),(4,.sl 544 (some (b,0,lk.length)) 1 0 lk.length),(3,.v (.int .i64 lk.length)),(1,.p 16 b1 0)],
  [(16,.vars b1 39 [.v (.bool hh.shut),.ro (hh.docs.map Doc.row),.ro (hh.subs.map Sub.row),.v (.int .i64 hh.last),.ro (lk.map intR),.ro (qs.map Queue.row),.ro (tasks.map Task.row),.v (.int .i64 step)]),
   (544,.rows (some (b,0,lk.length)) 1 (x.2.map intR) true)]⟩) (fun x=>tasks.length - x.1) (0,List.replicate lk.length (-1)) ⟨by simp,by simp,held_zero _ _⟩ (by simp [-List.map_replicate]) (fun x hi=>Ent.refl ?_)
 obtain ⟨i,held⟩:=x;obtain ⟨hi,htk,hh'⟩:=hi;simp only at hi htk hh' ⊢;have hhl:=hh'.1;by_cases hlt : i < tasks.length
 ·obtain ⟨t,ht⟩ : ∃ t,tasks[i] = t:=⟨_,rfl⟩
  have hm:=nL_at n4 hlt;rw [ht] at hm;have hmem : t∈tasks:=by rw [← ht];exact List.getElem_mem hlt
  simp [hlt,ht,Task.row];intro b7;refine ACall.pure (implTaskOk_c t (by omega)) (by simp [Task.row]) ?_;by_cases d1 : taskOk t
  rotate_left
  ·have h : ¬ worldOk ⟨hh,lk,qs,tasks,step⟩:=worldOk_taken (fun h=>d1 (h t hmem))
   simp [dc_neg d1,dc_neg h]
  have htk':=all_suc hlt htk (by rw [ht];exact d1);simp [d1];by_cases d2 : t.pc = 1
  rotate_left
  ·simp [d2]
   refine Ent.refl ⟨i + 1,held,⟨by omega,htk',held_skip hh' hlt (by rw [ht];exact d2)⟩,by omega,?_⟩;simp;exact i64_suc (by omega)
  simp [d2];refine ACall.pure (implStripe_c t.c.doc (by have:=nTask_doc hm;omega) lk.length c2.1 (by omega)) (by simp) ?_;obtain ⟨s,hs⟩ : ∃ s,stripe t.c.doc lk.length = s:=⟨_,rfl⟩;have hsl : s < lk.length:=by rw [← hs];exact (stripe_eq t.c.doc c2.1).2
  have hsh : s < held.length:=by omega
  simp [hs,hsl,hsh];by_cases d3 : held[s] = -1
  rotate_left
  ·have h : ¬ worldOk ⟨hh,lk,qs,tasks,step⟩:=fun h=>by
    refine held_two (locks:=lk) hh' hlt (by rw [ht];exact d2) (by rw [ht,hs];exact hsh) ?_ h.2.2.2.2.2.2.1.2;simp only [ht,hs];exact d3
   simp [d3,dc_neg h]
  simp [d3,hsl,hhl];refine Ent.refl ⟨i + 1,held.set s i,⟨by omega,htk',held_set hh' hlt (by rw [ht];exact d2) (by rw [ht];exact hs) hsh d3⟩,by omega,?_⟩;simp;exact i64_suc (by omega)
 have hie : i = tasks.length:=by omega
 subst hie;rw [List.take_length] at htk;have he:=held_end c2.1 hh';simp;refine ACall.pure (slEqInt_c held lk (by omega)) (by simp [hhl]) ?_;have hW : worldOk ⟨hh,lk,qs,tasks,step⟩ ↔ stepsOk ⟨hh,lk,qs,tasks,step⟩∧held = lk∧queuesOk ⟨hh,lk,qs,tasks,step⟩:=⟨fun h=>⟨h.2.2.2.2.2.1,he.2 h.2.2.2.2.2.2.1,h.2.2.2.2.2.2.2⟩,fun h=>⟨htk,c1,c2,c3,c4,h.1,he.1 h.2.1,h.2.2⟩⟩;by_cases d1 : held = lk
 rotate_left
 ·have h : ¬ worldOk ⟨hh,lk,qs,tasks,step⟩:=fun h=>d1 (hW.1 h).2.1
  simp [d1,dc_neg h]
 simp [d1];refine ACall.pure hSt (by simp) ?_;by_cases d2 : stepsOk ⟨hh,lk,qs,tasks,step⟩
 rotate_left
 ·have h : ¬ worldOk ⟨hh,lk,qs,tasks,step⟩:=fun h=>d2 (hW.1 h).1
  simp [dc_neg d2,dc_neg h]
 simp [d2];refine ACall.pure hQu (by simp [Wld.row]) ?_;have e : vb (queuesOk ⟨hh,lk,qs,tasks,step⟩) = vb (worldOk ⟨hh,lk,qs,tasks,step⟩):=vb_iff ⟨fun h=>hW.2 ⟨d2,d1,h⟩,fun h=>(hW.1 h).2.2⟩;rw [e];simp
theorem specWorldOk_i (w : Wld) (hl : nWorld w≤2 ^ 30) : PureC Tryz.prog 53 [.agg w.row] (.one (.c (vb (worldOk w)) 1)):=by
 refine PureC.intro' tt_ok Tryz.func53 (by kernel_rfl) rfl rfl rfl (Nat.le_of_ble_eq_true rfl) (fun w0 base=>?_);have hSt:=specSteps_c w hl;have hLo:=specLocks_c w hl;have hQu:=specQueues_c w hl;obtain ⟨nh,n2,n3,n4⟩:=nWorld_parts hl;obtain ⟨hh,lk,qs,tasks,step⟩:=w;have hle:=nL_len n4;simp only at hle n2 n4 nh hLo;simp [Wld.row];intro b1
 refine LoopT.introG eok (fun i : Nat=>i≤tasks.length∧∀ t∈tasks.take i,taskOk t) (fun i=>⟨48,0,[(8,.v (.int .i64 i)),(7,.v (.int .i64 tasks.length)),(6,.ro (tasks.map Task.row)),(1,.p 16 b1 0)],
  [(16,.vars b1 39 [.v (.bool hh.shut),.ro (hh.docs.map Doc.row),.ro (hh.subs.map Sub.row),.v (.int .i64 hh.last),.ro (lk.map intR),.ro (qs.map Queue.row),.ro (tasks.map Task.row),.v (.int .i64 step)])]⟩) (fun i=>tasks.length - i) 0 (by simp) (by simp) (fun i hi=>Ent.refl ?_)
 obtain ⟨hi,htk⟩:=hi;by_cases hlt : i < tasks.length
 ·obtain ⟨t,ht⟩ : ∃ t,tasks[i] = t:=⟨_,rfl⟩
  have hm:=nL_at n4 hlt;rw [ht] at hm;have hmem : t∈tasks:=by rw [← ht];exact List.getElem_mem hlt
  simp [hlt,ht,Task.row];intro b7;refine ACall.pure (specTaskOk_c t (by omega)) (by simp [Task.row]) ?_;by_cases d1 : taskOk t
  rotate_left
  ·have h : ¬ worldOk ⟨hh,lk,qs,tasks,step⟩:=worldOk_taken (fun h=>d1 (h t hmem))
   simp [dc_neg d1,dc_neg h]
  simp [d1];exact Ent.refl ⟨i + 1,⟨by omega,all_suc hlt htk (by rw [ht];exact d1)⟩,by omega,by simp;exact i64_suc (by omega)⟩
 have hie : i = tasks.length:=by omega
 subst hie;rw [List.take_length] at htk;simp;refine ACall.pure (specHubOk_c hh (by omega)) (by simp [Hub.row]) ?_;by_cases c1 : hubOk hh
 rotate_left
 ·have h : ¬ worldOk ⟨hh,lk,qs,tasks,step⟩:=fun h=>c1 h.2.1
  simp [dc_neg c1,dc_neg h]
 simp [c1];refine ACall.pure (l01In_c lk.length 1 4) (by simp) ?_;by_cases c2 : 1≤lk.length∧lk.length≤4
 rotate_left
 ·have h : ¬ worldOk ⟨hh,lk,qs,tasks,step⟩:=fun h=>c2 h.2.2.1
  have c2' : ¬ (1≤(lk.length : Int)∧(lk.length : Int)≤4):=by omega
  simp [dc_neg c2',dc_neg h]
 have c2' : 1≤(lk.length : Int)∧(lk.length : Int)≤4:=by omega
 simp [c2'];by_cases c3 : tasks.length≤10
 rotate_left
 ·have h : ¬ worldOk ⟨hh,lk,qs,tasks,step⟩:=fun h=>c3 h.2.2.2.1
  have c3' : ¬ (tasks.length : Int)≤10:=by omega
  simp [c3',dc_neg h]
 have c3' : (tasks.length : Int)≤10:=by omega
 simp [c3'];refine ACall.pure (l01In_c step 0 1000000) (by simp) ?_;by_cases c4 : 0≤step∧step≤1000000
 rotate_left
 ·have h : ¬ worldOk ⟨hh,lk,qs,tasks,step⟩:=fun h=>c4 h.2.2.2.2.1
  simp [dc_neg c4,dc_neg h]
 simp [c4];refine ACall.pure hSt (by simp [Wld.row]) ?_;by_cases d2 : stepsOk ⟨hh,lk,qs,tasks,step⟩
 rotate_left
 ·have h : ¬ worldOk ⟨hh,lk,qs,tasks,step⟩:=fun h=>d2 h.2.2.2.2.2.1
  simp [dc_neg d2,dc_neg h]
 simp [d2];refine ACall.pure (hLo c2.1) (by simp [Wld.row]) ?_;by_cases d3 : locksOk ⟨hh,lk,qs,tasks,step⟩
 rotate_left
 ·have h : ¬ worldOk ⟨hh,lk,qs,tasks,step⟩:=fun h=>d3 h.2.2.2.2.2.2.1
  simp [dc_neg d3,dc_neg h]
 simp [d3];refine ACall.pure hQu (by simp [Wld.row]) ?_;have e : vb (queuesOk ⟨hh,lk,qs,tasks,step⟩) = vb (worldOk ⟨hh,lk,qs,tasks,step⟩):=vb_iff ⟨fun h=>⟨htk,c1,c2,c3,c4,d2,d3,h⟩,fun h=>h.2.2.2.2.2.2.2⟩;rw [e];simp
end Go.Proofs.YtoeofekglbdemaaGreat
