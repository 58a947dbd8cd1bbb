import Derived.Test.YtoeofekglbdemaaGreatPM
import Derived.Test.YtoeofekglbdemaaGreatPF
import Derived.Test.YtoeofekglbdemaaGreatMG
import Derived.Shelf.RegionOpenPlain
namespace Go.Proofs.YtoeofekglbdemaaGreat
open Go.AM
set_option maxRecDepth 20000
def tolds (l : List Int) : List Int:=l.filter fun n=>decide (n≠-1)
theorem stepsRun_iff {step : Int} : ∀ (l met : List Int),(stepsRun step met l).isSome = true ↔ (∀ n∈tolds l,n < step)∧(tolds l).Nodup∧∀ n∈tolds l,n ∉ met
 | [],met=>by simp [stepsRun,tolds]
 | n :: l,met=>by
   unfold stepsRun;by_cases h : n = -1
   ·have e : tolds (n :: l) = tolds l:=by simp [tolds,h]
    rw [if_pos h,e];exact stepsRun_iff l met
   ·have e : tolds (n :: l) = n :: tolds l:=by simp [tolds,h]
    rw [if_neg h,e];by_cases h2 : n ≥ step∨n∈met
    ·rw [if_pos h2]
     simp only [Option.isSome_none,Bool.false_eq_true,false_iff]
     rintro ⟨h3,-,h4⟩
     rcases h2 with h2 | h2
     ·have:=h3 n (List.mem_cons_self ..);omega
     ·exact h4 n (List.mem_cons_self ..) h2
    ·rw [if_neg h2,stepsRun_iff l (met ++ [n]),List.nodup_cons]
     constructor
     ·rintro ⟨h3,h4,h5⟩
      refine ⟨fun m hm=>?_,⟨fun hm=>h5 n hm (by simp),h4⟩,fun m hm=>?_⟩
      ·rcases List.mem_cons.1 hm with rfl | hm
       ·omega
       ·exact h3 m hm
      ·rcases List.mem_cons.1 hm with rfl | hm
       ·exact fun h=>h2 (.inr h)
       ·exact fun h=>h5 m hm (by simp [h])
     ·rintro ⟨h3,⟨h4,h5⟩,h6⟩
      refine ⟨fun m hm=>h3 m (List.mem_cons_of_mem _ hm),h5,fun m hm hc=>?_⟩;rcases List.mem_append.1 hc with hc | hc
      ·exact h6 m (List.mem_cons_of_mem _ hm) hc
      ·simp at hc;subst hc;exact h4 hm
def stepsIn (tasks : List Task) (step : Int) : Prop:=(∀ n∈tolds (tasks.flatMap toldOf),n < step)∧(tolds (tasks.flatMap toldOf)).Nodup
theorem stepsOk_iff {w : Wld} : stepsOk w ↔ stepsIn w.tasks w.step:=by
 unfold stepsOk stepsIn;rw [stepsRun_iff];simp
def queue1 (docs : List Doc) (q : Queue) : Prop:=(1≤q.list.length∧q.list.length≤2)∧∃ d∈docs,d.name = q.doc
def queueLt (a b : Queue) : Prop:=sLt a.doc b.doc
def waiting (l : List Queue) : List Int:=l.flatMap Queue.list
structure QIn (docs : List Doc) (queues : List Queue) (tasks : List Task) : Prop where
 one : ∀ q∈queues,queue1 docs q
 ord : queues.Pairwise queueLt
 may : ∀ q∈queues,∀ k∈q.list,mayWait tasks q.doc k
 nodup : (waiting queues).Nodup
 all : ∀ k,∀ hk : k < tasks.length,tasks[k].pc = 2→(k : Int)∈waiting queues
theorem queueRun_iff {tasks : List Task} {doc : ByteArray} : ∀ (l all m : List Int),queueRun tasks doc all l = some m ↔ (∀ k∈l,mayWait tasks doc k)∧l.Nodup∧(∀ k∈l,k ∉ all)∧m = all ++ l
 | [],all,m=>by simp [queueRun];exact ⟨fun h=>h.symm,fun h=>h.symm⟩
 | k :: l,all,m=>by
   unfold queueRun;by_cases h : mayWait tasks doc k∧k ∉ all
   ·rw [if_pos h,queueRun_iff l (all ++ [k]) m,List.nodup_cons]
    constructor
    ·rintro ⟨h1,h2,h3,h4⟩
     refine ⟨fun j hj=>?_,⟨fun hm=>h3 k hm (by simp),h2⟩,fun j hj=>?_,by rw [h4];simp⟩
     ·rcases List.mem_cons.1 hj with rfl | hj
      ·exact h.1
      ·exact h1 j hj
     ·rcases List.mem_cons.1 hj with rfl | hj
      ·exact h.2
      ·exact fun hc=>h3 j hj (by simp [hc])
    ·rintro ⟨h1,⟨h2,h3⟩,h4,h5⟩
     refine ⟨fun j hj=>h1 j (List.mem_cons_of_mem _ hj),h3,fun j hj hc=>?_,by rw [h5];simp⟩;rcases List.mem_append.1 hc with hc | hc
     ·exact h4 j (List.mem_cons_of_mem _ hj) hc
     ·simp at hc;subst hc;exact h2 hj
   ·rw [if_neg h]
    simp only [reduceCtorEq,false_iff]
    rintro ⟨h1,-,h3,-⟩
    exact h ⟨h1 k (List.mem_cons_self ..),h3 k (List.mem_cons_self ..)⟩
theorem waiting_suc {l : List Queue} {i : Nat} (h : i < l.length) : waiting (l.take (i + 1)) = waiting (l.take i) ++ l[i].list:=by
 unfold waiting;rw [← List.take_append_getElem h,List.flatMap_append];simp
theorem queuesRun_iff {w : Wld} : ∀ (i : Nat),i≤w.queues.length→∀ all,queuesRun w i = some all ↔ (∀ j,j < i→queueAt w.h w.queues j)∧(∀ q∈w.queues.take i,∀ k∈q.list,mayWait w.tasks q.doc k)∧(waiting (w.queues.take i)).Nodup∧all = waiting (w.queues.take i)
 | 0,_,all=>by simp [queuesRun,waiting];try exact ⟨fun h=>h.symm,fun h=>h.symm⟩
 | i + 1,hi,all=>by
   have hlt : i < w.queues.length:=by omega
   have ih:=queuesRun_iff (w:=w) i (by omega);have hmem : ∀ q,q∈w.queues.take (i + 1) ↔ q∈w.queues.take i∨q = w.queues[i]:=fun q=>by rw [← List.take_append_getElem hlt,List.mem_append];simp
   rw [waiting_suc hlt];by_cases hq : queueAt w.h w.queues i
   rotate_left
   ·rw [queuesRun_bad hlt hq]
    simp only [reduceCtorEq,false_iff]
    rintro ⟨h,-⟩
    exact hq (h i (by omega))
   have hupto : (∀ j,j < i + 1→queueAt w.h w.queues j) ↔ ∀ j,j < i→queueAt w.h w.queues j:=by
    constructor
    ·exact fun h j hj=>h j (by omega)
    ·intro h j hj
     by_cases e : j = i
     ·subst e;exact hq
     ·exact h j (by omega)
   rw [hupto]
   cases e : queuesRun w i with
   | none=>
     have hn:=queuesRun_none e 1;rw [hn];simp only [reduceCtorEq,false_iff]
     rintro ⟨h1,h2,h3,h4⟩
     have : queuesRun w i = some (waiting (w.queues.take i)):=(ih _).2 ⟨h1,fun q hqm=>h2 q ((hmem q).2 (.inl hqm)),(List.nodup_append.1 h3).1,rfl⟩;rw [e] at this
     cases this
   | some m=>
     obtain ⟨h1,h2,h3,h4⟩:=(ih m).1 e;rw [queuesRun_suc hlt e hq,queueRun_iff,h4,List.nodup_append]
     constructor
     ·rintro ⟨g1,g2,g3,g4⟩
      refine ⟨h1,fun q hqm=>?_,⟨h3,g2,fun a ha b hb hab=>?_⟩,g4⟩
      ·rcases (hmem q).1 hqm with hqm | rfl
       ·exact h2 q hqm
       ·exact g1
      ·subst hab;exact g3 a hb ha
     ·rintro ⟨-,g2,⟨g3,g4,g5⟩,g6⟩
      exact ⟨g2 _ ((hmem _).2 (.inr rfl)),g4,fun k hk hc=>g5 k hc k hk rfl,g6⟩
theorem queuesOk_iff {w : Wld} : queuesOk w ↔ QIn w.h.docs w.queues w.tasks:=by
 unfold queuesOk
 constructor
 ·rintro ⟨all,h1,h2⟩
  obtain ⟨g1,g2,g3,g4⟩:=(queuesRun_iff w.queues.length (Nat.le_refl _) all).1 h1;rw [List.take_length] at g2 g3 g4;subst g4;refine ⟨fun q hq=>?_,pw_of_adj (R:=queueLt) (fun _ _ _=>sLt_trans) fun i hi h0=>(g1 i hi hi).1 h0,g2,g3,h2⟩;obtain ⟨i,hi,rfl⟩:=List.getElem_of_mem hq;obtain ⟨-,k2,k3⟩:=g1 i hi hi;exact ⟨k2,docIdx_pos.1 k3⟩
 ·rintro ⟨h1,h2,h3,h4,h5⟩
  refine ⟨waiting w.queues,(queuesRun_iff w.queues.length (Nat.le_refl _) _).2 ⟨fun j _ hj=>?_,?_,?_,?_⟩,h5⟩
  ·obtain ⟨k1,k2⟩:=h1 _ (List.getElem_mem hj)
   exact ⟨fun h0=>adj_of_pw h2 j hj h0,k1,docIdx_pos.2 k2⟩
  ·rw [List.take_length];exact h3
  ·rw [List.take_length];exact h4
  ·rw [List.take_length]
structure WIn (w : Wld) : Prop where
 tasks : ∀ t∈w.tasks,taskOk t
 hub : hubOk w.h
 nlock : 1≤w.locks.length∧w.locks.length≤4
 ntask : w.tasks.length≤10
 step : 0≤w.step∧w.step≤1000000
 steps : stepsIn w.tasks w.step
 locks : locksOk w
 queues : QIn w.h.docs w.queues w.tasks
theorem worldOk_iff {w : Wld} : worldOk w ↔ WIn w:=by
 constructor
 ·rintro ⟨h1,h2,h3,h4,h5,h6,h7,h8⟩
  exact ⟨h1,h2,h3,h4,h5,stepsOk_iff.1 h6,h7,queuesOk_iff.1 h8⟩
 ·rintro ⟨h1,h2,h3,h4,h5,h6,h7,h8⟩
  exact ⟨h1,h2,h3,h4,h5,stepsOk_iff.2 h6,h7,queuesOk_iff.2 h8⟩
theorem queue_docs {w : Wld} (W : WIn w) {i : Nat} (hi : i < w.queues.length) {k : Nat} (hk : k < w.tasks.length) {rest : List Int} (hl : w.queues[i].list = (k : Int) :: rest) : w.tasks[k].pc = 2∧w.tasks[k].c.doc = w.queues[i].doc:=by
 obtain ⟨j,hj,e,h1,h2⟩:=W.queues.may _ (List.getElem_mem hi) (k : Int) (by rw [hl];simp);have : j = k:=by omega
 subst this;exact ⟨h1,h2⟩
open Go.AM Go.RowKit
set_option maxRecDepth 100000
set_option maxHeartbeats 4000000
set_option linter.unusedVariables false
set_option linter.unusedSimpArgs false
theorem step_append_runA {P : Program} {ops : Array Oper} {o : Oper} {a : Act} {w : World} {K : Act→World→Prop} {Q : Exit→Act→World→Prop} {E : Prop}
 (hg : o.guard = none) (d x : Operand) (dT sT : TypeId) (hop : o.op = Op.call { callee:=Callee.builtin Builtin.append,args:=#[d,x],argTypes:=#[dT,sT] })
 (v u : Value) (hd : a.eval d = v) (hx : a.eval x = u) {v' : Value} {w' : World} (hr : (Builtin.append_ #[dT,sT] o.type #[v,u]).run P w = .ok v' w') (hK : K (a.put o.dst v') w') :
 if Region.wanted o (yielded ops a.tmps) = true then Oper.wp P o a w K Q else E:=by
 have hw : Region.wanted o (yielded ops a.tmps) = true:=by simp [Region.wanted,hg]
 rw [if_pos hw];unfold Oper.wp;simp [execOp,hop,resolve,invoke,builtin,hd,hx,hr,Result.andThen];exact hK
theorem run_clearK {P : Program} {w : World} {t ty e : TypeId} {z : Value} (hu : P.underlying t = some (.slice e)) (hv : ∀ w,(zeroValue e).run P w = .ok z w) {b o n c : Nat} {cs : Array Value} {T : TypeId}
 (hb : w.heap[b]? = some (.cells cs T (0,0))) (h1 : ∀ v∈(Builtin.zeroCells z.cells n).toList,v.oneCell' = true) (hfit : o + (Builtin.zeroCells z.cells n).toList.length≤cs.size) (hn : 0 < n) :
 (Builtin.clear_ #[t] ty #[.slice (some ⟨b,o,none⟩) n c]).run P w = .ok (.tuple #[]) (w.setRow b (cs.toList.take o ++ (Builtin.zeroCells z.cells n).toList ++ cs.toList.drop (o + (Builtin.zeroCells z.cells n).toList.length)).toArray):=by
 have hst:=run_storeCells_at (P:=P) b o T (Builtin.zeroCells z.cells n).toList 0 cs w hb (by omega) h1;simp only [Nat.add_zero] at hst;obtain ⟨m,rfl⟩ : ∃ m,n = m + 1:=⟨n - 1,by omega⟩;simp [Builtin.clear_,run_underlying hu,hv];simp [hst]
theorem delQueue_run (w : World) (us : List Value) (i m b o C : Nat) (cs : Array Value) (T : TypeId) (hul : us.length = (i + 1 + m) * 2) (hnC : i + 1 + m≤C) (hCm : C≤maxLen)
 (hb : w.heap[b]? = some (.cells cs T (0,0))) (hfit : o + C * 2≤cs.size) (hcs : ∀ j,j < (i + 1 + m) * 2→cs.getD (o + j) undef = us.getD j undef) (h1 : ∀ v∈us,v.oneCell' = true) :
 Calls Tryz.prog 62 #[.slice (some ⟨b,o,none⟩) (i + 1 + m) C,.int .i64 i,.int .i64 ((i : Int) + 1)] w fun e w'=>
  e = .returned (.slice (some ⟨b,o,none⟩) (i + m) C)∧Placed w w' (some b) b o C (i + m) 2 (us.take (i * 2) ++ us.drop ((i + 1) * 2)):=by
 have u0:=run_underlying Tryz.underlying36;have mixed : Tryz.prog.follows .mixedOrders = true:=by kernel_rfl
 obtain ⟨i0,z0,hi0,hzs,hzb,hz0,hzc,-⟩:=(tt_ok 93 _ tt_93).info;have hzs : i0.size = 2:=hzs;have hC63 : C≤9223372036854775807:=by unfold maxLen at hCm;omega
 have hne : ¬ ((i : Int) = (i : Int) + 1):=by omega
 have hiC : i + 1≤C:=by omega
 have hi0' : i≤C:=by omega
 have htn : ((i : Int) + 1).toNat = i + 1:=by omega
 have hb1 : (0 : Int)≤(i : Int) + 1:=by omega
 have hb2 : (i : Int)≤(i : Int) + 1:=by omega
 have hb3 : ¬ (i = i + 1):=by omega
 have hb4 : i + 1 + m - (i + 1) = m:=by omega
 have hb5 : i≤i + 1 + m:=by omega
 have hb6 : i + 1≤i + 1 + m:=by omega
 have hb7 : (i : Int) + 1≤(i : Int) + 1 + (m : Int):=by omega
 obtain ⟨news,hnews⟩ : ∃ news,news = us.drop ((i + 1) * 2):=⟨_,rfl⟩;have hdl : news.length = m * 2:=by rw [hnews,List.length_drop,hul];omega
 have hnm : ∀ v∈news,v.oneCell' = true:=fun v hv=>h1 v (List.mem_of_mem_drop (hnews ▸ hv))
 have hget : ∀ j,j < m * 2→cs.getD (o + (i + 1) * 2 + j) undef = news.getD j undef:=fun j hj=>by
  rw [hnews,Nat.add_assoc,hcs _ (by omega)];simp only [List.getD_eq_getElem?_getD,List.getElem?_drop]
 obtain ⟨A,hA,hsrc⟩ : ∃ A : Addr,(if C = i + 1 then some (⟨b,o,none⟩ : Addr) else some ⟨b,o + (i + 1) * 2,none⟩) = some A∧∀ j v,news[j]? = some v→w.drew.cell? (A.add j) = some v:=by
  by_cases h : C = i + 1
  ·refine ⟨⟨b,o,none⟩,by simp [h],fun j v hv=>?_⟩
   have h0 : news.length = 0:=by rw [hdl];omega
   rw [List.length_eq_zero_iff.1 h0] at hv;simp at hv
  ·refine ⟨⟨b,o + (i + 1) * 2,none⟩,by simp [h],fun j v hv=>?_⟩
   rw [Addr.add_lit];exact cell_at (w:=w.drew) hb (fun j hj=>hget j (by omega)) (by omega) j v hv
 have hrun:=fun ty=>Go.AM.run_append_room (P:=Tryz.prog) (w:=w.drew) (ty:=ty) (c:=C - (i + 1)) (n:=i) (m:=m) (C:=C) Tryz.underlying36 hi0 hb A news (by rw [hzs];exact hdl) hsrc hnm (by omega) (by rw [hzs];exact hfit)
 rw [hzs] at hrun;obtain ⟨cs1,hcs1⟩ : ∃ c,c = (cs.toList.take (o + i * 2) ++ news ++ cs.toList.drop (o + i * 2 + news.length)).toArray:=⟨_,rfl⟩;obtain ⟨s1,g1⟩:=splice_get cs (o + i * 2) news (by omega);rw [← hcs1] at s1 g1 hrun;have zl : z0.cells.size = 2:=by have:=congrArg List.length hzc;simpa using this
 have hzn : (Builtin.zeroCells z0.cells 1).toList.length = 2:=by rw [Array.length_toList,zeros_size,zl]
 have hz1 : ∀ v∈(Builtin.zeroCells z0.cells 1).toList,v.oneCell' = true:=by
  have hzz : (Builtin.zeroCells z0.cells 1).toList = z0.cells.toList:=by
   simp [Builtin.zeroCells];refine List.ext_getElem (by simp) (fun j h1 h2=>?_);simp at h1;simp [Nat.mod_eq_of_lt (show j < z0.cells.size by omega),show j < z0.cells.size by omega]
  rw [hzz,hzc];intro v hv;simp [zv] at hv;rcases hv with rfl | rfl<;>rfl
 obtain ⟨cs2,hcs2⟩ : ∃ c,c = (cs1.toList.take (o + (i + m) * 2) ++ (Builtin.zeroCells z0.cells 1).toList ++ cs1.toList.drop (o + (i + m) * 2 + (Builtin.zeroCells z0.cells 1).toList.length)).toArray:=⟨_,rfl⟩;obtain ⟨s2,g2⟩:=splice_get cs1 (o + (i + m) * 2) (Builtin.zeroCells z0.cells 1).toList (by omega);rw [← hcs2] at s2 g2
 have hP : Placed w ((w.drew.setRow b cs1).setRow b cs2) (some b) b o C (i + m) 2 (us.take (i * 2) ++ us.drop ((i + 1) * 2)):=by
  refine ⟨⟨cs2,T,setRow_heap _ b cs1 cs2 T (0,0) (setRow_heap w.drew b cs cs1 T (0,0) hb),by omega,fun j hj=>?_⟩,by omega,hCm,by simp,⟨rfl,rfl,rfl⟩,.inr rfl,fun c _ hc=>?_⟩
  ·rw [g2,g1,if_neg (by omega)]
   have hl : (us.take (i * 2)).length = i * 2:=by simp;omega
   by_cases c1 : j < i * 2
   ·rw [if_neg (by omega),hcs j (by omega)]
    simp only [List.getD_eq_getElem?_getD];rw [List.getElem?_append_left (by omega),List.getElem?_take,if_pos c1]
   ·rw [if_pos (by omega),hnews]
    simp only [List.getD_eq_getElem?_getD];rw [List.getElem?_append_right (by omega),hl]
    congr 2<;>omega
  ·rw [setRow_other _ b c _ hc,setRow_other _ b c _ hc];rfl
 obtain ⟨W1,hW1⟩ : ∃ W1,W1 = w.drew.setRow b cs1:=⟨_,rfl⟩;have hb1' : W1.heap[b]? = some (.cells cs1 T (0,0)):=by rw [hW1];exact setRow_heap w.drew b cs cs1 T (0,0) hb
 have hzv : ∀ w,(zeroValue 93).run Tryz.prog w = .ok z0 w:=fun w=>by simp [zeroValue,typeInfo,hi0,hz0]
 have hcl:=fun ty=>run_clearK (P:=Tryz.prog) (w:=W1) (ty:=ty) (b:=b) (o:=o + (i + m) * 2) (n:=1) (c:=C - (i + m)) Tryz.underlying36 hzv hb1' hz1 (by rw [hzn,s1];omega) (by omega)
 rw [← hcs2] at hcl;have hc1 : ¬ (C = i + m):=by omega
 have hc2 : i + 1 + m - (i + m) = 1:=by omega
 have hc3 : i + m≤i + 1 + m:=by omega
 have hc4 : i + m≤C:=by omega
 have hc5 : (i : Int) + m≤(i : Int) + 1 + m:=by omega
 have hc6 : (0 : Int)≤(i : Int) + m:=by omega
 have hc7 : (0 : Int)≤(i : Int) + 1 + m:=by omega
 have hc8 : ((i : Int) + m).toNat = i + m:=by omega
 have hc9 : ((i : Int) + 1 + m).toNat = i + 1 + m:=by omega
 rw [← hW1] at hrun hP
 clear hW1 hcs1 hcs2 g1 g2 hb1' hzv hget hsrc
 go_enter Tryz.func62,Tryz.ntmps62
 go_wp2_with fail
 go_region_law_o (refine step_append_runA rfl (.tmp 22) (.tmp 25) 36 36 rfl (.slice (some ⟨b,o,none⟩) i C) (.slice (some A) m (C - (i + 1))) (by simp [Act.eval,Act.put]) (by simp [Act.eval,Act.put,hA]) (hrun _) ?_)
 go_wp2
 go_ret
 exact ⟨rfl,hP⟩
theorem delQueue_c : DeleteC Tryz.prog 62 2:=by
 refine ⟨⟨_,Tryz.func62,by kernel_rfl,rfl⟩,fun w us n i s ob hul hi hs=>?_⟩;rcases hs with ⟨h0,-⟩ | ⟨b,o,C,cs,T,rfl,rfl,hb,hnC,hCm,hfit,hcs,h1⟩
 ·omega
 obtain ⟨m,rfl⟩ : ∃ m,n = i + 1 + m:=⟨n - (i + 1),by omega⟩;refine (delQueue_run w us i m b o C cs T hul hnC hCm hb hfit hcs h1).mono ?_
 rintro e w' ⟨rfl,hp⟩
 have e1 : i + 1 + m - 1 = i + m:=by omega
 rw [e1];exact ⟨b,o,C,rfl,rfl,hp⟩
set_option maxRecDepth 20000
set_option maxHeartbeats 6400000
theorem DrawT.hushed {E : Env} {id : Nat} {ops : List Oper} {Q : Exit→ASt→Prop} {n kb : Nat} {t : List (Nat × AV)} {h : AH} (h' : DrawT E id ops Q ⟨n,kb,AM.hush t,h⟩) : DrawT E id ops Q ⟨n,kb,t,h⟩:=fun a w hR=>h' a w hR.hush
theorem specServe_i (w : Wld) (hl : nWorld w≤2 ^ 30) (name : ByteArray) : PureC Tryz.prog 12 [.agg w.row,.c (.v (.string name))] (.tup [.agg (fServe w name).1.res,.c (.v (.bool (fServe w name).2)) 1]):=by
 refine PureC.introL tt_ok Tryz.func12 (by kernel_rfl) rfl rfl rfl (Nat.le_of_ble_eq_true rfl) rfl (fun w0 base us hrd=>?_);have hno:=@fServe_no w name;have hwo:=specWorldOk_i w (by omega);have hcp:=l14Copy_c w (by omega);obtain ⟨nh,n2,n3,n4⟩:=nWorld_parts hl;have hle:=nL_len n4;have hlq:=nL_len n3;simp [Wld.row] at hrd;obtain ⟨r1,r2,r3,r4,r5⟩:=hrd;simp [Wld.row];intro b2 b4;refine ACall.pure (l15QueueG_c (w.h.docs.map Doc.row) (w.h.subs.map Sub.row) (w.locks.map intR) (w.tasks.map Task.row) w.h.shut w.h.last w.step (qRows_map w.queues) (by omega) name) (by simp [r1,r2,r3,r4,r5]) ?_;simp;refine ACall.pure hwo (by simp [Wld.row,r1,r2,r3,r4,r5]) ?_;by_cases c1 : worldOk w
 rotate_left
 ·simp [dc_neg c1,hno (fun h=>c1 h.1),Wld.res,Wld.zero,Hub.zero]
 have hhb:=(hubOk_n c1.2.1).1;simp [c1];by_cases c2 : w.step = 1000000
 ·simp [c2,hno (fun h=>h.2.1 c2),Wld.res,Wld.zero,Hub.zero]
 simp [c2];rcases queueIdx_cases w.queues name with ⟨i,hi,eq,hd⟩ | eq;rotate_left
 ·simp [eq,hno (fun h=>by have:=h.2.2;omega),Wld.res,Wld.zero,Hub.zero]
 obtain ⟨k,hk,rest,hql,hrl⟩:=queue_head c1 hi;have hi0 : ¬ (i : Int) < 0:=by omega
 rw [fServe_at c1 c2 hi eq hk hql];obtain ⟨q,hq⟩ : ∃ q,w.queues[i] = q:=⟨_,rfl⟩;rw [hq] at hql ⊢;simp [eq,hi0];refine ACall.pure hcp (by simp [Wld.row,r1,r2,r3,r4,r5]) ?_;have htk:=(c1.1 _ (List.getElem_mem hk));obtain ⟨t,ht⟩ : ∃ t,w.tasks[k] = t:=⟨_,rfl⟩;rw [ht] at htk ⊢;have hm:=fun g=>mod_row (f:=Task.row) hk ht g
 have ew : Go.IntKind.i64.wrap (w.step + 1) = w.step + 1:=Go.IntWalk.i64_in _ (by have:=c1.2.2.2.2.1;omega);have ei : Go.IntKind.i64.wrap ((i : Int) + 1) = ((i + 1 : Nat) : Int):=i64_suc (by omega);have hk2:=(queue_docs (worldOk_iff.1 c1) hi hk (hq.symm ▸ hql)).1;rw [ht] at hk2;have hdo:=specDo2_i w.h (by omega) t.c (by have:=callOk_n htk.1;omega) (htk.2.2.2.2.1 hk2);have hlen : q.list.length = rest.length + 1:=by rw [hql];rfl
 simp [Wld.res,hi,hq,Queue.row,hql];intro H1 H2 H3 H4 H5 b7;have hrow : ∀ d,setC (w.queues.map Queue.row) i 1 d = (w.queues.map Queue.row).set i [.v (.string q.doc),d]:=fun d=>by have:=mod_row (f:=Queue.row) hi hq (fun row=>row.set 1 d);exact this
 refine DrawT.hushed ?_;simp;refine DrawT.open (fun _ h=>h) (k:=437) (i:=i) (j:=1) (k':=60000) (sz':=1) (sz:=2) (H:=H4) (rows:=w.queues.map Queue.row) (srows:=q.list.map intR) (row:=q.row) (by simp) (by simp [hi,hq]) rfl (by simp) (by decide) (by simp [intR]) (by simp) (fun G=>?_);have hpos : 0 < q.list.length:=by omega
 refine DrawT.introS eok mix [0,1,2,3,4,5,6,7,8,9,10,11] [12] (.child 12 [true,false,true,true,true,true,true,true,true,true,true,true] [false,true,false,false,false,false,false,false,false,false,false,false] (.leaf [false,true,false,false,false,false,false,false,false,false,false,false]) .stop) (by kernel_rfl) ?_;simp [hi,hrow,hlen]
 try intros
 refine ⟨by omega,?_⟩;have hct : cut (q.list.map intR) 1 rest.length = rest.map intR:=by rw [hql,cut_eq,List.map_cons,List.drop_one,List.tail_cons];exact List.take_of_length_le (by simp)
 have hA : ∀ Y,cut ((w.queues.map Queue.row).set i Y) 0 i = (w.queues.take i).map Queue.row:=fun Y=>by rw [cut_eq,List.drop_zero,List.take_set,List.set_eq_of_length_le (by simp;omega),List.map_take]
 have hB : ∀ Y,cut ((w.queues.map Queue.row).set i Y) (i + 1) (w.queues.length - (i + 1)) = (w.queues.drop (i + 1)).map Queue.row:=fun Y=>by
  rw [cut_eq,List.drop_set_of_lt (by omega),List.map_drop];exact List.take_of_length_le (by simp)
 have hmin : min i w.queues.length = i:=by omega
 generalize hR : fDo w.h t.c = R at hdo;obtain ⟨h',a'⟩:=R;by_cases hz : rest = []
 ·subst hz
  simp at hct;simp [hct,ei,modify_set,hA,hB,hmin];intro b56;refine ⟨by omega,by omega,fun H=>⟨by omega,by omega,by omega,by omega,fun H6=>?_⟩⟩;refine ACall.inline tt_ok Tryz.func55 (by kernel_rfl) rfl rfl rfl (Nat.le_of_ble_eq_true rfl) 40000 (fun w1 F=>?_)
  refine DrawT.cutS (fun x : (Hd × Hd × Hd × Hd) × Nat × Nat=>[(4,.p 40064 x.2.1 0),(5,.p 40080 x.2.2 0)]) (fun x=>[(40064,.vars x.2.1 35 [.v (.bool h'.shut),.sl 40305 x.1.1 5 0 h'.docs.length,.sl 40306 x.1.2.1 6 0 h'.subs.length,.v (.int .i64 h'.last)]),(40080,.vars x.2.2 74 [.v (.int .i64 a'.code),.v (.int .i64 a'.rev),.sl 40310 x.1.2.2.1 1 0 a'.text.length,.sl 40311 x.1.2.2.2 3 0 a'.list.length]),(40305,.rows x.1.1 5 (h'.docs.map Doc.row) true),(40306,.rows x.1.2.1 6 (h'.subs.map Sub.row) true),(40310,.rows x.1.2.2.1 1 (a'.text.map intR) true),(40311,.rows x.1.2.2.2 3 (a'.list.map Entry.row) true)]) [0,1] ?_ ?_
  ·refine DrawT.introS eok mix [0,1,2,3,4,5,6,7,8,9,10,11] [12,13,14,15,16,17,18,19] (.child 12 [true,false,false,false,false,false,false,false,true,false,false,false] [false,true,true,true,true,true,true,true,false,true,true,true] (.child 13 [false,false,false,false,false,false,false,false,false,false,false,false] [false,true,true,true,true,true,true,true,false,true,true,true] (.child 14 [false,false,false,false,false,false,false,false,false,false,false,false] [false,true,true,true,true,true,true,true,false,true,true,true] (.child 15 [false,false,false,false,false,false,false,false,false,false,false,false] [false,true,true,true,true,true,true,true,false,true,true,true] (.child 16 [false,false,false,false,false,false,false,false,false,false,false,false] [false,true,true,true,true,true,true,true,false,true,true,true] (.child 17 [false,false,false,false,false,false,false,false,false,false,false,false] [false,true,true,true,true,true,true,true,false,true,true,true] (.child 18 [false,true,true,true,true,true,true,true,false,true,true,true] [false,false,false,false,false,false,false,false,false,false,false,false] (.child 19 [false,false,false,false,false,false,false,false,false,false,false,false] [false,false,false,false,false,false,false,false,false,false,false,false] (.leaf [false,false,false,false,false,false,false,false,false,false,false,false]) .stop) .stop) .stop) (.child 17 [false,false,false,false,false,false,false,false,false,false,false,false] [false,true,true,true,true,true,true,true,false,true,true,true] (.child 16 [false,false,false,false,false,false,false,false,false,false,false,false] [false,true,true,true,true,true,true,true,false,true,true,true] (.child 18 [false,true,true,true,true,true,true,true,false,true,true,true] [false,false,false,false,false,false,false,false,false,false,false,false] (.child 19 [false,false,false,false,false,false,false,false,false,false,false,false] [false,false,false,false,false,false,false,false,false,false,false,false] (.leaf [false,false,false,false,false,false,false,false,false,false,false,false]) .stop) .stop) .stop) .stop)) .stop) .stop) .stop) (.child 16 [false,false,false,false,false,false,false,false,false,false,false,false] [true,true,true,true,true,true,true,true,true,true,true,true] (.child 12 [true,false,false,false,false,false,false,false,true,false,false,false] [false,true,true,true,true,true,true,true,false,true,true,true] (.child 13 [false,false,false,false,false,false,false,false,false,false,false,false] [false,true,true,true,true,true,true,true,false,true,true,true] (.child 14 [false,false,false,false,false,false,false,false,false,false,false,false] [false,true,true,true,true,true,true,true,false,true,true,true] (.child 15 [false,false,false,false,false,false,false,false,false,false,false,false] [false,true,true,true,true,true,true,true,false,true,true,true] (.child 17 [false,false,false,false,false,false,false,false,false,false,false,false] [false,true,true,true,true,true,true,true,false,true,true,true] (.child 18 [false,true,true,true,true,true,true,true,false,true,true,true] [false,false,false,false,false,false,false,false,false,false,false,false] (.child 19 [false,false,false,false,false,false,false,false,false,false,false,false] [false,false,false,false,false,false,false,false,false,false,false,false] (.leaf [false,false,false,false,false,false,false,false,false,false,false,false]) .stop) .stop) .stop) .stop) .stop) .stop) (.child 17 [false,false,false,false,false,false,false,false,false,false,false,false] [true,true,true,true,true,true,true,true,true,true,true,true] (.child 12 [true,false,false,false,false,false,false,false,true,false,false,false] [false,true,true,true,true,true,true,true,false,true,true,true] (.child 13 [false,false,false,false,false,false,false,false,false,false,false,false] [false,true,true,true,true,true,true,true,false,true,true,true] (.child 14 [false,false,false,false,false,false,false,false,false,false,false,false] [false,true,true,true,true,true,true,true,false,true,true,true] (.child 15 [false,false,false,false,false,false,false,false,false,false,false,false] [false,true,true,true,true,true,true,true,false,true,true,true] (.child 18 [false,true,true,true,true,true,true,true,false,true,true,true] [false,false,false,false,false,false,false,false,false,false,false,false] (.child 19 [false,false,false,false,false,false,false,false,false,false,false,false] [false,false,false,false,false,false,false,false,false,false,false,false] (.leaf [false,false,false,false,false,false,false,false,false,false,false,false]) .stop) .stop) .stop) .stop) .stop) .stop) .stop)) (.child 17 [false,false,false,false,false,false,false,false,false,false,false,false] [true,true,true,true,true,true,true,true,true,true,true,true] (.child 12 [true,false,false,false,false,false,false,false,true,false,false,false] [false,true,true,true,true,true,true,true,false,true,true,true] (.child 13 [false,false,false,false,false,false,false,false,false,false,false,false] [false,true,true,true,true,true,true,true,false,true,true,true] (.child 14 [false,false,false,false,false,false,false,false,false,false,false,false] [false,true,true,true,true,true,true,true,false,true,true,true] (.child 15 [false,false,false,false,false,false,false,false,false,false,false,false] [false,true,true,true,true,true,true,true,false,true,true,true] (.child 16 [false,false,false,false,false,false,false,false,false,false,false,false] [false,true,true,true,true,true,true,true,false,true,true,true] (.child 18 [false,true,true,true,true,true,true,true,false,true,true,true] [false,false,false,false,false,false,false,false,false,false,false,false] (.child 19 [false,false,false,false,false,false,false,false,false,false,false,false] [false,false,false,false,false,false,false,false,false,false,false,false] (.leaf [false,false,false,false,false,false,false,false,false,false,false,false]) .stop) .stop) .stop) .stop) .stop) .stop) (.child 16 [false,false,false,false,false,false,false,false,false,false,false,false] [true,true,true,true,true,true,true,true,true,true,true,true] (.child 12 [true,false,false,false,false,false,false,false,true,false,false,false] [false,true,true,true,true,true,true,true,false,true,true,true] (.child 13 [false,false,false,false,false,false,false,false,false,false,false,false] [false,true,true,true,true,true,true,true,false,true,true,true] (.child 14 [false,false,false,false,false,false,false,false,false,false,false,false] [false,true,true,true,true,true,true,true,false,true,true,true] (.child 15 [false,false,false,false,false,false,false,false,false,false,false,false] [false,true,true,true,true,true,true,true,false,true,true,true] (.child 18 [false,true,true,true,true,true,true,true,false,true,true,true] [false,false,false,false,false,false,false,false,false,false,false,false] (.child 19 [false,false,false,false,false,false,false,false,false,false,false,false] [false,false,false,false,false,false,false,false,false,false,false,false] (.leaf [false,false,false,false,false,false,false,false,false,false,false,false]) .stop) .stop) .stop) .stop) .stop) .stop) .stop)) .stop))) (by kernel_rfl) ?_
   simp [hk,ht,Task.row]
   try intros
   rw [Tr_child];refine ⟨?_,?_⟩
   ·skip
    simp [hk]
    try intros
    refine ACall.pure (hdo) (by simp [Hub.row,Call.row]) ?_;simp [Hub.res,Answer.res]
    try intros
    rw [Tr_child];refine ⟨?_,?_⟩
    ·skip
     simp [hk]
     try intros
     exact ⟨_,_,_,_,_,_,⟨rfl,rfl⟩,⟨rfl,rfl,rfl⟩,⟨rfl,rfl,rfl⟩,rfl,rfl,rfl,rfl⟩
    ·skip
     simp [hk]
     try intros
     exact ⟨_,_,_,_,_,_,⟨rfl,rfl⟩,⟨rfl,rfl,rfl⟩,⟨rfl,rfl,rfl⟩,rfl,rfl,rfl,rfl⟩
   ·skip
    rw [Tr_child];refine ⟨?_,?_⟩
    ·skip
     simp [hk,ht,Task.row]
     try intros
     rw [Tr_child];refine ⟨?_,?_⟩
     ·skip
      simp [hk]
      try intros
      refine ACall.pure (hdo) (by simp [Hub.row,Call.row]) ?_;simp [Hub.res,Answer.res]
      try intros
      exact ⟨_,_,_,_,_,_,⟨rfl,rfl⟩,⟨rfl,rfl,rfl⟩,⟨rfl,rfl,rfl⟩,rfl,rfl,rfl,rfl⟩
     ·skip
      simp [hk,ht,Task.row]
      try intros
      refine ACall.pure (hdo) (by simp [Hub.row,Call.row]) ?_;simp [Hub.res,Answer.res]
      try intros
      exact ⟨_,_,_,_,_,_,⟨rfl,rfl⟩,⟨rfl,rfl,rfl⟩,⟨rfl,rfl,rfl⟩,rfl,rfl,rfl,rfl⟩
    ·skip
     simp [hk,ht,Task.row]
     try intros
     rw [Tr_child];refine ⟨?_,?_⟩
     ·skip
      simp [hk]
      try intros
      refine ACall.pure (hdo) (by simp [Hub.row,Call.row]) ?_;simp [Hub.res,Answer.res]
      try intros
      exact ⟨_,_,_,_,_,_,⟨rfl,rfl⟩,⟨rfl,rfl,rfl⟩,⟨rfl,rfl,rfl⟩,rfl,rfl,rfl,rfl⟩
     ·skip
      simp [hk,ht,Task.row]
      try intros
      refine ACall.pure (hdo) (by simp [Hub.row,Call.row]) ?_;simp [Hub.res,Answer.res]
      try intros
      exact ⟨_,_,_,_,_,_,⟨rfl,rfl⟩,⟨rfl,rfl,rfl⟩,⟨rfl,rfl,rfl⟩,rfl,rfl,rfl,rfl⟩
  rintro ⟨⟨K1,K2,K3,K4⟩,e1,e2⟩
  simp;refine DrawT.introS eok mix [0,1,2,3,4,5,6,7] [8] (.child 8 [true,false,true,true,true,true,true,true] [false,true,false,false,false,false,false,false] (.leaf [false,true,false,false,false,false,false,false]) .stop) (by kernel_rfl) ?_;simp [hk,Task.row,hm]
  try intros
  refine DrawT.introS eok mix [0,1,2,3,4,5,6,7,8,9,10] [11] (.child 11 [true,false,true,true,true,true,true,true,true,true,true] [false,true,false,false,false,false,false,false,false,false,false] (.leaf [false,true,false,false,false,false,false,false,false,false,false]) .stop) (by kernel_rfl) ?_;simp [hk,modify_set]
  try intros
  simp [ew,stepped,fExec,hR,Task.row,shifted,List.eraseIdx_eq_take_drop_succ,hmin];exact ⟨fun r hr=>hr.elim (fun h=>queue2 (List.mem_of_mem_take h)) (fun h=>queue2 (List.mem_of_mem_drop h)),fun r hr=>rowT15 rfl r hr⟩
 ·simp [hct,hz]
  refine ACall.inline tt_ok Tryz.func55 (by kernel_rfl) rfl rfl rfl (Nat.le_of_ble_eq_true rfl) 20000 (fun w1 F=>?_);refine DrawT.cutS (fun x : (Hd × Hd × Hd × Hd) × Nat × Nat=>[(4,.p 20064 x.2.1 0),(5,.p 20080 x.2.2 0)]) (fun x=>[(20064,.vars x.2.1 35 [.v (.bool h'.shut),.sl 20305 x.1.1 5 0 h'.docs.length,.sl 20306 x.1.2.1 6 0 h'.subs.length,.v (.int .i64 h'.last)]),(20080,.vars x.2.2 74 [.v (.int .i64 a'.code),.v (.int .i64 a'.rev),.sl 20310 x.1.2.2.1 1 0 a'.text.length,.sl 20311 x.1.2.2.2 3 0 a'.list.length]),(20305,.rows x.1.1 5 (h'.docs.map Doc.row) true),(20306,.rows x.1.2.1 6 (h'.subs.map Sub.row) true),(20310,.rows x.1.2.2.1 1 (a'.text.map intR) true),(20311,.rows x.1.2.2.2 3 (a'.list.map Entry.row) true)]) [0,1] ?_ ?_
  ·refine DrawT.introS eok mix [0,1,2,3,4,5,6,7,8,9,10,11] [12,13,14,15,16,17,18,19] (.child 12 [true,false,false,false,false,false,false,false,true,false,false,false] [false,true,true,true,true,true,true,true,false,true,true,true] (.child 13 [false,false,false,false,false,false,false,false,false,false,false,false] [false,true,true,true,true,true,true,true,false,true,true,true] (.child 14 [false,false,false,false,false,false,false,false,false,false,false,false] [false,true,true,true,true,true,true,true,false,true,true,true] (.child 15 [false,false,false,false,false,false,false,false,false,false,false,false] [false,true,true,true,true,true,true,true,false,true,true,true] (.child 16 [false,false,false,false,false,false,false,false,false,false,false,false] [false,true,true,true,true,true,true,true,false,true,true,true] (.child 17 [false,false,false,false,false,false,false,false,false,false,false,false] [false,true,true,true,true,true,true,true,false,true,true,true] (.child 18 [false,true,true,true,true,true,true,true,false,true,true,true] [false,false,false,false,false,false,false,false,false,false,false,false] (.child 19 [false,false,false,false,false,false,false,false,false,false,false,false] [false,false,false,false,false,false,false,false,false,false,false,false] (.leaf [false,false,false,false,false,false,false,false,false,false,false,false]) .stop) .stop) .stop) (.child 17 [false,false,false,false,false,false,false,false,false,false,false,false] [false,true,true,true,true,true,true,true,false,true,true,true] (.child 16 [false,false,false,false,false,false,false,false,false,false,false,false] [false,true,true,true,true,true,true,true,false,true,true,true] (.child 18 [false,true,true,true,true,true,true,true,false,true,true,true] [false,false,false,false,false,false,false,false,false,false,false,false] (.child 19 [false,false,false,false,false,false,false,false,false,false,false,false] [false,false,false,false,false,false,false,false,false,false,false,false] (.leaf [false,false,false,false,false,false,false,false,false,false,false,false]) .stop) .stop) .stop) .stop)) .stop) .stop) .stop) (.child 16 [false,false,false,false,false,false,false,false,false,false,false,false] [true,true,true,true,true,true,true,true,true,true,true,true] (.child 12 [true,false,false,false,false,false,false,false,true,false,false,false] [false,true,true,true,true,true,true,true,false,true,true,true] (.child 13 [false,false,false,false,false,false,false,false,false,false,false,false] [false,true,true,true,true,true,true,true,false,true,true,true] (.child 14 [false,false,false,false,false,false,false,false,false,false,false,false] [false,true,true,true,true,true,true,true,false,true,true,true] (.child 15 [false,false,false,false,false,false,false,false,false,false,false,false] [false,true,true,true,true,true,true,true,false,true,true,true] (.child 17 [false,false,false,false,false,false,false,false,false,false,false,false] [false,true,true,true,true,true,true,true,false,true,true,true] (.child 18 [false,true,true,true,true,true,true,true,false,true,true,true] [false,false,false,false,false,false,false,false,false,false,false,false] (.child 19 [false,false,false,false,false,false,false,false,false,false,false,false] [false,false,false,false,false,false,false,false,false,false,false,false] (.leaf [false,false,false,false,false,false,false,false,false,false,false,false]) .stop) .stop) .stop) .stop) .stop) .stop) (.child 17 [false,false,false,false,false,false,false,false,false,false,false,false] [true,true,true,true,true,true,true,true,true,true,true,true] (.child 12 [true,false,false,false,false,false,false,false,true,false,false,false] [false,true,true,true,true,true,true,true,false,true,true,true] (.child 13 [false,false,false,false,false,false,false,false,false,false,false,false] [false,true,true,true,true,true,true,true,false,true,true,true] (.child 14 [false,false,false,false,false,false,false,false,false,false,false,false] [false,true,true,true,true,true,true,true,false,true,true,true] (.child 15 [false,false,false,false,false,false,false,false,false,false,false,false] [false,true,true,true,true,true,true,true,false,true,true,true] (.child 18 [false,true,true,true,true,true,true,true,false,true,true,true] [false,false,false,false,false,false,false,false,false,false,false,false] (.child 19 [false,false,false,false,false,false,false,false,false,false,false,false] [false,false,false,false,false,false,false,false,false,false,false,false] (.leaf [false,false,false,false,false,false,false,false,false,false,false,false]) .stop) .stop) .stop) .stop) .stop) .stop) .stop)) (.child 17 [false,false,false,false,false,false,false,false,false,false,false,false] [true,true,true,true,true,true,true,true,true,true,true,true] (.child 12 [true,false,false,false,false,false,false,false,true,false,false,false] [false,true,true,true,true,true,true,true,false,true,true,true] (.child 13 [false,false,false,false,false,false,false,false,false,false,false,false] [false,true,true,true,true,true,true,true,false,true,true,true] (.child 14 [false,false,false,false,false,false,false,false,false,false,false,false] [false,true,true,true,true,true,true,true,false,true,true,true] (.child 15 [false,false,false,false,false,false,false,false,false,false,false,false] [false,true,true,true,true,true,true,true,false,true,true,true] (.child 16 [false,false,false,false,false,false,false,false,false,false,false,false] [false,true,true,true,true,true,true,true,false,true,true,true] (.child 18 [false,true,true,true,true,true,true,true,false,true,true,true] [false,false,false,false,false,false,false,false,false,false,false,false] (.child 19 [false,false,false,false,false,false,false,false,false,false,false,false] [false,false,false,false,false,false,false,false,false,false,false,false] (.leaf [false,false,false,false,false,false,false,false,false,false,false,false]) .stop) .stop) .stop) .stop) .stop) .stop) (.child 16 [false,false,false,false,false,false,false,false,false,false,false,false] [true,true,true,true,true,true,true,true,true,true,true,true] (.child 12 [true,false,false,false,false,false,false,false,true,false,false,false] [false,true,true,true,true,true,true,true,false,true,true,true] (.child 13 [false,false,false,false,false,false,false,false,false,false,false,false] [false,true,true,true,true,true,true,true,false,true,true,true] (.child 14 [false,false,false,false,false,false,false,false,false,false,false,false] [false,true,true,true,true,true,true,true,false,true,true,true] (.child 15 [false,false,false,false,false,false,false,false,false,false,false,false] [false,true,true,true,true,true,true,true,false,true,true,true] (.child 18 [false,true,true,true,true,true,true,true,false,true,true,true] [false,false,false,false,false,false,false,false,false,false,false,false] (.child 19 [false,false,false,false,false,false,false,false,false,false,false,false] [false,false,false,false,false,false,false,false,false,false,false,false] (.leaf [false,false,false,false,false,false,false,false,false,false,false,false]) .stop) .stop) .stop) .stop) .stop) .stop) .stop)) .stop))) (by kernel_rfl) ?_
   simp [hk,ht,Task.row]
   try intros
   rw [Tr_child];refine ⟨?_,?_⟩
   ·skip
    simp [hk]
    try intros
    refine ACall.pure (hdo) (by simp [Hub.row,Call.row]) ?_;simp [Hub.res,Answer.res]
    try intros
    rw [Tr_child];refine ⟨?_,?_⟩
    ·skip
     simp [hk]
     try intros
     exact ⟨_,_,_,_,_,_,⟨rfl,rfl⟩,⟨rfl,rfl,rfl⟩,⟨rfl,rfl,rfl⟩,rfl,rfl,rfl,rfl⟩
    ·skip
     simp [hk]
     try intros
     exact ⟨_,_,_,_,_,_,⟨rfl,rfl⟩,⟨rfl,rfl,rfl⟩,⟨rfl,rfl,rfl⟩,rfl,rfl,rfl,rfl⟩
   ·skip
    rw [Tr_child];refine ⟨?_,?_⟩
    ·skip
     simp [hk,ht,Task.row]
     try intros
     rw [Tr_child];refine ⟨?_,?_⟩
     ·skip
      simp [hk]
      try intros
      refine ACall.pure (hdo) (by simp [Hub.row,Call.row]) ?_;simp [Hub.res,Answer.res]
      try intros
      exact ⟨_,_,_,_,_,_,⟨rfl,rfl⟩,⟨rfl,rfl,rfl⟩,⟨rfl,rfl,rfl⟩,rfl,rfl,rfl,rfl⟩
     ·skip
      simp [hk,ht,Task.row]
      try intros
      refine ACall.pure (hdo) (by simp [Hub.row,Call.row]) ?_;simp [Hub.res,Answer.res]
      try intros
      exact ⟨_,_,_,_,_,_,⟨rfl,rfl⟩,⟨rfl,rfl,rfl⟩,⟨rfl,rfl,rfl⟩,rfl,rfl,rfl,rfl⟩
    ·skip
     simp [hk,ht,Task.row]
     try intros
     rw [Tr_child];refine ⟨?_,?_⟩
     ·skip
      simp [hk]
      try intros
      refine ACall.pure (hdo) (by simp [Hub.row,Call.row]) ?_;simp [Hub.res,Answer.res]
      try intros
      exact ⟨_,_,_,_,_,_,⟨rfl,rfl⟩,⟨rfl,rfl,rfl⟩,⟨rfl,rfl,rfl⟩,rfl,rfl,rfl,rfl⟩
     ·skip
      simp [hk,ht,Task.row]
      try intros
      refine ACall.pure (hdo) (by simp [Hub.row,Call.row]) ?_;simp [Hub.res,Answer.res]
      try intros
      exact ⟨_,_,_,_,_,_,⟨rfl,rfl⟩,⟨rfl,rfl,rfl⟩,⟨rfl,rfl,rfl⟩,rfl,rfl,rfl,rfl⟩
  rintro ⟨⟨K1,K2,K3,K4⟩,e1,e2⟩
  simp;refine DrawT.introS eok mix [0,1,2,3,4,5,6,7] [8] (.child 8 [true,false,true,true,true,true,true,true] [false,true,false,false,false,false,false,false] (.leaf [false,true,false,false,false,false,false,false]) .stop) (by kernel_rfl) ?_;simp [hk,Task.row,hm]
  try intros
  refine DrawT.introS eok mix [0,1,2,3,4,5,6,7,8,9,10] [11] (.child 11 [true,false,true,true,true,true,true,true,true,true,true] [false,true,false,false,false,false,false,false,false,false,false] (.leaf [false,true,false,false,false,false,false,false,false,false,false]) .stop) (by kernel_rfl) ?_;simp [hk,modify_set]
  try intros
  simp [ew,stepped,fExec,hR,Task.row,shifted,hz];exact ⟨fun r hr=>rowQ2 rfl r hr,rfl,fun r hr=>rowT15 rfl r hr⟩
theorem DrawT.weak {E : Env} {id : Nat} {ops : List Oper} {Q : Exit→ASt→Prop} {st : ASt} (st2 : ASt) (hw : Weak st st2) (h2 : DrawT E id ops Q st2) : DrawT E id ops Q st:=DrawT.ent fun _a _w hR=>⟨st2,h2,hw.rep hR⟩
theorem implServe_i (w : Wld) (hl : nWorld w≤2 ^ 30) (name : ByteArray) : PureC Tryz.prog 14 [.agg w.row,.c (.v (.string name))] (.tup [.agg (fServe w name).1.res,.c (.v (.bool (fServe w name).2)) 1]):=by
 refine PureC.intro' tt_ok Tryz.func14 (by kernel_rfl) rfl rfl rfl (Nat.le_of_ble_eq_true rfl) (fun w0 base=>?_);have hno:=@fServe_no w name;have hwo:=implWorldOk_i w (by omega);have hcp:=copyWorld_c w (by omega);obtain ⟨nh,n2,n3,n4⟩:=nWorld_parts hl;have hle:=nL_len n4;have hlq:=nL_len n3;simp [Wld.row];intro b2 b3 b4;refine ACall.inline tt_ok Tryz.func58 (by kernel_rfl) rfl rfl rfl (Nat.le_of_ble_eq_true rfl) 20000 (fun w1 F=>?_);simp
 refine LoopT.intro eok (fun i : Nat=>i≤w.queues.length∧∀ j,j < i→∀ hj : j < w.queues.length,¬ w.queues[j].doc = name) (fun i=>⟨19,20000,[(8,.v (.int .i64 i)),(7,.v (.int .i64 w.queues.length)),(0,.ro (w.queues.map Queue.row)),(1,.clo 59 [.p 48 b3 0])],
  [(48,.vars b3 9 [.v (.string name)]),(64,.vars b4 39 [.v (.bool false),.nil,.nil,.v (.int .i64 0),.nil,.nil,.nil,.v (.int .i64 0)]),
   (32,.vars b2 39 [.v (.bool w.h.shut),.ro (w.h.docs.map Doc.row),.ro (w.h.subs.map Sub.row),.v (.int .i64 w.h.last),.ro (w.locks.map intR),.ro (w.queues.map Queue.row),.ro (w.tasks.map Task.row),.v (.int .i64 w.step)])]⟩) (fun i=>w.queues.length - i) 0 (by simp) (by simp) (fun i hi=>?_)
 by_cases hlt : i < w.queues.length
 rotate_left
 ·have eq : queueIdx w.queues name = -1:=fIdx_none (fun j hj=>hi.2 j (by omega) hj)
  simp [hlt,hno (fun h=>by have:=h.2.2;omega),Wld.res,Wld.zero,Hub.zero]
 simp [hlt];refine ACall.inline tt_ok Tryz.func59 (by kernel_rfl) rfl rfl rfl (Nat.le_of_ble_eq_true rfl) 40000 (fun w2 F2=>?_);simp [Queue.row];intro b;by_cases c : w.queues[i].doc = name
 rotate_left
 ·simp [c]
  exact ⟨i + 1,⟨by omega,fun j hj hjl=>by
   by_cases hji : j = i
   ·subst hji;exact c
   ·exact hi.2 j (by omega) hjl⟩,by omega,i64_suc (by omega)⟩
 have eq : queueIdx w.queues name = i:=fIdx_at hlt c hi.2;have hi0 : ¬ (i : Int) < 0:=by omega
 simp [c,hi0];refine ACall.pure hwo (by simp [Wld.row]) ?_;by_cases c1 : worldOk w
 rotate_left
 ·simp [dc_neg c1,hno (fun h=>c1 h.1),Wld.res,Wld.zero,Hub.zero]
 have hhb:=(hubOk_n c1.2.1).1;simp [c1];by_cases c2 : w.step = 1000000
 ·simp [c2,hno (fun h=>h.2.1 c2),Wld.res,Wld.zero,Hub.zero]
 simp [c2];obtain ⟨k,hk,rest,hql,hrl⟩:=queue_head c1 hlt;rw [fServe_at c1 c2 hlt eq hk hql];have hk2:=(queue_docs (worldOk_iff.1 c1) hlt hk hql).1;obtain ⟨q,hq⟩ : ∃ q,w.queues[i] = q:=⟨_,rfl⟩;rw [hq] at hql ⊢;refine ACall.pure hcp (by simp [Wld.row]) ?_;have htk:=(c1.1 _ (List.getElem_mem hk));obtain ⟨t,ht⟩ : ∃ t,w.tasks[k] = t:=⟨_,rfl⟩;rw [ht] at htk hk2 ⊢;have hm:=fun g=>mod_row (f:=Task.row) hk ht g
 have ew : Go.IntKind.i64.wrap (w.step + 1) = w.step + 1:=Go.IntWalk.i64_in _ (by have:=c1.2.2.2.2.1;omega);have ei : Go.IntKind.i64.wrap ((i : Int) + 1) = (i : Int) + 1:=Go.IntWalk.i64_in _ (by omega);have hdo:=implDo2_i w.h (by omega) t.c (by have:=callOk_n htk.1;omega) (htk.2.2.2.2.1 hk2);have hlen : q.list.length = rest.length + 1:=by rw [hql];rfl
 simp [Wld.res,hlt,hq,Queue.row,hql];intro H1 H2 H3 H4 H5 b7;refine ACall.inline tt_ok Tryz.func61 (by kernel_rfl) rfl rfl rfl (Nat.le_of_ble_eq_true rfl) 50000 (fun w3 F3=>?_);simp [hk];generalize hR : fDo w.h t.c = R at hdo;obtain ⟨h',a'⟩:=R
 refine DrawT.introS eok mix [0,1,2,3,4,5,6,7,8,9,14,15,17,18] [10,11,12,13,16,19] (.child 10 [false,false,false,false,true,false,false,false,true,false,false,false,false,false] [true,true,true,true,false,true,true,true,false,true,true,true,true,true] (.child 11 [false,false,false,false,false,false,false,false,false,false,false,false,false,false] [true,true,true,true,false,true,true,true,false,true,true,true,true,true] (.child 12 [false,false,false,false,false,false,false,false,false,false,false,false,false,false] [true,true,true,true,false,true,true,true,false,true,true,true,true,true] (.child 13 [false,false,false,false,false,false,false,false,false,false,false,false,false,false] [true,true,true,true,false,true,true,true,false,true,true,true,true,true] (.child 16 [false,false,true,false,false,true,true,true,false,true,true,true,false,true] [true,true,false,true,false,false,false,false,false,false,false,false,true,false] (.child 19 [true,false,false,true,false,false,false,false,false,false,false,false,true,false] [false,true,false,false,false,false,false,false,false,false,false,false,false,false] (.leaf [false,true,false,false,false,false,false,false,false,false,false,false,false,false]) .stop) .stop) .stop) .stop) .stop) .stop) (by kernel_rfl) ?_
 simp [hk,ht,Task.row]
 try intros
 refine ACall.pure (hdo) (by simp [Hub.row,Call.row]) ?_;simp [Hub.res,Answer.res,hk,Task.row,hm,modify_set]
 try intros
 rename_i K1 K2 K3 K4
 refine DrawT.weak (⟨68,0,[(4,.p 64 b4 0),(6,.v (.int .i64 i)),(7,.p 112 b7 0)],
  [(422,.rows H5 15 ((w.tasks.map Task.row).set k (Task.row ⟨t.c,3,t.inv,w.step,t.rs,a'⟩)) true),
   (112,.vars b7 39 [.v (.bool h'.shut),.sl 50353 K1 5 0 h'.docs.length,.sl 50354 K2 6 0 h'.subs.length,.v (.int .i64 h'.last),.sl 420 H3 1 0 w.locks.length,.sl 421 H4 2 0 w.queues.length,.sl 422 H5 15 0 w.tasks.length,.v (.int .i64 w.step)]),
   (50354,.rows K2 6 (h'.subs.map Sub.row) true),(50353,.rows K1 5 (h'.docs.map Doc.row) true),(421,.rows H4 2 (w.queues.map Queue.row) true),(420,.rows H3 1 (w.locks.map intR) true),
   (64,.vars b4 39 [.v (.bool false),.nil,.nil,.v (.int .i64 0),.nil,.nil,.nil,.v (.int .i64 0)])]⟩) (by simp [Task.row]) ?_
 have hrow : ∀ d,setC (w.queues.map Queue.row) i 1 d = (w.queues.map Queue.row).set i [.v (.string q.doc),d]:=fun d=>by have:=mod_row (f:=Queue.row) hlt hq (fun row=>row.set 1 d);exact this
 refine DrawT.open (fun _ h=>h) (k:=421) (i:=i) (j:=1) (k':=60000) (sz':=1) (sz:=2) (H:=H4) (rows:=w.queues.map Queue.row) (srows:=q.list.map intR) (row:=q.row) (by simp) (by simp [hlt,hq]) rfl (by simp) (by decide) (by simp [intR]) (by simp) (fun G=>?_);have hpos : 0 < q.list.length:=by omega
 refine DrawT.introS eok mix [0,1,2,3,4,5,6,7,8,9,10,11] [12] (.child 12 [true,false,true,true,true,true,true,true,true,true,true,true] [false,true,false,false,false,false,false,false,false,false,false,false] (.leaf [false,true,false,false,false,false,false,false,false,false,false,false]) .stop) (by kernel_rfl) ?_;simp [hlt,hrow,hlen]
 try intros
 refine ⟨by omega,?_⟩;have hct : cut (q.list.map intR) 1 rest.length = rest.map intR:=by rw [hql,cut_eq,List.map_cons,List.drop_one,List.tail_cons];exact List.take_of_length_le (by simp)
 have hE : ∀ Y,((w.queues.map Queue.row).set i Y).eraseIdx i = (w.queues.eraseIdx i).map Queue.row:=fun Y=>by rw [List.eraseIdx_set_eq,List.eraseIdx_eq_take_drop_succ,List.eraseIdx_eq_take_drop_succ];simp [List.map_take,List.map_drop]
 have hEl : (w.queues.eraseIdx i).length = w.queues.length - 1:=by rw [List.length_eraseIdx,if_pos hlt]
 by_cases hz : rest = []
 ·subst hz
  simp at hct;simp [hct,ei,modify_set];refine ACall.delete delQueue_c (by decide) (n:=w.queues.length) (rows:=(w.queues.map Queue.row).set i [.v (.string q.doc),.s []]) (own:=true) (i:=i) (k:=421) (by simp) (by simp) (by simp;omega) (fun H6=>?_);simp [ew,stepped,fExec,hR,shifted,hE,Task.row];exact ⟨by omega,by unfold cut;rw [if_pos ⟨rfl,by simp [hEl]⟩],fun r hr=>rowT15 rfl r hr⟩
 ·simp [hct,hz,modify_set,ew,stepped,fExec,hR,shifted,Task.row]
  exact ⟨fun r hr=>rowQ2 rfl r hr,rfl,fun r hr=>rowT15 rfl r hr⟩
theorem implServe_c (w : Wld) (_ : w.fits) (h : nWorld w≤2 ^ 20) (name : ByteArray) (_ : name.size≤9223372036854775807) (_ : name.size≤2 ^ 20) : PureC Tryz.prog 14 [.agg w.row,.c (.v (.string name))] (.tup [.agg (fServe w name).1.res,.c (.v (.bool (fServe w name).2)) 1]):=implServe_i w (by omega) name
theorem specServe_c (w : Wld) (_ : w.fits) (h : nWorld w≤2 ^ 20) (name : ByteArray) (_ : name.size≤9223372036854775807) (_ : name.size≤2 ^ 20) : PureC Tryz.prog 12 [.agg w.row,.c (.v (.string name))] (.tup [.agg (fServe w name).1.res,.c (.v (.bool (fServe w name).2)) 1]):=specServe_i w (by omega) name
end Go.Proofs.YtoeofekglbdemaaGreat
