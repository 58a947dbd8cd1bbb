import Derived.Test.YtoldjebobgocpaaGreatPK
import Derived.Test.YtoldjebobgocpaaGreatPG
import Derived.Test.YtoldjebobgocpaaGreatPH
namespace Go.Proofs.YtoldjebobgocpaaGreat
open Go.AM
set_option maxRecDepth 20000
theorem zb {w : Wld} {c : Call} (h : (fe w c).2 = true) : ao (fe w c).1:=by
 unfold fe at h ⊢
 split at h
 ·rename_i hc
  rw [if_pos hc];obtain ⟨⟨W,hcl⟩,hl,hs⟩:=hc;rw [dA] at W ⊢;refine ⟨λt ht=>?_,W.hub,W.nlock,?_,?_,zL W.steps W.step.1,?_,LB W.queues (by simp [dw])⟩
  ·rcases List.mem_append.1 ht with ht | ht
   ·exact W.tasks t ht
   ·simp at ht
    subst ht;have:=W.step;refine ⟨hcl,this,by simp [dw],by simp [dw],by simp [dw],λ_=>⟨rfl,rfl,rfl⟩,by simp [dw],by simp [dw],by simp [dw]⟩
  ·have:=W.ntask
   simp only [List.length_append,List.length_cons,List.length_nil];omega
  ·have:=W.step
   simp only;omega
  ·exact Al (s:=w.step) (h:=w.h) (qs:=w.queues) W.locks (by simp [dw])
 ·simp at h
theorem Dp {w : Wld} (W : WIn w) (_hs : ¬ w.step = 1000000) {k : Nat} (hk : k < w.tasks.length) (hp : w.tasks[k].pc<=2) (a : Answer) :
 cq ⟨w.tasks[k].c,3,w.tasks[k].inv,w.step,w.tasks[k].rs,a⟩/\e8 (w.tasks.set k ⟨w.tasks[k].c,3,w.tasks[k].inv,w.step,w.tasks[k].rs,a⟩) (w.step + 1):=by
 have ht:=W.tasks _ (List.getElem_mem hk);have hst:=W.step;obtain ⟨g1,g2,g3,g4,g5,g6,g7,g8,g9⟩:=ht;obtain ⟨e1,e2,-⟩:=g6 hp;have hlt : w.tasks[k].inv < w.step:=r8 W.steps (List.getElem_mem hk) (by simp [bd]) (by omega);refine ⟨⟨g1,g2,by simp,by simp,by simp,by simp,λ_=>.inr ⟨by simp only;omega,by simp only;omega⟩,λ_=>e2,by simp⟩,?_⟩;refine r7 hk W.steps ?_;have h1 : ¬ w.tasks[k].inv = -1:=by omega
 have h2 : ¬ w.step = -1:=by omega
 simp [bd,co,e1,e2,h1,h2]
theorem wZ {w : Wld} (W : WIn w) (hs : ¬ w.step = 1000000) {k : Nat} (hk : k < w.tasks.length) (hp : w.tasks[k].pc<=2) {lk : List Int} {qs : List Queue} (hlk : lk.length = w.locks.length)
 (hL : ∀ t : Task,t.pc≠1->dY ⟨(fDo w.h w.tasks[k].c).1,lk,qs,w.tasks.set k t,w.step + 1⟩) (hQ : ∀ t : Task,t.pc≠2->QIn (fDo w.h w.tasks[k].c).1.docs qs (w.tasks.set k t)) :
 WIn (bj (gU ⟨w.h,lk,qs,w.tasks,w.step⟩ k w.tasks[k]) (w.step + 1)):=by
 obtain ⟨h1,h2⟩:=Dp W hs hk hp (fDo w.h w.tasks[k].c).2;have hst:=W.step;refine ⟨λt ht=>?_,(tl W.hub _).1,?_,?_,?_,h2,hL _ (by simp),hQ _ (by simp)⟩
 ·rcases List.mem_or_eq_of_mem_set ht with ht | rfl
  ·exact W.tasks t ht
  ·exact h1
 ·have:=W.nlock;simp only [bj,gU];omega
 ·have:=W.ntask;simp only [bj,gU,List.length_set];exact this
 ·simp only [bj];omega
theorem Ic {α : Type} (A l B : List α) (k : α) : (A ++ ((l ++ [k]) ++ B)).Perm (k :: (A ++ (l ++ B))):=by
 have e1 : A ++ ((l ++ [k]) ++ B) = (A ++ l) ++ k :: B:=by simp
 have e2 : A ++ (l ++ B) = (A ++ l) ++ B:=by simp
 rw [e1,e2];exact List.perm_middle
theorem F5 {name : ByteArray} {x : List Int} : ∀ {l : List Queue},l.Pairwise iY->(∀ y∈l,y.doc≠name)->(l.take (aI name l) ++ ⟨name,x⟩ :: l.drop (aI name l)).Pairwise iY
 | [],_,_=>by simp [aI]
 | y :: l, h, hn => by
   obtain ⟨h1,h2⟩:=List.pairwise_cons.1 h;have ih:=F5 (name:=name) (x:=x) h2 (λz hz=>hn z (List.mem_cons_of_mem _ hz));unfold aI
   split
   ·rename_i hc
    rw [List.take_succ_cons,List.drop_succ_cons,List.cons_append];refine List.pairwise_cons.2 ⟨λz hz=>?_,ih⟩;rcases List.mem_append.1 hz with hz | hz
    ·exact h1 z (List.mem_of_mem_take hz)
    ·rcases List.mem_cons.1 hz with rfl | hz
     ·exact hc
     ·exact h1 z (List.mem_of_mem_drop hz)
   ·rename_i hc
    have h3 : iY ⟨name,x⟩ y:=Bw hc (hn y (List.mem_cons_self ..));rw [List.take_zero,List.drop_zero,List.nil_append];refine List.pairwise_cons.2 ⟨λz hz=>?_,h⟩;rcases List.mem_cons.1 hz with rfl | hz
    ·exact h3
    ·exact mW h3 (h1 z hz)
theorem ye {l : List Queue} {name : ByteArray} (h : bq l name = -1) : ∀ y∈l,y.doc≠name:=by
 intro y hy e;rcases eM (λq : Queue=>q.doc = name) l with ⟨k,hk,e',-⟩ | ⟨-,hn⟩
 ·unfold bq at h;omega
 ·obtain ⟨i,hi,rfl⟩:=List.getElem_of_mem hy
  exact hn i hi e
theorem kN {w : Wld} (W : WIn w) {k : Nat} {t : Task} (ht : cq t) : ∀ x∈w.tasks.set k t,cq x:=by
 intro x hx;rcases List.mem_or_eq_of_mem_set hx with hx | rfl
 ·exact W.tasks x hx
 ·exact ht
theorem Gx {w : Wld} {k : Int} (h : (cA w k).2 = true) : ao (cA w k).1:=by
 by_cases c : ao w/\¬ w.step = 1000000/\(0<=k/\k<=(w.tasks.length : Int) - 1)
 rotate_left
 ·rw [iD c] at h;cases h
 obtain ⟨c,hs,h1,h2⟩:=c;obtain ⟨k,rfl⟩ : ∃ n : Nat,k = n:=⟨k.toNat,by omega⟩;have hk : k < w.tasks.length:=by omega
 rw [jz c hs hk] at h ⊢;have W:=dA.1 c;have hst:=W.step;have ht:=W.tasks _ (List.getElem_mem hk);have hlt : w.tasks[k].inv < w.step:=r8 W.steps (List.getElem_mem hk) (by simp [bd]) (by have:=ht.2.1;omega);obtain ⟨g1,g2,g3,g4,g5,g6,g7,g8,g9⟩:=ht;have hmem:=List.getElem_mem hk;obtain ⟨t,hte⟩ : ∃ t,w.tasks[k] = t:=⟨_,rfl⟩;rw [dA];have hnt : ∀ t : Task,(w.tasks.set k t).length<=10:=λt=>by rw [List.length_set];exact W.ntask
 by_cases p0 : w.tasks[k].pc = 0
 ·by_cases d : aK w.tasks[k].c.kind
  ·by_cases f : w.locks[aP w.tasks[k].c.doc w.locks.length]? = some (-1)
   ·rw [fu p0 d f]
    obtain ⟨e1,e2,e3⟩:=g6 (by omega);refine ⟨kN W ⟨g1,g2,by simp,λ_=>d,by simp,λ_=>⟨e1,e2,e3⟩,by simp,by simp,by simp⟩,W.hub,by simp only [List.length_set];exact W.nlock,hnt _,by simp only;omega,?_,?_,?_⟩
    ·exact k9 hk W.steps rfl (by simp only;omega)
    ·exact Aj (h:=w.h) (qs:=w.queues) (s:=w.step) (t:=w.tasks[k]) W.locks hk (by omega) rfl f
    ·exact sx W.queues (λ_ h=>h) hk (by omega) (by simp)
   ·rw [gp p0 d f] at h;cases h
  ·rw [fv p0 d]
   exact wZ W hs hk (by omega) rfl (λt h1=>oh (h:=w.h) (qs:=w.queues) (s:=w.step) W.locks hk (by omega) h1) (λt h2=>sx W.queues (tl W.hub _).2 hk (by omega) h2)
 ·by_cases p1 : w.tasks[k].pc = 1
  ·rw [eh p1]
   obtain ⟨e1,e2,e3⟩:=g6 (by omega)
   have hdrop : ∀ (h' : Hub) (qs' : List Queue) (s' : Int) (t : Task),t.pc≠1->dY ⟨h',w.locks.set (aP w.tasks[k].c.doc w.locks.length) (-1),qs',w.tasks.set k t,s'⟩:=
    λh' qs' s' t h1=>Ak (h:=w.h) (qs:=w.queues) (s:=w.step) W.locks hk p1 h1
   have hnl : (w.locks.set (aP w.tasks[k].c.doc w.locks.length) (-1)).length = w.locks.length:=by simp
   by_cases q : ¬ w.tasks[k].c.kind = 2\/w.h.shut = true\/ar w.h.docs w.tasks[k].c.doc < 0
   ·rw [gN q]
    exact wZ W hs hk (by omega) hnl (λt h1=>hdrop _ _ _ t h1) (λt h2=>sx W.queues (tl W.hub _).2 hk (by omega) h2)
   ·have hk2 : w.tasks[k].c.kind = 2:=Classical.byContradiction λh=>q (.inl h)
    have hdoc : 0<=ar w.h.docs w.tasks[k].c.doc:=by have : ¬ ar w.h.docs w.tasks[k].c.doc < 0:=λh=>q (.inr (.inr h));omega
    have hwait : cq ⟨w.tasks[k].c,2,w.tasks[k].inv,w.tasks[k].lin,w.tasks[k].rs,w.tasks[k].a⟩:=⟨g1,g2,by simp,by simp,λ_=>hk2,λ_=>⟨e1,e2,e3⟩,by simp,by simp,by simp⟩;rcases cr w.queues w.tasks[k].c.doc with ⟨j,hj,e,hn⟩ | e
    ·by_cases f : w.queues[j].list.length = 2
     ·rw [gO q hj e f]
      refine ⟨kN W ⟨g1,g2,by simp,by simp,by simp,by simp,λ_=>.inl ⟨rfl,hk2,e1⟩,λ_=>e2,by simp⟩,W.hub,by simp only [bj];rw [hnl];exact W.nlock,hnt _,by simp only [bj];omega,?_,hdrop _ _ _ _ (by simp),?_⟩
      ·exact k9 hk W.steps rfl (by simp only [bj];omega)
      ·exact sx W.queues (λ_ h=>h) hk (by omega) (by simp)
     ·rw [gM q hj e f]
      refine ⟨kN W hwait,W.hub,by simp only [bj];rw [hnl];exact W.nlock,hnt _,by simp only [bj];omega,?_,hdrop _ _ _ _ (by simp),?_⟩
      ·exact k9 hk W.steps rfl (by simp only [bj];omega)
      ·have hq1:=W.queues.one _ (List.getElem_mem hj)
       refine Fp W.queues hk (by omega) (by rfl) (λx hx=>?_) (v5 (f:=Queue.doc) (R:=sLt) hj rfl W.queues.ord) ?_ (λx hx i hi=>?_)
       ·rcases List.mem_or_eq_of_mem_set hx with hx | rfl
        ·exact W.queues.one x hx
        ·have:=hq1.1
         exact ⟨by simp only [List.length_append,List.length_cons,List.length_nil];omega,hq1.2⟩
       ·simp only [bj]
        rw [l8 hj,rP hj];exact Ic _ _ _ _
       ·rcases List.mem_or_eq_of_mem_set hx with hx | rfl
        ·exact .inr ⟨x,hx,rfl,hi⟩
        ·rcases List.mem_append.1 hi with hi | hi
         ·exact .inr ⟨_,List.getElem_mem hj,rfl,hi⟩
         ·simp at hi;exact .inl ⟨hi,hn⟩
    ·rw [iE q e]
     refine ⟨kN W hwait,W.hub,by simp only [bj];rw [hnl];exact W.nlock,hnt _,by simp only [bj];omega,?_,hdrop _ _ _ _ (by simp),?_⟩
     ·exact k9 hk W.steps rfl (by simp only [bj];omega)
     ·refine Fp W.queues hk (by omega) (by rfl) (λx hx=>?_) (F5 W.queues.ord (ye e)) ?_ (λx hx i hi=>?_)
      ·rcases List.mem_append.1 hx with hx | hx
       ·exact W.queues.one x (List.mem_of_mem_take hx)
       ·rcases List.mem_cons.1 hx with rfl | hx
        ·exact ⟨by simp,lK.1 hdoc⟩
        ·exact W.queues.one x (List.mem_of_mem_drop hx)
      ·simp only [bj]
       have e2 : bI w.queues = bI (w.queues.take (aI w.tasks[k].c.doc w.queues)) ++ bI (w.queues.drop (aI w.tasks[k].c.doc w.queues)):=by
        unfold bI;rw [<- List.flatMap_append,List.take_append_drop]
       have e3 : ∀ (A B : List Queue) (q : Queue),bI (A ++ q :: B) = bI A ++ (q.list ++ bI B):=λA B q=>by unfold bI;rw [List.flatMap_append,List.flatMap_cons]
       rw [e2,e3];exact List.perm_middle
      ·rcases List.mem_append.1 hx with hx | hx
       ·exact .inr ⟨x,List.mem_of_mem_take hx,rfl,hi⟩
       ·rcases List.mem_cons.1 hx with rfl | hx
        ·simp at hi;exact .inl ⟨hi,rfl⟩
        ·exact .inr ⟨x,List.mem_of_mem_drop hx,rfl,hi⟩
  ·by_cases p3 : w.tasks[k].pc = 3
   ·rw [ft p3]
    have hrs:=g8 p3;have hbl:=g7 (by omega)
    have hll : w.tasks[k].lin<=w.step:=by
     by_cases e : w.tasks[k].lin = -1
     ·omega
     ·have:=r8 W.steps (List.getElem_mem hk) (n:=w.tasks[k].lin) (by simp [bd]) e
      omega
    refine ⟨kN W ⟨g1,g2,by simp,by simp,by simp,by simp,λ_=>hbl,by simp,λ_=>⟨by simp only;omega,hll⟩⟩,W.hub,W.nlock,hnt _,by simp only;omega,?_,?_,?_⟩
    ·refine r7 hk W.steps ?_
     have h2 : ¬ w.step = -1:=by omega
     have h3 : ∀ a b c : List Int,a ++ (b ++ c) = a ++ b ++ c:=λa b c=>by simp
     show co [w.tasks[k].inv,w.tasks[k].lin,w.step] = co [w.tasks[k].inv,w.tasks[k].lin,w.tasks[k].rs] ++ [w.step]
     rw [show [w.tasks[k].inv,w.tasks[k].lin,w.step] = [w.tasks[k].inv,w.tasks[k].lin] ++ [w.step] from rfl,show [w.tasks[k].inv,w.tasks[k].lin,w.tasks[k].rs] = [w.tasks[k].inv,w.tasks[k].lin] ++ [w.tasks[k].rs] from rfl,gA,gA,hrs];simp [co,h2]
    ·exact oh (h:=w.h) (qs:=w.queues) (s:=w.step) W.locks hk (by omega) (by simp)
    ·exact sx W.queues (λ_ h=>h) hk (by omega) (by simp)
   ·rw [gq p0 p1 p3] at h;cases h
theorem jt {w : Wld} (W : WIn w) {i : Nat} (hi : i < w.queues.length) {k : Nat} (hk : k < w.tasks.length) {rest : List Int} (hl : w.queues[i].list = (k : Int) :: rest) : w.tasks[k].pc = 2/\w.tasks[k].c.doc = w.queues[i].doc:=by
 obtain ⟨j,hj,e,h1,h2⟩:=W.queues.may _ (List.getElem_mem hi) (k : Int) (by rw [hl];simp);have : j = k:=by omega
 subst this;exact ⟨h1,h2⟩
theorem Dn {w : Wld} {name : ByteArray} (h : (cf w name).2 = true) : ao (cf w name).1:=by
 by_cases c : ao w/\¬ w.step = 1000000/\0<=bq w.queues name
 rotate_left
 ·rw [kQ c] at h;cases h
 obtain ⟨c,hs,h0⟩:=c;rcases cr w.queues name with ⟨i,hi,e,-⟩ | e;rotate_left
 ·omega
 obtain ⟨k,hk,rest,hl,hr⟩:=eH c hi;rw [go c hs hi e hk hl,dA];have W:=dA.1 c;obtain ⟨hp,-⟩:=jt W hi hk hl;refine wZ W hs hk (by omega) rfl (λt h1=>oh (h:=w.h) (qs:=w.queues) (s:=w.step) W.locks hk (by omega) h1) (λt h2=>?_);have hwa:=rP hi;rw [hl] at hwa;have hq1:=W.queues.one _ (List.getElem_mem hi);unfold iU
 split
 ·rename_i hz
  subst hz;have e1 : w.queues.eraseIdx i = w.queues.take i ++ w.queues.drop (i + 1):=List.eraseIdx_eq_take_drop_succ ..;have hsub : ∀ q,q∈w.queues.eraseIdx i->q∈w.queues:=λq hq=>List.mem_of_mem_eraseIdx hq
  refine BB W.queues (tl W.hub _).2 hk h2 (λq hq=>W.queues.one q (hsub q hq)) (W.queues.ord.sublist (List.eraseIdx_sublist ..)) ?_ (λq hq j hj=>⟨q,hsub q hq,rfl,hj⟩);have e2 : bI (w.queues.eraseIdx i) = bI (w.queues.take i) ++ bI (w.queues.drop (i + 1)):=by rw [e1];unfold bI;rw [List.flatMap_append]
  rw [hwa,e2];exact List.perm_middle
 ·rename_i hz
  refine BB W.queues (tl W.hub _).2 hk h2 (λq hq=>?_) (v5 (f:=Queue.doc) (R:=sLt) hi rfl W.queues.ord) ?_ (λq hq j hj=>?_)
  ·rcases List.mem_or_eq_of_mem_set hq with hq | rfl
   ·exact W.queues.one q hq
   ·have : 0 < rest.length:=List.length_pos_iff.2 hz
    exact ⟨by simp only;omega,hq1.2⟩
  ·rw [hwa,l8 hi]
   exact List.perm_middle
  ·rcases List.mem_or_eq_of_mem_set hq with hq | rfl
   ·exact ⟨q,hq,rfl,hj⟩
   ·exact ⟨_,List.getElem_mem hi,rfl,by rw [hl];exact List.mem_cons_of_mem _ hj⟩
theorem vj : ∀ {l : List Task} {k : Nat} (h : k < l.length) (t : Task),lX (l.set k t) = lX l - eR l[k] + eR t
 | x :: l,0,_,t=>by simp only [List.set_cons_zero,lX,List.getElem_cons_zero];omega
 | x :: l, k + 1, h, t => by
   have:=vj (l:=l) (k:=k) (by simpa using h) t;simp only [List.set_cons_succ,lX,List.getElem_cons_succ,this];omega
theorem oi {t : Task} {a : Answer} {s : Int} (h : t.pc<=2) (h0 : 0<=t.pc) (h1 : t.pc = 1->aK t.c.kind) : eR ⟨t.c,3,t.inv,s,t.rs,a⟩ < eR t:=by
 have e : eR ⟨t.c,3,t.inv,s,t.rs,a⟩ = 1:=by unfold eR;simp
 rw [e];unfold eR
 split
 ·split
  ·omega
  ·split<;>omega
 ·split
  ·rename_i p1
   split
   ·omega
   ·rw [if_pos (h1 p1)];omega
  ·rw [if_pos (by omega)];omega
theorem sO {t : Task} (h : t.pc = 1) (h2 : t.c.kind = 2) : eR ⟨t.c,2,t.inv,t.lin,t.rs,t.a⟩ < eR t:=by unfold eR;simp [h,h2]
theorem Ar {t : Task} (h : t.pc = 0) (h2 : aK t.c.kind) : eR ⟨t.c,1,t.inv,t.lin,t.rs,t.a⟩ < eR t:=by
 unfold eR;simp only [h];by_cases k : t.c.kind = 2
 ·simp [k]
 ·simp [k,h2]
theorem As {t : Task} {a : Answer} (h : t.pc = 1) (h2 : t.c.kind = 2) : eR ⟨t.c,3,t.inv,t.lin,t.rs,a⟩ < eR t:=by unfold eR;simp [h,h2]
theorem Aq {t : Task} {s : Int} (h : t.pc = 3) : eR ⟨t.c,4,t.inv,t.lin,s,t.a⟩ < eR t:=by unfold eR;simp [h]
def va (w w' : Wld) (k : Nat) : Prop:=∃ h : k < w.tasks.length,∃ t,w'.tasks = w.tasks.set k t/\t.c = w.tasks[k].c/\t.inv = w.tasks[k].inv/\eR t < eR w.tasks[k]
theorem Aa {w w' : Wld} {k : Nat} (h : va w w' k) : lX w'.tasks < lX w.tasks:=by
 obtain ⟨hk,t,e,-,-,hl⟩:=h;rw [e,vj hk];omega
theorem Gw {w : Wld} {k : Nat} (h : (cA w k).2 = true) : va w (cA w k).1 k:=by
 by_cases c : ao w/\¬ w.step = 1000000/\(0<=(k : Int)/\(k : Int)<=(w.tasks.length : Int) - 1)
 rotate_left
 ·rw [iD c] at h;cases h
 obtain ⟨c,hs,h1,h2⟩:=c;have hk : k < w.tasks.length:=by omega
 rw [jz c hs hk] at h ⊢;have W:=dA.1 c;obtain ⟨g1,g2,g3,g4,g5,g6,g7,g8,g9⟩:=W.tasks _ (List.getElem_mem hk);refine ⟨hk,?_⟩;by_cases p0 : w.tasks[k].pc = 0
 ·by_cases d : aK w.tasks[k].c.kind
  ·by_cases f : w.locks[aP w.tasks[k].c.doc w.locks.length]? = some (-1)
   ·rw [fu p0 d f];exact ⟨_,rfl,rfl,rfl,Ar p0 d⟩
   ·rw [gp p0 d f] at h;cases h
  ·rw [fv p0 d];exact ⟨_,rfl,rfl,rfl,oi (by omega) (by omega) g4⟩
 ·by_cases p1 : w.tasks[k].pc = 1
  ·rw [eh p1]
   by_cases q : ¬ w.tasks[k].c.kind = 2\/w.h.shut = true\/ar w.h.docs w.tasks[k].c.doc < 0
   ·rw [gN q];exact ⟨_,rfl,rfl,rfl,oi (by omega) (by omega) g4⟩
   ·have hk2 : w.tasks[k].c.kind = 2:=Classical.byContradiction λh=>q (.inl h)
    rcases cr w.queues w.tasks[k].c.doc with ⟨j,hj,e,hn⟩ | e
    ·by_cases f : w.queues[j].list.length = 2
     ·rw [gO q hj e f];exact ⟨_,rfl,rfl,rfl,As p1 hk2⟩
     ·rw [gM q hj e f];exact ⟨_,rfl,rfl,rfl,sO p1 hk2⟩
    ·rw [iE q e];exact ⟨_,rfl,rfl,rfl,sO p1 hk2⟩
  ·by_cases p3 : w.tasks[k].pc = 3
   ·rw [ft p3];exact ⟨_,rfl,rfl,rfl,Aq p3⟩
   ·rw [gq p0 p1 p3] at h;cases h
theorem Dl {w : Wld} {name : ByteArray} (h : (cf w name).2 = true) : ∃ k,va w (cf w name).1 k:=by
 by_cases c : ao w/\¬ w.step = 1000000/\0<=bq w.queues name
 rotate_left
 ·rw [kQ c] at h;cases h
 obtain ⟨c,hs,h0⟩:=c;rcases cr w.queues name with ⟨i,hi,e,-⟩ | e;rotate_left
 ·omega
 obtain ⟨k,hk,rest,hl,hr⟩:=eH c hi;rw [go c hs hi e hk hl];have W:=dA.1 c;obtain ⟨hp,-⟩:=jt W hi hk hl;obtain ⟨g1,g2,g3,g4,-⟩:=W.tasks _ (List.getElem_mem hk);exact ⟨k,hk,_,rfl,rfl,rfl,oi (by omega) (by omega) g4⟩
theorem CS {w w' : Wld} (c : ao w) {k : Nat} (h : va w w' k) : dQ w' < dQ w:=by
 have h1:=Aa h;have h2:=oX w'.tasks;unfold dQ;rw [if_pos c]
 split
 ·exact h1
 ·omega
theorem E7 {w : Wld} (c : ao w) (s : ¬ w.step = 1000000) : fg w = 0 ↔ ∀ t∈w.tasks,t.pc = 4:=by
 have W:=dA.1 c
 constructor
 ·intro hm t ht
  unfold fg at hm;have ha : cB w = []:=List.length_eq_zero_iff.1 (by omega);have hq : bQ w = []:=List.length_eq_zero_iff.1 (by omega);obtain ⟨k,hk,rfl⟩:=List.getElem_of_mem ht
  have notable : ∀ k,∀ hk : k < w.tasks.length,¬ eB w w.tasks[k]:=by
   intro k hk hb;rw [ni ⟨c,s⟩] at ha
   have hm : (k : Int)∈dI w w.tasks.length:=by
    unfold dI;rw [List.mem_map];refine ⟨k,?_,rfl⟩;rw [List.mem_filter];exact ⟨List.mem_range.2 hk,by simpa using ⟨hk,hb⟩⟩
   rw [ha] at hm
   cases hm
  have noqueue : w.queues = []:=by
   rw [iC ⟨c,s⟩] at hq;exact List.map_eq_nil_iff.1 hq
  have hp:=(W.tasks _ ht).2.2.1
  have h2 : w.tasks[k].pc≠2:=λe=>by
   have:=W.queues.all k hk e;rw [noqueue] at this
   cases this
  have hb:=notable k hk;unfold eB at hb;by_cases e4 : w.tasks[k].pc = 4
  ·exact e4
  exfalso
  refine hb ⟨λ⟨e0,d⟩=>?_,h2,e4⟩;have hs : aP w.tasks[k].c.doc w.locks.length < w.locks.length:=Nat.mod_lt _ (by have:=W.nlock;omega);rw [List.getElem?_eq_getElem hs];rcases W.locks.1 _ hs with h3 | ⟨j,hj,h3,h4,h5⟩
  ·rw [h3]
  ·exfalso
   refine notable j hj ⟨λ⟨e,_⟩=>by omega,by omega,by omega⟩
 ·intro h
  unfold fg
  have ha : cB w = []:=by
   rw [ni ⟨c,s⟩];unfold dI;rw [List.map_eq_nil_iff,List.filter_eq_nil_iff];intro k hk hb;obtain ⟨hk,hb⟩ : ∃ h : k < w.tasks.length,eB w w.tasks[k]:=by simpa using hb
   exact hb.2.2 (h _ (List.getElem_mem hk))
  have hq : bQ w = []:=by
   rw [iC ⟨c,s⟩,List.map_eq_nil_iff]
   cases e : w.queues with
   | nil=>rfl
   | cons q l =>
     exfalso
     have hi : 0 < w.queues.length:=by rw [e];simp
     obtain ⟨k,hk,rest,hl,-⟩:=eH c hi;have:=(jt W hi hk hl).1;have:=h _ (List.getElem_mem hk);omega
  rw [ha,hq];rfl
set_option maxHeartbeats 3200000
theorem kn {h : Hub} {n : Int} (c : an h/\(1<=n/\n<=4)) : eW h n = (⟨h,List.replicate n.toNat (-1),[],[],0⟩,true):=by unfold eW;rw [if_pos c]
theorem lD {h : Hub} {n : Int} (c : ¬ (an h/\(1<=n/\n<=4))) : eW h n = (Wld.zero,false):=by unfold eW;rw [if_neg c]
theorem Fl (i : Nat) : List.replicate i (ak (-1)) ++ [[.v (.int .i64 (-1))]] = List.replicate (i + 1) (ak (-1)):=by
 rw [List.replicate_succ']
theorem sa (h : Hub) (hl : ch h<=2 ^ 30) (n : Int) : aj Tryz.prog 124 [.agg h.row,.c (vi n)] (.tup [.agg (eW h n).1.res,.c (.v (.bool (eW h n).2)) 1]):=by
 refine pci ae Tryz.func124 (λw0 base=>?_);simp [Hub.row];intro b1 b2;refine aa.pure (da h hl) (by simp [Hub.row]) ?_;by_cases c1 : an h
 rotate_left
 ·have e:=lD (h:=h) (n:=n) (λh=>c1 h.1)
  simp [ab c1,e,Wld.res,Wld.zero,Hub.zero]
 simp [c1];refine aa.pure (aZ n 1 4) (by simp) ?_;by_cases c2 : 1<=n/\n<=4
 rotate_left
 ·have e:=lD (h:=h) (n:=n) (λh=>c2 h.2)
  simp [ab c2,e,Wld.res,Wld.zero,Hub.zero]
 have e:=kn (h:=h) (n:=n) ⟨c1,c2⟩;obtain ⟨m,rfl⟩ : ∃ m : Nat,n = m:=⟨n.toNat,by omega⟩;simp at e;simp [c2];refine aa.pure (bT h hl) (by simp [Hub.row]) ?_;simp [Hub.res];intro H1 H2 b6
 refine ag eok (λx : Nat × Hd=>x.1<=m) (λx=>⟨30,0,[(1,.v (.int .i64 m)),(4,.p 64 b2 0),(6,.p 96 b6 0)],
  [(96, .vars b6 39 [.v (.bool h.shut), .sl 273 H1 5 0 h.docs.length, .sl 274 H2 6 0 h.subs.length, .v (.int .i64 h.last), .sl 5000 x.2 1 0 x.1, .nil, .nil, .v (.int .i64 0)]),
   (64,.vars b2 39 [.v (.bool false),.nil,.nil,.v (.int .i64 0),.nil,.nil,.nil,.v (.int .i64 0)]),
   (273,.rows H1 5 (h.docs.map Doc.row) true),(274,.rows H2 6 (h.subs.map Sub.row) true),(5000,.rows x.2 1 ((List.replicate x.1 (-1 : Int)).map ak) true)]⟩) (λx=>m - x.1) (0,none) (by simp) (by simp) (λx hi=>Ent.refl ?_)
 obtain ⟨i,H⟩:=x;simp only at hi ⊢;by_cases hlt : i < m
 ·simp [hlt]
  intro b7;refine ⟨by omega,λH'=>Ent.refl ⟨i + 1,by omega,by omega,H',?_⟩⟩;simp;exact Fl i
 have hm : i = m:=by omega
 subst hm;simp [e,Wld.res]
inductive stepTo (w : Wld) : Wld->Prop
 | come {c : Call} (h : (fe w c).2 = true) : stepTo w (fe w c).1
 | pick {k : Int} (h : (cA w k).2 = true) : stepTo w (cA w k).1
 | serve {name : ByteArray} (h : (cf w name).2 = true) : stepTo w (cf w name).1
inductive Reach (h : Hub) : Nat->Wld->Prop
 | new {n : Int} (hn : (eW h n).2 = true) : Reach h 0 (eW h n).1
 | same {i : Nat} {w : Wld} (r : Reach h i w) : Reach h (i + 1) w
 | step {i : Nat} {w w' : Wld} (r : Reach h i w) (s : stepTo w w') : Reach h (i + 1) w'
theorem jr {h : Hub} {w : Wld} {i : Nat} : ∀ {j : Nat},Reach h i w->i<=j->Reach h j w
 | 0, r, hj => by
   have : i = 0:=by omega
   subst this;exact r
 | j + 1, r, hj => by
   by_cases e : i = j + 1
   ·subst e;exact r
   ·exact .same (jr r (by omega))
theorem Fe {w : Wld} {name : ByteArray} (h : (cf w name).2 = true) : ao w/\¬ w.step = 1000000/\∃ i : Nat,i < w.queues.length/\bq w.queues name = i:=by
 by_cases c : ao w/\¬ w.step = 1000000/\0<=bq w.queues name
 ·refine ⟨c.1,c.2.1,?_⟩
  rcases cr w.queues name with ⟨j,hj,e,-⟩ | e
  ·exact ⟨j,hj,e⟩
  ·omega
 ·rw [kQ c] at h;cases h
theorem AO {w : Wld} {i : Nat} (h : kP w i) {name : ByteArray} (hy : (cf w name).2 = true) : kP (cf w name).1 (i + 1)/\(cf w name).1.step = w.step + 1:=by
 obtain ⟨c,s,j,hj,e⟩:=Fe hy;obtain ⟨k,hk,rest,hl,hr⟩:=eH c hj;have h2:=uT w.queues j w.queues[j] rest;have h3:=sr c hj;rw [go c s hj e hk hl];exact ⟨nf c h hk rfl (by omega) _,rfl⟩
theorem Dj {w : Wld} {i : Nat} (h : kP w i) {c : Call} (hy : (fe w c).2 = true) : kP (fe w c).1 (i + 1)/\(fe w c).1.step = w.step + 1:=by
 have ok:=zb hy;unfold fe at hy ok ⊢
 split at hy
 ·rename_i hc
  rw [if_pos hc] at ok ⊢;obtain ⟨h1,h2,h3,h4,h5⟩:=h
  have hm : ∀ t∈w.tasks ++ [dw c w.step],eF t<=2 ^ 25:=by
   intro t ht;rcases List.mem_append.1 ht with ht | ht
   ·exact h4 t ht
   ·simp at ht
    subst ht;have:=jD hc.1.2;have e : eF (dw c w.step) = dC c:=rfl;omega
  refine ⟨⟨h1,h2,by show nL dq w.queues<=_;omega,hm,?_⟩,rfl⟩;have h6 : nL eF (w.tasks ++ [dw c w.step])<=(w.tasks ++ [dw c w.step]).length * (2 ^ 25 + 1):=nN hm;have h7:=Nat.mul_le_mul_right (2 ^ 25 + 1) ok.2.2.2.1
  show nL eF (w.tasks ++ [dw c w.step])<=_
  simp only at h7;omega
 ·cases hy
theorem HN {w w' : Wld} {i : Nat} (h : kP w i) (s : stepTo w w') : ao w'/\kP w' (i + 1)/\w'.step = w.step + 1:=by
 cases s with
 | come hy=>exact ⟨zb hy,Dj h hy⟩
 | pick hy=>exact ⟨Gx hy,vw h hy,td hy⟩
 | serve hy=>exact ⟨Dn hy,AO h hy⟩
theorem IT {w : Wld} {i : Nat} (h : kP w i) : kP w (i + 1):=⟨h.1,h.2.1,by have:=h.2.2.1;omega,h.2.2.2⟩
theorem kH {h : Hub} (hh : an h) {i : Nat} {w : Wld} (r : Reach h i w) : ao w/\(0<=w.step/\w.step<=i)/\kP w i:=by
 induction r with
 | @new n hn =>
   have c : an h/\(1<=n/\n<=4):=by
    by_cases c : an h/\(1<=n/\n<=4)
    ·exact c
    ·have e:=lD c
     rw [e] at hn;exact absurd hn (by simp)
   rw [kn c];have hl : (List.replicate n.toNat (-1 : Int)).length = n.toNat:=List.length_replicate;refine ⟨⟨by simp,hh,?_,by simp,by simp,?_,⟨λs hs=>.inl (by simp),λk hk=>absurd hk (Nat.not_lt_zero _)⟩,⟨[],rfl,λk hk=>absurd hk (Nat.not_lt_zero _)⟩⟩,by simp,?_⟩
   ·show 1<=(List.replicate n.toNat (-1 : Int)).length/\(List.replicate n.toNat (-1 : Int)).length<=4
    omega
   ·unfold fE;simp [aT]
   ·have:=(eL hh).1
    refine ⟨by show ch h<=_;omega,?_,by simp [nL,bR],by simp,by simp [nL,bR]⟩
    show (List.replicate n.toNat (-1 : Int)).length<=_
    omega
 | same r ih=>exact ⟨ih.1,by omega,IT ih.2.2⟩
 | step r s ih =>
   have:=HN ih.2.2 s;exact ⟨this.1,by omega,this.2.1⟩
set_option maxHeartbeats 6400000
theorem iI {l : List Task} {k : Nat} {row : List CD} (h : row.length = 15) : ∀ r∈(l.map Task.row).set k row,r.length = 15:=by
 intro r hr;rcases List.mem_or_eq_of_mem_set hr with h1 | h1
 ·rw [List.mem_map] at h1
  obtain ⟨x,-,rfl⟩:=h1;rfl
 ·rw [h1];exact h
theorem uZ {l : List Int} {k : Nat} {row : List CD} (h : row.length = 1) : ∀ r∈(l.map ak).set k row,r.length = 1:=by
 intro r hr;rcases List.mem_or_eq_of_mem_set hr with h1 | h1
 ·rw [List.mem_map] at h1
  obtain ⟨x,-,rfl⟩:=h1;rfl
 ·rw [h1];exact h
theorem im {α : Type} {f : α->List CD} {l : List α} {k : Nat} {t : α} (hk : k < l.length) (ht : l[k] = t) (g : List CD->List CD) : (l.map f).modify k g = (l.map f).set k (g (f t)):=by
 refine List.ext_getElem (by simp) (λj h1 h2=>?_);simp only [List.getElem_modify,List.getElem_map,List.getElem_set]
 split
 ·rename_i e;subst e;rw [ht]
 ·rfl
theorem Fi {l : List Queue} {k : Nat} {row : List CD} (h : row.length = 2) : ∀ r∈(l.map Queue.row).set k row,r.length = 2:=by
 intro r hr;rcases List.mem_or_eq_of_mem_set hr with h1 | h1
 ·rw [List.mem_map] at h1
  obtain ⟨x,-,rfl⟩:=h1;rfl
 ·rw [h1];exact h
theorem v7 {l : List Queue} {r : List CD} (h : r∈l.map Queue.row) : r.length = 2:=by
 rw [List.mem_map] at h;obtain ⟨x,-,rfl⟩:=h;rfl
theorem FA (d : CD) : AV.one (toAV d) = true:=by cases d<;>rfl
def Fq (l : List Queue) (qr : List (List CD)) : Prop:=qr.length = l.length/\∀ j,∀ h : j < l.length,∃ d,qr[j]? = some [.v (.string l[j].doc),d]
theorem mZ (l : List Queue) : Fq l (l.map Queue.row):=⟨by simp,λj h=>⟨.s (l[j].list.map ak),by simp [h,Queue.row]⟩⟩
theorem u1 {l : List Queue} {i : Nat} (hi : i < l.length) (d : CD) : Fq l ((l.map Queue.row).set i [.v (.string l[i].doc),d]):=by
 refine ⟨by simp,λj h=>?_⟩;by_cases e : i = j
 ·subst e;exact ⟨d,by simp [h]⟩
 ·exact ⟨.s (l[j].list.map ak),by simp [h,Queue.row,e]⟩
theorem gm (ds ss ls ts : List (List CD)) (sh : Bool) (last step : Int) {qr : List (List CD)} {l : List Queue} (hq : Fq l qr) (hle : l.length<=2 ^ 40) (name : ByteArray) :
 aj Tryz.prog 168 [.agg [.v (.bool sh),.s ds,.s ss,.v (.int .i64 last),.s ls,.s qr,.s ts,.v (.int .i64 step)],.c (.v (.string name))] (.one (.c (vi (bq l name)) 1)):=by
 refine pci ae Tryz.func168 (λw0 base=>?_);obtain ⟨hq1,hq2⟩:=hq;simp [hq1];intro b2;refine au.intro eok (λi : Nat=>i<=l.length/\∀ j,j < i->∀ hj : j < l.length,¬ l[j].doc = name) (λi=>⟨21,0,[(10,.v (.int .i64 i)),(9,.v (.int .i64 l.length)),(8,.ro qr),(1,.v (.string name))],[]⟩) (λi=>l.length - i) 0 (by simp) (by simp) (λi hi=>?_);by_cases hlt : i < l.length
 ·obtain ⟨d,hd⟩:=hq2 i hlt
  obtain ⟨hd1,hd2⟩:=List.getElem?_eq_some_iff.1 hd;simp [hlt,hq1,hd2,FA];intro b;by_cases c : l[i].doc = name
  ·have e : bq l name = i:=jT hlt c hi.2
   simp [c,e]
  ·simp [c]
   exact ⟨i + 1,⟨by omega,λj hj hjl=>by
    by_cases hji : j = i
    ·subst hji;exact c
    ·exact hi.2 j (by omega) hjl⟩,by omega,ah (by omega)⟩
 ·have e : bq l name = -1:=ie (λj hj=>hi.2 j (by omega) hj)
  simp [hlt,e]
theorem jl (w : Wld) (hl : ed w<=2 ^ 30) (k : Int) : aj Tryz.prog 13 [.agg w.row,.c (vi k)] (.tup [.agg (cA w k).1.res,.c (.v (.bool (cA w k).2)) 1]):=by
 refine aj.introL ae Tryz.func13 (by kernel_rfl) rfl rfl rfl (Nat.le_of_ble_eq_true rfl) rfl (λw0 base us hrd=>?_);have hno:=@iD w k;have hat:=@jz w;have hwo:=j6 w (by omega);have hcp:=pX w (by omega);obtain ⟨nh,n2,n3,n4⟩:=bg hl;have hle:=aA n4;have hlq:=aA n3;simp [Wld.row] at hrd;obtain ⟨r1,r2,r3,r4,r5⟩:=hrd;simp [Wld.row];intro b2 b4;refine aa.pure hwo (by simp [Wld.row,r1,r2,r3,r4,r5]) ?_;by_cases c1 : ao w
 rotate_left
 ·simp [ab c1,hno (λh=>c1 h.1),Wld.res,Wld.zero,Hub.zero]
 have hhb:=(eL c1.2.1).1;simp [c1];by_cases c2 : w.step = 1000000
 ·simp [c2,hno (λh=>h.2.1 c2),Wld.res,Wld.zero,Hub.zero]
 simp [c2];refine aa.pure (aZ k 0 ((w.tasks.length : Int) - 1)) (by simp;exact (Go.IntWalk.i64_in _ (by omega)).symm) ?_;by_cases c3 : 0<=k/\k<=(w.tasks.length : Int) - 1
 rotate_left
 ·simp [ab c3,hno (λh=>c3 h.2.2),Wld.res,Wld.zero,Hub.zero]
 obtain ⟨k,rfl⟩ : ∃ n : Nat,k = n:=⟨k.toNat,by omega⟩;have hk : k < w.tasks.length:=by omega
 rw [hat c1 c2 hk];simp [c3];refine aa.pure hcp (by simp [Wld.row,r1,r2,r3,r4,r5]) ?_;have htk:=(c1.1 _ (List.getElem_mem hk));obtain ⟨t,ht⟩ : ∃ t,w.tasks[k] = t:=⟨_,rfl⟩;rw [ht] at htk ⊢;have hpc:=htk.2.2.1;have hm:=λg=>im (f:=Task.row) hk ht g
 have ew : Go.IntKind.i64.wrap (w.step + 1) = w.step + 1:=Go.IntWalk.i64_in _ (by have:=c1.2.2.2.2.1;omega);have hdsz:=htk.1.2.1;have hdo:=Fa w.h (by omega) t.c (by have:=jD htk.1;omega);have hs1:=(gY t.c.doc c1.2.2.1.1);simp [Wld.res,hk,ht,Task.row];intro H1 H2 H3 H4 H5 b6;by_cases p0 : t.pc = 0
 ·simp [p0,hk,ht,Task.row]
  refine aa.pure (mb t.c.kind) (by simp) ?_;by_cases d : aK t.c.kind
  rotate_left
  ·rw [fv p0 d]
   simp [ab d];generalize hR : fDo w.h t.c = R at hdo;obtain ⟨h',a'⟩:=R;refine eY ae Tryz.func70 (by kernel_rfl) rfl rfl rfl (Nat.le_of_ble_eq_true rfl) 20000 rfl (by simp) ?_;refine bE (λx : (Hd × Hd × Hd × Hd) × Nat × Nat=>[(4,.p 20064 x.2.1 0),(5,.p 20080 x.2.2 0)]) (λx=>[(20064,.vars x.2.1 35 [.v (.bool h'.shut),.sl 20305 x.1.1 5 0 h'.docs.length,.sl 20306 x.1.2.1 6 0 h'.subs.length,.v (.int .i64 h'.last)]),(20080,.vars x.2.2 72 [.v (.int .i64 a'.code),.v (.int .i64 a'.rev),.sl 20310 x.1.2.2.1 1 0 a'.text.length,.sl 20311 x.1.2.2.2 3 0 a'.list.length]),(20305,.rows x.1.1 5 (h'.docs.map Doc.row) true),(20306,.rows x.1.2.1 6 (h'.subs.map Sub.row) true),(20310,.rows x.1.2.2.1 1 (a'.text.map ak) true),(20311,.rows x.1.2.2.2 3 (a'.list.map Entry.row) true)]) [0,1] ?_ ?_
   ·refine drw eok mix [0,1,2,3,4,5,6,7,8,9,10,11] [12,13,14,15,16,17,18,19] (.c 12 12 257 3838 (.c 12 13 0 3838 (.c 12 14 0 3838 (.c 12 15 0 3838 (.c 12 16 0 3838 (.c 12 17 0 3838 (.c 12 18 3838 0 (.c 12 19 0 0 (.l 12 0) .s) .s) .s) (.c 12 17 0 3838 (.c 12 16 0 3838 (.c 12 18 3838 0 (.c 12 19 0 0 (.l 12 0) .s) .s) .s) .s)) .s) .s) .s) (.c 12 16 0 4095 (.c 12 12 257 3838 (.c 12 13 0 3838 (.c 12 14 0 3838 (.c 12 15 0 3838 (.c 12 17 0 3838 (.c 12 18 3838 0 (.c 12 19 0 0 (.l 12 0) .s) .s) .s) .s) .s) .s) (.c 12 17 0 4095 (.c 12 12 257 3838 (.c 12 13 0 3838 (.c 12 14 0 3838 (.c 12 15 0 3838 (.c 12 18 3838 0 (.c 12 19 0 0 (.l 12 0) .s) .s) .s) .s) .s) .s) .s)) (.c 12 17 0 4095 (.c 12 12 257 3838 (.c 12 13 0 3838 (.c 12 14 0 3838 (.c 12 15 0 3838 (.c 12 16 0 3838 (.c 12 18 3838 0 (.c 12 19 0 0 (.l 12 0) .s) .s) .s) .s) .s) .s) (.c 12 16 0 4095 (.c 12 12 257 3838 (.c 12 13 0 3838 (.c 12 14 0 3838 (.c 12 15 0 3838 (.c 12 18 3838 0 (.c 12 19 0 0 (.l 12 0) .s) .s) .s) .s) .s) .s) .s)) .s))) ?_
    simp [hk,ht,Task.row]
    try intros
    repeat' first
     | (refine aa.pure (hdo) (by simp [Hub.row,Call.row]) ?_;simp [Hub.res,Answer.res];try intros)
     | (rw [Trc];refine ⟨?_,?_⟩<;>(try simp [hk,ht,Task.row])<;>try intros)
    all_goals
     exact ⟨_,_,_,_,_,_,⟨rfl,rfl⟩,⟨rfl,rfl,rfl⟩,⟨rfl,rfl,rfl⟩,rfl,rfl,rfl,rfl⟩
   rintro ⟨⟨K1,K2,K3,K4⟩,e1,e2⟩
   simp;refine drw eok mix [0,1,2,3,4,5,6,7] [8] (.c 8 8 253 2 (.l 8 2) .s) ?_;simp [hk,Task.row,hm]
   try intros
   refine drw eok mix [0,1,2,3,4,5,6,7,8,9,10] [11] (.c 11 11 2045 2 (.l 11 2) .s) ?_;simp [hk,bW]
   try intros
   simp [ew,bj,gU,hR,Task.row];exact λr hr=>iI rfl r hr
  simp [d];refine drw eok mix [0,1,2,3,4,5,6,7] [8,9] (.c 8 8 9 246 (.c 8 9 246 0 (.l 8 0) .s) .s) ?_;simp [hk,ht,Task.row]
  try intros
  refine aa.pure (iS t.c.doc (by omega) w.locks.length (by omega) (by omega)) (by simp) ?_;simp
  try intros
  have hs2:=hs1.2;simp [hs2];by_cases f : w.locks[aP t.c.doc w.locks.length] = -1
  rotate_left
  ·rw [gp p0 d (by rw [List.getElem?_eq_getElem hs2];simpa using f)]
   simp [f,Wld.zero,Hub.zero]
  rw [fu p0 d (by rw [List.getElem?_eq_getElem hs2];simpa using f)];simp [f,hs2,hm,hk,Task.row,ew];exact ⟨λr hr=>uZ rfl r hr,λr hr=>iI rfl r hr⟩
 by_cases p1 : t.pc = 1
 ·rw [eh p1]
  simp [p1];refine eY ae Tryz.func72 (by kernel_rfl) rfl rfl rfl (Nat.le_of_ble_eq_true rfl) 30000 rfl (by simp) ?_;have hs2:=hs1.2;simp [hk];refine drw eok mix [0,1,2,3,4,5,6,7,8,9,10,11,12,13] [14,15,16] (.c 14 14 33 16350 (.c 14 15 16350 0 (.c 14 16 0 0 (.l 14 0) .s) .s) .s) ?_;simp [hk,ht,Task.row]
  try intros
  refine aa.pure (iS t.c.doc (by omega) w.locks.length (by omega) (by omega)) (by simp) ?_;simp
  try intros
  simp [hs2];have hdoc:=cz w.h (by omega) t.c.doc;obtain ⟨q0,hq0⟩ : ∃ q : Prop,q = (¬ t.c.kind = 2\/w.h.shut = true\/ar w.h.docs t.c.doc < 0):=⟨_,rfl⟩;refine bE (λ_ : Unit=>[(53,.v (.bool (dc q0)))]) (λ_=>[]) [0,1,4] ?_ ?_
  ·by_cases q1 : t.c.kind = 2
   ·cases q2 : w.h.shut with
    | true =>
      have hq : q0:=by rw [hq0];exact .inr (.inl q2)
      refine am.quiet eok mix (by kernel_rfl) ?_;simp [hk,ht,Task.row,q1,hq]
    | false =>
      have hq : q0 ↔ ar w.h.docs t.c.doc < 0:=by rw [hq0,q1,q2];simp
      refine am.quiet eok mix (by kernel_rfl) ?_;simp [hk,ht,Task.row,q1];refine ⟨_,_,hdoc,by simp [Hub.row,q2],?_⟩;simp [hq]
   ·have hq : q0:=by rw [hq0];exact .inl q1
    refine am.quiet eok mix (by kernel_rfl) ?_;simp [hk,ht,Task.row,q1,hq]
  intro _;by_cases q : q0
  ·rw [gN (by rw [<- hq0];exact q)]
   simp [q];generalize hR : fDo w.h t.c = R at hdo;obtain ⟨h',a'⟩:=R;refine eY ae Tryz.func70 (by kernel_rfl) rfl rfl rfl (Nat.le_of_ble_eq_true rfl) 40000 rfl (by simp) ?_;refine bE (λx : (Hd × Hd × Hd × Hd) × Nat × Nat=>[(4,.p 40064 x.2.1 0),(5,.p 40080 x.2.2 0)]) (λx=>[(40064,.vars x.2.1 35 [.v (.bool h'.shut),.sl 40305 x.1.1 5 0 h'.docs.length,.sl 40306 x.1.2.1 6 0 h'.subs.length,.v (.int .i64 h'.last)]),(40080,.vars x.2.2 72 [.v (.int .i64 a'.code),.v (.int .i64 a'.rev),.sl 40310 x.1.2.2.1 1 0 a'.text.length,.sl 40311 x.1.2.2.2 3 0 a'.list.length]),(40305,.rows x.1.1 5 (h'.docs.map Doc.row) true),(40306,.rows x.1.2.1 6 (h'.subs.map Sub.row) true),(40310,.rows x.1.2.2.1 1 (a'.text.map ak) true),(40311,.rows x.1.2.2.2 3 (a'.list.map Entry.row) true)]) [0,1] ?_ ?_
   ·refine drw eok mix [0,1,2,3,4,5,6,7,8,9,10,11] [12,13,14,15,16,17,18,19] (.c 12 12 257 3838 (.c 12 13 0 3838 (.c 12 14 0 3838 (.c 12 15 0 3838 (.c 12 16 0 3838 (.c 12 17 0 3838 (.c 12 18 3838 0 (.c 12 19 0 0 (.l 12 0) .s) .s) .s) (.c 12 17 0 3838 (.c 12 16 0 3838 (.c 12 18 3838 0 (.c 12 19 0 0 (.l 12 0) .s) .s) .s) .s)) .s) .s) .s) (.c 12 16 0 4095 (.c 12 12 257 3838 (.c 12 13 0 3838 (.c 12 14 0 3838 (.c 12 15 0 3838 (.c 12 17 0 3838 (.c 12 18 3838 0 (.c 12 19 0 0 (.l 12 0) .s) .s) .s) .s) .s) .s) (.c 12 17 0 4095 (.c 12 12 257 3838 (.c 12 13 0 3838 (.c 12 14 0 3838 (.c 12 15 0 3838 (.c 12 18 3838 0 (.c 12 19 0 0 (.l 12 0) .s) .s) .s) .s) .s) .s) .s)) (.c 12 17 0 4095 (.c 12 12 257 3838 (.c 12 13 0 3838 (.c 12 14 0 3838 (.c 12 15 0 3838 (.c 12 16 0 3838 (.c 12 18 3838 0 (.c 12 19 0 0 (.l 12 0) .s) .s) .s) .s) .s) .s) (.c 12 16 0 4095 (.c 12 12 257 3838 (.c 12 13 0 3838 (.c 12 14 0 3838 (.c 12 15 0 3838 (.c 12 18 3838 0 (.c 12 19 0 0 (.l 12 0) .s) .s) .s) .s) .s) .s) .s)) .s))) ?_
    simp [hk,ht,Task.row]
    try intros
    repeat' first
     | (refine aa.pure (hdo) (by simp [Hub.row,Call.row]) ?_;simp [Hub.res,Answer.res];try intros)
     | (rw [Trc];refine ⟨?_,?_⟩<;>(try simp [hk,ht,Task.row])<;>try intros)
    all_goals
     exact ⟨_,_,_,_,_,_,⟨rfl,rfl⟩,⟨rfl,rfl,rfl⟩,⟨rfl,rfl,rfl⟩,rfl,rfl,rfl,rfl⟩
   rintro ⟨⟨K1,K2,K3,K4⟩,e1,e2⟩
   simp;refine drw eok mix [0,1,2,3,4,5,6,7] [8] (.c 8 8 253 2 (.l 8 2) .s) ?_;simp [hk,Task.row,hm]
   try intros
   refine drw eok mix [0,1,2,3,4,5,6,7,8,9,10] [11] (.c 11 11 2045 2 (.l 11 2) .s) ?_;simp [hk,bW]
   try intros
   simp [ew,bj,gU,hR,Task.row];exact ⟨λr hr=>uZ rfl r hr,λr hr=>iI rfl r hr⟩
  have q' : ¬ (¬ t.c.kind = 2\/w.h.shut = true\/ar w.h.docs t.c.doc < 0):=by rw [<- hq0];exact q
  have hi1 : ∀ x : Int,ak x = [CD.v (.int .i64 x)]:=λ_=>rfl
  simp [ab q];rcases cr w.queues t.c.doc with ⟨i,hi,eq,hd⟩ | eq
  ·have hrow : ∀ d,iV (w.queues.map Queue.row) i 1 d = (w.queues.map Queue.row).set i [.v (.string w.queues[i].doc),d]:=λd=>im (f:=Queue.row) hi rfl _
   by_cases f : w.queues[i].list.length = 2
   ·rw [gO q' hi eq f]
    have f' : (w.queues[i].list.length : Int) = 2:=by omega
    refine drw eok mix [0,1,2,3,4,5,6,7] [8,9] (.c 8 8 33 222 (.c 8 9 222 0 (.l 8 0) .s) .s) ?_;simp [hk,ht,Task.row]
    try intros
    refine aa.pure (gm (w.h.docs.map Doc.row) (w.h.subs.map Sub.row) ((w.locks.map ak).set (aP t.c.doc w.locks.length) [.v (.int .i64 (-1))]) (w.tasks.map Task.row) w.h.shut w.h.last w.step (mZ w.queues) (by omega) t.c.doc) (by simp) ?_;simp
    try intros
    simp [eq,hi,Queue.row,f',hk,Task.row,hm,bW,bj,ew,hi1];exact ⟨λr hr=>uZ rfl r hr,λr hr=>iI rfl r hr⟩
   have f' : ¬ (w.queues[i].list.length : Int) = 2:=by omega
   have hqa:=(Classical.byContradiction (p:=eI w.h w.queues i) λhn=>dV hi (eU hi hn) c1.2.2.2.2.2.2.2) hi;have hpos : 0 < w.queues[i].list.length:=hqa.2.1.1;have hle2:=hqa.2.1.2;rw [gM q' hi eq f];refine am.open (λ_ h=>h) (k:=453) (i:=i) (j:=1) (k':=60000) (sz':=1) (sz:=2) (H:=H4) (rows:=w.queues.map Queue.row) (srows:=w.queues[i].list.map ak) (row:=w.queues[i].row) (by simp) (by simp [hi]) rfl (by simp) (by decide) (by simp [ak]) (by simp) (λG=>?_);refine drw eok mix [0,1,2,3,4,5,6,7] [8,9] (.c 8 8 33 222 (.c 8 9 222 0 (.l 8 0) .s) .s) ?_;simp [hk,ht,Task.row,hrow]
   try intros
   refine aa.pure (gm (w.h.docs.map Doc.row) (w.h.subs.map Sub.row) ((w.locks.map ak).set (aP t.c.doc w.locks.length) [.v (.int .i64 (-1))]) (w.tasks.map Task.row) w.h.shut w.h.last w.step (u1 hi (.h 60000 G 1 w.queues[i].list.length)) (by omega) t.c.doc) (by simp) ?_;simp
   try intros
   simp [eq,hi,f'];refine eY ae Tryz.func169 (by kernel_rfl) rfl rfl rfl (Nat.le_of_ble_eq_true rfl) 50000 rfl (by simp) ?_;simp [hk,ht,Task.row,hm];refine aa.pure (gm (w.h.docs.map Doc.row) (w.h.subs.map Sub.row) ((w.locks.map ak).set (aP t.c.doc w.locks.length) [.v (.int .i64 (-1))]) ((w.tasks.map Task.row).set k (Task.row ⟨t.c,2,t.inv,t.lin,t.rs,t.a⟩)) w.h.shut w.h.last w.step (u1 hi (.h 60000 G 1 w.queues[i].list.length)) (by omega) t.c.doc) (by simp [Task.row]) ?_;simp [eq];refine drw eok mix [0,1,2,3,4,5,6,7,8,9,10,11,12,13,16,17] [14,15,18] (.c 16 14 4 65531 (.c 16 15 8 65523 (.c 16 18 65521 2 (.l 16 2) .s) .s) .s) ?_;simp [hi,hpos,bW]
   try intros
   simp [Queue.row,Task.row,bj,ew,hi1];exact ⟨by omega,λr hr=>uZ rfl r hr,λr hr=>Fi rfl r hr,λr hr=>iI rfl r hr⟩
  rw [iE q' eq];refine drw eok mix [0,1,2,3,4,5,6,7] [8,9] (.c 8 8 33 222 (.c 8 9 222 0 (.l 8 0) .s) .s) ?_;simp [hk,ht,Task.row]
  try intros
  refine aa.pure (gm (w.h.docs.map Doc.row) (w.h.subs.map Sub.row) ((w.locks.map ak).set (aP t.c.doc w.locks.length) [.v (.int .i64 (-1))]) (w.tasks.map Task.row) w.h.shut w.h.last w.step (mZ w.queues) (by omega) t.c.doc) (by simp) ?_;simp
  try intros
  simp [eq];refine eY ae Tryz.func169 (by kernel_rfl) rfl rfl rfl (Nat.le_of_ble_eq_true rfl) 50000 rfl (by simp) ?_;simp [hk,ht,Task.row,hm];refine aa.pure (gm (w.h.docs.map Doc.row) (w.h.subs.map Sub.row) ((w.locks.map ak).set (aP t.c.doc w.locks.length) [.v (.int .i64 (-1))]) ((w.tasks.map Task.row).set k (Task.row ⟨t.c,2,t.inv,t.lin,t.rs,t.a⟩)) w.h.shut w.h.last w.step (mZ w.queues) (by omega) t.c.doc) (by simp [Task.row]) ?_;have hal:=ka t.c.doc w.queues;have hon:=λ{k : Nat} h1 h2=>il (name:=t.c.doc) (l:=w.queues) (k:=k) h1 h2
  generalize aI t.c.doc w.queues = a at hal hon;simp [eq]
  refine ag eok (λm : Nat=>m<=a) (λm=>⟨96,50000,[(6,.v (.int .i64 m)),(0,.p 96 b6 0),(1,.v (.int .i64 k)),(4,.v (.string t.c.doc))],
   [(454, .rows H5 15 ((w.tasks.map Task.row).set k (Task.row ⟨t.c, 2, t.inv, t.lin, t.rs, t.a⟩)) true), (452, .rows H3 1 ((w.locks.map ak).set (aP t.c.doc w.locks.length) [.v (.int .i64 (-1))]) true),
    (96,.vars b6 39 [.v (.bool w.h.shut),.sl 449 H1 5 0 w.h.docs.length,.sl 450 H2 6 0 w.h.subs.length,.v (.int .i64 w.h.last),.sl 452 H3 1 0 w.locks.length,.sl 453 H4 2 0 w.queues.length,.sl 454 H5 15 0 w.tasks.length,.v (.int .i64 w.step)]),
    (453,.rows H4 2 (w.queues.map Queue.row) true),(450,.rows H2 6 (w.h.subs.map Sub.row) true),(449,.rows H1 5 (w.h.docs.map Doc.row) true),
    (64,.vars b4 39 [.v (.bool false),.nil,.nil,.v (.int .i64 0),.nil,.nil,.nil,.v (.int .i64 0)]),
    (32,.vars b2 39 [.v (.bool w.h.shut),.cv (us 0 1) w.h.docs.length,.cv (us 0 2) w.h.subs.length,.v (.int .i64 w.h.last),.cv (us 0 4) w.locks.length,.cv (us 0 5) w.queues.length,.cv (us 0 6) w.tasks.length,.v (.int .i64 w.step)])]⟩) (λm=>w.queues.length - m) 0 (by simp) (by simp [Task.row]) (λm hmm=>Ent.refl ?_)
  by_cases hlt : m < w.queues.length
  ·obtain ⟨x,hx⟩ : ∃ x,w.queues[m] = x:=⟨_,rfl⟩
   have hiff:=hon hmm hlt;rw [hx] at hiff;simp [hlt,hx,Queue.row];by_cases s : sLt x.doc t.c.doc
   ·simp [s]
    exact Ent.refl ⟨m + 1,by have:=hiff.1 s;omega,by omega,by simp;exact ah (by omega)⟩
   have hka : m = a:=by
    have : ¬ m < a:=λh=>s (hiff.2 h)
    omega
   subst hka;have hmn : min m w.queues.length = m:=by omega
   have hc1 : cut (w.queues.map Queue.row) 0 m = (w.queues.map Queue.row).take m:=by rw [cM];simp
   have hc2 : cut (w.queues.map Queue.row) m (w.queues.length - m) = (w.queues.map Queue.row).drop m:=by rw [cM,List.take_of_length_le (by simp)]
   simp [ab s,hc1,hc2,hmn,bj,ew,Queue.row,hi1,Task.row];refine ⟨by omega,by omega,by omega,by omega,by omega,by omega,λr hr=>uZ rfl r hr,by omega,?_,?_,λr hr=>iI rfl r hr⟩
   ·rintro row (h | rfl | h)
    ·exact v7 (List.mem_of_mem_take h)
    ·rfl
    ·exact v7 (List.mem_of_mem_drop h)
   ·exact (pr (by simp [hmn];omega)).symm
  have hka : m = w.queues.length:=by omega
  have hka2 : a = w.queues.length:=by omega
  subst hka2;subst hka;have hz : cut (w.queues.map Queue.row) w.queues.length 0 = []:=by rw [cM];simp
  simp [hz,bj,ew,Queue.row,hi1,Task.row];refine ⟨by omega,by omega,λr hr=>uZ rfl r hr,?_,λr hr=>iI rfl r hr⟩
  rintro row (⟨a,-,rfl⟩ | rfl)<;>rfl
 by_cases p3 : t.pc = 3
 ·rw [ft p3]
  simp [p3,hm,bW,Task.row,hk,ew];exact λr hr=>iI rfl r hr
 ·rw [gq p0 p1 p3]
  simp [p0,p1,p3,Wld.zero,Hub.zero]
set_option maxHeartbeats 3200000
theorem nR (w : Wld) (hl : ed w<=2 ^ 30) (c : ao w) (k : Nat) (hk : k < w.tasks.length) : aj Tryz.prog 75 [.agg w.row,.c (vi k)] (.one (.c (vb (¬ w.step = 1000000/\eB w w.tasks[k])) 1)):=by
 refine pci ae Tryz.func75 (λw0 base=>?_);have hle:=aA (bg hl).2.2.2;obtain ⟨t,ht⟩ : ∃ t,w.tasks[k] = t:=⟨_,rfl⟩;have htk:=c.1 _ (List.getElem_mem hk);rw [ht] at htk ⊢;have hdsz:=htk.1.2.1;have hpc:=htk.2.2.1;have hs1:=(gY t.c.doc c.2.2.1.1).2;have hlk:=c.2.2.1;simp [Wld.row];intro b2;by_cases c2 : w.step = 1000000
 ·simp [c2]
 simp [c2];refine aa.pure (aO k 0 ((w.tasks.length : Int) - 1)) (by simp;exact (Go.IntWalk.i64_in _ (by omega)).symm) ?_;have c3 : 0<=(k : Int)/\(k : Int)<=(w.tasks.length : Int) - 1:=by omega
 simp [c3,hk,ht,Task.row];intro b5;by_cases p0 : t.pc = 0
 rotate_left
 ·by_cases p2 : t.pc = 2
  ·simp [p2,eB]
  by_cases p4 : t.pc = 4
  ·simp [p4,eB]
  simp [p0,p2,p4,eB]
 simp [p0];refine aa.pure (aR t.c.kind) (by simp) ?_;by_cases d : aK t.c.kind
 rotate_left
 ·simp [p0,eB,d]
 simp [d];refine am.quiet eok mix (by kernel_rfl) ?_;simp;refine ⟨_,_,lv t.c.doc (by omega) w.locks.length (by omega) (by omega),by simp,?_⟩;simp [hs1,eB,p0,d]
theorem AF (w : Wld) (hl : ed w<=2 ^ 30) : aj Tryz.prog 41 [.agg w.row] (.one (.c (.s ((cB w).map ak)) 1)):=by
 refine pci ae Tryz.func41 (λw0 base=>?_);have hle:=aA (bg hl).2.2.2;simp [Wld.row];intro b1;refine aa.pure (io w (by omega)) (by simp [Wld.row]) ?_;by_cases c1 : ao w
 rotate_left
 ·simp [ab c1,pm (λh=>c1 h.1)]
 simp [c1]
 refine ag eok (λx : Nat × Hd=>x.1<=w.tasks.length) (λx=>⟨23,0,[(11,.v (.int .i64 x.1)),(10,.v (.int .i64 w.tasks.length)),(1,.p 16 b1 0),(3,.sl 5000 x.2 1 0 (iy w x.1).length)],
  [(16, .vars b1 39 [.v (.bool w.h.shut), .ro (w.h.docs.map Doc.row), .ro (w.h.subs.map Sub.row), .v (.int .i64 w.h.last), .ro (w.locks.map ak), .ro (w.queues.map Queue.row), .ro (w.tasks.map Task.row), .v (.int .i64 w.step)]),
   (5000,.rows x.2 1 ((iy w x.1).map ak) true)]⟩) (λx=>w.tasks.length - x.1) (0,none) (by simp) (by simp [z9]) (λx hx=>Ent.refl ?_)
 obtain ⟨i,H⟩:=x;simp only at hx ⊢;have hol:=Cz w i;have e1 : Go.IntKind.i64.wrap ((i : Int) + 1) = ((i + 1 : Nat) : Int):=ah (by omega);by_cases hlt : i < w.tasks.length
 ·have hy : ¬ w.step = 1000000/\eB w w.tasks[i]->iy w (i + 1) = iy w i ++ [(i : Int)]:=λa=>Cy hlt ((ic c1 a.1 hlt).2 a.2)
  have hn : ¬ (¬ w.step = 1000000/\eB w w.tasks[i])->iy w (i + 1) = iy w i:=by
   intro a;refine Fw hlt ?_;by_cases c2 : w.step = 1000000
   ·rw [iD (λh=>h.2.1 c2)]
   ·cases h : (cA w i).2 with
    | false=>rfl
    | true=>exact absurd ⟨c2,(ic c1 c2 hlt).1 h⟩ a
  simp [hlt];refine aa.pure (nR w hl c1 i hlt) (by simp [Wld.row]) ?_;by_cases a : ¬ w.step = 1000000/\eB w w.tasks[i]
  ·have ho:=hy a
   simp [a];intro b5;refine ⟨by omega,λH2=>Ent.refl ⟨i + 1,by omega,by omega,H2,?_⟩⟩;simp [ho,e1,ak]
  ·have ho:=hn a
   simp [ab a];refine Ent.refl ⟨i + 1,by omega,by omega,H,?_⟩;simp [ho,e1]
 ·have e : i = w.tasks.length:=by omega
  subst e;rw [CA];simp
end Go.Proofs.YtoldjebobgocpaaGreat
