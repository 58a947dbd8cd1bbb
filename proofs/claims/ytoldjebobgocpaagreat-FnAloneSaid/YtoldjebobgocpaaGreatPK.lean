import Derived.Test.YtoldjebobgocpaaGreatPJ
import Derived.Test.YtoldjebobgocpaaGreatPG
import Derived.Test.YtoldjebobgocpaaGreatPH
import Derived.Test.YtoldjebobgocpaaGreatPE
import Derived.Test.YtoldjebobgocpaaGreatMH
import Derived.Shelf.RegionOpenPlain
namespace Go.Proofs.YtoldjebobgocpaaGreat
open Go.AM
set_option maxRecDepth 20000
theorem y4 {w : Wld} {c : Call} (h : (d6 w c).2 = true) : ar (d6 w c).1:=by
 unfold d6 at h ⊢
 split at h
 ·rename_i hc
  rw [if_pos hc];obtain ⟨⟨W,hcl⟩,hl,hs⟩:=hc;rw [cS] at W ⊢;refine ⟨λt ht=>?_,W.hub,W.nlock,?_,?_,zF W.steps W.step.1,?_,LI W.queues (by simp [cA])⟩
  ·rcases List.mem_append.1 ht with ht | ht
   ·exact W.tasks t ht
   ·simp at ht
    subst ht;have:=W.step;refine ⟨hcl,this,by simp [cA],by simp [cA],by simp [cA],λ_=>⟨rfl,rfl,rfl⟩,by simp [cA],by simp [cA],by simp [cA]⟩
  ·have:=W.ntask
   simp only [List.length_append,List.length_cons,List.length_nil];omega
  ·have:=W.step
   simp only;omega
  ·exact Al (s:=w.step) (h:=w.h) (qs:=w.queues) W.locks (by simp [cA])
 ·simp at h
theorem DA {w : Wld} (W : WIn w) (_hs : ¬ w.step = 1000000) {k : Nat} (hk : k < w.tasks.length) (hp : w.tasks[k].pc<=2) (a : Answer) :
 ee ⟨w.tasks[k].c,3,w.tasks[k].inv,w.step,w.tasks[k].rs,a⟩/\eR (w.tasks.set k ⟨w.tasks[k].c,3,w.tasks[k].inv,w.step,w.tasks[k].rs,a⟩) (w.step + 1):=by
 have ht:=W.tasks _ (List.getElem_mem hk);have hst:=W.step;obtain ⟨g1,g2,g3,g4,g5,g6,g7,g8,g9⟩:=ht;obtain ⟨e1,e2,-⟩:=g6 hp;have hlt : w.tasks[k].inv < w.step:=rG W.steps (List.getElem_mem hk) (by simp [bk]) (by omega);refine ⟨⟨g1,g2,by simp,by simp,by simp,by simp,λ_=>.inr ⟨by simp only;omega,by simp only;omega⟩,λ_=>e2,by simp⟩,?_⟩;refine rF hk W.steps ?_;have h1 : ¬ w.tasks[k].inv = -1:=by omega
 have h2 : ¬ w.step = -1:=by omega
 simp [bk,cj,e1,e2,h1,h2]
theorem wH {w : Wld} (W : WIn w) (hs : ¬ w.step = 1000000) {k : Nat} (hk : k < w.tasks.length) (hp : w.tasks[k].pc<=2) {lk : List Int} {qs : List Queue} (hlk : lk.length = w.locks.length)
 (hL : ∀ t : Task,t.pc≠1->fT ⟨(fDo w.h w.tasks[k].c).1,lk,qs,w.tasks.set k t,w.step + 1⟩) (hQ : ∀ t : Task,t.pc≠2->QIn (fDo w.h w.tasks[k].c).1.docs qs (w.tasks.set k t)) :
 WIn (bQ (jL ⟨w.h,lk,qs,w.tasks,w.step⟩ k w.tasks[k]) (w.step + 1)):=by
 obtain ⟨h1,h2⟩:=DA W hs hk hp (fDo w.h w.tasks[k].c).2;have hst:=W.step;refine ⟨λt ht=>?_,(oj W.hub _).1,?_,?_,?_,h2,hL _ (by simp),hQ _ (by simp)⟩
 ·rcases List.mem_or_eq_of_mem_set ht with ht | rfl
  ·exact W.tasks t ht
  ·exact h1
 ·have:=W.nlock;simp only [bQ,jL];omega
 ·have:=W.ntask;simp only [bQ,jL,List.length_set];exact this
 ·simp only [bQ];omega
theorem Ig {α : Type} (A l B : List α) (k : α) : (A ++ ((l ++ [k]) ++ B)).Perm (k :: (A ++ (l ++ B))):=by
 have e1 : A ++ ((l ++ [k]) ++ B) = (A ++ l) ++ k :: B:=by simp
 have e2 : A ++ (l ++ B) = (A ++ l) ++ B:=by simp
 rw [e1,e2];exact List.perm_middle
theorem F8 {name : ByteArray} {x : List Int} : ∀ {l : List Queue},l.Pairwise iP->(∀ y∈l,y.doc≠name)->(l.take (aN name l) ++ ⟨name,x⟩ :: l.drop (aN name l)).Pairwise iP
 | [],_,_=>by simp [aN]
 | y :: l, h, hn => by
   obtain ⟨h1,h2⟩:=List.pairwise_cons.1 h;have ih:=F8 (name:=name) (x:=x) h2 (λz hz=>hn z (List.mem_cons_of_mem _ hz));unfold aN
   split
   ·rename_i hc
    rw [List.take_succ_cons,List.drop_succ_cons,List.cons_append];refine List.pairwise_cons.2 ⟨λz hz=>?_,ih⟩;rcases List.mem_append.1 hz with hz | hz
    ·exact h1 z (List.mem_of_mem_take hz)
    ·rcases List.mem_cons.1 hz with rfl | hz
     ·exact hc
     ·exact h1 z (List.mem_of_mem_drop hz)
   ·rename_i hc
    have h3 : iP ⟨name,x⟩ y:=BB hc (hn y (List.mem_cons_self ..));rw [List.take_zero,List.drop_zero,List.nil_append];refine List.pairwise_cons.2 ⟨λz hz=>?_,h⟩;rcases List.mem_cons.1 hz with rfl | hz
    ·exact h3
    ·exact mN h3 (h1 z hz)
theorem xX {l : List Queue} {name : ByteArray} (h : bK l name = -1) : ∀ y∈l,y.doc≠name:=by
 intro y hy e;rcases eF (λq : Queue=>q.doc = name) l with ⟨k,hk,e',-⟩ | ⟨-,hn⟩
 ·unfold bK at h;omega
 ·obtain ⟨i,hi,rfl⟩:=List.getElem_of_mem hy
  exact hn i hi e
theorem kF {w : Wld} (W : WIn w) {k : Nat} {t : Task} (ht : ee t) : ∀ x∈w.tasks.set k t,ee x:=by
 intro x hx;rcases List.mem_or_eq_of_mem_set hx with hx | rfl
 ·exact W.tasks x hx
 ·exact ht
theorem y0 {w : Wld} {k : Int} (h : (d5 w k).2 = true) : ar (d5 w k).1:=by
 by_cases c : ar w/\¬ w.step = 1000000/\(0<=k/\k<=(w.tasks.length : Int) - 1)
 rotate_left
 ·rw [ix c] at h;cases h
 obtain ⟨c,hs,h1,h2⟩:=c;obtain ⟨k,rfl⟩ : ∃ n : Nat,k = n:=⟨k.toNat,by omega⟩;have hk : k < w.tasks.length:=by omega
 rw [jp c hs hk] at h ⊢;have W:=cS.1 c;have hst:=W.step;have ht:=W.tasks _ (List.getElem_mem hk);have hlt : w.tasks[k].inv < w.step:=rG W.steps (List.getElem_mem hk) (by simp [bk]) (by have:=ht.2.1;omega);obtain ⟨g1,g2,g3,g4,g5,g6,g7,g8,g9⟩:=ht;have hmem:=List.getElem_mem hk;obtain ⟨t,hte⟩ : ∃ t,w.tasks[k] = t:=⟨_,rfl⟩;rw [cS];have hnt : ∀ t : Task,(w.tasks.set k t).length<=10:=λt=>by rw [List.length_set];exact W.ntask
 by_cases p0 : w.tasks[k].pc = 0
 ·by_cases d : aM w.tasks[k].c.kind
  ·by_cases f : w.locks[bc w.tasks[k].c.doc w.locks.length]? = some (-1)
   ·rw [fg p0 d f]
    obtain ⟨e1,e2,e3⟩:=g6 (by omega);refine ⟨kF W ⟨g1,g2,by simp,λ_=>d,by simp,λ_=>⟨e1,e2,e3⟩,by simp,by simp,by simp⟩,W.hub,by simp only [List.length_set];exact W.nlock,hnt _,by simp only;omega,?_,?_,?_⟩
    ·exact kQ hk W.steps rfl (by simp only;omega)
    ·exact Aj (h:=w.h) (qs:=w.queues) (s:=w.step) (t:=w.tasks[k]) W.locks hk (by omega) rfl f
    ·exact rS W.queues (λ_ h=>h) hk (by omega) (by simp)
   ·rw [iy p0 d f] at h;cases h
  ·rw [fh p0 d]
   exact wH W hs hk (by omega) rfl (λt h1=>oc (h:=w.h) (qs:=w.queues) (s:=w.step) W.locks hk (by omega) h1) (λt h2=>rS W.queues (oj W.hub _).2 hk (by omega) h2)
 ·by_cases p1 : w.tasks[k].pc = 1
  ·rw [d4 p1]
   obtain ⟨e1,e2,e3⟩:=g6 (by omega)
   have hdrop : ∀ (h' : Hub) (qs' : List Queue) (s' : Int) (t : Task),t.pc≠1->fT ⟨h',w.locks.set (bc w.tasks[k].c.doc w.locks.length) (-1),qs',w.tasks.set k t,s'⟩:=
    λh' qs' s' t h1=>Ak (h:=w.h) (qs:=w.queues) (s:=w.step) W.locks hk p1 h1
   have hnl : (w.locks.set (bc w.tasks[k].c.doc w.locks.length) (-1)).length = w.locks.length:=by simp
   by_cases q : ¬ w.tasks[k].c.kind = 2\/w.h.shut = true\/az w.h.docs w.tasks[k].c.doc < 0
   ·rw [gJ q]
    exact wH W hs hk (by omega) hnl (λt h1=>hdrop _ _ _ t h1) (λt h2=>rS W.queues (oj W.hub _).2 hk (by omega) h2)
   ·have hk2 : w.tasks[k].c.kind = 2:=Classical.byContradiction λh=>q (.inl h)
    have hdoc : 0<=az w.h.docs w.tasks[k].c.doc:=by have : ¬ az w.h.docs w.tasks[k].c.doc < 0:=λh=>q (.inr (.inr h));omega
    have hwait : ee ⟨w.tasks[k].c,2,w.tasks[k].inv,w.tasks[k].lin,w.tasks[k].rs,w.tasks[k].a⟩:=⟨g1,g2,by simp,by simp,λ_=>hk2,λ_=>⟨e1,e2,e3⟩,by simp,by simp,by simp⟩;rcases cz w.queues w.tasks[k].c.doc with ⟨j,hj,e,hn⟩ | e
    ·by_cases f : w.queues[j].list.length = 2
     ·rw [iU q hj e f]
      refine ⟨kF W ⟨g1,g2,by simp,by simp,by simp,by simp,λ_=>.inl ⟨rfl,hk2,e1⟩,λ_=>e2,by simp⟩,W.hub,by simp only [bQ];rw [hnl];exact W.nlock,hnt _,by simp only [bQ];omega,?_,hdrop _ _ _ _ (by simp),?_⟩
      ·exact kQ hk W.steps rfl (by simp only [bQ];omega)
      ·exact rS W.queues (λ_ h=>h) hk (by omega) (by simp)
     ·rw [iT q hj e f]
      refine ⟨kF W hwait,W.hub,by simp only [bQ];rw [hnl];exact W.nlock,hnt _,by simp only [bQ];omega,?_,hdrop _ _ _ _ (by simp),?_⟩
      ·exact kQ hk W.steps rfl (by simp only [bQ];omega)
      ·have hq1:=W.queues.one _ (List.getElem_mem hj)
       refine Fy W.queues hk (by omega) (by rfl) (λx hx=>?_) (vQ (f:=Queue.doc) (R:=sLt) hj rfl W.queues.ord) ?_ (λx hx i hi=>?_)
       ·rcases List.mem_or_eq_of_mem_set hx with hx | rfl
        ·exact W.queues.one x hx
        ·have:=hq1.1
         exact ⟨by simp only [List.length_append,List.length_cons,List.length_nil];omega,hq1.2⟩
       ·simp only [bQ]
        rw [lW hj,rt hj];exact Ig _ _ _ _
       ·rcases List.mem_or_eq_of_mem_set hx with hx | rfl
        ·exact .inr ⟨x,hx,rfl,hi⟩
        ·rcases List.mem_append.1 hi with hi | hi
         ·exact .inr ⟨_,List.getElem_mem hj,rfl,hi⟩
         ·simp at hi;exact .inl ⟨hi,hn⟩
    ·rw [iA q e]
     refine ⟨kF W hwait,W.hub,by simp only [bQ];rw [hnl];exact W.nlock,hnt _,by simp only [bQ];omega,?_,hdrop _ _ _ _ (by simp),?_⟩
     ·exact kQ hk W.steps rfl (by simp only [bQ];omega)
     ·refine Fy W.queues hk (by omega) (by rfl) (λx hx=>?_) (F8 W.queues.ord (xX e)) ?_ (λx hx i hi=>?_)
      ·rcases List.mem_append.1 hx with hx | hx
       ·exact W.queues.one x (List.mem_of_mem_take hx)
       ·rcases List.mem_cons.1 hx with rfl | hx
        ·exact ⟨by simp,lA.1 hdoc⟩
        ·exact W.queues.one x (List.mem_of_mem_drop hx)
      ·simp only [bQ]
       have e2 : bu w.queues = bu (w.queues.take (aN w.tasks[k].c.doc w.queues)) ++ bu (w.queues.drop (aN w.tasks[k].c.doc w.queues)):=by
        unfold bu;rw [<- List.flatMap_append,List.take_append_drop]
       have e3 : ∀ (A B : List Queue) (q : Queue),bu (A ++ q :: B) = bu A ++ (q.list ++ bu B):=λA B q=>by unfold bu;rw [List.flatMap_append,List.flatMap_cons]
       rw [e2,e3];exact List.perm_middle
      ·rcases List.mem_append.1 hx with hx | hx
       ·exact .inr ⟨x,List.mem_of_mem_take hx,rfl,hi⟩
       ·rcases List.mem_cons.1 hx with rfl | hx
        ·simp at hi;exact .inl ⟨hi,rfl⟩
        ·exact .inr ⟨x,List.mem_of_mem_drop hx,rfl,hi⟩
  ·by_cases p3 : w.tasks[k].pc = 3
   ·rw [ff p3]
    have hrs:=g8 p3;have hbl:=g7 (by omega)
    have hll : w.tasks[k].lin<=w.step:=by
     by_cases e : w.tasks[k].lin = -1
     ·omega
     ·have:=rG W.steps (List.getElem_mem hk) (n:=w.tasks[k].lin) (by simp [bk]) e
      omega
    refine ⟨kF W ⟨g1,g2,by simp,by simp,by simp,by simp,λ_=>hbl,by simp,λ_=>⟨by simp only;omega,hll⟩⟩,W.hub,W.nlock,hnt _,by simp only;omega,?_,?_,?_⟩
    ·refine rF hk W.steps ?_
     have h2 : ¬ w.step = -1:=by omega
     have h3 : ∀ a b c : List Int,a ++ (b ++ c) = a ++ b ++ c:=λa b c=>by simp
     show cj [w.tasks[k].inv,w.tasks[k].lin,w.step] = cj [w.tasks[k].inv,w.tasks[k].lin,w.tasks[k].rs] ++ [w.step]
     rw [show [w.tasks[k].inv,w.tasks[k].lin,w.step] = [w.tasks[k].inv,w.tasks[k].lin] ++ [w.step] from rfl,show [w.tasks[k].inv,w.tasks[k].lin,w.tasks[k].rs] = [w.tasks[k].inv,w.tasks[k].lin] ++ [w.tasks[k].rs] from rfl,gq,gq,hrs];simp [cj,h2]
    ·exact oc (h:=w.h) (qs:=w.queues) (s:=w.step) W.locks hk (by omega) (by simp)
    ·exact rS W.queues (λ_ h=>h) hk (by omega) (by simp)
   ·rw [iz p0 p1 p3] at h;cases h
theorem gT {w : Wld} (W : WIn w) {i : Nat} (hi : i < w.queues.length) {k : Nat} (hk : k < w.tasks.length) {rest : List Int} (hl : w.queues[i].list = (k : Int) :: rest) : w.tasks[k].pc = 2/\w.tasks[k].c.doc = w.queues[i].doc:=by
 obtain ⟨j,hj,e,h1,h2⟩:=W.queues.may _ (List.getElem_mem hi) (k : Int) (by rw [hl];simp);have : j = k:=by omega
 subst this;exact ⟨h1,h2⟩
theorem vf {w : Wld} {name : ByteArray} (h : (cO w name).2 = true) : ar (cO w name).1:=by
 by_cases c : ar w/\¬ w.step = 1000000/\0<=bK w.queues name
 rotate_left
 ·rw [m6 c] at h;cases h
 obtain ⟨c,hs,h0⟩:=c;rcases cz w.queues name with ⟨i,hi,e,-⟩ | e;rotate_left
 ·omega
 obtain ⟨k,hk,rest,hl,hr⟩:=dw c hi;rw [ft c hs hi e hk hl,cS];have W:=cS.1 c;obtain ⟨hp,-⟩:=gT W hi hk hl;refine wH W hs hk (by omega) rfl (λt h1=>oc (h:=w.h) (qs:=w.queues) (s:=w.step) W.locks hk (by omega) h1) (λt h2=>?_);have hwa:=rt hi;rw [hl] at hwa;have hq1:=W.queues.one _ (List.getElem_mem hi);unfold kT
 split
 ·rename_i hz
  subst hz;have e1 : w.queues.eraseIdx i = w.queues.take i ++ w.queues.drop (i + 1):=List.eraseIdx_eq_take_drop_succ ..;have hsub : ∀ q,q∈w.queues.eraseIdx i->q∈w.queues:=λq hq=>List.mem_of_mem_eraseIdx hq
  refine BH W.queues (oj W.hub _).2 hk h2 (λq hq=>W.queues.one q (hsub q hq)) (W.queues.ord.sublist (List.eraseIdx_sublist ..)) ?_ (λq hq j hj=>⟨q,hsub q hq,rfl,hj⟩);have e2 : bu (w.queues.eraseIdx i) = bu (w.queues.take i) ++ bu (w.queues.drop (i + 1)):=by rw [e1];unfold bu;rw [List.flatMap_append]
  rw [hwa,e2];exact List.perm_middle
 ·rename_i hz
  refine BH W.queues (oj W.hub _).2 hk h2 (λq hq=>?_) (vQ (f:=Queue.doc) (R:=sLt) hi rfl W.queues.ord) ?_ (λq hq j hj=>?_)
  ·rcases List.mem_or_eq_of_mem_set hq with hq | rfl
   ·exact W.queues.one q hq
   ·have : 0 < rest.length:=List.length_pos_iff.2 hz
    exact ⟨by simp only;omega,hq1.2⟩
  ·rw [hwa,lW hi]
   exact List.perm_middle
  ·rcases List.mem_or_eq_of_mem_set hq with hq | rfl
   ·exact ⟨q,hq,rfl,hj⟩
   ·exact ⟨_,List.getElem_mem hi,rfl,by rw [hl];exact List.mem_cons_of_mem _ hj⟩
theorem uX : ∀ {l : List Task} {k : Nat} (h : k < l.length) (t : Task),lQ (l.set k t) = lQ l - eM l[k] + eM t
 | x :: l,0,_,t=>by simp only [List.set_cons_zero,lQ,List.getElem_cons_zero];omega
 | x :: l, k + 1, h, t => by
   have:=uX (l:=l) (k:=k) (by simpa using h) t;simp only [List.set_cons_succ,lQ,List.getElem_cons_succ,this];omega
theorem od {t : Task} {a : Answer} {s : Int} (h : t.pc<=2) (h0 : 0<=t.pc) (h1 : t.pc = 1->aM t.c.kind) : eM ⟨t.c,3,t.inv,s,t.rs,a⟩ < eM t:=by
 have e : eM ⟨t.c,3,t.inv,s,t.rs,a⟩ = 1:=by unfold eM;simp
 rw [e];unfold eM
 split
 ·split
  ·omega
  ·split<;>omega
 ·split
  ·rename_i p1
   split
   ·omega
   ·rw [if_pos (h1 p1)];omega
  ·rw [if_pos (by omega)];omega
theorem si {t : Task} (h : t.pc = 1) (h2 : t.c.kind = 2) : eM ⟨t.c,2,t.inv,t.lin,t.rs,t.a⟩ < eM t:=by unfold eM;simp [h,h2]
theorem Ar {t : Task} (h : t.pc = 0) (h2 : aM t.c.kind) : eM ⟨t.c,1,t.inv,t.lin,t.rs,t.a⟩ < eM t:=by
 unfold eM;simp only [h];by_cases k : t.c.kind = 2
 ·simp [k]
 ·simp [k,h2]
theorem As {t : Task} {a : Answer} (h : t.pc = 1) (h2 : t.c.kind = 2) : eM ⟨t.c,3,t.inv,t.lin,t.rs,a⟩ < eM t:=by unfold eM;simp [h,h2]
theorem Aq {t : Task} {s : Int} (h : t.pc = 3) : eM ⟨t.c,4,t.inv,t.lin,s,t.a⟩ < eM t:=by unfold eM;simp [h]
def uR (w w' : Wld) (k : Nat) : Prop:=∃ h : k < w.tasks.length,∃ t,w'.tasks = w.tasks.set k t/\t.c = w.tasks[k].c/\t.inv = w.tasks[k].inv/\eM t < eM w.tasks[k]
theorem zZ {w w' : Wld} {k : Nat} (h : uR w w' k) : lQ w'.tasks < lQ w.tasks:=by
 obtain ⟨hk,t,e,-,-,hl⟩:=h;rw [e,uX hk];omega
theorem Gy {w : Wld} {k : Nat} (h : (d5 w k).2 = true) : uR w (d5 w k).1 k:=by
 by_cases c : ar w/\¬ w.step = 1000000/\(0<=(k : Int)/\(k : Int)<=(w.tasks.length : Int) - 1)
 rotate_left
 ·rw [ix c] at h;cases h
 obtain ⟨c,hs,h1,h2⟩:=c;have hk : k < w.tasks.length:=by omega
 rw [jp c hs hk] at h ⊢;have W:=cS.1 c;obtain ⟨g1,g2,g3,g4,g5,g6,g7,g8,g9⟩:=W.tasks _ (List.getElem_mem hk);refine ⟨hk,?_⟩;by_cases p0 : w.tasks[k].pc = 0
 ·by_cases d : aM w.tasks[k].c.kind
  ·by_cases f : w.locks[bc w.tasks[k].c.doc w.locks.length]? = some (-1)
   ·rw [fg p0 d f];exact ⟨_,rfl,rfl,rfl,Ar p0 d⟩
   ·rw [iy p0 d f] at h;cases h
  ·rw [fh p0 d];exact ⟨_,rfl,rfl,rfl,od (by omega) (by omega) g4⟩
 ·by_cases p1 : w.tasks[k].pc = 1
  ·rw [d4 p1]
   by_cases q : ¬ w.tasks[k].c.kind = 2\/w.h.shut = true\/az w.h.docs w.tasks[k].c.doc < 0
   ·rw [gJ q];exact ⟨_,rfl,rfl,rfl,od (by omega) (by omega) g4⟩
   ·have hk2 : w.tasks[k].c.kind = 2:=Classical.byContradiction λh=>q (.inl h)
    rcases cz w.queues w.tasks[k].c.doc with ⟨j,hj,e,hn⟩ | e
    ·by_cases f : w.queues[j].list.length = 2
     ·rw [iU q hj e f];exact ⟨_,rfl,rfl,rfl,As p1 hk2⟩
     ·rw [iT q hj e f];exact ⟨_,rfl,rfl,rfl,si p1 hk2⟩
    ·rw [iA q e];exact ⟨_,rfl,rfl,rfl,si p1 hk2⟩
  ·by_cases p3 : w.tasks[k].pc = 3
   ·rw [ff p3];exact ⟨_,rfl,rfl,rfl,Aq p3⟩
   ·rw [iz p0 p1 p3] at h;cases h
theorem Dx {w : Wld} {name : ByteArray} (h : (cO w name).2 = true) : ∃ k,uR w (cO w name).1 k:=by
 by_cases c : ar w/\¬ w.step = 1000000/\0<=bK w.queues name
 rotate_left
 ·rw [m6 c] at h;cases h
 obtain ⟨c,hs,h0⟩:=c;rcases cz w.queues name with ⟨i,hi,e,-⟩ | e;rotate_left
 ·omega
 obtain ⟨k,hk,rest,hl,hr⟩:=dw c hi;rw [ft c hs hi e hk hl];have W:=cS.1 c;obtain ⟨hp,-⟩:=gT W hi hk hl;obtain ⟨g1,g2,g3,g4,-⟩:=W.tasks _ (List.getElem_mem hk);exact ⟨k,hk,_,rfl,rfl,rfl,od (by omega) (by omega) g4⟩
theorem CZ {w w' : Wld} (c : ar w) {k : Nat} (h : uR w w' k) : dN w' < dN w:=by
 have h1:=zZ h;have h2:=oV w'.tasks;unfold dN;rw [if_pos c]
 split
 ·exact h1
 ·omega
theorem Fh {w : Wld} (c : ar w) (s : ¬ w.step = 1000000) : d8 w = 0 ↔ ∀ t∈w.tasks,t.pc = 4:=by
 have W:=cS.1 c
 constructor
 ·intro hm t ht
  unfold d8 at hm;have ha : bZ w = []:=List.length_eq_zero_iff.1 (by omega);have hq : bC w = []:=List.length_eq_zero_iff.1 (by omega);obtain ⟨k,hk,rfl⟩:=List.getElem_of_mem ht
  have notable : ∀ k,∀ hk : k < w.tasks.length,¬ eo w w.tasks[k]:=by
   intro k hk hb;rw [m8 ⟨c,s⟩] at ha
   have hm : (k : Int)∈dF w w.tasks.length:=by
    unfold dF;rw [List.mem_map];refine ⟨k,?_,rfl⟩;rw [List.mem_filter];exact ⟨List.mem_range.2 hk,by simpa using ⟨hk,hb⟩⟩
   rw [ha] at hm
   cases hm
  have noqueue : w.queues = []:=by
   rw [iw ⟨c,s⟩] at hq;exact List.map_eq_nil_iff.1 hq
  have hp:=(W.tasks _ ht).2.2.1
  have h2 : w.tasks[k].pc≠2:=λe=>by
   have:=W.queues.all k hk e;rw [noqueue] at this
   cases this
  have hb:=notable k hk;unfold eo at hb;by_cases e4 : w.tasks[k].pc = 4
  ·exact e4
  exfalso
  refine hb ⟨λ⟨e0,d⟩=>?_,h2,e4⟩;have hs : bc w.tasks[k].c.doc w.locks.length < w.locks.length:=Nat.mod_lt _ (by have:=W.nlock;omega);rw [List.getElem?_eq_getElem hs];rcases W.locks.1 _ hs with h3 | ⟨j,hj,h3,h4,h5⟩
  ·rw [h3]
  ·exfalso
   refine notable j hj ⟨λ⟨e,_⟩=>by omega,by omega,by omega⟩
 ·intro h
  unfold d8
  have ha : bZ w = []:=by
   rw [m8 ⟨c,s⟩];unfold dF;rw [List.map_eq_nil_iff,List.filter_eq_nil_iff];intro k hk hb;obtain ⟨hk,hb⟩ : ∃ h : k < w.tasks.length,eo w w.tasks[k]:=by simpa using hb
   exact hb.2.2 (h _ (List.getElem_mem hk))
  have hq : bC w = []:=by
   rw [iw ⟨c,s⟩,List.map_eq_nil_iff]
   cases e : w.queues with
   | nil=>rfl
   | cons q l =>
     exfalso
     have hi : 0 < w.queues.length:=by rw [e];simp
     obtain ⟨k,hk,rest,hl,-⟩:=dw c hi;have:=(gT W hi hk hl).1;have:=h _ (List.getElem_mem hk);omega
  rw [ha,hq];rfl
set_option maxHeartbeats 3200000
theorem fJ {h : Hub} {n : Int} (c : ak h/\(1<=n/\n<=4)) : dM h n = (⟨h,List.replicate n.toNat (-1),[],[],0⟩,true):=by unfold dM;rw [if_pos c]
theorem lm {h : Hub} {n : Int} (c : ¬ (ak h/\(1<=n/\n<=4))) : dM h n = (Wld.zero,false):=by unfold dM;rw [if_neg c]
theorem Fw (i : Nat) : List.replicate i (ao (-1)) ++ [[.v (.int .i64 (-1))]] = List.replicate (i + 1) (ao (-1)):=by
 rw [List.replicate_succ']
theorem sw (h : Hub) (hl : bW h<=2 ^ 30) (n : Int) : ai Tryz.prog 32 [.agg h.row,.c (vi n)] (.tup [.agg (dM h n).1.res,.c (.v (.bool (dM h n).2)) 1]):=by
 refine pci ae Tryz.func32 (λw0 base=>?_);simp [Hub.row];intro b1 b2;refine aa.pure (cV h hl) (by simp [Hub.row]) ?_;by_cases c1 : ak h
 rotate_left
 ·have e:=lm (h:=h) (n:=n) (λh=>c1 h.1)
  simp [ab c1,e,Wld.res,Wld.zero,Hub.zero]
 simp [c1];refine aa.pure (aO n 1 4) (by simp) ?_;by_cases c2 : 1<=n/\n<=4
 rotate_left
 ·have e:=lm (h:=h) (n:=n) (λh=>c2 h.2)
  simp [ab c2,e,Wld.res,Wld.zero,Hub.zero]
 have e:=fJ (h:=h) (n:=n) ⟨c1,c2⟩;obtain ⟨m,rfl⟩ : ∃ m : Nat,n = m:=⟨n.toNat,by omega⟩;simp at e;simp [c2];refine aa.pure (bD h hl) (by simp [Hub.row]) ?_;simp [Hub.res];intro H1 H2 b6
 refine ah eok (λx : Nat × Hd=>x.1<=m) (λx=>⟨31,0,[(7,.v (.int .i64 x.1)),(1,.v (.int .i64 m)),(4,.p 64 b2 0),(6,.p 96 b6 0)],
  [(96, .vars b6 39 [.v (.bool h.shut), .sl 289 H1 5 0 h.docs.length, .sl 290 H2 6 0 h.subs.length, .v (.int .i64 h.last), .sl 5000 x.2 1 0 x.1, .nil, .nil, .v (.int .i64 0)]),
   (64,.vars b2 39 [.v (.bool false),.nil,.nil,.v (.int .i64 0),.nil,.nil,.nil,.v (.int .i64 0)]),
   (289,.rows H1 5 (h.docs.map Doc.row) true),(290,.rows H2 6 (h.subs.map Sub.row) true),(5000,.rows x.2 1 ((List.replicate x.1 (-1 : Int)).map ao) true)]⟩) (λx=>m - x.1) (0,none) (by simp) (by simp) (λx hi=>Ent.refl ?_)
 obtain ⟨i,H⟩:=x;simp only at hi ⊢;by_cases hlt : i < m
 ·simp [hlt]
  intro b7;refine ⟨by omega,λH'=>Ent.refl ⟨i + 1,by omega,by omega,H',?_⟩⟩;simp;exact ⟨ag (by omega),Fw i⟩
 have hm : i = m:=by omega
 subst hm;simp [e,Wld.res]
inductive stepTo (w : Wld) : Wld->Prop
 | come {c : Call} (h : (d6 w c).2 = true) : stepTo w (d6 w c).1
 | pick {k : Int} (h : (d5 w k).2 = true) : stepTo w (d5 w k).1
 | serve {name : ByteArray} (h : (cO w name).2 = true) : stepTo w (cO w name).1
inductive Reach (h : Hub) : Nat->Wld->Prop
 | new {n : Int} (hn : (dM h n).2 = true) : Reach h 0 (dM h n).1
 | same {i : Nat} {w : Wld} (r : Reach h i w) : Reach h (i + 1) w
 | step {i : Nat} {w w' : Wld} (r : Reach h i w) (s : stepTo w w') : Reach h (i + 1) w'
theorem xV {h : Hub} {w : Wld} {i : Nat} : ∀ {j : Nat},Reach h i w->i<=j->Reach h j w
 | 0, r, hj => by
   have : i = 0:=by omega
   subst this;exact r
 | j + 1, r, hj => by
   by_cases e : i = j + 1
   ·subst e;exact r
   ·exact .same (xV r (by omega))
theorem xL {w : Wld} {name : ByteArray} (h : (cO w name).2 = true) : ar w/\¬ w.step = 1000000/\∃ i : Nat,i < w.queues.length/\bK w.queues name = i:=by
 by_cases c : ar w/\¬ w.step = 1000000/\0<=bK w.queues name
 ·refine ⟨c.1,c.2.1,?_⟩
  rcases cz w.queues name with ⟨j,hj,e,-⟩ | e
  ·exact ⟨j,hj,e⟩
  ·omega
 ·rw [m6 c] at h;cases h
theorem AR {w : Wld} {i : Nat} (h : kH w i) {name : ByteArray} (hy : (cO w name).2 = true) : kH (cO w name).1 (i + 1)/\(cO w name).1.step = w.step + 1:=by
 obtain ⟨c,s,j,hj,e⟩:=xL hy;obtain ⟨k,hk,rest,hl,hr⟩:=dw c hj;have h2:=uF w.queues j w.queues[j] rest;have h3:=rP c hj;rw [ft c s hj e hk hl];exact ⟨m5 c h hk rfl (by omega) _,rfl⟩
theorem Dv {w : Wld} {i : Nat} (h : kH w i) {c : Call} (hy : (d6 w c).2 = true) : kH (d6 w c).1 (i + 1)/\(d6 w c).1.step = w.step + 1:=by
 have ok:=y4 hy;unfold d6 at hy ok ⊢
 split at hy
 ·rename_i hc
  rw [if_pos hc] at ok ⊢;obtain ⟨h1,h2,h3,h4,h5⟩:=h
  have hm : ∀ t∈w.tasks ++ [cA c w.step],eL t<=2 ^ 25:=by
   intro t ht;rcases List.mem_append.1 ht with ht | ht
   ·exact h4 t ht
   ·simp at ht
    subst ht;have:=jt hc.1.2;have e : eL (cA c w.step) = dy c:=rfl;omega
  refine ⟨⟨h1,h2,by show nL dk w.queues<=_;omega,hm,?_⟩,rfl⟩;have h6 : nL eL (w.tasks ++ [cA c w.step])<=(w.tasks ++ [cA c w.step]).length * (2 ^ 25 + 1):=nI hm;have h7:=Nat.mul_le_mul_right (2 ^ 25 + 1) ok.2.2.2.1
  show nL eL (w.tasks ++ [cA c w.step])<=_
  simp only at h7;omega
 ·cases hy
theorem HT {w w' : Wld} {i : Nat} (h : kH w i) (s : stepTo w w') : ar w'/\kH w' (i + 1)/\w'.step = w.step + 1:=by
 cases s with
 | come hy=>exact ⟨y4 hy,Dv h hy⟩
 | pick hy=>exact ⟨y0 hy,vc h hy,sK hy⟩
 | serve hy=>exact ⟨vf hy,AR h hy⟩
theorem IW {w : Wld} {i : Nat} (h : kH w i) : kH w (i + 1):=⟨h.1,h.2.1,by have:=h.2.2.1;omega,h.2.2.2⟩
theorem kw {h : Hub} (hh : ak h) {i : Nat} {w : Wld} (r : Reach h i w) : ar w/\(0<=w.step/\w.step<=i)/\kH w i:=by
 induction r with
 | @new n hn =>
   have c : ak h/\(1<=n/\n<=4):=by
    by_cases c : ak h/\(1<=n/\n<=4)
    ·exact c
    ·have e:=lm c
     rw [e] at hn;exact absurd hn (by simp)
   rw [fJ c];have hl : (List.replicate n.toNat (-1 : Int)).length = n.toNat:=List.length_replicate;refine ⟨⟨by simp,hh,?_,by simp,by simp,?_,⟨λs hs=>.inl (by simp),λk hk=>absurd hk (Nat.not_lt_zero _)⟩,⟨[],rfl,λk hk=>absurd hk (Nat.not_lt_zero _)⟩⟩,by simp,?_⟩
   ·show 1<=(List.replicate n.toNat (-1 : Int)).length/\(List.replicate n.toNat (-1 : Int)).length<=4
    omega
   ·unfold gt;simp [ba]
   ·have:=(eb hh).1
    refine ⟨by show bW h<=_;omega,?_,by simp [nL,bO],by simp,by simp [nL,bO]⟩
    show (List.replicate n.toNat (-1 : Int)).length<=_
    omega
 | same r ih=>exact ⟨ih.1,by omega,IW ih.2.2⟩
 | step r s ih =>
   have:=HT ih.2.2 s;exact ⟨this.1,by omega,this.2.1⟩
set_option maxHeartbeats 6400000
theorem Fs {l : List Task} {k : Nat} {row : List CD} (h : row.length = 15) : ∀ r∈(l.map Task.row).set k row,r.length = 15:=by
 intro r hr;rcases List.mem_or_eq_of_mem_set hr with h1 | h1
 ·rw [List.mem_map] at h1
  obtain ⟨x,-,rfl⟩:=h1;rfl
 ·rw [h1];exact h
theorem mU {α : Type} {f : α->List CD} {l : List α} {k : Nat} {t : α} (hk : k < l.length) (ht : l[k] = t) (g : List CD->List CD) : (l.map f).modify k g = (l.map f).set k (g (f t)):=by
 refine List.ext_getElem (by simp) (λj h1 h2=>?_);simp only [List.getElem_modify,List.getElem_map,List.getElem_set]
 split
 ·rename_i e;subst e;rw [ht]
 ·rfl
theorem OV {l : List Queue} {k : Nat} {row : List CD} (h : row.length = 2) : ∀ r∈(l.map Queue.row).set k row,r.length = 2:=by
 intro r hr;rcases List.mem_or_eq_of_mem_set hr with h1 | h1
 ·rw [List.mem_map] at h1
  obtain ⟨x,-,rfl⟩:=h1;rfl
 ·rw [h1];exact h
set_option maxHeartbeats 3200000
theorem nM (w : Wld) (hl : fZ w<=2 ^ 30) (c : ar w) (k : Nat) (hk : k < w.tasks.length) : ai Tryz.prog 75 [.agg w.row,.c (vi k)] (.one (.c (vb (¬ w.step = 1000000/\eo w w.tasks[k])) 1)):=by
 refine pci ae Tryz.func75 (λw0 base=>?_);have hle:=aK (cB hl).2.2.2;obtain ⟨t,ht⟩ : ∃ t,w.tasks[k] = t:=⟨_,rfl⟩;have htk:=c.1 _ (List.getElem_mem hk);rw [ht] at htk ⊢;have hdsz:=htk.1.2.1;have hpc:=htk.2.2.1;have hs1:=(mL t.c.doc c.2.2.1.1).2;have hlk:=c.2.2.1;simp [Wld.row];intro b2;by_cases c2 : w.step = 1000000
 ·simp [c2]
 simp [c2];refine aa.pure (aO k 0 ((w.tasks.length : Int) - 1)) (by simp;exact (Go.IntWalk.i64_in _ (by omega)).symm) ?_;have c3 : 0<=(k : Int)/\(k : Int)<=(w.tasks.length : Int) - 1:=by omega
 simp [c3,hk,ht,Task.row];intro b5;by_cases p0 : t.pc = 0
 rotate_left
 ·by_cases p2 : t.pc = 2
  ·simp [p2,eo]
  by_cases p4 : t.pc = 4
  ·simp [p4,eo]
  simp [p0,p2,p4,eo]
 simp [p0];refine aa.pure (aQ t.c.kind) (by simp) ?_;by_cases d : aM t.c.kind
 rotate_left
 ·simp [p0,eo,d]
 simp [d];refine au.quiet eok mix (by kernel_rfl) ?_;simp;refine ⟨_,_,ld t.c.doc (by omega) w.locks.length (by omega) (by omega),by simp,?_⟩;simp [hs1,eo,p0,d]
theorem AJ (w : Wld) (hl : fZ w<=2 ^ 30) : ai Tryz.prog 41 [.agg w.row] (.one (.c (.s ((bZ w).map ao)) 1)):=by
 refine pci ae Tryz.func41 (λw0 base=>?_);have hle:=aK (cB hl).2.2.2;simp [Wld.row];intro b1;refine aa.pure (fI w (by omega)) (by simp [Wld.row]) ?_;by_cases c1 : ar w
 rotate_left
 ·simp [ab c1,pg (λh=>c1 h.1)]
 simp [c1]
 refine ah eok (λx : Nat × Hd=>x.1<=w.tasks.length) (λx=>⟨23,0,[(11,.v (.int .i64 x.1)),(10,.v (.int .i64 w.tasks.length)),(1,.p 16 b1 0),(3,.sl 5000 x.2 1 0 (iq w x.1).length)],
  [(16, .vars b1 39 [.v (.bool w.h.shut), .ro (w.h.docs.map Doc.row), .ro (w.h.subs.map Sub.row), .v (.int .i64 w.h.last), .ro (w.locks.map ao), .ro (w.queues.map Queue.row), .ro (w.tasks.map Task.row), .v (.int .i64 w.step)]),
   (5000,.rows x.2 1 ((iq w x.1).map ao) true)]⟩) (λx=>w.tasks.length - x.1) (0,none) (by simp) (by simp [zY]) (λx hx=>Ent.refl ?_)
 obtain ⟨i,H⟩:=x;simp only at hx ⊢;have hol:=CB w i;have e1 : Go.IntKind.i64.wrap ((i : Int) + 1) = ((i + 1 : Nat) : Int):=ag (by omega);by_cases hlt : i < w.tasks.length
 ·have hy : ¬ w.step = 1000000/\eo w w.tasks[i]->iq w (i + 1) = iq w i ++ [(i : Int)]:=λa=>CA hlt ((f3 c1 a.1 hlt).2 a.2)
  have hn : ¬ (¬ w.step = 1000000/\eo w w.tasks[i])->iq w (i + 1) = iq w i:=by
   intro a;refine FD hlt ?_;by_cases c2 : w.step = 1000000
   ·rw [ix (λh=>h.2.1 c2)]
   ·cases h : (d5 w i).2 with
    | false=>rfl
    | true=>exact absurd ⟨c2,(f3 c1 c2 hlt).1 h⟩ a
  simp [hlt];refine aa.pure (nM w hl c1 i hlt) (by simp [Wld.row]) ?_;by_cases a : ¬ w.step = 1000000/\eo w w.tasks[i]
  ·have ho:=hy a
   simp [a];intro b5;refine ⟨by omega,λH2=>Ent.refl ⟨i + 1,by omega,by omega,H2,?_⟩⟩;simp [ho,e1,ao]
  ·have ho:=hn a
   simp [ab a];refine Ent.refl ⟨i + 1,by omega,by omega,H,?_⟩;simp [ho,e1]
 ·have e : i = w.tasks.length:=by omega
  subst e;rw [CC];simp
open Go.AM Go.RowKit
set_option maxRecDepth 100000
set_option maxHeartbeats 4000000
set_option linter.unusedVariables false
set_option linter.unusedSimpArgs false
theorem v5 (w : World) (us xs : List Value) (n i b o C bv ov Cv : Nat) (cs cv : Array Value) (T Tv : TypeId) (hul : us.length = n * 5) (hxl : xs.length = 5) (hi : i < n) (hroom : n + 1<=C) (hC : C<=maxLen)
 (hb : w.heap[b]? = some (.cells cs T (0,0))) (hfit : o + C * 5<=cs.size) (hcs : ∀ j,j < n * 5->cs.getD (o + j) undef = us.getD j undef) (h1 : ∀ v∈us,v.oneCell' = true)
 (hbv : w.heap[bv]? = some (.cells cv Tv (0,0))) (hCv : 1<=Cv) (hfv : ov + Cv * 5<=cv.size) (hcv : ∀ j,j < 5->cv.getD (ov + j) undef = xs.getD j undef) (h1v : ∀ v∈xs,v.oneCell' = true) (hne : bv≠b) :
 Calls Tryz.prog 300 #[.slice (some ⟨b,o,none⟩) n C,.int .i64 i,.slice (some ⟨bv,ov,none⟩) 1 Cv] w λe w'=>
  e = .returned (.slice (some ⟨b,o,none⟩) (n + 1) C)/\Placed w w' (some b) b o C (n + 1) 5 (us.take (i * 5) ++ xs ++ us.drop (i * 5)):=by
 have u0:=run_underlying Tryz.underlying32;have mixed : Tryz.prog.follows .mixedOrders = true:=by kernel_rfl
 obtain ⟨i0,z0,hi0,hzs,hzb,hz0,hzc,-⟩:=(ae 89 _ Bq).info;have hzs : i0.size = 5:=hzs;have hC63 : C<=9223372036854775807:=by unfold maxLen at hC;omega
 have hz1 : ¬ ((1 : Int) = 0):=by omega
 have hz2 : ¬ ((i : Int) = (n : Int)):=by omega
 have hdl : (us.drop (i * 5)).length = (n - i) * 5:=by rw [List.length_drop,hul,Nat.sub_mul]
 have hov : ∀ lb cb,(callFunc 361 #[.slice (some ⟨bv,ov,none⟩) 1 Cv,.slice (some ⟨b,o + (i * 5 + 5),none⟩) lb cb]).run Tryz.prog w = .ok (.value (.bool false)) w:=λlb cb=>by
  rw [run_callFunc_extern Tryz.func361 (by kernel_rfl) (by kernel_rfl) (by kernel_rfl) (e:=Extern.SlicesOverlaps.overlaps #[32,32] #[4]) (by kernel_rfl),
   Lib.run_overlaps_apart w 32 4 89 Tryz.underlying32 5 Tryz.sizeOf89 ⟨bv,ov,none⟩ ⟨b,o + (i * 5 + 5),none⟩ 1 Cv lb cb hne Tv T cv.size cs.size (by simp [World.shape?,hbv]) (by simp [World.shape?,hb]) (by omega) (by simp [World.frozen?,hbv]) (by simp [World.frozen?,hbv])]
  rfl
 have hmm : (n + 1) * 5<=C * 5:=Nat.mul_le_mul_right _ hroom;have hii : i * 5 + 5<=n * 5:=by have:=Nat.mul_le_mul_right 5 (show i + 1<=n by omega);omega
 have e1 : (i + 1) * 5 = i * 5 + 5:=Nat.succ_mul i 5;have e2 : (n + 1) * 5 = n * 5 + 5:=Nat.succ_mul n 5;have e3 : (n - i) * 5 = n * 5 - i * 5:=Nat.sub_mul n i 5;obtain ⟨cs1,hcs1⟩ : ∃ c,c = (cs.toList.take (o + (i + 1) * 5) ++ us.drop (i * 5) ++ cs.toList.drop (o + (i + 1) * 5 + (us.drop (i * 5)).length)).toArray:=⟨_,rfl⟩;obtain ⟨s1,g1⟩:=bH cs (o + (i + 1) * 5) (us.drop (i * 5)) (by omega);rw [<- hcs1] at s1 g1
 have hcp1 : ∀ (W : World),W.heap = w.heap->∀ ty dl dc sl sc,Nat.min sl dl = n - i->(Builtin.copy_ #[32,32] ty #[.slice (some ⟨b,o + (i * 5 + 5),none⟩) dl dc,.slice (some ⟨b,o + i * 5,none⟩) sl sc]).run Tryz.prog W = .ok (goInt (n - i : Nat)) (W.setRow b cs1):=λW hW ty dl dc sl sc hm=>by
  have hb' : W.heap[b]? = some (.cells cs T (0,0)):=by rw [hW];exact hb
  rw [hcs1,e1]
  exact dK Tryz.underlying32 hi0 hb' ⟨b,o + i * 5,none⟩ (us.drop (i * 5)) (n - i) hm (by rw [hdl,hzs])
   (λj v hj=>by
    rw [Addr.add_lit];refine cJ hb' (o:=o + i * 5) (vs:=us.drop (i * 5)) (λj hj=>?_) (by omega) j v hj;rw [Nat.add_assoc,hcs _ (by omega)];simp [List.getD_eq_getElem?_getD])
   (λv hv=>h1 v (List.mem_of_mem_drop hv)) (by omega)
 obtain ⟨cs2,hcs2⟩ : ∃ c,c = (cs1.toList.take (o + i * 5) ++ xs ++ cs1.toList.drop (o + i * 5 + xs.length)).toArray:=⟨_,rfl⟩;obtain ⟨s2,g2⟩:=bH cs1 (o + i * 5) xs (by omega);rw [<- hcs2] at s2 g2
 have hcp2 : ∀ (W : World),W.heap[b]? = some (.cells cs1 T (0,0))->W.heap[bv]? = some (.cells cv Tv (0,0))->∀ ty dl dc,0 < dl->(Builtin.copy_ #[32,32] ty #[.slice (some ⟨b,o + i * 5,none⟩) dl dc,.slice (some ⟨bv,ov,none⟩) 1 Cv]).run Tryz.prog W = .ok (goInt (1 : Nat)) (W.setRow b cs2):=λW hW hWv ty dl dc hm=>by
  rw [hcs2]
  exact dK Tryz.underlying32 hi0 hW ⟨bv,ov,none⟩ xs 1 (by simp only [Nat.min_def];split<;>omega) (by rw [hxl,hzs])
   (λj v hj=>by
    rw [Addr.add_lit];exact cJ hWv (λj hj=>hcv j (by omega)) (by omega) j v hj)
   h1v (by omega)
 have hw1 : IntKind.i64.wrap ((i : Int) + 1) = (i : Int) + 1:=by rw [IntKind.wrap_i64];omega
 have hb1 : (0 : Int)<=(i : Int) + 1:=by omega
 have hin : i<=n:=by omega
 have htn : ((i : Int) + 1).toNat = i + 1:=by omega
 have hb2 : ¬ (C = i + 1):=by omega
 have hb3 : (i : Int)<=(n : Int) + 1:=by omega
 have hb4 : ¬ (C = i):=by omega
 go_enter Tryz.func300,Tryz.ntmps300
 go_wp2_with (simp only [hov])
 have hE:=hcp1 w.drew rfl 3 (n - i) (C - (i + 1)) (n + 1 - i) (C - i) (by simp only [Nat.min_def];split<;>omega);have hE2:=hcp2 (w.drew.setRow b cs1) (by simp [setRow_heap w.drew b cs cs1 T (0,0) hb]) (by rw [setRow_other w.drew b bv cs1 hne];exact hbv) 3 (n + 1 - i) (C - i) (by omega)
 have hP : Placed w ((w.drew.setRow b cs1).setRow b cs2) (some b) b o C (n + 1) 5 (us.take (i * 5) ++ xs ++ us.drop (i * 5)):=by
  refine ⟨⟨cs2,T,setRow_heap _ b cs1 cs2 T (0,0) (setRow_heap w.drew b cs cs1 T (0,0) hb),by omega,λj hj=>?_⟩,hroom,hC,by simp,⟨rfl,rfl,rfl⟩,.inr rfl,λc _ hc=>?_⟩
  ·rw [g2,g1]
   have hl : (us.take (i * 5)).length = i * 5:=by simp;omega
   simp only [List.getD_eq_getElem?_getD];rw [List.append_assoc];by_cases c1 : j < i * 5
   ·rw [if_neg (by omega),if_neg (by omega),List.getElem?_append_left (by omega),List.getElem?_take,if_pos c1,hcs j (by omega)]
    simp
   ·rw [List.getElem?_append_right (by omega),hl]
    by_cases c2 : j < i * 5 + 5
    ·rw [if_pos (by omega),List.getElem?_append_left (by omega)]
     congr 2
     omega
    ·rw [if_neg (by omega),if_pos (by omega),List.getElem?_append_right (by omega),List.getElem?_drop,List.getElem?_drop]
     congr 2
     omega
  ·rw [setRow_other _ b c _ hc,setRow_other _ b c _ hc];rfl
 clear hcs1 hcs2
 go_region
 go_wp2
 go_ret
 all_goals exact ⟨rfl,hP⟩
theorem of (w : World) (a : Option Addr) (n C bv ov Cv : Nat) (r : Value) (w1 : World) (hnC : n<=C) (hC : C<=maxLen)
 (hr : ∀ ty,(Builtin.append_ #[32,32] ty #[.slice a n C,.slice (some ⟨bv,ov,none⟩) 1 Cv]).run Tryz.prog w = .ok r w1) :
 Calls Tryz.prog 300 #[.slice a n C,.int .i64 n,.slice (some ⟨bv,ov,none⟩) 1 Cv] w λe w'=>e = .returned r/\w' = w1:=by
 have u0:=run_underlying Tryz.underlying32;have mixed : Tryz.prog.follows .mixedOrders = true:=by kernel_rfl
 have hC63 : C<=9223372036854775807:=by unfold maxLen at hC;omega
 have hz1 : ¬ ((1 : Int) = 0):=by omega
 cases a with
 | none =>
   by_cases hc : C = n
   ·subst hc
    go_enter Tryz.func300,Tryz.ntmps300
    go_wp2_with (at_builtin;refine Lib.wpList_append_run _ rfl _ _ _ _ rfl _ _ rfl rfl _ _ (hr _) ?_)
    go_ret
    exact ⟨rfl,rfl⟩
   ·go_enter Tryz.func300,Tryz.ntmps300
    go_wp2_with (at_builtin;refine Lib.wpList_append_run _ rfl _ _ _ _ rfl _ _ rfl rfl _ _ (hr _) ?_)
    go_ret
    exact ⟨rfl,rfl⟩
 | some q =>
   by_cases hc : C = n
   ·subst hc
    go_enter Tryz.func300,Tryz.ntmps300
    go_wp2_with (at_builtin;refine Lib.wpList_append_run _ rfl _ _ _ _ rfl _ _ rfl rfl _ _ (hr _) ?_)
    go_ret
    exact ⟨rfl,rfl⟩
   ·go_enter Tryz.func300,Tryz.ntmps300
    go_wp2_with (at_builtin;refine Lib.wpList_append_run _ rfl _ _ _ _ rfl _ _ rfl rfl _ _ (hr _) ?_)
    go_ret
    exact ⟨rfl,rfl⟩
theorem yD (w : World) (us xs : List Value) (n i b o C bv ov Cv : Nat) (cs cv : Array Value) (T Tv : TypeId) (hul : us.length = n * 5) (hxl : xs.length = 5) (hi : i < n) (hnc : n<=C) (hroom : C < n + 1) (hbig : (n + 1) * tO.bytes<=140737488355328)
 (hb : w.heap[b]? = some (.cells cs T (0,0))) (hfit : o + C * 5<=cs.size) (hcs : ∀ j,j < n * 5->cs.getD (o + j) undef = us.getD j undef) (h1 : ∀ v∈us,v.oneCell' = true)
 (hbv : w.heap[bv]? = some (.cells cv Tv (0,0))) (hCv : 1<=Cv) (hfv : ov + Cv * 5<=cv.size) (hcv : ∀ j,j < 5->cv.getD (ov + j) undef = xs.getD j undef) (h1v : ∀ v∈xs,v.oneCell' = true) :
 Calls Tryz.prog 300 #[.slice (some ⟨b,o,none⟩) n C,.int .i64 i,.slice (some ⟨bv,ov,none⟩) 1 Cv] w λe w'=>
  ∃ nC,e = .returned (.slice (some ⟨w.heap.size,0,none⟩) (n + 1) nC)/\Placed w w' (some b) w.heap.size 0 nC (n + 1) 5 (us.take (i * 5) ++ xs ++ us.drop (i * 5)):=by
 have u0:=run_underlying Tryz.underlying32;have mixed : Tryz.prog.follows .mixedOrders = true:=by kernel_rfl
 obtain ⟨i0,z0,hi0,hzs,hzb,hz0,hzc,-⟩:=(ae 89 _ Bq).info;have hzz:=fk hzc;have hzs : i0.size = 5:=hzs;have hzb : i0.bytes = tO.bytes:=hzb;have hby : 0 < tO.bytes:=by decide
 have hzz : z0.cells.size = 5:=hzz;have hnb : (n + 1)<=140737488355328:=Nat.le_trans (Nat.le_mul_of_pos_right _ hby) hbig;have hz1 : ¬ ((1 : Int) = 0):=by omega
 have hz2 : ¬ ((i : Int) = (n : Int)):=by omega
 have hz3 : (C : Int) < (n : Int) + 1:=by omega
 have hmm : n * 5<=C * 5:=Nat.mul_le_mul_right _ hnc;have hii : i * 5 + 5<=n * 5:=by have:=Nat.mul_le_mul_right 5 (show i + 1<=n by omega);omega
 have e1 : (i + 1) * 5 = i * 5 + 5:=Nat.succ_mul i 5;have e2 : (n + 1) * 5 = n * 5 + 5:=Nat.succ_mul n 5;have e3 : (n - i) * 5 = n * 5 - i * 5:=Nat.sub_mul n i 5;have hdl : (us.drop (i * 5)).length = (n - i) * 5:=by rw [List.length_drop,hul,Nat.sub_mul]
 have htl : (us.take (i * 5)).length = i * 5:=by simp;omega
 have hbw : b < w.heap.size:=cN hb;have hvw : bv < w.heap.size:=cN hbv;have hkk : (n : Int) + 1 - (i : Int) = ((n + 1 - i : Nat) : Int):=by omega
 have hik : i + (n + 1 - i) = n + 1:=by omega
 have hold : (Builtin.firstCells i0.size i (.slice (some ⟨b,o,none⟩) i C)).run Tryz.prog w.drew = .ok (us.take (i * 5)).toArray w.drew:=by
  rw [hzs]
  exact run_firstCells_some w.drew 5 i ⟨b,o,none⟩ i C (us.take (i * 5)) (by rw [htl]) (λj v hj=>by
   rw [Addr.add_lit]
   exact cJ (w:=w.drew) (o:=o) (vs:=us.take (i * 5)) (cs:=cs) (T:=T) hb (λj hj=>by
    rw [hcs _ (by omega)];rw [htl] at hj;simp only [List.getD_eq_getElem?_getD,List.getElem?_take,if_pos hj]) (by omega) j v hj)
 have hrz : ∀ ty,(Builtin.append_ #[32,3] ty #[.slice (some ⟨b,o,none⟩) i C,.int .i64 ((n : Int) + 1 - (i : Int))]).run Tryz.prog w =
  .ok (.slice (some ⟨w.heap.size,0,none⟩) (n + 1) (grownCap w (n + 1) C 89)) (w.drew.alloc (.cells ((us.take (i * 5)).toArray ++ Builtin.zeroCells z0.cells (n + 1 - i) ++ Builtin.zeroCells z0.cells (grownCap w (n + 1) C 89 - (n + 1))) 89)):=λty=>by
  have h:=Lib.run_append_grow_zeros w 32 3 ty 89 i0 z0 .i64 .i64 Tryz.underlying32 Tryz.underlying3 hi0 hz0 (some ⟨b,o,none⟩) i C (us.take (i * 5)) hold (n + 1 - i) (by omega) (by omega) (by omega) (by omega) (by rw [hzb];have:=Nat.mul_le_mul_right tO.bytes (show n + 1 - i<=n + 1 by omega);omega) (by rw [hzb,hik];exact growslice_fits hroom hbig);rw [hik] at h;rw [hkk];exact h
 obtain ⟨G,hG⟩ : ∃ G,G = grownCap w (n + 1) C 89:=⟨_,rfl⟩;obtain ⟨ROW,hROW⟩ : ∃ ROW : Array Value,ROW = (us.take (i * 5)).toArray ++ Builtin.zeroCells z0.cells (n + 1 - i) ++ Builtin.zeroCells z0.cells (G - (n + 1)):=⟨_,rfl⟩;rw [<- hG] at hrz;rw [<- hROW] at hrz;have hGn : n + 1<=G:=by rw [hG];exact grownCap_ge w _ _ _
 have hGm : G<=maxLen:=by rw [hG];exact grownCap_le_maxLen w (n + 1) C 89 (by unfold maxLen;omega)
 have hG63 : G<=9223372036854775807:=by unfold maxLen at hGm;omega
 have hRs : ROW.size = G * 5:=by
  rw [hROW];simp only [Array.size_append,List.size_toArray,cf,hzz,htl];rw [<- Nat.add_mul,<- Nat.add_mul]
  congr 1
  omega
 have hGK : (n + 1) * 5<=G * 5:=Nat.mul_le_mul_right _ hGn
 have hRg : ∀ j,j < i * 5->ROW.getD j undef = us.getD j undef:=by
  intro j hj;rw [hROW];simp only [Array.getD_eq_getD_getElem?];rw [Array.getElem?_append_left (by simp [cf];omega),Array.getElem?_append_left (by simp;omega)];simp [List.getElem?_take,hj,List.getD_eq_getElem?_getD]
 obtain ⟨W1,hW1⟩ : ∃ W1,W1 = w.drew.alloc (.cells ROW 89):=⟨_,rfl⟩;rw [<- hW1] at hrz;have hN : W1.heap[w.heap.size]? = some (.cells ROW 89 (0,0)):=by rw [hW1];exact jk w.drew _
 have hO : ∀ c,c < w.heap.size->W1.heap[c]? = w.heap[c]?:=λc hc=>by rw [hW1];exact it w.drew _ hc
 have hS : W1.heap.size = w.heap.size + 1:=by rw [hW1];simp
 obtain ⟨cs1,hcs1⟩ : ∃ c,c = (ROW.toList.take (i * 5) ++ xs ++ ROW.toList.drop (i * 5 + xs.length)).toArray:=⟨_,rfl⟩;obtain ⟨s1,g1⟩:=bH ROW (i * 5) xs (by omega);rw [<- hcs1] at s1 g1
 have hcpA:=dK (P:=Tryz.prog) (w:=W1) (ty:=3) Tryz.underlying32 hi0 (dl:=n + 1 - i) (dc:=G - i) (o:=i * 5) hN ⟨bv,ov,none⟩ (sl:=1) (sc:=Cv) xs 1 (by simp only [Nat.min_def];split<;>omega) (by rw [hxl,hzs])
  (λj v hj=>by
   rw [Addr.add_lit];exact cJ (by rw [hO _ hvw];exact hbv) (λj hj=>hcv j (by omega)) (by omega) j v hj) h1v (by omega)
 rw [<- hcs1] at hcpA;have hN1 : (W1.setRow w.heap.size cs1).heap[w.heap.size]? = some (.cells cs1 89 (0,0)):=setRow_heap _ _ _ _ _ _ hN;obtain ⟨cs2,hcs2⟩ : ∃ c,c = (cs1.toList.take (i * 5 + 5) ++ us.drop (i * 5) ++ cs1.toList.drop (i * 5 + 5 + (us.drop (i * 5)).length)).toArray:=⟨_,rfl⟩;obtain ⟨s2,g2⟩:=bH cs1 (i * 5 + 5) (us.drop (i * 5)) (by omega);rw [<- hcs2] at s2 g2;have hbN : b≠w.heap.size:=by omega
 have hcpB:=dK (P:=Tryz.prog) (w:=(W1.setRow w.heap.size cs1).drew) (ty:=3) Tryz.underlying32 hi0 (dl:=n - i) (dc:=G - (i + 1)) (o:=i * 5 + 5) hN1 ⟨b,o + i * 5,none⟩ (sl:=n - i) (sc:=C - i) (us.drop (i * 5)) (n - i) (by simp only [Nat.min_def];split<;>omega) (by rw [hdl,hzs])
  (λj v hj=>by
   rw [Addr.add_lit]
   have hb' : (W1.setRow w.heap.size cs1).drew.heap[b]? = some (.cells cs T (0,0)):=by
    show (W1.setRow w.heap.size cs1).heap[b]? = _
    rw [setRow_other _ _ _ _ hbN,hO _ hbw];exact hb
   refine cJ hb' (o:=o + i * 5) (vs:=us.drop (i * 5)) (λj hj=>?_) (by omega) j v hj;rw [Nat.add_assoc,hcs _ (by omega)];simp [List.getD_eq_getElem?_getD])
  (λv hv=>h1 v (List.mem_of_mem_drop hv)) (by omega)
 rw [<- hcs2] at hcpB
 have hP : Placed w ((W1.setRow w.heap.size cs1).drew.setRow w.heap.size cs2) (some b) w.heap.size 0 G (n + 1) 5 (us.take (i * 5) ++ xs ++ us.drop (i * 5)):=by
  refine ⟨⟨cs2,89,setRow_heap _ _ cs1 cs2 _ (0,0) hN1,by omega,λj hj=>?_⟩,hGn,hGm,?_,?_,.inl (Nat.le_refl _),λc hc hne=>?_⟩
  ·rw [Nat.zero_add,g2,g1]
   simp only [List.getD_eq_getElem?_getD];rw [List.append_assoc];by_cases c1 : j < i * 5
   ·rw [if_neg (by omega),if_neg (by omega),List.getElem?_append_left (by omega),List.getElem?_take,if_pos c1,hRg j c1]
    simp [List.getD_eq_getElem?_getD]
   ·rw [List.getElem?_append_right (by omega),htl]
    by_cases c2 : j < i * 5 + 5
    ·rw [if_neg (by omega),if_pos (by omega),List.getElem?_append_left (by omega)]
    ·rw [if_pos (by omega),List.getElem?_append_right (by omega),List.getElem?_drop,List.getElem?_drop]
     congr 2
     omega
  ·simp [hS]
  ·rw [hW1];exact ⟨rfl,rfl,rfl⟩
  ·rw [setRow_other _ _ c _ hne]
   show (W1.setRow w.heap.size cs1).heap[c]? = _
   rw [setRow_other _ _ c _ hne,hO c hc]
 have hw1 : IntKind.i64.wrap ((i : Int) + 1) = (i : Int) + 1:=by rw [IntKind.wrap_i64];omega
 have hb1 : (0 : Int)<=(i : Int) + 1:=by omega
 have hin : i<=n:=by omega
 have htn : ((i : Int) + 1).toNat = i + 1:=by omega
 have hGi : ¬ (G = i):=by omega
 have hGim : ¬ (G = i + 1):=by omega
 have hci : ¬ (C = i):=by omega
 have hb3 : (i : Int)<=(n : Int):=by omega
 clear hkk hik hold hROW hG hcs1 hcs2 hN hN1 hO hS hRs hRg hW1
 go_enter Tryz.func300,Tryz.ntmps300
 go_wp2_with (first
  | (at_builtin;refine Lib.wpList_append_run _ rfl _ _ _ _ rfl _ _ rfl rfl _ _ (hrz _) ?_)
  | (at_builtin;refine gR _ rfl _ _ 32 32 rfl _ _ rfl rfl hcpA ?_))
 go_region
 go_wp2
 go_ret
 all_goals exact ⟨_,rfl,hP⟩
theorem yE : rn Tryz.prog 300 5 tO.bytes:=by
 refine ⟨⟨_,Tryz.func300,by kernel_rfl,by kernel_rfl⟩,λw us xs n i s v ob bv0 hul hxl hi hbig hs hv hap=>?_⟩;obtain ⟨i0,z0,hi0,hzs,hzb,hz0,hzc,-⟩:=(ae 89 _ Bq).info;have hzz:=fk hzc;have hzs : i0.size = 5:=hzs;have hzb : i0.bytes = tO.bytes:=hzb;have hby : 0 < tO.bytes:=by decide
 have hzz : z0.cells.size = 5:=hzz;have hnb : (n + 1)<=140737488355328:=Nat.le_trans (Nat.le_mul_of_pos_right _ hby) hbig;rcases hv with ⟨h0,-⟩ | ⟨bv,ov,Cv,cv,Tv,rfl,rfl,hbv,hCv,hCvm,hfv,hcv,h1v⟩
 ·omega
 have hcellv : ∀ j v,xs[j]? = some v->w.cell? (Addr.add ⟨bv,ov,none⟩ j) = some v:=λj v hj=>by
  rw [Addr.add_lit];exact cJ hbv (λj hj=>hcv j (by omega)) (by omega) j v hj
 have fresh : ∀ (C0 nC : Nat) (rest : Array Value) (ob : Option Nat),n + 1 <= nC -> nC <= maxLen -> rest.size = (nC - (n + 1)) * 5 ->
  Placed w (w.drew.alloc (.cells (us.toArray ++ xs.toArray ++ rest) 89)) ob w.heap.size 0 nC (n + 1) 5 (us.take (n * 5) ++ xs ++ us.drop (n * 5)):=by
  intro C0 nC rest ob h1 h2 h3;have e : nC * 5 = n * 5 + 5 + (nC - (n + 1)) * 5:=by rw [<- Nat.succ_mul,<- Nat.add_mul];congr 1;omega
  refine ⟨⟨_,_,jk w.drew _,by simp [hul,hxl,h3];omega,λj hj=>?_⟩,h1,h2,by simp,⟨rfl,rfl,rfl⟩,.inl (Nat.le_refl _),λc hc _=>it w.drew _ hc⟩;rw [List.take_of_length_le (by omega),List.drop_eq_nil_of_le (by omega),List.append_nil,Nat.zero_add];have e2 : (n + 1) * 5 = n * 5 + 5:=Nat.succ_mul n 5;simp only [Array.getD_eq_getD_getElem?,List.getD_eq_getElem?_getD];rw [Array.getElem?_append_left (by simp;omega),List.append_toArray,List.getElem?_toArray]
 rcases hs with ⟨rfl,rfl,a,rfl⟩ | ⟨b,o,C,cs,T,rfl,rfl,hb,hnC,hCm,hfit,hcs,h1⟩
 ·obtain rfl : i = 0:=by omega
  have hun : us = []:=List.eq_nil_of_length_eq_zero (by omega);subst hun;have hrun:=λty=>fp (P:=Tryz.prog) (w:=w) (ty:=ty) Tryz.underlying32 hi0 hz0 a ⟨bv,ov,none⟩ 1 Cv xs (by rw [hxl,hzs]) hcellv (by omega) (by omega) (by rw [hzb];omega)
  refine (of w a 0 0 bv ov Cv _ _ (Nat.le_refl _) (by unfold maxLen;omega) hrun).mono ?_
  rintro e w' ⟨rfl,rfl⟩
  have hge:=grownCap_ge w 1 0 89;have hcm:=grownCap_le_maxLen w 1 0 89 (by unfold maxLen;omega);refine ⟨_,_,_,rfl,?_⟩;have:=fresh 0 (grownCap w 1 0 89) (Builtin.zeroCells z0.cells (grownCap w 1 0 89 - 1)) none hge hcm (by rw [cf,hzz])
  simpa using this
 ·by_cases hin : i = n
  ·subst hin
   by_cases hroom : i + 1<=C
   ·have hmm : (i + 1) * 5<=C * 5:=Nat.mul_le_mul_right _ hroom
    have e2 : (i + 1) * 5 = i * 5 + 5:=Nat.succ_mul i 5;have hrun:=λty=>Go.AM.run_append_room (P:=Tryz.prog) (ty:=ty) (c:=Cv) (n:=i) (m:=1) Tryz.underlying32 hi0 hb ⟨bv,ov,none⟩ xs (by rw [hxl,hzs]) hcellv h1v hroom (by rw [hzs];exact hfit)
    refine (of w _ i C bv ov Cv _ _ hnC hCm hrun).mono ?_
    rintro e w' ⟨rfl,rfl⟩
    obtain ⟨g0,g⟩:=bH cs (o + i * i0.size) xs (by rw [hzs];omega);refine ⟨_,_,_,rfl,⟨_,_,setRow_heap w b cs _ T (0,0) hb,by rw [g0];exact hfit,λj hj=>?_⟩,hroom,hCm,by simp,⟨rfl,rfl,rfl⟩,.inr rfl,λc _ hc=>setRow_other w b c _ hc⟩;rw [g,hzs,List.take_of_length_le (by omega),List.drop_eq_nil_of_le (by omega),List.append_nil];by_cases c1 : j < i * 5
    ·rw [if_neg (by omega),hcs j c1]
     simp only [List.getD_eq_getElem?_getD];rw [List.getElem?_append_left (by omega)]
    ·rw [if_pos (by omega)]
     simp only [List.getD_eq_getElem?_getD];rw [List.getElem?_append_right (by omega)]
     congr 2
     omega
   ·have hrun:=λty=>run_append_grow (P:=Tryz.prog) w 32 ty 89 i0 z0 Tryz.underlying32 hi0 hz0 ⟨b,o,none⟩ i C us (by rw [hzs];exact hul) (λj v hj=>by
     rw [Addr.add_lit];have:=Nat.mul_le_mul_right 5 hnC;exact cJ hb (λj hj=>hcs j (by omega)) (by omega) j v hj) ⟨bv,ov,none⟩ 1 Cv xs (by rw [hxl,hzs]) hcellv (by omega) (by omega) (by rw [hzb];exact growslice_fits (by omega) hbig)
    refine (of w _ i C bv ov Cv _ _ hnC hCm hrun).mono ?_
    rintro e w' ⟨rfl,rfl⟩
    have hge:=grownCap_ge w (i + 1) C 89;have hcm:=grownCap_le_maxLen w (i + 1) C 89 (by unfold maxLen;omega);exact ⟨_,_,_,rfl,fresh C _ _ _ hge hcm (by rw [cf,hzz])⟩
  ·by_cases hroom : n + 1<=C
   ·refine (v5 w us xs n i b o C bv ov Cv cs cv T Tv hul hxl (by omega) hroom hCm hb hfit hcs h1 hbv hCv hfv (λj hj=>hcv j (by omega)) h1v (λh=>hap b rfl (by rw [h]))).mono ?_
    rintro e w' ⟨rfl,hp⟩
    exact ⟨_,_,_,rfl,hp⟩
   ·refine (yD w us xs n i b o C bv ov Cv cs cv T Tv hul hxl (by omega) hnC (by omega) hbig hb hfit hcs h1 hbv hCv hfv (λj hj=>hcv j (by omega)) h1v).mono ?_
    rintro e w' ⟨nC,rfl,hp⟩
    exact ⟨_,_,_,rfl,hp⟩
set_option maxRecDepth 20000
set_option maxHeartbeats 6400000
theorem nK (room rev : Int) (hr : -4611686018427387904<=rev/\rev<=4611686018427387904) : ai Tryz.prog 302 [.c (vi room),.c (vi rev)] (.tup [.agg (cW room rev).1.res,.c (.v (.bool (cW room rev).2)) 1]):=by
 refine pci ae Tryz.func302 (λw0 base=>?_);have ew : Go.IntKind.i64.wrap (rev + 1) = rev + 1:=Go.IntWalk.i64_in _ (by omega);simp [ew];intro b4 b6;refine aa.pure (fq (aY room rev) (by rw [l8];omega)) (by simp [aY,Ring.row]) ?_;by_cases c2 : aX (aY room rev)
 ·have e:=iS c2
  rw [show aY room rev = ⟨room,rev + 1,false,[]⟩ from rfl] at c2;simp [c2,e,Ring.res,aY]
 ·simp [ab c2,mr c2,Ring.res,Ring.zero]
theorem sy (r : Ring) (hl : cC r<=2 ^ 30) (e : Entry) (he : aS e<=2 ^ 29) : ai Tryz.prog 301 [.agg r.row,.agg e.row] (.one (.agg (bS r e).res)):=by
 refine pci ae Tryz.func301 (λw0 base=>?_);have hno:=@lr r e;have hfull:=@jo r e;have hroom:=@jn r e;have hle:=aK (f:=aS) (B:=2 ^ 30) (l:=r.list) (by unfold cC at hl;omega);have he1 : nL aS [e]<=2 ^ 30:=by simp [nL,bO];omega
 simp [Ring.row,Entry.row];intro b2 b3 b4;refine aa.pure (oq r hl) (by simp [Ring.row]) ?_;simp [Ring.res];intro H b5;refine aa.pure (fq r (by omega)) (by simp [Ring.row]) ?_;by_cases c1 : aX r
 rotate_left
 ·simp [ab c1,hno (λh=>c1 h.1)]
 simp [c1];refine aa.pure (j6 e (by omega)) (by simp [Entry.row]) ?_;by_cases c2 : bj e
 rotate_left
 ·simp [ab c2,hno (λh=>c2 h.2.1)]
 simp [c2]
 cases c3 : r.out with
 | true=>simp [hno (λh=>by rw [c3] at h;exact absurd h.2.2 (by simp)),c3]
 | false=>
 simp;by_cases c4 : (r.list.length : Int) = r.cap
 ·have e1:=hfull ⟨c1,c2,c3⟩ c4
  simp [c4,e1]
 have e1:=hroom ⟨c1,c2,c3⟩ c4;simp [c4];refine drw eok mix [0,1,2,6] [3,4,5,7] (.c 4 3 2 13 (.c 4 4 0 13 (.c 4 5 4 9 (.c 4 7 9 0 (.l 4 0) .s) .s) .s) .s) ?_;simp
 try intros
 refine aa.pure (fM [e] he1) (by simp [Entry.row]) ?_;simp
 try intros
 refine ⟨by omega,?_⟩;rw [e1];simp [c3,Entry.row]
 try (rintro row (⟨a,-,rfl⟩ | rfl)<;>rfl)
theorem pQ (r : Ring) (hl : cC r<=2 ^ 30) (rev : Int) (hr : -4611686018427387904<=rev/\rev<=4611686018427387904) : ai Tryz.prog 305 [.agg r.row,.c (vi rev)] (.tup [.agg (bq r rev).1.res,.c (.v (.bool (bq r rev).2)) 1]):=by
 refine pci ae Tryz.func305 (λw0 base=>?_);have hno:=@mq r rev;have hyes:=@iE r rev;simp [Ring.row];intro b2 b4;refine aa.pure (fq r (by omega)) (by simp [Ring.row]) ?_;by_cases c1 : aX r
 rotate_left
 ·simp [ab c1,hno c1,Ring.res,Ring.zero]
 simp [c1];have hc:=nK r.cap rev hr;rw [<- hyes c1] at hc;generalize bq r rev = R at hc ⊢;obtain ⟨R1,R2⟩:=R;refine aa.pure hc (by simp) ?_;simp [Ring.res]
theorem o7 (h : Hub) (hl : bW h<=2 ^ 40) (id : Int) : ai Tryz.prog 303 [.agg h.row,.c (vi id)] (.one (.c (vi (eg h.subs id)) 1)):=by
 refine pci ae Tryz.func303 (λw0 base=>?_);obtain ⟨sh,docs,l,last⟩:=h;have hle:=aK (eW hl).2;simp only at hle;simp [Hub.row];intro b2 b3;refine inl ae Tryz.func363 20000 (λw1 F=>?_);simp
 refine aB.intro eok (λi : Nat=>i<=l.length/\∀ j,j < i->∀ hj : j < l.length,¬ l[j].id = id) (λi=>⟨19,20000,[(8,.v (.int .i64 i)),(7,.v (.int .i64 l.length)),(0,.ro (l.map Sub.row)),(1,.clo 364 [.p 48 b3 0])],
  [(48,.vars b3 3 [.v (.int .i64 id)])]⟩) (λi=>l.length - i) 0 (by simp) (by simp) (λi hi=>?_)
 by_cases hlt : i < l.length
 ·simp [hlt]
  refine inl ae Tryz.func364 40000 (λw2 F2=>?_);simp [Sub.row];intro b;by_cases c : l[i].id = id
  ·have e : eg l id = i:=lv hlt c hi.2
   simp [c,e]
  ·simp [c]
   exact ⟨i + 1,⟨by omega,λj hj hjl=>by
    by_cases hji : j = i
    ·subst hji;exact c
    ·exact hi.2 j (by omega) hjl⟩,by omega,ag (by omega)⟩
 ·have e : eg l id = -1:=iZ (λj hj=>hi.2 j (by omega) hj)
  simp [hlt,e]
theorem t9 (h : Hub) (hl : bW h<=2 ^ 30) : ai Tryz.prog 224 [.agg h.row] (.tup [.agg (bL h).1.res,.c (vi (bL h).2) 1]):=by
 refine pci ae Tryz.func224 (λw0 base=>?_);simp [Hub.row];intro b1 b2;refine aa.pure (cV h hl) (by simp [Hub.row]) ?_;by_cases c1 : ak h
 rotate_left
 ·simp [ab c1,qJ c1,Hub.res,Hub.zero]
 simp [c1]
 cases c2 : h.shut with
 | true=>simp [nP c1 c2,Hub.res,Hub.zero]
 | false=>
 have e:=pe c1 (by rw [c2];simp);simp;refine aa.pure (bD h hl) (by simp [Hub.row,c2]) ?_;simp [Hub.res,e]
theorem og (h : Hub) (hl : bW h<=2 ^ 28) (name : ByteArray) (room : Int) : ai Tryz.prog 221 [.agg h.row,.c (.v (.string name)),.c (vi room)]
 (.tup [.agg (ap h name room).1.res,.c (vi (ap h name room).2.1) 1,.c (vi (ap h name room).2.2) 1]):=by
 refine pci ae Tryz.func221 (λw0 base=>?_);have hls:=aK (eW hl).2;simp [Hub.row];intro b3 b6;refine aa.pure (dm h (by omega) name) (by simp [Hub.row]) ?_;simp;refine aa.pure (cV h (by omega)) (by simp [Hub.row]) ?_;by_cases c1 : ak h
 rotate_left
 ·simp [ab c1,en (λh=>c1 h.1),Hub.res,Hub.zero]
 simp [c1];refine aa.pure (aO room 1 6) (by simp) ?_;by_cases c2 : 1<=room/\room<=6
 rotate_left
 ·simp [ab c2,en (λh=>c2 h.2),Hub.res,Hub.zero]
 simp [c2]
 cases c3 : h.shut with
 | true=>simp [f5 ⟨c1,c2⟩ c3,Hub.res,Hub.zero]
 | false=>
 simp;rcases br h.docs name with ⟨k,hk,e,-⟩ | e;rotate_left
 ·simp [e,f9 ⟨c1,c2⟩ (by rw [c3];simp) e,Hub.res,Hub.zero]
 have hk0 : ¬ (k : Int) < 0:=by omega
 have hat:=gZ ⟨c1,c2⟩ (by rw [c3];simp) hk e;simp [e,hk0];have hlast:=c1.2.2.1;by_cases c4 : h.subs.length = 6
 ·have c4' : (h.subs.length : Int) = 6:=by omega
  rw [if_pos (.inl c4)] at hat;simp [c4',hat,Hub.res,Hub.zero]
 have c4' : ¬ (h.subs.length : Int) = 6:=by omega
 simp [c4'];by_cases c5 : h.last = 1000000000
 ·rw [if_pos (.inr c5)] at hat
  simp [c5,hat,Hub.res,Hub.zero]
 rw [if_neg (λh=>h.elim c4 c5)] at hat;have ew : Go.IntKind.i64.wrap (h.last + 1) = h.last + 1:=Go.IntWalk.i64_in _ (by omega);have hh:=aU (ch c1 hk);obtain ⟨d,hd⟩ : ∃ d,h.docs[k] = d:=⟨_,rfl⟩;rw [hd] at hat hh;simp [c5];refine aa.pure (bD h (by omega)) (by simp [Hub.row,c3]) ?_;simp [Hub.res,ew,c3,hk,hd,Doc.row];intro H1 H2 b10;refine aa.pure (bm d) (by simp [Doc.row]) ?_;simp;have hc:=nK room (ac d) (by omega);generalize cW room (ac d) = R at hc hat;obtain ⟨⟨cp,nx,ot,ls⟩,ok⟩:=R;refine aa.pure hc (by simp) ?_;simp [Ring.res];intro H11 H12 b11;refine ⟨by omega,λH=>?_⟩;refine drw eok mix [0,1,2,4,5] [3] (.c 5 3 16 15 (.l 5 15) .s) ?_;simp
 try intros
 rw [hat];simp [c3,Sub.row]
 try (rintro row (⟨a,-,rfl⟩ | rfl)<;>rfl)
theorem qZ (h : Hub) (hl : bW h<=2 ^ 28) (id : Int) : ai Tryz.prog 223 [.agg h.row,.c (vi id)]
 (.tup [.agg (aH h id).1.res,.c (.s ((aH h id).2.1.map ao)) 1,.c (vi (aH h id).2.2.1) 1,.c (vi (aH h id).2.2.2) 1]):=by
 refine pci ae Tryz.func223 (λw0 base=>?_);have hls:=aK (eW hl).2;simp [Hub.row];intro b2 b4;refine aa.pure (o7 h (by omega) id) (by simp [Hub.row]) ?_;simp;refine aa.pure (cV h (by omega)) (by simp [Hub.row]) ?_;by_cases c1 : ak h
 rotate_left
 ·simp [ab c1,kg c1,Hub.res,Hub.zero]
 simp [c1];rcases fm h.subs id with ⟨k,hk,e,-⟩ | e;rotate_left
 ·simp [e,iH c1 e,Hub.res,Hub.zero]
 have hk0 : ¬ (k : Int) < 0:=by omega
 obtain ⟨hro,j,hj,ej⟩:=rf c1 hk;have hat:=kj c1 hk e hj ej;have hm:=el (f:=dG) (eW hl).2 hk;have hdn:=el (f:=ce) (eW hl).1 hj;have hh:=aU (ch c1 hj);unfold dG at hm;have hmod:=mT hk;obtain ⟨s,hs⟩ : ∃ s,h.subs[k] = s:=⟨_,rfl⟩;obtain ⟨d,hd⟩ : ∃ d,h.docs[j] = d:=⟨_,rfl⟩;rw [hs] at hat hm hmod ej;rw [hd] at hat hdn hh;have hc:=pQ s.r (by omega) (ac d) (by omega);generalize bq s.r (ac d) = R at hc hat;obtain ⟨r,ok⟩:=R;simp only at hat hc;simp [e,hk0];refine gb (λx : Nat=>[(9,.p 144 x 0)]) (λx=>[(144,.vars x 89 [.v (.string d.name),.v (.int .i64 d.fr),.ro (d.text.map ao),.ro (d.list.map Entry.row),.ro (d.seen.map Seen.row)])]) [1,2,4,5,6,7,8] ?_ ?_
 ·refine drw eok mix [0,1,2,3,4,5,6,7,8] [9,10,11,12,13] (.c 9 9 65 446 (.c 9 10 128 318 (.c 9 11 0 318 (.c 9 12 0 318 (.c 9 13 318 0 (.l 9 0) .s) .s) (.c 9 12 0 318 (.c 9 11 0 318 (.c 9 13 318 0 (.l 9 0) .s) .s) .s)) (.c 9 12 0 446 (.c 9 10 128 318 (.c 9 11 0 318 (.c 9 13 318 0 (.l 9 0) .s) .s) .s) .s)) (.c 9 12 0 511 (.c 9 9 65 446 (.c 9 10 128 318 (.c 9 11 0 318 (.c 9 13 318 0 (.l 9 0) .s) .s) .s) .s) .s)) ?_
  simp [hk,hs,Sub.row]
  try intros
  repeat' first
   | (refine aa.pure (dm h (by omega) s.doc) (by simp [Hub.row]) ?_;simp [hj,hd,Doc.row,ej];try intros)
   | (rw [Trc];refine ⟨?_,?_⟩<;>(try simp [hk,hs,hj,hd,Sub.row,Doc.row])<;>try intros)
 rintro b9
 simp;refine aa.pure (bD h (by omega)) (by simp [Hub.row]) ?_;simp [Hub.res];intro H1 H2 b10;refine drw eok mix [0,1,2,3,4,5,6,7,8,9,15,16] [10,11,12,13,14,17] (.c 12 10 4 4091 (.c 12 11 8 4083 (.c 12 12 0 4083 (.c 12 13 0 4083 (.c 12 14 0 4083 (.c 12 17 4081 2 (.l 12 2) .s) .s) .s) .s) .s) .s) ?_;simp [hk,hs,Sub.row]
 try intros
 refine aa.pure (bm d) (by simp [Doc.row]) ?_;simp
 try intros
 refine aa.pure (hc) (by simp [Ring.row]) ?_;simp [Ring.res,hk]
 try intros
 refine drw eok mix [0,1,3,8] [2,4,5,6,7] (.c 4 2 4 11 (.c 4 4 2 9 (.c 4 5 8 1 (.c 4 6 0 1 (.c 4 7 0 1 (.l 4 1) .s) .s) .s) .s) .s) ?_;simp
 try intros
 refine aa.pure (mi d (by omega)) (by simp [Doc.row]) ?_;simp
 try intros
 refine aa.pure (bm d) (by simp [Doc.row]) ?_;simp
 try intros
 rw [hat];simp [hmod r];exact pJ
theorem AF (h : Hub) (hl : bW h<=2 ^ 28) (_c1 : ak h) (c : Call) : ai Tryz.prog 220 [.agg h.row,.agg c.row] (.one (.agg (iK h c).res)):=by
 refine pci ae Tryz.func220 (λw0 base=>?_);simp [Hub.row,Call.row];intro b2 b3 b4;refine aa.pure (dm h (by omega) c.doc) (by simp [Hub.row]) ?_;simp
 cases c3 : h.shut with
 | true=>simp [sM c3,Answer.res,bI]
 | false=>
 simp;rcases br h.docs c.doc with ⟨k,hk,e,-⟩ | e;rotate_left
 ·simp [e,sN (by rw [c3];simp) e,Answer.res,bI]
 have hk0 : ¬ (k : Int) < 0:=by omega
 have hat:=y1 (c:=c) (by rw [c3];simp) hk e;have hdn:=el (f:=ce) (eW hl).1 hk;obtain ⟨d,hd⟩ : ∃ d,h.docs[k] = d:=⟨_,rfl⟩;rw [hd] at hat hdn;simp [e,hk0];by_cases c4 : c.kind = 4
 ·rw [if_pos c4] at hat
  simp [c4];refine drw eok mix [0,1,2,3,4,6,7,8,9,10] [5,11,12,13] (.c 10 5 32 991 (.c 10 11 1 990 (.c 10 12 0 990 (.c 10 13 990 0 (.l 10 0) .s) .s) .s) .s) ?_;simp [hk,hd,Doc.row]
  try intros
  refine aa.pure (mi d (by omega)) (by simp [Doc.row,Doc.row]) ?_;simp
  try intros
  refine aa.pure (bm d) (by simp [Doc.row,Doc.row]) ?_;simp
  try intros
  rw [hat];simp [Answer.res]
 rw [if_neg c4] at hat;have hf:=yI d (by omega) c.n;generalize fi d c.n = R at hat hf;obtain ⟨list,code⟩:=R;simp only at hat hf;simp [c4];refine drw eok mix [0,1,2,3,4,5,6] [7,8,9,10,11,12] (.c 7 7 5 122 (.c 7 8 0 122 (.c 7 9 0 122 (.c 7 10 0 122 (.c 7 11 122 0 (.c 7 12 0 0 (.l 7 0) .s) .s) .s) .s) .s) .s) ?_;simp [hk,hd,Doc.row]
 try intros
 refine aa.pure (hf) (by simp [Doc.row,Doc.row]) ?_;simp
 try intros
 rw [hat];simp [Answer.res]
end Go.Proofs.YtoldjebobgocpaaGreat
