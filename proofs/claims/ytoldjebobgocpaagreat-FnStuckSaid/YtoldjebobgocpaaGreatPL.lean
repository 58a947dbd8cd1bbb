import Derived.Test.YtoldjebobgocpaaGreatPK
import Derived.Test.YtoldjebobgocpaaGreatPE
import Derived.Test.YtoldjebobgocpaaGreatMH
import Derived.Shelf.RegionOpenPlain
import Derived.Test.YtoldjebobgocpaaGreatPH
namespace Go.Proofs.YtoldjebobgocpaaGreat
open Go.AM
set_option maxRecDepth 20000
theorem yQ {w : Wld} {c : Call} (h : (e7 w c).2 = true) : ap (e7 w c).1:=by
 unfold e7 at h ⊢
 split at h
 ·rename_i hc
  rw [if_pos hc];obtain ⟨⟨W,hcl⟩,hl,hs⟩:=hc;rw [dx] at W ⊢;refine ⟨λt ht=>?_,W.hub,W.nlock,?_,?_,zt W.steps W.step.1,?_,LF W.queues (by simp [dt])⟩
  ·rcases List.mem_append.1 ht with ht | ht
   ·exact W.tasks t ht
   ·simp at ht
    subst ht;have:=W.step;refine ⟨hcl,this,by simp [dt],by simp [dt],by simp [dt],λ_=>⟨rfl,rfl,rfl⟩,by simp [dt],by simp [dt],by simp [dt]⟩
  ·have:=W.ntask
   simp only [List.length_append,List.length_cons,List.length_nil];omega
  ·have:=W.step
   simp only;omega
  ·exact zX (s:=w.step) (h:=w.h) (qs:=w.queues) W.locks (by simp [dt])
 ·simp at h
theorem Dx {w : Wld} (W : WIn w) (_hs : ¬ w.step = 1000000) {k : Nat} (hk : k < w.tasks.length) (hp : w.tasks[k].pc<=2) (a : Answer) :
 cm ⟨w.tasks[k].c,3,w.tasks[k].inv,w.step,w.tasks[k].rs,a⟩/\eV (w.tasks.set k ⟨w.tasks[k].c,3,w.tasks[k].inv,w.step,w.tasks[k].rs,a⟩) (w.step + 1):=by
 have ht:=W.tasks _ (List.getElem_mem hk);have hst:=W.step;obtain ⟨g1,g2,g3,g4,g5,g6,g7,g8,g9⟩:=ht;obtain ⟨e1,e2,-⟩:=g6 hp;have hlt : w.tasks[k].inv < w.step:=rP W.steps (List.getElem_mem hk) (by simp [be]) (by omega);refine ⟨⟨g1,g2,by simp,by simp,by simp,by simp,λ_=>.inr ⟨by simp only;omega,by simp only;omega⟩,λ_=>e2,by simp⟩,?_⟩;refine rO hk W.steps ?_;have h1 : ¬ w.tasks[k].inv = -1:=by omega
 have h2 : ¬ w.step = -1:=by omega
 simp [be,cj,e1,e2,h1,h2]
theorem wD {w : Wld} (W : WIn w) (hs : ¬ w.step = 1000000) {k : Nat} (hk : k < w.tasks.length) (hp : w.tasks[k].pc<=2) {lk : List Int} {qs : List Queue} (hlk : lk.length = w.locks.length)
 (hL : ∀ t : Task,t.pc≠1->dV ⟨(fDo w.h w.tasks[k].c).1,lk,qs,w.tasks.set k t,w.step + 1⟩) (hQ : ∀ t : Task,t.pc≠2->QIn (fDo w.h w.tasks[k].c).1.docs qs (w.tasks.set k t)) :
 WIn (bj (gQ ⟨w.h,lk,qs,w.tasks,w.step⟩ k w.tasks[k]) (w.step + 1)):=by
 obtain ⟨h1,h2⟩:=Dx W hs hk hp (fDo w.h w.tasks[k].c).2;have hst:=W.step;refine ⟨λt ht=>?_,(s5 W.hub _).1,?_,?_,?_,h2,hL _ (by simp),hQ _ (by simp)⟩
 ·rcases List.mem_or_eq_of_mem_set ht with ht | rfl
  ·exact W.tasks t ht
  ·exact h1
 ·have:=W.nlock;simp only [bj,gQ];omega
 ·have:=W.ntask;simp only [bj,gQ,List.length_set];exact this
 ·simp only [bj];omega
theorem Ig {α : Type} (A l B : List α) (k : α) : (A ++ ((l ++ [k]) ++ B)).Perm (k :: (A ++ (l ++ B))):=by
 have e1 : A ++ ((l ++ [k]) ++ B) = (A ++ l) ++ k :: B:=by simp
 have e2 : A ++ (l ++ B) = (A ++ l) ++ B:=by simp
 rw [e1,e2];exact List.perm_middle
theorem F9 {name : ByteArray} {x : List Int} : ∀ {l : List Queue},l.Pairwise iU->(∀ y∈l,y.doc≠name)->(l.take (aI name l) ++ ⟨name,x⟩ :: l.drop (aI name l)).Pairwise iU
 | [],_,_=>by simp [aI]
 | y :: l,h,hn=>by
   obtain ⟨h1,h2⟩:=List.pairwise_cons.1 h;have ih:=F9 (name:=name) (x:=x) h2 (λz hz=>hn z (List.mem_cons_of_mem _ hz));unfold aI
   split
   ·rename_i hc
    rw [List.take_succ_cons,List.drop_succ_cons,List.cons_append];refine List.pairwise_cons.2 ⟨λz hz=>?_,ih⟩;rcases List.mem_append.1 hz with hz | hz
    ·exact h1 z (List.mem_of_mem_take hz)
    ·rcases List.mem_cons.1 hz with rfl | hz
     ·exact hc
     ·exact h1 z (List.mem_of_mem_drop hz)
   ·rename_i hc
    have h3 : iU ⟨name,x⟩ y:=Bv hc (hn y (List.mem_cons_self ..));rw [List.take_zero,List.drop_zero,List.nil_append];refine List.pairwise_cons.2 ⟨λz hz=>?_,h⟩;rcases List.mem_cons.1 hz with rfl | hz
    ·exact h3
    ·exact mO h3 (h1 z hz)
theorem xP {l : List Queue} {name : ByteArray} (h : bq l name = -1) : ∀ y∈l,y.doc≠name:=by
 intro y hy e;rcases eI (λq : Queue=>q.doc = name) l with ⟨k,hk,e',-⟩ | ⟨-,hn⟩
 ·unfold bq at h;omega
 ·obtain ⟨i,hi,rfl⟩:=List.getElem_of_mem hy
  exact hn i hi e
theorem kK {w : Wld} (W : WIn w) {k : Nat} {t : Task} (ht : cm t) : ∀ x∈w.tasks.set k t,cm x:=by
 intro x hx;rcases List.mem_or_eq_of_mem_set hx with hx | rfl
 ·exact W.tasks x hx
 ·exact ht
theorem GB {w : Wld} {k : Int} (h : (cH w k).2 = true) : ap (cH w k).1:=by
 by_cases c : ap w/\¬ w.step = 1000000/\(0<=k/\k<=(w.tasks.length : Int) - 1)
 rotate_left
 ·rw [iz c] at h;cases h
 obtain ⟨c,hs,h1,h2⟩:=c;obtain ⟨k,rfl⟩ : ∃ n : Nat,k = n:=⟨k.toNat,by omega⟩;have hk : k < w.tasks.length:=by omega
 rw [jx c hs hk] at h ⊢;have W:=dx.1 c;have hst:=W.step;have ht:=W.tasks _ (List.getElem_mem hk);have hlt : w.tasks[k].inv < w.step:=rP W.steps (List.getElem_mem hk) (by simp [be]) (by have:=ht.2.1;omega);obtain ⟨g1,g2,g3,g4,g5,g6,g7,g8,g9⟩:=ht;have hmem:=List.getElem_mem hk;obtain ⟨t,hte⟩ : ∃ t,w.tasks[k] = t:=⟨_,rfl⟩;rw [dx];have hnt : ∀ t : Task,(w.tasks.set k t).length<=10:=λt=>by rw [List.length_set];exact W.ntask
 by_cases p0 : w.tasks[k].pc = 0
 ·by_cases d : aK w.tasks[k].c.kind
  ·by_cases f : w.locks[aQ w.tasks[k].c.doc w.locks.length]? = some (-1)
   ·rw [fk p0 d f]
    obtain ⟨e1,e2,e3⟩:=g6 (by omega);refine ⟨kK W ⟨g1,g2,by simp,λ_=>d,by simp,λ_=>⟨e1,e2,e3⟩,by simp,by simp,by simp⟩,W.hub,by simp only [List.length_set];exact W.nlock,hnt _,by simp only;omega,?_,?_,?_⟩
    ·exact kW hk W.steps rfl (by simp only;omega)
    ·exact zV (h:=w.h) (qs:=w.queues) (s:=w.step) (t:=w.tasks[k]) W.locks hk (by omega) rfl f
    ·exact r9 W.queues (λ_ h=>h) hk (by omega) (by simp)
   ·rw [gj p0 d f] at h;cases h
  ·rw [fm p0 d]
   exact wD W hs hk (by omega) rfl (λt h1=>n9 (h:=w.h) (qs:=w.queues) (s:=w.step) W.locks hk (by omega) h1) (λt h2=>r9 W.queues (s5 W.hub _).2 hk (by omega) h2)
 ·by_cases p1 : w.tasks[k].pc = 1
  ·rw [eb p1]
   obtain ⟨e1,e2,e3⟩:=g6 (by omega)
   have hdrop : ∀ (h' : Hub) (qs' : List Queue) (s' : Int) (t : Task),t.pc≠1->dV ⟨h',w.locks.set (aQ w.tasks[k].c.doc w.locks.length) (-1),qs',w.tasks.set k t,s'⟩:=
    λh' qs' s' t h1=>zW (h:=w.h) (qs:=w.queues) (s:=w.step) W.locks hk p1 h1
   have hnl : (w.locks.set (aQ w.tasks[k].c.doc w.locks.length) (-1)).length = w.locks.length:=by simp
   by_cases q : ¬ w.tasks[k].c.kind = 2\/w.h.shut = true\/ar w.h.docs w.tasks[k].c.doc < 0
   ·rw [gJ q]
    exact wD W hs hk (by omega) hnl (λt h1=>hdrop _ _ _ t h1) (λt h2=>r9 W.queues (s5 W.hub _).2 hk (by omega) h2)
   ·have hk2 : w.tasks[k].c.kind = 2:=Classical.byContradiction λh=>q (.inl h)
    have hdoc : 0<=ar w.h.docs w.tasks[k].c.doc:=by have : ¬ ar w.h.docs w.tasks[k].c.doc < 0:=λh=>q (.inr (.inr h));omega
    have hwait : cm ⟨w.tasks[k].c,2,w.tasks[k].inv,w.tasks[k].lin,w.tasks[k].rs,w.tasks[k].a⟩:=⟨g1,g2,by simp,by simp,λ_=>hk2,λ_=>⟨e1,e2,e3⟩,by simp,by simp,by simp⟩;rcases co w.queues w.tasks[k].c.doc with ⟨j,hj,e,hn⟩ | e
    ·by_cases f : w.queues[j].list.length = 2
     ·rw [gK q hj e f]
      refine ⟨kK W ⟨g1,g2,by simp,by simp,by simp,by simp,λ_=>.inl ⟨rfl,hk2,e1⟩,λ_=>e2,by simp⟩,W.hub,by simp only [bj];rw [hnl];exact W.nlock,hnt _,by simp only [bj];omega,?_,hdrop _ _ _ _ (by simp),?_⟩
      ·exact kW hk W.steps rfl (by simp only [bj];omega)
      ·exact r9 W.queues (λ_ h=>h) hk (by omega) (by simp)
     ·rw [gI q hj e f]
      refine ⟨kK W hwait,W.hub,by simp only [bj];rw [hnl];exact W.nlock,hnt _,by simp only [bj];omega,?_,hdrop _ _ _ _ (by simp),?_⟩
      ·exact kW hk W.steps rfl (by simp only [bj];omega)
      ·have hq1:=W.queues.one _ (List.getElem_mem hj)
       refine Fw W.queues hk (by omega) (by rfl) (λx hx=>?_) (vP (f:=Queue.doc) (R:=sLt) hj rfl W.queues.ord) ?_ (λx hx i hi=>?_)
       ·rcases List.mem_or_eq_of_mem_set hx with hx | rfl
        ·exact W.queues.one x hx
        ·have:=hq1.1
         exact ⟨by simp only [List.length_append,List.length_cons,List.length_nil];omega,hq1.2⟩
       ·simp only [bj]
        rw [lV hj,rC hj];exact Ig _ _ _ _
       ·rcases List.mem_or_eq_of_mem_set hx with hx | rfl
        ·exact .inr ⟨x,hx,rfl,hi⟩
        ·rcases List.mem_append.1 hi with hi | hi
         ·exact .inr ⟨_,List.getElem_mem hj,rfl,hi⟩
         ·simp at hi;exact .inl ⟨hi,hn⟩
    ·rw [iA q e]
     refine ⟨kK W hwait,W.hub,by simp only [bj];rw [hnl];exact W.nlock,hnt _,by simp only [bj];omega,?_,hdrop _ _ _ _ (by simp),?_⟩
     ·exact kW hk W.steps rfl (by simp only [bj];omega)
     ·refine Fw W.queues hk (by omega) (by rfl) (λx hx=>?_) (F9 W.queues.ord (xP e)) ?_ (λx hx i hi=>?_)
      ·rcases List.mem_append.1 hx with hx | hx
       ·exact W.queues.one x (List.mem_of_mem_take hx)
       ·rcases List.mem_cons.1 hx with rfl | hx
        ·exact ⟨by simp,lD.1 hdoc⟩
        ·exact W.queues.one x (List.mem_of_mem_drop hx)
      ·simp only [bj]
       have e2 : bH w.queues = bH (w.queues.take (aI w.tasks[k].c.doc w.queues)) ++ bH (w.queues.drop (aI w.tasks[k].c.doc w.queues)):=by
        unfold bH;rw [<- List.flatMap_append,List.take_append_drop]
       have e3 : ∀ (A B : List Queue) (q : Queue),bH (A ++ q :: B) = bH A ++ (q.list ++ bH B):=λA B q=>by unfold bH;rw [List.flatMap_append,List.flatMap_cons]
       rw [e2,e3];exact List.perm_middle
      ·rcases List.mem_append.1 hx with hx | hx
       ·exact .inr ⟨x,List.mem_of_mem_take hx,rfl,hi⟩
       ·rcases List.mem_cons.1 hx with rfl | hx
        ·simp at hi;exact .inl ⟨hi,rfl⟩
        ·exact .inr ⟨x,List.mem_of_mem_drop hx,rfl,hi⟩
  ·by_cases p3 : w.tasks[k].pc = 3
   ·rw [fj p3]
    have hrs:=g8 p3;have hbl:=g7 (by omega)
    have hll : w.tasks[k].lin<=w.step:=by
     by_cases e : w.tasks[k].lin = -1
     ·omega
     ·have:=rP W.steps (List.getElem_mem hk) (n:=w.tasks[k].lin) (by simp [be]) e
      omega
    refine ⟨kK W ⟨g1,g2,by simp,by simp,by simp,by simp,λ_=>hbl,by simp,λ_=>⟨by simp only;omega,hll⟩⟩,W.hub,W.nlock,hnt _,by simp only;omega,?_,?_,?_⟩
    ·refine rO hk W.steps ?_
     have h2 : ¬ w.step = -1:=by omega
     have h3 : ∀ a b c : List Int,a ++ (b ++ c) = a ++ b ++ c:=λa b c=>by simp
     show cj [w.tasks[k].inv,w.tasks[k].lin,w.step] = cj [w.tasks[k].inv,w.tasks[k].lin,w.tasks[k].rs] ++ [w.step]
     rw [show [w.tasks[k].inv,w.tasks[k].lin,w.step] = [w.tasks[k].inv,w.tasks[k].lin] ++ [w.step] from rfl,show [w.tasks[k].inv,w.tasks[k].lin,w.tasks[k].rs] = [w.tasks[k].inv,w.tasks[k].lin] ++ [w.tasks[k].rs] from rfl,gt,gt,hrs];simp [cj,h2]
    ·exact n9 (h:=w.h) (qs:=w.queues) (s:=w.step) W.locks hk (by omega) (by simp)
    ·exact r9 W.queues (λ_ h=>h) hk (by omega) (by simp)
   ·rw [gk p0 p1 p3] at h;cases h
theorem jp {w : Wld} (W : WIn w) {i : Nat} (hi : i < w.queues.length) {k : Nat} (hk : k < w.tasks.length) {rest : List Int} (hl : w.queues[i].list = (k : Int) :: rest) : w.tasks[k].pc = 2/\w.tasks[k].c.doc = w.queues[i].doc:=by
 obtain ⟨j,hj,e,h1,h2⟩:=W.queues.may _ (List.getElem_mem hi) (k : Int) (by rw [hl];simp);have : j = k:=by omega
 subst this;exact ⟨h1,h2⟩
theorem Dv {w : Wld} {name : ByteArray} (h : (cF w name).2 = true) : ap (cF w name).1:=by
 by_cases c : ap w/\¬ w.step = 1000000/\0<=bq w.queues name
 rotate_left
 ·rw [kM c] at h;cases h
 obtain ⟨c,hs,h0⟩:=c;rcases co w.queues name with ⟨i,hi,e,-⟩ | e;rotate_left
 ·omega
 obtain ⟨k,hk,rest,hl,hr⟩:=fY c hi;rw [jd c hs hi e hk hl,dx];have W:=dx.1 c;obtain ⟨hp,-⟩:=jp W hi hk hl;refine wD W hs hk (by omega) rfl (λt h1=>n9 (h:=w.h) (qs:=w.queues) (s:=w.step) W.locks hk (by omega) h1) (λt h2=>?_);have hwa:=rC hi;rw [hl] at hwa;have hq1:=W.queues.one _ (List.getElem_mem hi);unfold iQ
 split
 ·rename_i hz
  subst hz;have e1 : w.queues.eraseIdx i = w.queues.take i ++ w.queues.drop (i + 1):=List.eraseIdx_eq_take_drop_succ ..;have hsub : ∀ q,q∈w.queues.eraseIdx i->q∈w.queues:=λq hq=>List.mem_of_mem_eraseIdx hq
  refine BA W.queues (s5 W.hub _).2 hk h2 (λq hq=>W.queues.one q (hsub q hq)) (W.queues.ord.sublist (List.eraseIdx_sublist ..)) ?_ (λq hq j hj=>⟨q,hsub q hq,rfl,hj⟩);have e2 : bH (w.queues.eraseIdx i) = bH (w.queues.take i) ++ bH (w.queues.drop (i + 1)):=by rw [e1];unfold bH;rw [List.flatMap_append]
  rw [hwa,e2];exact List.perm_middle
 ·rename_i hz
  refine BA W.queues (s5 W.hub _).2 hk h2 (λq hq=>?_) (vP (f:=Queue.doc) (R:=sLt) hi rfl W.queues.ord) ?_ (λq hq j hj=>?_)
  ·rcases List.mem_or_eq_of_mem_set hq with hq | rfl
   ·exact W.queues.one q hq
   ·have : 0 < rest.length:=List.length_pos_iff.2 hz
    exact ⟨by simp only;omega,hq1.2⟩
  ·rw [hwa,lV hi]
   exact List.perm_middle
  ·rcases List.mem_or_eq_of_mem_set hq with hq | rfl
   ·exact ⟨q,hq,rfl,hj⟩
   ·exact ⟨_,List.getElem_mem hi,rfl,by rw [hl];exact List.mem_cons_of_mem _ hj⟩
theorem u2 : ∀ {l : List Task} {k : Nat} (h : k < l.length) (t : Task),gD (l.set k t) = gD l - eo l[k] + eo t
 | x :: l,0,_,t=>by simp only [List.set_cons_zero,gD,List.getElem_cons_zero];omega
 | x :: l,k + 1,h,t=>by
   have:=u2 (l:=l) (k:=k) (by simpa using h) t;simp only [List.set_cons_succ,gD,List.getElem_cons_succ,this];omega
theorem oa {t : Task} {a : Answer} {s : Int} (h : t.pc<=2) (h0 : 0<=t.pc) (h1 : t.pc = 1->aK t.c.kind) : eo ⟨t.c,3,t.inv,s,t.rs,a⟩ < eo t:=by
 have e : eo ⟨t.c,3,t.inv,s,t.rs,a⟩ = 1:=by unfold eo;simp
 rw [e];unfold eo
 split
 ·split
  ·omega
  ·split<;>omega
 ·split
  ·rename_i p1
   split
   ·omega
   ·rw [if_pos (h1 p1)];omega
  ·rw [if_pos (by omega)];omega
theorem sB {t : Task} (h : t.pc = 1) (h2 : t.c.kind = 2) : eo ⟨t.c,2,t.inv,t.lin,t.rs,t.a⟩ < eo t:=by unfold eo;simp [h,h2]
theorem Ab {t : Task} (h : t.pc = 0) (h2 : aK t.c.kind) : eo ⟨t.c,1,t.inv,t.lin,t.rs,t.a⟩ < eo t:=by
 unfold eo;simp only [h];by_cases k : t.c.kind = 2
 ·simp [k]
 ·simp [k,h2]
theorem Ac {t : Task} {a : Answer} (h : t.pc = 1) (h2 : t.c.kind = 2) : eo ⟨t.c,3,t.inv,t.lin,t.rs,a⟩ < eo t:=by unfold eo;simp [h,h2]
theorem Aa {t : Task} {s : Int} (h : t.pc = 3) : eo ⟨t.c,4,t.inv,t.lin,s,t.a⟩ < eo t:=by unfold eo;simp [h]
def BI (w w' : Wld) (k : Nat) : Prop:=∃ h : k < w.tasks.length,∃ t,w'.tasks = w.tasks.set k t/\t.c = w.tasks[k].c/\t.inv = w.tasks[k].inv/\eo t < eo w.tasks[k]
theorem zM {w w' : Wld} {k : Nat} (h : BI w w' k) : gD w'.tasks < gD w.tasks:=by
 obtain ⟨hk,t,e,-,-,hl⟩:=h;rw [e,u2 hk];omega
theorem GA {w : Wld} {k : Nat} (h : (cH w k).2 = true) : BI w (cH w k).1 k:=by
 by_cases c : ap w/\¬ w.step = 1000000/\(0<=(k : Int)/\(k : Int)<=(w.tasks.length : Int) - 1)
 rotate_left
 ·rw [iz c] at h;cases h
 obtain ⟨c,hs,h1,h2⟩:=c;have hk : k < w.tasks.length:=by omega
 rw [jx c hs hk] at h ⊢;have W:=dx.1 c;obtain ⟨g1,g2,g3,g4,g5,g6,g7,g8,g9⟩:=W.tasks _ (List.getElem_mem hk);refine ⟨hk,?_⟩;by_cases p0 : w.tasks[k].pc = 0
 ·by_cases d : aK w.tasks[k].c.kind
  ·by_cases f : w.locks[aQ w.tasks[k].c.doc w.locks.length]? = some (-1)
   ·rw [fk p0 d f];exact ⟨_,rfl,rfl,rfl,Ab p0 d⟩
   ·rw [gj p0 d f] at h;cases h
  ·rw [fm p0 d];exact ⟨_,rfl,rfl,rfl,oa (by omega) (by omega) g4⟩
 ·by_cases p1 : w.tasks[k].pc = 1
  ·rw [eb p1]
   by_cases q : ¬ w.tasks[k].c.kind = 2\/w.h.shut = true\/ar w.h.docs w.tasks[k].c.doc < 0
   ·rw [gJ q];exact ⟨_,rfl,rfl,rfl,oa (by omega) (by omega) g4⟩
   ·have hk2 : w.tasks[k].c.kind = 2:=Classical.byContradiction λh=>q (.inl h)
    rcases co w.queues w.tasks[k].c.doc with ⟨j,hj,e,hn⟩ | e
    ·by_cases f : w.queues[j].list.length = 2
     ·rw [gK q hj e f];exact ⟨_,rfl,rfl,rfl,Ac p1 hk2⟩
     ·rw [gI q hj e f];exact ⟨_,rfl,rfl,rfl,sB p1 hk2⟩
    ·rw [iA q e];exact ⟨_,rfl,rfl,rfl,sB p1 hk2⟩
  ·by_cases p3 : w.tasks[k].pc = 3
   ·rw [fj p3];exact ⟨_,rfl,rfl,rfl,Aa p3⟩
   ·rw [gk p0 p1 p3] at h;cases h
theorem Du {w : Wld} {name : ByteArray} (h : (cF w name).2 = true) : ∃ k,BI w (cF w name).1 k:=by
 by_cases c : ap w/\¬ w.step = 1000000/\0<=bq w.queues name
 rotate_left
 ·rw [kM c] at h;cases h
 obtain ⟨c,hs,h0⟩:=c;rcases co w.queues name with ⟨i,hi,e,-⟩ | e;rotate_left
 ·omega
 obtain ⟨k,hk,rest,hl,hr⟩:=fY c hi;rw [jd c hs hi e hk hl];have W:=dx.1 c;obtain ⟨hp,-⟩:=jp W hi hk hl;obtain ⟨g1,g2,g3,g4,-⟩:=W.tasks _ (List.getElem_mem hk);exact ⟨k,hk,_,rfl,rfl,rfl,oa (by omega) (by omega) g4⟩
theorem uZ {w w' : Wld} (c : ap w) {k : Nat} (h : BI w w' k) : er w' < er w:=by
 have h1:=zM h;have h2:=v6 w'.tasks;unfold er;rw [if_pos c]
 split
 ·exact h1
 ·omega
theorem Fe {w : Wld} (c : ap w) (s : ¬ w.step = 1000000) : FP w = 0 ↔ ∀ t∈w.tasks,t.pc = 4:=by
 have W:=dx.1 c
 constructor
 ·intro hm t ht
  unfold FP at hm;have ha : gR w = []:=List.length_eq_zero_iff.1 (by omega);have hq : dY w = []:=List.length_eq_zero_iff.1 (by omega);obtain ⟨k,hk,rfl⟩:=List.getElem_of_mem ht
  have notable : ∀ k,∀ hk : k < w.tasks.length,¬ eu w w.tasks[k]:=by
   intro k hk hb;rw [m6 ⟨c,s⟩] at ha
   have hm : (k : Int)∈dG w w.tasks.length:=by
    unfold dG;rw [List.mem_map];refine ⟨k,?_,rfl⟩;rw [List.mem_filter];exact ⟨List.mem_range.2 hk,by simpa using ⟨hk,hb⟩⟩
   rw [ha] at hm
   cases hm
  have noqueue : w.queues = []:=by
   rw [iy ⟨c,s⟩] at hq;exact List.map_eq_nil_iff.1 hq
  have hp:=(W.tasks _ ht).2.2.1
  have h2 : w.tasks[k].pc≠2:=λe=>by
   have:=W.queues.all k hk e;rw [noqueue] at this
   cases this
  have hb:=notable k hk;unfold eu at hb;by_cases e4 : w.tasks[k].pc = 4
  ·exact e4
  exfalso
  refine hb ⟨λ⟨e0,d⟩=>?_,h2,e4⟩;have hs : aQ w.tasks[k].c.doc w.locks.length < w.locks.length:=Nat.mod_lt _ (by have:=W.nlock;omega);rw [List.getElem?_eq_getElem hs];rcases W.locks.1 _ hs with h3 | ⟨j,hj,h3,h4,h5⟩
  ·rw [h3]
  ·exfalso
   refine notable j hj ⟨λ⟨e,_⟩=>by omega,by omega,by omega⟩
 ·intro h
  unfold FP
  have ha : gR w = []:=by
   rw [m6 ⟨c,s⟩];unfold dG;rw [List.map_eq_nil_iff,List.filter_eq_nil_iff];intro k hk hb;obtain ⟨hk,hb⟩ : ∃ h : k < w.tasks.length,eu w w.tasks[k]:=by simpa using hb
   exact hb.2.2 (h _ (List.getElem_mem hk))
  have hq : dY w = []:=by
   rw [iy ⟨c,s⟩,List.map_eq_nil_iff]
   cases e : w.queues with
   | nil=>rfl
   | cons q l=>
     exfalso
     have hi : 0 < w.queues.length:=by rw [e];simp
     obtain ⟨k,hk,rest,hl,-⟩:=fY c hi;have:=(jp W hi hk hl).1;have:=h _ (List.getElem_mem hk);omega
  rw [ha,hq];rfl
open Go.AM Go.RowKit
set_option maxRecDepth 100000
set_option maxHeartbeats 4000000
set_option linter.unusedVariables false
set_option linter.unusedSimpArgs false
theorem v9 (w : World) (us xs : List Value) (n i b o C bv ov Cv : Nat) (cs cv : Array Value) (T Tv : TypeId) (hul : us.length = n * 5) (hxl : xs.length = 5) (hi : i < n) (hroom : n + 1<=C) (hC : C<=maxLen)
 (hb : w.heap[b]? = some (.cells cs T (0,0))) (hfit : o + C * 5<=cs.size) (hcs : ∀ j,j < n * 5->cs.getD (o + j) undef = us.getD j undef) (h1 : ∀ v∈us,v.oneCell' = true)
 (hbv : w.heap[bv]? = some (.cells cv Tv (0,0))) (hCv : 1<=Cv) (hfv : ov + Cv * 5<=cv.size) (hcv : ∀ j,j < 5->cv.getD (ov + j) undef = xs.getD j undef) (h1v : ∀ v∈xs,v.oneCell' = true) (hne : bv≠b) :
 Calls Tryz.prog 300 #[.slice (some ⟨b,o,none⟩) n C,.int .i64 i,.slice (some ⟨bv,ov,none⟩) 1 Cv] w λe w'=>
  e = .returned (.slice (some ⟨b,o,none⟩) (n + 1) C)/\Placed w w' (some b) b o C (n + 1) 5 (us.take (i * 5) ++ xs ++ us.drop (i * 5)):=by
 have u0:=run_underlying Tryz.underlying32;have mixed : Tryz.prog.follows .mixedOrders = true:=by kernel_rfl
 obtain ⟨i0,z0,hi0,hzs,hzb,hz0,hzc,-⟩:=(ae 89 _ Bk).info;have hzs : i0.size = 5:=hzs;have hC63 : C<=9223372036854775807:=by unfold maxLen at hC;omega
 have hz1 : ¬ ((1 : Int) = 0):=by omega
 have hz2 : ¬ ((i : Int) = (n : Int)):=by omega
 have hdl : (us.drop (i * 5)).length = (n - i) * 5:=by rw [List.length_drop,hul,Nat.sub_mul]
 have hov : ∀ lb cb,(callFunc 361 #[.slice (some ⟨bv,ov,none⟩) 1 Cv,.slice (some ⟨b,o + (i * 5 + 5),none⟩) lb cb]).run Tryz.prog w = .ok (.value (.bool false)) w:=λlb cb=>by
  rw [run_callFunc_extern Tryz.func361 (by kernel_rfl) (by kernel_rfl) (by kernel_rfl) (e:=Extern.SlicesOverlaps.overlaps #[32,32] #[4]) (by kernel_rfl),
   Lib.run_overlaps_apart w 32 4 89 Tryz.underlying32 5 Tryz.sizeOf89 ⟨bv,ov,none⟩ ⟨b,o + (i * 5 + 5),none⟩ 1 Cv lb cb hne Tv T cv.size cs.size (by simp [World.shape?,hbv]) (by simp [World.shape?,hb]) (by omega) (by simp [World.frozen?,hbv]) (by simp [World.frozen?,hbv])]
  rfl
 have hmm : (n + 1) * 5<=C * 5:=Nat.mul_le_mul_right _ hroom;have hii : i * 5 + 5<=n * 5:=by have:=Nat.mul_le_mul_right 5 (show i + 1<=n by omega);omega
 have e1 : (i + 1) * 5 = i * 5 + 5:=Nat.succ_mul i 5;have e2 : (n + 1) * 5 = n * 5 + 5:=Nat.succ_mul n 5;have e3 : (n - i) * 5 = n * 5 - i * 5:=Nat.sub_mul n i 5;obtain ⟨cs1,hcs1⟩ : ∃ c,c = (cs.toList.take (o + (i + 1) * 5) ++ us.drop (i * 5) ++ cs.toList.drop (o + (i + 1) * 5 + (us.drop (i * 5)).length)).toArray:=⟨_,rfl⟩;obtain ⟨s1,g1⟩:=bK cs (o + (i + 1) * 5) (us.drop (i * 5)) (by omega);rw [<- hcs1] at s1 g1
 have hcp1 : ∀ (W : World),W.heap = w.heap->∀ ty dl dc sl sc,Nat.min sl dl = n - i->(Builtin.copy_ #[32,32] ty #[.slice (some ⟨b,o + (i * 5 + 5),none⟩) dl dc,.slice (some ⟨b,o + i * 5,none⟩) sl sc]).run Tryz.prog W = .ok (goInt (n - i : Nat)) (W.setRow b cs1):=λW hW ty dl dc sl sc hm=>by
  have hb' : W.heap[b]? = some (.cells cs T (0,0)):=by rw [hW];exact hb
  rw [hcs1,e1]
  exact dL Tryz.underlying32 hi0 hb' ⟨b,o + i * 5,none⟩ (us.drop (i * 5)) (n - i) hm (by rw [hdl,hzs])
   (λj v hj=>by
    rw [Addr.add_lit];refine cK hb' (o:=o + i * 5) (vs:=us.drop (i * 5)) (λj hj=>?_) (by omega) j v hj;rw [Nat.add_assoc,hcs _ (by omega)];simp [List.getD_eq_getElem?_getD])
   (λv hv=>h1 v (List.mem_of_mem_drop hv)) (by omega)
 obtain ⟨cs2,hcs2⟩ : ∃ c,c = (cs1.toList.take (o + i * 5) ++ xs ++ cs1.toList.drop (o + i * 5 + xs.length)).toArray:=⟨_,rfl⟩;obtain ⟨s2,g2⟩:=bK cs1 (o + i * 5) xs (by omega);rw [<- hcs2] at s2 g2
 have hcp2 : ∀ (W : World),W.heap[b]? = some (.cells cs1 T (0,0))->W.heap[bv]? = some (.cells cv Tv (0,0))->∀ ty dl dc,0 < dl->(Builtin.copy_ #[32,32] ty #[.slice (some ⟨b,o + i * 5,none⟩) dl dc,.slice (some ⟨bv,ov,none⟩) 1 Cv]).run Tryz.prog W = .ok (goInt (1 : Nat)) (W.setRow b cs2):=λW hW hWv ty dl dc hm=>by
  rw [hcs2]
  exact dL Tryz.underlying32 hi0 hW ⟨bv,ov,none⟩ xs 1 (by simp only [Nat.min_def];split<;>omega) (by rw [hxl,hzs])
   (λj v hj=>by
    rw [Addr.add_lit];exact cK hWv (λj hj=>hcv j (by omega)) (by omega) j v hj)
   h1v (by omega)
 have hw1 : IntKind.i64.wrap ((i : Int) + 1) = (i : Int) + 1:=by rw [IntKind.wrap_i64];omega
 have hb1 : (0 : Int)<=(i : Int) + 1:=by omega
 have hin : i<=n:=by omega
 have htn : ((i : Int) + 1).toNat = i + 1:=by omega
 have hb2 : ¬ (C = i + 1):=by omega
 have hb3 : (i : Int)<=(n : Int) + 1:=by omega
 have hb4 : ¬ (C = i):=by omega
 go_enter Tryz.func300,Tryz.ntmps300
 go_wp2_with (simp only [hov])
 have hE:=hcp1 w.drew rfl 3 (n - i) (C - (i + 1)) (n + 1 - i) (C - i) (by simp only [Nat.min_def];split<;>omega);have hE2:=hcp2 (w.drew.setRow b cs1) (by simp [setRow_heap w.drew b cs cs1 T (0,0) hb]) (by rw [setRow_other w.drew b bv cs1 hne];exact hbv) 3 (n + 1 - i) (C - i) (by omega)
 have hP : Placed w ((w.drew.setRow b cs1).setRow b cs2) (some b) b o C (n + 1) 5 (us.take (i * 5) ++ xs ++ us.drop (i * 5)):=by
  refine ⟨⟨cs2,T,setRow_heap _ b cs1 cs2 T (0,0) (setRow_heap w.drew b cs cs1 T (0,0) hb),by omega,λj hj=>?_⟩,hroom,hC,by simp,⟨rfl,rfl,rfl⟩,.inr rfl,λc _ hc=>?_⟩
  ·rw [g2,g1]
   have hl : (us.take (i * 5)).length = i * 5:=by simp;omega
   simp only [List.getD_eq_getElem?_getD];rw [List.append_assoc];by_cases c1 : j < i * 5
   ·rw [if_neg (by omega),if_neg (by omega),List.getElem?_append_left (by omega),List.getElem?_take,if_pos c1,hcs j (by omega)]
    simp
   ·rw [List.getElem?_append_right (by omega),hl]
    by_cases c2 : j < i * 5 + 5
    ·rw [if_pos (by omega),List.getElem?_append_left (by omega)]
     congr 2
     omega
    ·rw [if_neg (by omega),if_pos (by omega),List.getElem?_append_right (by omega),List.getElem?_drop,List.getElem?_drop]
     congr 2
     omega
  ·rw [setRow_other _ b c _ hc,setRow_other _ b c _ hc];rfl
 clear hcs1 hcs2
 go_region
 go_wp2
 go_ret
 all_goals exact ⟨rfl,hP⟩
theorem od (w : World) (a : Option Addr) (n C bv ov Cv : Nat) (r : Value) (w1 : World) (hnC : n<=C) (hC : C<=maxLen)
 (hr : ∀ ty,(Builtin.append_ #[32,32] ty #[.slice a n C,.slice (some ⟨bv,ov,none⟩) 1 Cv]).run Tryz.prog w = .ok r w1) :
 Calls Tryz.prog 300 #[.slice a n C,.int .i64 n,.slice (some ⟨bv,ov,none⟩) 1 Cv] w λe w'=>e = .returned r/\w' = w1:=by
 have u0:=run_underlying Tryz.underlying32;have mixed : Tryz.prog.follows .mixedOrders = true:=by kernel_rfl
 have hC63 : C<=9223372036854775807:=by unfold maxLen at hC;omega
 have hz1 : ¬ ((1 : Int) = 0):=by omega
 cases a with
 | none=>
   by_cases hc : C = n
   ·subst hc
    go_enter Tryz.func300,Tryz.ntmps300
    go_wp2_with (at_builtin;refine Lib.wpList_append_run _ rfl _ _ _ _ rfl _ _ rfl rfl _ _ (hr _) ?_)
    go_ret
    exact ⟨rfl,rfl⟩
   ·go_enter Tryz.func300,Tryz.ntmps300
    go_wp2_with (at_builtin;refine Lib.wpList_append_run _ rfl _ _ _ _ rfl _ _ rfl rfl _ _ (hr _) ?_)
    go_ret
    exact ⟨rfl,rfl⟩
 | some q=>
   by_cases hc : C = n
   ·subst hc
    go_enter Tryz.func300,Tryz.ntmps300
    go_wp2_with (at_builtin;refine Lib.wpList_append_run _ rfl _ _ _ _ rfl _ _ rfl rfl _ _ (hr _) ?_)
    go_ret
    exact ⟨rfl,rfl⟩
   ·go_enter Tryz.func300,Tryz.ntmps300
    go_wp2_with (at_builtin;refine Lib.wpList_append_run _ rfl _ _ _ _ rfl _ _ rfl rfl _ _ (hr _) ?_)
    go_ret
    exact ⟨rfl,rfl⟩
theorem yr (w : World) (us xs : List Value) (n i b o C bv ov Cv : Nat) (cs cv : Array Value) (T Tv : TypeId) (hul : us.length = n * 5) (hxl : xs.length = 5) (hi : i < n) (hnc : n<=C) (hroom : C < n + 1) (hbig : (n + 1) * tR.bytes<=140737488355328)
 (hb : w.heap[b]? = some (.cells cs T (0,0))) (hfit : o + C * 5<=cs.size) (hcs : ∀ j,j < n * 5->cs.getD (o + j) undef = us.getD j undef) (h1 : ∀ v∈us,v.oneCell' = true)
 (hbv : w.heap[bv]? = some (.cells cv Tv (0,0))) (hCv : 1<=Cv) (hfv : ov + Cv * 5<=cv.size) (hcv : ∀ j,j < 5->cv.getD (ov + j) undef = xs.getD j undef) (h1v : ∀ v∈xs,v.oneCell' = true) :
 Calls Tryz.prog 300 #[.slice (some ⟨b,o,none⟩) n C,.int .i64 i,.slice (some ⟨bv,ov,none⟩) 1 Cv] w λe w'=>
  ∃ nC,e = .returned (.slice (some ⟨w.heap.size,0,none⟩) (n + 1) nC)/\Placed w w' (some b) w.heap.size 0 nC (n + 1) 5 (us.take (i * 5) ++ xs ++ us.drop (i * 5)):=by
 have u0:=run_underlying Tryz.underlying32;have mixed : Tryz.prog.follows .mixedOrders = true:=by kernel_rfl
 obtain ⟨i0,z0,hi0,hzs,hzb,hz0,hzc,-⟩:=(ae 89 _ Bk).info;have hzz:=fp hzc;have hzs : i0.size = 5:=hzs;have hzb : i0.bytes = tR.bytes:=hzb;have hby : 0 < tR.bytes:=by decide
 have hzz : z0.cells.size = 5:=hzz;have hnb : (n + 1)<=140737488355328:=Nat.le_trans (Nat.le_mul_of_pos_right _ hby) hbig;have hz1 : ¬ ((1 : Int) = 0):=by omega
 have hz2 : ¬ ((i : Int) = (n : Int)):=by omega
 have hz3 : (C : Int) < (n : Int) + 1:=by omega
 have hmm : n * 5<=C * 5:=Nat.mul_le_mul_right _ hnc;have hii : i * 5 + 5<=n * 5:=by have:=Nat.mul_le_mul_right 5 (show i + 1<=n by omega);omega
 have e1 : (i + 1) * 5 = i * 5 + 5:=Nat.succ_mul i 5;have e2 : (n + 1) * 5 = n * 5 + 5:=Nat.succ_mul n 5;have e3 : (n - i) * 5 = n * 5 - i * 5:=Nat.sub_mul n i 5;have hdl : (us.drop (i * 5)).length = (n - i) * 5:=by rw [List.length_drop,hul,Nat.sub_mul]
 have htl : (us.take (i * 5)).length = i * 5:=by simp;omega
 have hbw : b < w.heap.size:=cR hb;have hvw : bv < w.heap.size:=cR hbv;have hkk : (n : Int) + 1 - (i : Int) = ((n + 1 - i : Nat) : Int):=by omega
 have hik : i + (n + 1 - i) = n + 1:=by omega
 have hold : (Builtin.firstCells i0.size i (.slice (some ⟨b,o,none⟩) i C)).run Tryz.prog w.drew = .ok (us.take (i * 5)).toArray w.drew:=by
  rw [hzs]
  exact run_firstCells_some w.drew 5 i ⟨b,o,none⟩ i C (us.take (i * 5)) (by rw [htl]) (λj v hj=>by
   rw [Addr.add_lit]
   exact cK (w:=w.drew) (o:=o) (vs:=us.take (i * 5)) (cs:=cs) (T:=T) hb (λj hj=>by
    rw [hcs _ (by omega)];rw [htl] at hj;simp only [List.getD_eq_getElem?_getD,List.getElem?_take,if_pos hj]) (by omega) j v hj)
 have hrz : ∀ ty,(Builtin.append_ #[32,3] ty #[.slice (some ⟨b,o,none⟩) i C,.int .i64 ((n : Int) + 1 - (i : Int))]).run Tryz.prog w =
  .ok (.slice (some ⟨w.heap.size,0,none⟩) (n + 1) (grownCap w (n + 1) C 89)) (w.drew.alloc (.cells ((us.take (i * 5)).toArray ++ Builtin.zeroCells z0.cells (n + 1 - i) ++ Builtin.zeroCells z0.cells (grownCap w (n + 1) C 89 - (n + 1))) 89)):=λty=>by
  have h:=Lib.run_append_grow_zeros w 32 3 ty 89 i0 z0 .i64 .i64 Tryz.underlying32 Tryz.underlying3 hi0 hz0 (some ⟨b,o,none⟩) i C (us.take (i * 5)) hold (n + 1 - i) (by omega) (by omega) (by omega) (by omega) (by rw [hzb];have:=Nat.mul_le_mul_right tR.bytes (show n + 1 - i<=n + 1 by omega);omega) (by rw [hzb,hik];exact growslice_fits hroom hbig);rw [hik] at h;rw [hkk];exact h
 obtain ⟨G,hG⟩ : ∃ G,G = grownCap w (n + 1) C 89:=⟨_,rfl⟩;obtain ⟨ROW,hROW⟩ : ∃ ROW : Array Value,ROW = (us.take (i * 5)).toArray ++ Builtin.zeroCells z0.cells (n + 1 - i) ++ Builtin.zeroCells z0.cells (G - (n + 1)):=⟨_,rfl⟩;rw [<- hG] at hrz;rw [<- hROW] at hrz;have hGn : n + 1<=G:=by rw [hG];exact grownCap_ge w _ _ _
 have hGm : G<=maxLen:=by rw [hG];exact grownCap_le_maxLen w (n + 1) C 89 (by unfold maxLen;omega)
 have hG63 : G<=9223372036854775807:=by unfold maxLen at hGm;omega
 have hRs : ROW.size = G * 5:=by
  rw [hROW];simp only [Array.size_append,List.size_toArray,ce,hzz,htl];rw [<- Nat.add_mul,<- Nat.add_mul]
  congr 1
  omega
 have hGK : (n + 1) * 5<=G * 5:=Nat.mul_le_mul_right _ hGn
 have hRg : ∀ j,j < i * 5->ROW.getD j undef = us.getD j undef:=by
  intro j hj;rw [hROW];simp only [Array.getD_eq_getD_getElem?];rw [Array.getElem?_append_left (by simp [ce];omega),Array.getElem?_append_left (by simp;omega)];simp [List.getElem?_take,hj,List.getD_eq_getElem?_getD]
 obtain ⟨W1,hW1⟩ : ∃ W1,W1 = w.drew.alloc (.cells ROW 89):=⟨_,rfl⟩;rw [<- hW1] at hrz;have hN : W1.heap[w.heap.size]? = some (.cells ROW 89 (0,0)):=by rw [hW1];exact jt w.drew _
 have hO : ∀ c,c < w.heap.size->W1.heap[c]? = w.heap[c]?:=λc hc=>by rw [hW1];exact iw w.drew _ hc
 have hS : W1.heap.size = w.heap.size + 1:=by rw [hW1];simp
 obtain ⟨cs1,hcs1⟩ : ∃ c,c = (ROW.toList.take (i * 5) ++ xs ++ ROW.toList.drop (i * 5 + xs.length)).toArray:=⟨_,rfl⟩;obtain ⟨s1,g1⟩:=bK ROW (i * 5) xs (by omega);rw [<- hcs1] at s1 g1
 have hcpA:=dL (P:=Tryz.prog) (w:=W1) (ty:=3) Tryz.underlying32 hi0 (dl:=n + 1 - i) (dc:=G - i) (o:=i * 5) hN ⟨bv,ov,none⟩ (sl:=1) (sc:=Cv) xs 1 (by simp only [Nat.min_def];split<;>omega) (by rw [hxl,hzs])
  (λj v hj=>by
   rw [Addr.add_lit];exact cK (by rw [hO _ hvw];exact hbv) (λj hj=>hcv j (by omega)) (by omega) j v hj) h1v (by omega)
 rw [<- hcs1] at hcpA;have hN1 : (W1.setRow w.heap.size cs1).heap[w.heap.size]? = some (.cells cs1 89 (0,0)):=setRow_heap _ _ _ _ _ _ hN;obtain ⟨cs2,hcs2⟩ : ∃ c,c = (cs1.toList.take (i * 5 + 5) ++ us.drop (i * 5) ++ cs1.toList.drop (i * 5 + 5 + (us.drop (i * 5)).length)).toArray:=⟨_,rfl⟩;obtain ⟨s2,g2⟩:=bK cs1 (i * 5 + 5) (us.drop (i * 5)) (by omega);rw [<- hcs2] at s2 g2;have hbN : b≠w.heap.size:=by omega
 have hcpB:=dL (P:=Tryz.prog) (w:=(W1.setRow w.heap.size cs1).drew) (ty:=3) Tryz.underlying32 hi0 (dl:=n - i) (dc:=G - (i + 1)) (o:=i * 5 + 5) hN1 ⟨b,o + i * 5,none⟩ (sl:=n - i) (sc:=C - i) (us.drop (i * 5)) (n - i) (by simp only [Nat.min_def];split<;>omega) (by rw [hdl,hzs])
  (λj v hj=>by
   rw [Addr.add_lit]
   have hb' : (W1.setRow w.heap.size cs1).drew.heap[b]? = some (.cells cs T (0,0)):=by
    show (W1.setRow w.heap.size cs1).heap[b]? = _
    rw [setRow_other _ _ _ _ hbN,hO _ hbw];exact hb
   refine cK hb' (o:=o + i * 5) (vs:=us.drop (i * 5)) (λj hj=>?_) (by omega) j v hj;rw [Nat.add_assoc,hcs _ (by omega)];simp [List.getD_eq_getElem?_getD])
  (λv hv=>h1 v (List.mem_of_mem_drop hv)) (by omega)
 rw [<- hcs2] at hcpB
 have hP : Placed w ((W1.setRow w.heap.size cs1).drew.setRow w.heap.size cs2) (some b) w.heap.size 0 G (n + 1) 5 (us.take (i * 5) ++ xs ++ us.drop (i * 5)):=by
  refine ⟨⟨cs2,89,setRow_heap _ _ cs1 cs2 _ (0,0) hN1,by omega,λj hj=>?_⟩,hGn,hGm,?_,?_,.inl (Nat.le_refl _),λc hc hne=>?_⟩
  ·rw [Nat.zero_add,g2,g1]
   simp only [List.getD_eq_getElem?_getD];rw [List.append_assoc];by_cases c1 : j < i * 5
   ·rw [if_neg (by omega),if_neg (by omega),List.getElem?_append_left (by omega),List.getElem?_take,if_pos c1,hRg j c1]
    simp [List.getD_eq_getElem?_getD]
   ·rw [List.getElem?_append_right (by omega),htl]
    by_cases c2 : j < i * 5 + 5
    ·rw [if_neg (by omega),if_pos (by omega),List.getElem?_append_left (by omega)]
    ·rw [if_pos (by omega),List.getElem?_append_right (by omega),List.getElem?_drop,List.getElem?_drop]
     congr 2
     omega
  ·simp [hS]
  ·rw [hW1];exact ⟨rfl,rfl,rfl⟩
  ·rw [setRow_other _ _ c _ hne]
   show (W1.setRow w.heap.size cs1).heap[c]? = _
   rw [setRow_other _ _ c _ hne,hO c hc]
 have hw1 : IntKind.i64.wrap ((i : Int) + 1) = (i : Int) + 1:=by rw [IntKind.wrap_i64];omega
 have hb1 : (0 : Int)<=(i : Int) + 1:=by omega
 have hin : i<=n:=by omega
 have htn : ((i : Int) + 1).toNat = i + 1:=by omega
 have hGi : ¬ (G = i):=by omega
 have hGim : ¬ (G = i + 1):=by omega
 have hci : ¬ (C = i):=by omega
 have hb3 : (i : Int)<=(n : Int):=by omega
 clear hkk hik hold hROW hG hcs1 hcs2 hN hN1 hO hS hRs hRg hW1
 go_enter Tryz.func300,Tryz.ntmps300
 go_wp2_with (first
  | (at_builtin;refine Lib.wpList_append_run _ rfl _ _ _ _ rfl _ _ rfl rfl _ _ (hrz _) ?_)
  | (at_builtin;refine gU _ rfl _ _ 32 32 rfl _ _ rfl rfl hcpA ?_))
 go_region
 go_wp2
 go_ret
 all_goals exact ⟨_,rfl,hP⟩
theorem yt : rA Tryz.prog 300 5 tR.bytes:=by
 refine ⟨⟨_,Tryz.func300,by kernel_rfl,by kernel_rfl⟩,λw us xs n i s v ob bv0 hul hxl hi hbig hs hv hap=>?_⟩;obtain ⟨i0,z0,hi0,hzs,hzb,hz0,hzc,-⟩:=(ae 89 _ Bk).info;have hzz:=fp hzc;have hzs : i0.size = 5:=hzs;have hzb : i0.bytes = tR.bytes:=hzb;have hby : 0 < tR.bytes:=by decide
 have hzz : z0.cells.size = 5:=hzz;have hnb : (n + 1)<=140737488355328:=Nat.le_trans (Nat.le_mul_of_pos_right _ hby) hbig;rcases hv with ⟨h0,-⟩ | ⟨bv,ov,Cv,cv,Tv,rfl,rfl,hbv,hCv,hCvm,hfv,hcv,h1v⟩
 ·omega
 have hcellv : ∀ j v,xs[j]? = some v->w.cell? (Addr.add ⟨bv,ov,none⟩ j) = some v:=λj v hj=>by
  rw [Addr.add_lit];exact cK hbv (λj hj=>hcv j (by omega)) (by omega) j v hj
 have fresh : ∀ (C0 nC : Nat) (rest : Array Value) (ob : Option Nat),n + 1 <= nC -> nC <= maxLen -> rest.size = (nC - (n + 1)) * 5 ->
  Placed w (w.drew.alloc (.cells (us.toArray ++ xs.toArray ++ rest) 89)) ob w.heap.size 0 nC (n + 1) 5 (us.take (n * 5) ++ xs ++ us.drop (n * 5)):=by
  intro C0 nC rest ob h1 h2 h3;have e : nC * 5 = n * 5 + 5 + (nC - (n + 1)) * 5:=by rw [<- Nat.succ_mul,<- Nat.add_mul];congr 1;omega
  refine ⟨⟨_,_,jt w.drew _,by simp [hul,hxl,h3];omega,λj hj=>?_⟩,h1,h2,by simp,⟨rfl,rfl,rfl⟩,.inl (Nat.le_refl _),λc hc _=>iw w.drew _ hc⟩;rw [List.take_of_length_le (by omega),List.drop_eq_nil_of_le (by omega),List.append_nil,Nat.zero_add];have e2 : (n + 1) * 5 = n * 5 + 5:=Nat.succ_mul n 5;simp only [Array.getD_eq_getD_getElem?,List.getD_eq_getElem?_getD];rw [Array.getElem?_append_left (by simp;omega),List.append_toArray,List.getElem?_toArray]
 rcases hs with ⟨rfl,rfl,a,rfl⟩ | ⟨b,o,C,cs,T,rfl,rfl,hb,hnC,hCm,hfit,hcs,h1⟩
 ·obtain rfl : i = 0:=by omega
  have hun : us = []:=List.eq_nil_of_length_eq_zero (by omega);subst hun;have hrun:=λty=>fw (P:=Tryz.prog) (w:=w) (ty:=ty) Tryz.underlying32 hi0 hz0 a ⟨bv,ov,none⟩ 1 Cv xs (by rw [hxl,hzs]) hcellv (by omega) (by omega) (by rw [hzb];omega)
  refine (od w a 0 0 bv ov Cv _ _ (Nat.le_refl _) (by unfold maxLen;omega) hrun).mono ?_
  rintro e w' ⟨rfl,rfl⟩
  have hge:=grownCap_ge w 1 0 89;have hcm:=grownCap_le_maxLen w 1 0 89 (by unfold maxLen;omega);refine ⟨_,_,_,rfl,?_⟩;have:=fresh 0 (grownCap w 1 0 89) (Builtin.zeroCells z0.cells (grownCap w 1 0 89 - 1)) none hge hcm (by rw [ce,hzz])
  simpa using this
 ·by_cases hin : i = n
  ·subst hin
   by_cases hroom : i + 1<=C
   ·have hmm : (i + 1) * 5<=C * 5:=Nat.mul_le_mul_right _ hroom
    have e2 : (i + 1) * 5 = i * 5 + 5:=Nat.succ_mul i 5;have hrun:=λty=>Go.AM.run_append_room (P:=Tryz.prog) (ty:=ty) (c:=Cv) (n:=i) (m:=1) Tryz.underlying32 hi0 hb ⟨bv,ov,none⟩ xs (by rw [hxl,hzs]) hcellv h1v hroom (by rw [hzs];exact hfit)
    refine (od w _ i C bv ov Cv _ _ hnC hCm hrun).mono ?_
    rintro e w' ⟨rfl,rfl⟩
    obtain ⟨g0,g⟩:=bK cs (o + i * i0.size) xs (by rw [hzs];omega);refine ⟨_,_,_,rfl,⟨_,_,setRow_heap w b cs _ T (0,0) hb,by rw [g0];exact hfit,λj hj=>?_⟩,hroom,hCm,by simp,⟨rfl,rfl,rfl⟩,.inr rfl,λc _ hc=>setRow_other w b c _ hc⟩;rw [g,hzs,List.take_of_length_le (by omega),List.drop_eq_nil_of_le (by omega),List.append_nil];by_cases c1 : j < i * 5
    ·rw [if_neg (by omega),hcs j c1]
     simp only [List.getD_eq_getElem?_getD];rw [List.getElem?_append_left (by omega)]
    ·rw [if_pos (by omega)]
     simp only [List.getD_eq_getElem?_getD];rw [List.getElem?_append_right (by omega)]
     congr 2
     omega
   ·have hrun:=λty=>run_append_grow (P:=Tryz.prog) w 32 ty 89 i0 z0 Tryz.underlying32 hi0 hz0 ⟨b,o,none⟩ i C us (by rw [hzs];exact hul) (λj v hj=>by
     rw [Addr.add_lit];have:=Nat.mul_le_mul_right 5 hnC;exact cK hb (λj hj=>hcs j (by omega)) (by omega) j v hj) ⟨bv,ov,none⟩ 1 Cv xs (by rw [hxl,hzs]) hcellv (by omega) (by omega) (by rw [hzb];exact growslice_fits (by omega) hbig)
    refine (od w _ i C bv ov Cv _ _ hnC hCm hrun).mono ?_
    rintro e w' ⟨rfl,rfl⟩
    have hge:=grownCap_ge w (i + 1) C 89;have hcm:=grownCap_le_maxLen w (i + 1) C 89 (by unfold maxLen;omega);exact ⟨_,_,_,rfl,fresh C _ _ _ hge hcm (by rw [ce,hzz])⟩
  ·by_cases hroom : n + 1<=C
   ·refine (v9 w us xs n i b o C bv ov Cv cs cv T Tv hul hxl (by omega) hroom hCm hb hfit hcs h1 hbv hCv hfv (λj hj=>hcv j (by omega)) h1v (λh=>hap b rfl (by rw [h]))).mono ?_
    rintro e w' ⟨rfl,hp⟩
    exact ⟨_,_,_,rfl,hp⟩
   ·refine (yr w us xs n i b o C bv ov Cv cs cv T Tv hul hxl (by omega) hnC (by omega) hbig hb hfit hcs h1 hbv hCv hfv (λj hj=>hcv j (by omega)) h1v).mono ?_
    rintro e w' ⟨nC,rfl,hp⟩
    exact ⟨_,_,_,rfl,hp⟩
set_option maxRecDepth 20000
set_option maxHeartbeats 6400000
theorem nG (room rev : Int) (hr : -4611686018427387904<=rev/\rev<=4611686018427387904) : aj Tryz.prog 302 [.c (vi room),.c (vi rev)] (.tup [.agg (cY room rev).1.res,.c (.v (.bool (cY room rev).2)) 1]):=by
 refine pci ae Tryz.func302 (λw0 base=>?_);have ew : Go.IntKind.i64.wrap (rev + 1) = rev + 1:=Go.IntWalk.i64_in _ (by omega);simp [ew];intro b4 b6;refine aa.pure (fA (aY room rev) (by rw [l8];omega)) (by simp [aY,Ring.row]) ?_;by_cases c2 : aX (aY room rev)
 ·have e:=iY c2
  rw [show aY room rev = ⟨room,rev + 1,false,[]⟩ from rfl] at c2;simp [c2,e,Ring.res,aY]
 ·simp [ab c2,mt c2,Ring.res,Ring.zero]
theorem sH (r : Ring) (hl : cL r<=2 ^ 30) (e : Entry) (he : aR e<=2 ^ 29) : aj Tryz.prog 301 [.agg r.row,.agg e.row] (.one (.agg (bT r e).res)):=by
 refine pci ae Tryz.func301 (λw0 base=>?_);have hno:=@lz r e;have hfull:=@jw r e;have hroom:=@ju r e;have hle:=aA (f:=aR) (B:=2 ^ 30) (l:=r.list) (by unfold cL at hl;omega);have he1 : nL aR [e]<=2 ^ 30:=by simp [nL,bQ];omega
 simp [Ring.row,Entry.row];intro b2 b3 b4;refine aa.pure (oh r hl) (by simp [Ring.row]) ?_;simp [Ring.res];intro H b5;refine aa.pure (fA r (by omega)) (by simp [Ring.row]) ?_;by_cases c1 : aX r
 rotate_left
 ·simp [ab c1,hno (λh=>c1 h.1)]
 simp [c1];refine aa.pure (ke e (by omega)) (by simp [Entry.row]) ?_;by_cases c2 : bn e
 rotate_left
 ·simp [ab c2,hno (λh=>c2 h.2.1)]
 simp [c2]
 cases c3 : r.out with
 | true=>simp [hno (λh=>by rw [c3] at h;exact absurd h.2.2 (by simp)),c3]
 | false=>
 simp;by_cases c4 : (r.list.length : Int) = r.cap
 ·have e1:=hfull ⟨c1,c2,c3⟩ c4
  simp [c4,e1]
 have e1:=hroom ⟨c1,c2,c3⟩ c4;simp [c4];refine drw eok mix [0,1,2,6] [3,4,5,7] (.c 4 3 2 13 (.c 4 4 0 13 (.c 4 5 4 9 (.c 4 7 9 0 (.l 4 0) .s) .s) .s) .s) ?_;simp
 try intros
 refine aa.pure (fO [e] he1) (by simp [Entry.row]) ?_;simp
 try intros
 refine ⟨by omega,?_⟩;rw [e1];simp [c3,Entry.row]
 try (rintro row (⟨a,-,rfl⟩ | rfl)<;>rfl)
theorem pP (r : Ring) (hl : cL r<=2 ^ 30) (rev : Int) (hr : -4611686018427387904<=rev/\rev<=4611686018427387904) : aj Tryz.prog 305 [.agg r.row,.c (vi rev)] (.tup [.agg (bu r rev).1.res,.c (.v (.bool (bu r rev).2)) 1]):=by
 refine pci ae Tryz.func305 (λw0 base=>?_);have hno:=@ms r rev;have hyes:=@iG r rev;simp [Ring.row];intro b2 b4;refine aa.pure (fA r (by omega)) (by simp [Ring.row]) ?_;by_cases c1 : aX r
 rotate_left
 ·simp [ab c1,hno c1,Ring.res,Ring.zero]
 simp [c1];have hc:=nG r.cap rev hr;rw [<- hyes c1] at hc;generalize bu r rev = R at hc ⊢;obtain ⟨R1,R2⟩:=R;refine aa.pure hc (by simp) ?_;simp [Ring.res]
theorem oX (h : Hub) (hl : cf h<=2 ^ 40) (id : Int) : aj Tryz.prog 303 [.agg h.row,.c (vi id)] (.one (.c (vi (el h.subs id)) 1)):=by
 refine pci ae Tryz.func303 (λw0 base=>?_);obtain ⟨sh,docs,l,last⟩:=h;have hle:=aA (eY hl).2;simp only at hle;simp [Hub.row];intro b2 b3;refine inl ae Tryz.func363 20000 (λw1 F=>?_);simp
 refine au.intro eok (λi : Nat=>i<=l.length/\∀ j,j < i->∀ hj : j < l.length,¬ l[j].id = id) (λi=>⟨19,20000,[(8,.v (.int .i64 i)),(7,.v (.int .i64 l.length)),(0,.ro (l.map Sub.row)),(1,.clo 364 [.p 48 b3 0])],
  [(48,.vars b3 3 [.v (.int .i64 id)])]⟩) (λi=>l.length - i) 0 (by simp) (by simp) (λi hi=>?_)
 by_cases hlt : i < l.length
 ·simp [hlt]
  refine inl ae Tryz.func364 40000 (λw2 F2=>?_);simp [Sub.row];intro b;by_cases c : l[i].id = id
  ·have e : el l id = i:=jR hlt c hi.2
   simp [c,e]
  ·simp [c]
   exact ⟨i + 1,⟨by omega,λj hj hjl=>by
    by_cases hji : j = i
    ·subst hji;exact c
    ·exact hi.2 j (by omega) hjl⟩,by omega,ah (by omega)⟩
 ·have e : el l id = -1:=ia (λj hj=>hi.2 j (by omega) hj)
  simp [hlt,e]
theorem ue (h : Hub) (hl : cf h<=2 ^ 30) : aj Tryz.prog 224 [.agg h.row] (.tup [.agg (bW h).1.res,.c (vi (bW h).2) 1]):=by
 refine pci ae Tryz.func224 (λw0 base=>?_);simp [Hub.row];intro b1 b2;refine aa.pure (dA h hl) (by simp [Hub.row]) ?_;by_cases c1 : an h
 rotate_left
 ·simp [ab c1,qP c1,Hub.res,Hub.zero]
 simp [c1]
 cases c2 : h.shut with
 | true=>simp [nK c1 c2,Hub.res,Hub.zero]
 | false=>
 have e:=o8 c1 (by rw [c2];simp);simp;refine aa.pure (bP h hl) (by simp [Hub.row,c2]) ?_;simp [Hub.res,e]
theorem oe (h : Hub) (hl : cf h<=2 ^ 28) (name : ByteArray) (room : Int) : aj Tryz.prog 221 [.agg h.row,.c (.v (.string name)),.c (vi room)]
 (.tup [.agg (aw h name room).1.res,.c (vi (aw h name room).2.1) 1,.c (vi (aw h name room).2.2) 1]):=by
 refine pci ae Tryz.func221 (λw0 base=>?_);have hls:=aA (eY hl).2;simp [Hub.row];intro b3 b6;refine aa.pure (du h (by omega) name) (by simp [Hub.row]) ?_;simp;refine aa.pure (dA h (by omega)) (by simp [Hub.row]) ?_;by_cases c1 : an h
 rotate_left
 ·simp [ab c1,et (λh=>c1 h.1),Hub.res,Hub.zero]
 simp [c1];refine aa.pure (aP room 1 6) (by simp) ?_;by_cases c2 : 1<=room/\room<=6
 rotate_left
 ·simp [ab c2,et (λh=>c2 h.2),Hub.res,Hub.zero]
 simp [c2]
 cases c3 : h.shut with
 | true=>simp [f3 ⟨c1,c2⟩ c3,Hub.res,Hub.zero]
 | false=>
 simp;rcases bD h.docs name with ⟨k,hk,e,-⟩ | e;rotate_left
 ·simp [e,f5 ⟨c1,c2⟩ (by rw [c3];simp) e,Hub.res,Hub.zero]
 have hk0 : ¬ (k : Int) < 0:=by omega
 have hat:=ib ⟨c1,c2⟩ (by rw [c3];simp) hk e;simp [e,hk0];have hlast:=c1.2.2.1;by_cases c4 : h.subs.length = 6
 ·have c4' : (h.subs.length : Int) = 6:=by omega
  rw [if_pos (.inl c4)] at hat;simp [c4',hat,Hub.res,Hub.zero]
 have c4' : ¬ (h.subs.length : Int) = 6:=by omega
 simp [c4'];by_cases c5 : h.last = 1000000000
 ·rw [if_pos (.inr c5)] at hat
  simp [c5,hat,Hub.res,Hub.zero]
 rw [if_neg (λh=>h.elim c4 c5)] at hat;have ew : Go.IntKind.i64.wrap (h.last + 1) = h.last + 1:=Go.IntWalk.i64_in _ (by omega);have hh:=aV (ch c1 hk);obtain ⟨d,hd⟩ : ∃ d,h.docs[k] = d:=⟨_,rfl⟩;rw [hd] at hat hh;simp [c5];refine aa.pure (bP h (by omega)) (by simp [Hub.row,c3]) ?_;simp [Hub.res,ew,c3,hk,hd,Doc.row];intro H1 H2 b10;refine aa.pure (bo d) (by simp [Doc.row]) ?_;simp;have hc:=nG room (ac d) (by omega);generalize cY room (ac d) = R at hc hat;obtain ⟨⟨cp,nx,ot,ls⟩,ok⟩:=R;refine aa.pure hc (by simp) ?_;simp [Ring.res];intro H11 H12 b11;refine ⟨by omega,λH=>?_⟩;refine drw eok mix [0,1,2,4,5] [3] (.c 5 3 16 15 (.l 5 15) .s) ?_;simp
 try intros
 rw [hat];simp [c3,Sub.row]
 try (rintro row (⟨a,-,rfl⟩ | rfl)<;>rfl)
theorem rc (h : Hub) (hl : cf h<=2 ^ 28) (id : Int) : aj Tryz.prog 223 [.agg h.row,.c (vi id)]
 (.tup [.agg (aM h id).1.res,.c (.s ((aM h id).2.1.map ak)) 1,.c (vi (aM h id).2.2.1) 1,.c (vi (aM h id).2.2.2) 1]):=by
 refine pci ae Tryz.func223 (λw0 base=>?_);have hls:=aA (eY hl).2;simp [Hub.row];intro b2 b4;refine aa.pure (oX h (by omega) id) (by simp [Hub.row]) ?_;simp;refine aa.pure (dA h (by omega)) (by simp [Hub.row]) ?_;by_cases c1 : an h
 rotate_left
 ·simp [ab c1,ku c1,Hub.res,Hub.zero]
 simp [c1];rcases fq h.subs id with ⟨k,hk,e,-⟩ | e;rotate_left
 ·simp [e,iJ c1 e,Hub.res,Hub.zero]
 have hk0 : ¬ (k : Int) < 0:=by omega
 obtain ⟨hro,j,hj,ej⟩:=rt c1 hk;have hat:=kw c1 hk e hj ej;have hm:=dy (f:=d7) (eY hl).2 hk;have hdn:=dy (f:=cq) (eY hl).1 hj;have hh:=aV (ch c1 hj);unfold d7 at hm;have hmod:=mV hk;obtain ⟨s,hs⟩ : ∃ s,h.subs[k] = s:=⟨_,rfl⟩;obtain ⟨d,hd⟩ : ∃ d,h.docs[j] = d:=⟨_,rfl⟩;rw [hs] at hat hm hmod ej;rw [hd] at hat hdn hh;have hc:=pP s.r (by omega) (ac d) (by omega);generalize bu s.r (ac d) = R at hc hat;obtain ⟨r,ok⟩:=R;simp only at hat hc;simp [e,hk0];refine bM (λx : Nat=>[(9,.p 144 x 0)]) (λx=>[(144,.vars x 89 [.v (.string d.name),.v (.int .i64 d.fr),.ro (d.text.map ak),.ro (d.list.map Entry.row),.ro (d.seen.map Seen.row)])]) [1,2,4,5,6,7,8] ?_ ?_
 ·refine drw eok mix [0,1,2,3,4,5,6,7,8] [9,10,11,12,13] (.c 9 9 65 446 (.c 9 10 128 318 (.c 9 11 0 318 (.c 9 12 0 318 (.c 9 13 318 0 (.l 9 0) .s) .s) (.c 9 12 0 318 (.c 9 11 0 318 (.c 9 13 318 0 (.l 9 0) .s) .s) .s)) (.c 9 12 0 446 (.c 9 10 128 318 (.c 9 11 0 318 (.c 9 13 318 0 (.l 9 0) .s) .s) .s) .s)) (.c 9 12 0 511 (.c 9 9 65 446 (.c 9 10 128 318 (.c 9 11 0 318 (.c 9 13 318 0 (.l 9 0) .s) .s) .s) .s) .s)) ?_
  simp [hk,hs,Sub.row]
  try intros
  repeat' first
   | (refine aa.pure (du h (by omega) s.doc) (by simp [Hub.row]) ?_;simp [hj,hd,Doc.row,ej];try intros)
   | (rw [Trc];refine ⟨?_,?_⟩<;>(try simp [hk,hs,hj,hd,Sub.row,Doc.row])<;>try intros)
 rintro b9
 simp;refine aa.pure (bP h (by omega)) (by simp [Hub.row]) ?_;simp [Hub.res];intro H1 H2 b10;refine drw eok mix [0,1,2,3,4,5,6,7,8,9,15,16] [10,11,12,13,14,17] (.c 12 10 4 4091 (.c 12 11 8 4083 (.c 12 12 0 4083 (.c 12 13 0 4083 (.c 12 14 0 4083 (.c 12 17 4081 2 (.l 12 2) .s) .s) .s) .s) .s) .s) ?_;simp [hk,hs,Sub.row]
 try intros
 refine aa.pure (bo d) (by simp [Doc.row]) ?_;simp
 try intros
 refine aa.pure (hc) (by simp [Ring.row]) ?_;simp [Ring.res,hk]
 try intros
 refine drw eok mix [0,1,3,8] [2,4,5,6,7] (.c 4 2 4 11 (.c 4 4 2 9 (.c 4 5 8 1 (.c 4 6 0 1 (.c 4 7 0 1 (.l 4 1) .s) .s) .s) .s) .s) ?_;simp
 try intros
 refine aa.pure (mm d (by omega)) (by simp [Doc.row]) ?_;simp
 try intros
 refine aa.pure (bo d) (by simp [Doc.row]) ?_;simp
 try intros
 rw [hat];simp [hmod r];exact pF
theorem AD (h : Hub) (hl : cf h<=2 ^ 28) (_c1 : an h) (c : Call) : aj Tryz.prog 220 [.agg h.row,.agg c.row] (.one (.agg (jQ h c).res)):=by
 refine pci ae Tryz.func220 (λw0 base=>?_);simp [Hub.row,Call.row];intro b2 b3 b4;refine aa.pure (du h (by omega) c.doc) (by simp [Hub.row]) ?_;simp
 cases c3 : h.shut with
 | true=>simp [sX c3,Answer.res,bJ]
 | false=>
 simp;rcases bD h.docs c.doc with ⟨k,hk,e,-⟩ | e;rotate_left
 ·simp [e,sY (by rw [c3];simp) e,Answer.res,bJ]
 have hk0 : ¬ (k : Int) < 0:=by omega
 have hat:=yO (c:=c) (by rw [c3];simp) hk e;have hdn:=dy (f:=cq) (eY hl).1 hk;obtain ⟨d,hd⟩ : ∃ d,h.docs[k] = d:=⟨_,rfl⟩;rw [hd] at hat hdn;simp [e,hk0];by_cases c4 : c.kind = 4
 ·rw [if_pos c4] at hat
  simp [c4];refine drw eok mix [0,1,2,3,4,6,7,8,9,10] [5,11,12,13] (.c 10 5 32 991 (.c 10 11 1 990 (.c 10 12 0 990 (.c 10 13 990 0 (.l 10 0) .s) .s) .s) .s) ?_;simp [hk,hd,Doc.row]
  try intros
  refine aa.pure (mm d (by omega)) (by simp [Doc.row,Doc.row]) ?_;simp
  try intros
  refine aa.pure (bo d) (by simp [Doc.row,Doc.row]) ?_;simp
  try intros
  rw [hat];simp [Answer.res]
 rw [if_neg c4] at hat;have hf:=yz d (by omega) c.n;generalize f9 d c.n = R at hat hf;obtain ⟨list,code⟩:=R;simp only at hat hf;simp [c4];refine drw eok mix [0,1,2,3,4,5,6] [7,8,9,10,11,12] (.c 7 7 5 122 (.c 7 8 0 122 (.c 7 9 0 122 (.c 7 10 0 122 (.c 7 11 122 0 (.c 7 12 0 0 (.l 7 0) .s) .s) .s) .s) .s) .s) ?_;simp [hk,hd,Doc.row]
 try intros
 refine aa.pure (hf) (by simp [Doc.row,Doc.row]) ?_;simp
 try intros
 rw [hat];simp [Answer.res]
theorem wL {name : ByteArray} {t : List Int} : aL (dv name t) ↔ eT name/\cC t:=by
 constructor
 ·rintro ⟨h1,-,h3,-⟩
  exact ⟨h1,h3⟩
 ·rintro ⟨h1,h2⟩
  exact ⟨h1,by simp [dv],h2,by simp [dv],by simp [dv],by simp [dv,az],λi hi=>by simp [dv] at hi⟩
theorem ug (h : Hub) (hl : cf h<=2 ^ 28) (name : ByteArray) (hs : name.size<=2 ^ 28) (t : List Int) (ht : t.length<=2 ^ 28) : aj Tryz.prog 218 [.agg h.row,.c (.v (.string name)),.c (.s (t.map ak))]
 (.tup [.agg (ba h name t).1.res,.c (vi (ba h name t).2) 1]):=by
 refine pci ae Tryz.func218 (λw0 base=>?_);have hld:=aA (eY hl).1;have hdn:=wk name t hs ht;unfold eZ at hdn;simp [Hub.row];intro b3 b6;refine aa.pure (dA h (by omega)) (by simp [Hub.row]) ?_;by_cases c1 : an h
 rotate_left
 ·simp [ab c1,gm (λh=>c1 h.1),Hub.res,Hub.zero]
 simp [c1];refine aa.pure (oW name (by omega)) (by simp) ?_;by_cases d1 : eT name
 rotate_left
 ·simp [ab d1,gm (λh=>d1 (wL.1 h.2).1),Hub.res,Hub.zero]
 simp [d1];refine aa.pure (gF t (by omega)) (by simp) ?_;by_cases d2 : cC t
 rotate_left
 ·simp [ab d2,gm (λh=>d2 (wL.1 h.2).2),Hub.res,Hub.zero]
 have c0 : aL (dv name t):=wL.2 ⟨d1,d2⟩;rw [if_pos c0] at hdn;simp [d2]
 cases c2 : h.shut with
 | true=>simp [nN ⟨c1,c0⟩ c2,Hub.res,Hub.zero]
 | false=>
 have c2' : ¬ h.shut = true:=by rw [c2];simp
 simp;refine aa.pure (du h (by omega) name) (by simp [Hub.row,c2]) ?_;simp;by_cases c3 : 0<=ar h.docs name
 ·simp [c3,nO ⟨c1,c0⟩ c2' c3,Hub.res,Hub.zero]
 simp [c3];by_cases c4 : h.docs.length = 5
 ·have c4' : (h.docs.length : Int) = 5:=by omega
  simp [c4',nP ⟨c1,c0⟩ c2' c3 c4,Hub.res,Hub.zero]
 have c4' : ¬ (h.docs.length : Int) = 5:=by omega
 have hat:=o9 ⟨c1,c0⟩ c2' c3 c4;rw [m7] at hat;have hal:=mw (dv name t).name h.docs;have hon:=λ{k : Nat} h1 h2=>mz (name:=(dv name t).name) (l:=h.docs) (k:=k) h1 h2
 rw [show (dv name t).name = name from rfl] at hat hal hon;generalize dq name h.docs = a at hat hal hon;simp [c4'];refine aa.pure hdn (by simp) ?_;simp [Doc.res,dv];intro G1 G2 G3 b8;refine aa.pure (bP h (by omega)) (by simp [Hub.row,c2]) ?_;simp [Hub.res,c2];intro K1 K2 b10
 refine ag eok (λk : Nat=>k<=a) (λk=>⟨76,0,[(11,.v (.int .i64 k)),(1,.v (.string name)),(6,.p 96 b6 0),(8,.p 128 b8 0),(10,.p 160 b10 0)],
  [(160,.vars b10 35 [.v (.bool false),.sl 801 K1 5 0 h.docs.length,.sl 802 K2 6 0 h.subs.length,.v (.int .i64 h.last)]),(96,.vars b6 35 [.v (.bool false),.nil,.nil,.v (.int .i64 0)]),
   (128,.vars b8 89 [.v (.string name),.v (.int .i64 0),.sl 738 G1 1 0 t.length,.sl 739 G2 3 0 0,.sl 740 G3 3 0 0]),(738,.rows G1 1 (t.map ak) true),(739,.rows G2 3 [] true),(740,.rows G3 3 [] true),
   (801,.rows K1 5 (h.docs.map Doc.row) true),(802,.rows K2 6 (h.subs.map Sub.row) true)]⟩) (λk=>h.docs.length - k) 0 (by simp) (by simp) (λk hk=>Ent.refl ?_)
 have hdz : Doc.row ⟨name,0,t,[],[]⟩ = [.v (.string name),.v (.int .i64 0),.s (t.map ak),.s [],.s []]:=rfl;by_cases hlt : k < h.docs.length
 ·obtain ⟨x,hx⟩ : ∃ x,h.docs[k] = x:=⟨_,rfl⟩
  have hiff:=hon hk hlt;rw [hx] at hiff;simp [hlt,hx,Doc.row];by_cases s : sLt x.name name
  ·simp [s]
   exact Ent.refl ⟨k + 1,by have:=hiff.1 s;omega,by omega,by simp;exact ah (by omega)⟩
  have hka : k = a:=by
   have : ¬ k < a:=λh=>s (hiff.2 h)
   omega
  subst hka;simp [ab s];intro b72;refine fF yt (by decide) (n:=h.docs.length) (rows:=h.docs.map Doc.row) (row:=[.v (.string name),.v (.int .i64 0),.s (t.map ak),.s [],.s []]) (k:=801) (kv:=1152) (own:=true) (ownv:=true) (i:=k) (by simp) (by simp) (by simp) (by decide) (by simp;omega) (by simp;omega) (λH6=>?_);simp [hat,c2,dv,hdz];have hm : min k h.docs.length = k:=by omega
  refine ⟨by rw [hm];omega,?_,?_⟩
  ·rintro row (h | rfl | h)
   ·exact CQ (List.mem_of_mem_take h)
   ·rfl
   ·exact CQ (List.mem_of_mem_drop h)
  ·rw [pe (by simp [hm];omega)]
 have hka : k = h.docs.length:=by omega
 have hka2 : a = h.docs.length:=by omega
 subst hka2;subst hka;simp;intro b72;refine fF yt (by decide) (n:=h.docs.length) (rows:=h.docs.map Doc.row) (row:=[.v (.string name),.v (.int .i64 0),.s (t.map ak),.s [],.s []]) (k:=801) (kv:=1152) (own:=true) (ownv:=true) (i:=h.docs.length) (by simp) (by simp) (by simp) (by decide) (by simp) (by simp;omega) (λH6=>?_);simp [hat,c2,dv,hdz];refine ⟨?_,?_⟩
 ·rintro row (h | rfl | h)
  ·exact CQ (List.mem_of_mem_take h)
  ·rfl
  ·exact CQ (List.mem_of_mem_drop h)
 ·rw [List.take_of_length_le (by simp),List.drop_eq_nil_of_le (by simp)]
theorem lR (h : Hub) (hl : cf h<=2 ^ 28) (name : ByteArray) (client seq base : Int) (o : List Part) (ho : nL aF o<=2 ^ 40) :
 aj Tryz.prog 219 [.agg h.row,.c (.v (.string name)),.c (vi client),.c (vi seq),.c (vi base),.c (.s (o.map Part.row))]
 (.tup [.agg (aG h name client seq base o).1.res,.c (vi (aG h name client seq base o).2.1) 1,.c (vi (aG h name client seq base o).2.2) 1]):=by
 refine pci ae Tryz.func219 (λw0 bs=>?_);have hls:=aA (eY hl).2;simp [Hub.row];intro b6 b12;refine aa.pure (du h (by omega) name) (by simp [Hub.row]) ?_;simp;refine aa.pure (dA h (by omega)) (by simp [Hub.row]) ?_;by_cases c1 : an h
 rotate_left
 ·simp [ab c1,kr c1,Hub.res,Hub.zero]
 simp [c1]
 cases c2 : h.shut with
 | true=>simp [iH c1 c2,Hub.res,Hub.zero]
 | false=>
 have c2' : ¬ h.shut = true:=by rw [c2];simp
 simp;rcases bD h.docs name with ⟨k,hk,e,-⟩ | e;rotate_left
 ·simp [e,iI c1 c2' e,Hub.res,Hub.zero]
 have hk0 : ¬ (k : Int) < 0:=by omega
 have hat:=kt (client:=client) (seq:=seq) (base:=base) (o:=o) c1 c2' hk e;have hdn:=dy (f:=cq) (eY hl).1 hk;have hdo:=ch c1 hk;have hDn:=pY (client:=client) (seq:=seq) (base:=base) (o:=o) hdo;have hok:=sR (client:=client) (seq:=seq) (base:=base) (o:=o) hdo;obtain ⟨d,hd⟩ : ∃ d,h.docs[k] = d:=⟨_,rfl⟩;rw [hd] at hat hdn hDn hok;have hc:=wc d hdn client seq base o ho;generalize bI d client seq base o = S at hc hat hDn hok;obtain ⟨D,rev,code⟩:=S;simp only at hc hat hDn hok;simp [e,hk0,hk,hd,Doc.row];refine aa.pure hc (by simp [Doc.row]) ?_;simp [Doc.res];intro H1 H2 H3 b16;by_cases c3 : code = 0
 rotate_left
 ·rw [if_neg c3] at hat
  simp [c3,hat,Hub.res,Hub.zero]
 rw [if_pos c3] at hat;have hok:=hok c3;simp [c3];refine aa.pure (bP h (by omega)) (by simp [Hub.row,c2]) ?_;simp [Hub.res,c2,hk];intro K1 K2 b19;refine drw eok mix [0,2,3,4,5,6] [1,7,8] (.c 6 1 32 31 (.c 6 7 1 30 (.c 6 8 0 30 (.l 6 30) .s) .s) .s) ?_;simp [hk,hd,Doc.row]
 try intros
 refine aa.pure (bo D) (by simp [Doc.row,Doc.row]) ?_;simp
 try intros
 refine aa.pure (bo d) (by simp [Doc.row,Doc.row]) ?_;simp
 try intros
 by_cases c5 : ac D = ac d
 ·have hcm : ci h name k d D = ⟨h.shut,h.docs.set k D,h.subs,h.last⟩:=by unfold ci;rw [if_neg (by omega)]
  rw [hcm] at hat;simp [c5,hat,c2];exact ⟨mP,rfl⟩
 rcases hok with rfl | ⟨e,he1,he2⟩
 ·exact absurd rfl c5
 have hcm : ci h name k d D = ⟨h.shut,h.docs.set k D,h.subs.map (cS name e),h.last⟩:=by unfold ci;rw [if_pos (by omega),he2]
 rw [hcm] at hat;have hgt : ac d < ac D:=by omega
 have hmem : e∈D.list:=List.mem_of_getLast? he2;have hpos : 0 < D.list.length:=List.length_pos_of_mem hmem;obtain ⟨m,hm⟩ : ∃ m,D.list.length = m + 1:=⟨D.list.length - 1,by omega⟩;have hml : m < D.list.length:=by omega
 have hme : D.list[m] = e:=by
  rw [List.getLast?_eq_getElem?,hm,Nat.add_sub_cancel,List.getElem?_eq_getElem hml] at he2;exact Option.some.inj he2
 have hDl : nL aR D.list<=2 ^ 24:=by unfold cq at hDn;omega
 have hen:=dk (f:=aR) hDl hmem;have hlen24:=aA hDl;have ew : Go.IntKind.i64.wrap ((D.list.length : Int) - 1) = (m : Int):=by rw [Go.IntWalk.i64_in _ (by omega)];omega
 have em : Go.IntKind.i64.wrap (m : Int) = m:=eg (by omega);simp [hgt]
 refine ag eok (λi : Nat=>i<=h.subs.length) (λi=>⟨103,0,[(75,.v (.int .i64 i)),(74,.v (.int .i64 h.subs.length)),(73,.sl 914 K2 6 0 h.subs.length),(19,.p 304 b19 0),(16,.p 256 b16 0),(17,.v (.int .i64 rev)),(1,.v (.string name)),(12,.p 192 b12 0)],
  [(304,.vars b19 35 [.v (.bool false),.sl 913 K1 5 0 h.docs.length,.sl 914 K2 6 0 h.subs.length,.v (.int .i64 h.last)]),(192,.vars b12 35 [.v (.bool false),.nil,.nil,.v (.int .i64 0)]),
   (256,.vars b16 89 [.v (.string D.name),.v (.int .i64 D.fr),.sl 770 H1 1 0 D.text.length,.sl 771 H2 3 0 D.list.length,.sl 772 H3 3 0 D.seen.length]),
   (771,.lent H2 3 (D.list.map Entry.row)),(913,.rows K1 5 ((h.docs.set k D).map Doc.row) true),(914,.rows K2 6 ((fc name e h.subs i).map Sub.row) true)]⟩) (λi=>h.subs.length - i) 0 (by simp) (by simp [qi];rfl) (λi hi=>Ent.refl ?_)
 have htl:=nW name e h.subs i;by_cases hlt : i < h.subs.length
 ·have hti:=pA (name:=name) (e:=e) hlt
  have hlt' : i < (fc name e h.subs i).length:=by omega
  have hsk:=qj (name:=name) (e:=e) hlt;have hsu:=nV (name:=name) (e:=e) hlt;have hmd:=mV hlt' (bT h.subs[i].r e);have hmn:=dy (f:=d7) (eY hl).2 hlt;unfold d7 at hmn;rw [hti] at hmd;obtain ⟨s,hs⟩ : ∃ s,h.subs[i] = s:=⟨_,rfl⟩;rw [hs] at hti hsk hsu hmd hmn;simp [hlt,htl,hti,Sub.row];intro b21;by_cases c6 : s.doc = name
  rotate_left
  ·simp [c6]
   refine Ent.refl ⟨i + 1,by omega,by omega,?_⟩;rw [<- hsk c6];simp;exact ah (by omega)
  have htell : cS name e s = ⟨s.id,s.doc,bT s.r e⟩:=by unfold cS;rw [if_pos c6]
  rw [htell] at hsu;rw [hsu] at hmd;have hpc:=sH s.r (by omega) e (by omega);generalize bT s.r e = R at hpc hmd;simp [c6];have hmm : (m : Int) < (m : Int) + 1:=by omega
  refine drw eok mix [0,1,2,3,4,5,6,7,8,9,10,11,12,14,15] [13,16] (.c 15 13 1028 31739 (.c 15 16 31737 2 (.l 15 2) .s) .s) ?_;simp [hlt,hm,em,hme,hmm,Entry.row]
  try intros
  refine aa.pure (hpc) (by simp [Ring.row,Entry.row,Entry.row]) ?_;simp [Ring.res,hlt,htl]
  try intros
  refine Ent.refl ⟨i + 1,by omega,by omega,?_⟩;rw [<- hmd];simp;exact ah (by omega)
 have hie : i = h.subs.length:=by omega
 subst hie;rw [rI];simp [hat,c2];exact mP
end Go.Proofs.YtoldjebobgocpaaGreat
