import Derived.Test.YtoldjebobgocpaaGreatPI
import Derived.Test.YtoldjebobgocpaaGreatPH
namespace Go.Proofs.YtoldjebobgocpaaGreat
open Go.AM
set_option maxRecDepth 20000
set_option maxHeartbeats 6400000
theorem bg {w : Wld} {B : Nat} (h : ed w<=B) : ch w.h<=B/\w.locks.length<=B/\nL dq w.queues<=B/\nL eF w.tasks<=B:=by unfold ed at h;omega
theorem pW {t : Task} {B : Nat} (h : eF t<=B) : t.c.doc.size<=B:=by unfold eF dC at h;omega
theorem xQ (w : Wld) (hl : ed w<=2 ^ 30) : aj Tryz.prog 160 [.agg w.row] (.one (.c (vb (fE w)) 1)):=by
 refine pci ae Tryz.func160 (λw0 base=>?_);obtain ⟨-,-,-,n4⟩:=bg hl;obtain ⟨hh,lk,qs,tasks,step⟩:=w;have hl:=aA n4;simp only at hl;simp [Wld.row];intro b1 b8
 refine ag eok (λx : Nat × List Int × Hd=>x.1<=tasks.length/\aT step [] ((tasks.take x.1).flatMap bd) = some x.2.1) (λx=>⟨45,0,[(12,.v (.int .i64 x.1)),(11,.v (.int .i64 tasks.length)),(10,.ro (tasks.map Task.row)),(1,.p 16 b1 0),(3,.sl 128 x.2.2 1 0 x.2.1.length)],
  [(16, .vars b1 39 [.v (.bool hh.shut), .ro (hh.docs.map Doc.row), .ro (hh.subs.map Sub.row), .v (.int .i64 hh.last), .ro (lk.map ak), .ro (qs.map Queue.row), .ro (tasks.map Task.row), .v (.int .i64 step)]),
   (128,.rows x.2.2 1 (x.2.1.map ak) true)]⟩) (λx=>tasks.length - x.1) (0,[],some (b8,0,0)) (by simp [aT]) (by simp) (λx hi=>Ent.refl ?_)
 obtain ⟨i,met,H⟩:=x;obtain ⟨hi,hr⟩:=hi;simp only at hi hr ⊢
 have hml : met.length<=3 * tasks.length:=by
  have:=fC _ _ _ hr;have h2:=rU (tasks.take i);simp at this h2;omega
 by_cases hlt : i < tasks.length
 rotate_left
 ·have : i = tasks.length:=by omega
  subst this;rw [List.take_length] at hr;have h:=uP hr hh lk qs;simp [h]
 have hsuc : aT step [] ((tasks.take (i + 1)).flatMap bd) = aT step met (bd tasks[i]):=by
  rw [rS hlt,cw,hr];rfl
 have hno:=λhn=>r9 (w:=⟨hh,lk,qs,tasks,step⟩) hlt hr hn
 simp only at hno;obtain ⟨t,ht⟩ : ∃ t,tasks[i] = t:=⟨_,rfl⟩;rw [ht] at hsuc hno;obtain ⟨told,htold⟩ : ∃ l,bd t = l:=⟨_,rfl⟩;have hrow : [[CD.v (.int .i64 t.inv)],[CD.v (.int .i64 t.lin)],[CD.v (.int .i64 t.rs)]] = told.map ak:=by rw [<- htold];rfl
 have htl : told.length = 3:=by rw [<- htold];rfl
 rw [htold] at hsuc hno;simp [hlt,ht,Task.row];intro b5 b22;rw [hrow]
 refine ag eok (λx : Nat × List Int × Hd=>x.1<=3/\aT step met (told.take x.1) = some x.2.1) (λx=>⟨45,0,[(24,.v (.int .i64 x.1)),(23,.v (.int .i64 3)),(22,.sl 352 (some (b22,0,3)) 1 0 3),(12,.v (.int .i64 i)),(11,.v (.int .i64 tasks.length)),(10,.ro (tasks.map Task.row)),(1,.p 16 b1 0),(3,.sl 128 x.2.2 1 0 x.2.1.length)],
  [(16, .vars b1 39 [.v (.bool hh.shut), .ro (hh.docs.map Doc.row), .ro (hh.subs.map Sub.row), .v (.int .i64 hh.last), .ro (lk.map ak), .ro (qs.map Queue.row), .ro (tasks.map Task.row), .v (.int .i64 step)]),
   (352,.rows (some (b22,0,3)) 1 (told.map ak) true),(128,.rows x.2.2 1 (x.2.1.map ak) true)]⟩) (λx=>3 - x.1) (0,met,H) (by simp [aT]) (by simp) (λx hi=>Ent.refl ?_)
 obtain ⟨j,m,G⟩:=x;obtain ⟨hj,hm⟩:=hi;simp only at hj hm ⊢
 have hmm : m.length<=met.length + 3:=by
  have:=fC _ _ _ hm;simp at this;omega
 by_cases hjt : j < 3
 rotate_left
 ·have : j = 3:=by omega
  subst this;rw [List.take_of_length_le (by omega)] at hm;simp;refine Ent.refl ⟨i + 1,m,⟨by omega,by rw [hsuc,hm]⟩,by omega,G,?_⟩;simp;exact ah (by omega)
 have hj' : (j : Int) < 3:=by omega
 have hjl : j < told.length:=by omega
 obtain ⟨o1,o2,o3⟩:=oG hjl hm;simp [hj',hjl];generalize told[j] = n at o1 o2 o3 ⊢;by_cases c1 : n = -1
 ·simp [c1]
  refine Ent.refl ⟨j + 1,m,⟨by omega,o1 c1⟩,by omega,G,?_⟩;simp;exact ah (by omega)
 simp [c1];by_cases c2 : step<=n
 ·have h:=hno (o3 c1 (.inl c2))
  simp [c2,ab h]
 simp [c2];refine aa.pure (mU m (by omega) n) (by simp) ?_;by_cases c3 : n∈m
 ·have h:=hno (o3 c1 (.inr c3))
  simp [c3,ab h]
 simp [ab c3];intro b40;refine ⟨by omega,λG'=>Ent.refl ⟨j + 1,m ++ [n],⟨by omega,o2 c1 (λh=>h.elim (λh=>c2 h) c3)⟩,by omega,G',?_⟩⟩;simp;exact ah (by omega)
theorem xS (w : Wld) (hl : ed w<=2 ^ 30) (hn : 1<=w.locks.length) : aj Tryz.prog 161 [.agg w.row] (.one (.c (vb (dY w)) 1)):=by
 refine pci ae Tryz.func161 (λw0 base=>?_);obtain ⟨-,n2,-,n4⟩:=bg hl;obtain ⟨hh,lk,qs,tasks,step⟩:=w;have hle:=aA n4;simp only at hle n2 hn n4;simp [Wld.row];intro b1
 refine ag eok (λi : Nat=>i<=lk.length/\∀ s,s < i->wh tasks lk s) (λi=>⟨76,0,[(10,.v (.int .i64 i)),(9,.v (.int .i64 lk.length)),(8,.ro (lk.map ak)),(1,.p 16 b1 0)],
  [(16,.vars b1 39 [.v (.bool hh.shut),.ro (hh.docs.map Doc.row),.ro (hh.subs.map Sub.row),.v (.int .i64 hh.last),.ro (lk.map ak),.ro (qs.map Queue.row),.ro (tasks.map Task.row),.v (.int .i64 step)])]⟩) (λi=>lk.length - i) 0 (by simp) (by simp) (λi hi=>Ent.refl ?_)
 by_cases hlt : i < lk.length
 ·obtain ⟨x,hx⟩ : ∃ x,lk[i] = x:=⟨_,rfl⟩
  have hno : (¬ (lk[i] = -1\/∃ k : Nat,∃ hk : k < tasks.length,lk[i] = k/\tasks[k].pc = 1/\aP tasks[k].c.doc lk.length = i))->dc (dY ⟨hh,lk,qs,tasks,step⟩) = false:=λh=>ab (λh'=>h (h'.1 i hlt))
  rw [hx] at hno;have ew : Go.IntKind.i64.wrap ((tasks.length : Int) - 1) = (tasks.length : Int) - 1:=Go.IntWalk.i64_in _ (by omega);simp [hlt,hx];by_cases c0 : x = -1
  ·simp [c0]
   exact Ent.refl ⟨i + 1,⟨by omega,dR hi.2 (λ_=>.inl (by rw [hx,c0]))⟩,by omega,by simp;exact ah (by omega)⟩
  simp [c0];refine am.quiet eok mix (by kernel_rfl) ?_;simp [ew];refine ⟨_,_,aZ x 0 ((tasks.length : Int) - 1),by simp,?_⟩;by_cases c1 : 0<=x/\x<=(tasks.length : Int) - 1
  rotate_left
  ·have h:=hno (λh=>h.elim c0 (λ⟨k,hk,e,_⟩=>c1 (by omega)))
   simp [ab c1,h]
  obtain ⟨k,rfl⟩ : ∃ k : Nat,x = k:=⟨x.toNat,by omega⟩;have hk : k < tasks.length:=by omega
  obtain ⟨t,ht⟩ : ∃ t,tasks[k] = t:=⟨_,rfl⟩;have hm:=pW (dB n4 hk);rw [ht] at hm;simp [c1,hk,ht,Task.row];by_cases c2 : t.pc = 1
  rotate_left
  ·have h:=hno (λh=>h.elim c0 (λ⟨k',hk',e,h2,_⟩=>c2 (by obtain rfl : k = k':=(by omega);rwa [ht] at h2)))
   simp [c2,h]
  simp [c2,hk,ht,Task.row];refine ⟨_,_,iS t.c.doc (by omega) lk.length hn (by omega),by simp,?_⟩;by_cases c3 : aP t.c.doc lk.length = i
  rotate_left
  ·have h:=hno (λh=>h.elim c0 (λ⟨k',hk',e,h2,h3⟩=>c3 (by obtain rfl : k = k':=(by omega);rwa [ht] at h3)))
   have c3' : ¬ (aP t.c.doc lk.length : Int) = i:=by omega
   simp [c3',h]
  have c3' : (aP t.c.doc lk.length : Int) = i:=by omega
  simp [c3'];exact Ent.refl ⟨i + 1,⟨by omega,dR hi.2 (λ_=>.inr ⟨k,hk,hx,by rw [ht];exact c2,by rw [ht];exact c3⟩)⟩,by omega,by simp;exact ah (by omega)⟩
 have hall : ∀ s,wh tasks lk s:=λs=>by
  by_cases h : s < lk.length
  ·exact hi.2 s (by omega)
  ·exact λh'=>absurd h' h
 simp [hlt]
 refine ag eok (λi : Nat=>i<=tasks.length/\∀ s,s < i->oV tasks lk s) (λi=>⟨76,0,[(52,.v (.int .i64 i)),(51,.v (.int .i64 tasks.length)),(50,.ro (tasks.map Task.row)),(1,.p 16 b1 0)],
  [(16,.vars b1 39 [.v (.bool hh.shut),.ro (hh.docs.map Doc.row),.ro (hh.subs.map Sub.row),.v (.int .i64 hh.last),.ro (lk.map ak),.ro (qs.map Queue.row),.ro (tasks.map Task.row),.v (.int .i64 step)])]⟩) (λi=>tasks.length - i) 0 (by simp) (by simp) (λi hi=>Ent.refl ?_)
 by_cases hlt : i < tasks.length
 ·obtain ⟨t,ht⟩ : ∃ t,tasks[i] = t:=⟨_,rfl⟩
  have hm:=pW (dB n4 hlt);rw [ht] at hm;simp [hlt,ht,Task.row];intro b6;refine am.quiet eok mix (by kernel_rfl) ?_;simp;by_cases c1 : t.pc = 1
  rotate_left
  ·simp [c1]
   exact Ent.refl ⟨i + 1,⟨by omega,dR hi.2 (λ_ h=>absurd h (by rw [ht];exact c1))⟩,by omega,by simp;exact ah (by omega)⟩
  simp [c1];refine ⟨_,_,iS t.c.doc (by omega) lk.length hn (by omega),by simp,?_⟩;have hs : aP t.c.doc lk.length < lk.length:=(gY t.c.doc hn).2;simp [hs];by_cases c2 : lk[aP t.c.doc lk.length] = (i : Int)
  rotate_left
  ·have h : ¬ dY ⟨hh,lk,qs,tasks,step⟩:=λh=>c2 (by
    have:=h.2 i hlt (by simp only [ht];exact c1);simp only [ht] at this;rw [List.getElem?_eq_getElem hs] at this;exact Option.some.inj this)
   simp [c2,ab h]
  simp [c2];exact Ent.refl ⟨i + 1,⟨by omega,dR hi.2 (λ_ h=>by rw [ht,List.getElem?_eq_getElem hs,c2])⟩,by omega,by simp;exact ah (by omega)⟩
 have h : dY ⟨hh,lk,qs,tasks,step⟩:=⟨hall,λs=>by
  by_cases h : s < tasks.length
  ·exact hi.2 s (by omega)
  ·exact λh'=>absurd h' h⟩
 simp [hlt,h]
theorem wC (w : Wld) (hl : ed w<=2 ^ 30) : aj Tryz.prog 135 [.agg w.row] (.one (.c (vb (cD w)) 1)):=by
 refine pci ae Tryz.func135 (λw0 base=>?_);obtain ⟨nh,n2,n3,n4⟩:=bg hl;obtain ⟨hh,lk,qs,tasks,step⟩:=w;have hle:=aA n4;have hlq:=aA n3;simp only at hle hlq n2 n3 n4 nh;have ew : Go.IntKind.i64.wrap ((tasks.length : Int) - 1) = (tasks.length : Int) - 1:=Go.IntWalk.i64_in _ (by omega);simp [Wld.row];intro b1
 refine ag eok (λx : Nat × List Int × Hd=>x.1<=qs.length/\bO ⟨hh,lk,qs,tasks,step⟩ x.1 = some x.2.1/\x.2.1.length<=2 * x.1) (λx=>⟨111,0,[(13,.v (.int .i64 x.1)),(12,.v (.int .i64 qs.length)),(11,.ro (qs.map Queue.row)),(1,.p 16 b1 0),(3,.sl 5000 x.2.2 1 0 x.2.1.length)],
  [(16, .vars b1 39 [.v (.bool hh.shut), .ro (hh.docs.map Doc.row), .ro (hh.subs.map Sub.row), .v (.int .i64 hh.last), .ro (lk.map ak), .ro (qs.map Queue.row), .ro (tasks.map Task.row), .v (.int .i64 step)]),
   (5000,.rows x.2.2 1 (x.2.1.map ak) true)]⟩) (λx=>qs.length - x.1) (0,[],none) (by simp [bO]) (by simp) (λx hi=>Ent.refl ?_)
 obtain ⟨i,all,H⟩:=x;obtain ⟨hi,hr,hal⟩:=hi;simp only at hi hr hal ⊢;by_cases hlt : i < qs.length
 ·obtain ⟨q,hq⟩ : ∃ q,qs[i] = q:=⟨_,rfl⟩
  have hbad : ¬ eI hh qs i->¬ cD ⟨hh,lk,qs,tasks,step⟩:=λh=>dV (w:=⟨hh,lk,qs,tasks,step⟩) hlt (eU (w:=⟨hh,lk,qs,tasks,step⟩) hlt h)
  simp [hlt,hq,Queue.row];intro b5;refine am.quiet eok mix (by kernel_rfl) ?_;simp;have hprev : 0 = i\/0 < i:=by omega
  obtain ⟨prev,hcase⟩ : ∃ prev : Prop,prev = ∀ h : 0 < i,sLt qs[i - 1].doc q.doc:=⟨_,rfl⟩;have hat : ∀ (_ : 1<=q.list.length/\q.list.length<=2) (_ : 0<=ar hh.docs q.doc) (_ : ∀ h : 0 < i,sLt qs[i - 1].doc q.doc),eI hh qs i:=λs2 s3 s1=>λ_=>by rw [hq];exact ⟨s1,s2,s3⟩
  cases i with
  | zero=>
  replace hat:=λs2 s3=>hat s2 s3 (λh=>absurd h (by omega))
  simp;refine ⟨_,_,aO q.list.length 1 2,by simp,?_⟩;by_cases s2 : 1<=q.list.length/\q.list.length<=2
  rotate_left
  ·have s2' : ¬ (1<=(q.list.length : Int)/\(q.list.length : Int)<=2):=by omega
   have h:=hbad (λh=>s2 (by have:=(h hlt).2.1;rwa [hq] at this));simp [ab s2',ab h]
  have s2' : 1<=(q.list.length : Int)/\(q.list.length : Int)<=2:=by omega
  simp [s2'];refine ⟨_,_,dx hh (by omega) q.doc,by simp [Hub.row],?_⟩;by_cases s3 : 0<=ar hh.docs q.doc
  rotate_left
  ·have h:=hbad (λh=>s3 (by have:=(h hlt).2.2;rwa [hq] at this))
   have s3' : ar hh.docs q.doc < 0:=by omega
   simp [s3',ab h]
  have s3' : ¬ ar hh.docs q.doc < 0:=by omega
  have hsuc:=eT (w:=⟨hh,lk,qs,tasks,step⟩) hlt hr (hat s2 s3);have hbad2 : bc tasks q.doc all q.list = none->¬ cD ⟨hh,lk,qs,tasks,step⟩:=λh=>dV (w:=⟨hh,lk,qs,tasks,step⟩) hlt (by rw [hsuc];simp only;rw [hq];exact h)
  simp only [hq] at hsuc;simp [s3']
  refine ag eok (λx : Nat × List Int × Hd=>x.1<=q.list.length/\bc tasks q.doc all (q.list.take x.1) = some x.2.1) (λx=>⟨111,0,[(50,.v (.int .i64 x.1)),(49,.v (.int .i64 q.list.length)),(48,.ro (q.list.map ak)),(5,.p 80 b5 0),(13,.v (.int .i64 0)),(12,.v (.int .i64 qs.length)),(11,.ro (qs.map Queue.row)),(1,.p 16 b1 0),(3,.sl 5000 x.2.2 1 0 x.2.1.length)],
   [(16, .vars b1 39 [.v (.bool hh.shut), .ro (hh.docs.map Doc.row), .ro (hh.subs.map Sub.row), .v (.int .i64 hh.last), .ro (lk.map ak), .ro (qs.map Queue.row), .ro (tasks.map Task.row), .v (.int .i64 step)]), (80, .vars b5 166 [.v (.string q.doc), .ro (q.list.map ak)]),
    (5000,.rows x.2.2 1 (x.2.1.map ak) true)]⟩) (λx=>q.list.length - x.1) (0,all,H) (by simp [bc]) (by simp) (λx hi=>Ent.refl ?_)
  obtain ⟨j,m,G⟩:=x;obtain ⟨hj,hm⟩:=hi;simp only at hj hm ⊢
  have hml : m.length<=2 * qs.length:=by
   have:=dv _ _ _ hm;simp at this;omega
  by_cases hjt : j < q.list.length
  rotate_left
  ·have hje : j = q.list.length:=by omega
   subst hje;rw [List.take_length] at hm;simp;refine Ent.refl ⟨1,m,⟨by omega,by rw [hsuc,hm],?_⟩,by omega,G,?_⟩
   ·have:=dv _ _ _ hm
    omega
   ·simp
    exact ah (n:=0) (by omega)
  obtain ⟨o1,o2⟩:=iX hjt hm;obtain ⟨x,hx⟩ : ∃ x,q.list[j] = x:=⟨_,rfl⟩;rw [hx] at o1 o2;simp [hjt,hx];refine am.quiet eok mix (by kernel_rfl) ?_;simp [ew];refine ⟨_,_,aO x 0 ((tasks.length : Int) - 1),by simp,?_⟩;by_cases c1 : 0<=x/\x<=(tasks.length : Int) - 1
  rotate_left
  ·have h:=hbad2 (o2 (λh=>by obtain ⟨⟨k,hk,e,-⟩,-⟩:=h;exact c1 (by omega)))
   simp [ab c1,ab h]
  obtain ⟨k,rfl⟩ : ∃ k : Nat,x = k:=⟨x.toNat,by omega⟩;have hk : k < tasks.length:=by omega
  obtain ⟨t,ht⟩ : ∃ t,tasks[k] = t:=⟨_,rfl⟩
  have hmay : eo tasks q.doc k ↔ t.pc = 2/\t.c.doc = q.doc:=by
   constructor
   ·rintro ⟨k',hk',e,h1,h2⟩
    have : k = k':=by omega
    subst this;rw [ht] at h1 h2;exact ⟨h1,h2⟩
   ·rintro ⟨h1,h2⟩
    exact ⟨k,hk,rfl,by rw [ht];exact h1,by rw [ht];exact h2⟩
  simp [c1,hk,ht,Task.row];by_cases c2 : t.pc = 2
  rotate_left
  ·have h:=hbad2 (o2 (λh=>c2 (hmay.1 h.1).1))
   simp [c2,ab h]
  simp [c2,hk,ht,Task.row];by_cases c3 : t.c.doc = q.doc
  rotate_left
  ·have h:=hbad2 (o2 (λh=>c3 (hmay.1 h.1).2))
   simp [c3,ab h]
  simp [c3];refine ⟨_,_,lu m (by omega) k,by simp,?_⟩;by_cases c4 : (k : Int)∈m
  ·have h:=hbad2 (o2 (λh=>h.2 c4))
   simp [c4,ab h]
  simp [ab c4];intro b40;refine ⟨by omega,λG'=>Ent.refl ⟨j + 1,m ++ [(k : Int)],⟨by omega,o1 ⟨hmay.2 ⟨c2,c3⟩,c4⟩⟩,by omega,G',?_⟩⟩;simp;exact ah (by omega)
  | succ p=>
  have hp1 : p < qs.length:=by omega
  have ek : Go.IntKind.i64.wrap (p : Int) = p:=ep (by omega);have hp0 : (0 : Int) < (p : Int) + 1:=by omega
  obtain ⟨y,hy⟩ : ∃ y,qs[p] = y:=⟨_,rfl⟩;simp [ek,hp0,hp1,hy,Queue.row];by_cases s1 : sLt y.doc q.doc
  rotate_left
  ·have h:=hbad (λh=>s1 (by have:=(h hlt).1 (by omega);rw [hq] at this;simp only [Nat.add_sub_cancel] at this;rwa [hy] at this))
   simp [ab s1,ab h]
  replace hat:=λs2 s3=>hat s2 s3 (λ_=>by simp only [Nat.add_sub_cancel];rwa [hy])
  simp [s1];refine ⟨_,_,aO q.list.length 1 2,by simp,?_⟩;by_cases s2 : 1<=q.list.length/\q.list.length<=2
  rotate_left
  ·have s2' : ¬ (1<=(q.list.length : Int)/\(q.list.length : Int)<=2):=by omega
   have h:=hbad (λh=>s2 (by have:=(h hlt).2.1;rwa [hq] at this));simp [ab s2',ab h]
  have s2' : 1<=(q.list.length : Int)/\(q.list.length : Int)<=2:=by omega
  simp [s2'];refine ⟨_,_,dx hh (by omega) q.doc,by simp [Hub.row],?_⟩;by_cases s3 : 0<=ar hh.docs q.doc
  rotate_left
  ·have h:=hbad (λh=>s3 (by have:=(h hlt).2.2;rwa [hq] at this))
   have s3' : ar hh.docs q.doc < 0:=by omega
   simp [s3',ab h]
  have s3' : ¬ ar hh.docs q.doc < 0:=by omega
  have hsuc:=eT (w:=⟨hh,lk,qs,tasks,step⟩) hlt hr (hat s2 s3);have hbad2 : bc tasks q.doc all q.list = none->¬ cD ⟨hh,lk,qs,tasks,step⟩:=λh=>dV (w:=⟨hh,lk,qs,tasks,step⟩) hlt (by rw [hsuc];simp only;rw [hq];exact h)
  simp only [hq] at hsuc;simp [s3']
  refine ag eok (λx : Nat × List Int × Hd=>x.1<=q.list.length/\bc tasks q.doc all (q.list.take x.1) = some x.2.1) (λx=>⟨111,0,[(50,.v (.int .i64 x.1)),(49,.v (.int .i64 q.list.length)),(48,.ro (q.list.map ak)),(5,.p 80 b5 0),(13,.v (.int .i64 ((p : Int) + 1))),(12,.v (.int .i64 qs.length)),(11,.ro (qs.map Queue.row)),(1,.p 16 b1 0),(3,.sl 5000 x.2.2 1 0 x.2.1.length)],
   [(16, .vars b1 39 [.v (.bool hh.shut), .ro (hh.docs.map Doc.row), .ro (hh.subs.map Sub.row), .v (.int .i64 hh.last), .ro (lk.map ak), .ro (qs.map Queue.row), .ro (tasks.map Task.row), .v (.int .i64 step)]), (80, .vars b5 166 [.v (.string q.doc), .ro (q.list.map ak)]),
    (5000,.rows x.2.2 1 (x.2.1.map ak) true)]⟩) (λx=>q.list.length - x.1) (0,all,H) (by simp [bc]) (by simp) (λx hi=>Ent.refl ?_)
  obtain ⟨j,m,G⟩:=x;obtain ⟨hj,hm⟩:=hi;simp only at hj hm ⊢
  have hml : m.length<=2 * qs.length:=by
   have:=dv _ _ _ hm;simp at this;omega
  by_cases hjt : j < q.list.length
  rotate_left
  ·have hje : j = q.list.length:=by omega
   subst hje;rw [List.take_length] at hm;simp;refine Ent.refl ⟨p + 2,m,⟨by omega,by rw [hsuc,hm],?_⟩,by omega,G,?_⟩
   ·have:=dv _ _ _ hm
    omega
   ·simp
    exact (by rw [Go.IntWalk.i64_in _ (by omega)];omega)
  obtain ⟨o1,o2⟩:=iX hjt hm;obtain ⟨x,hx⟩ : ∃ x,q.list[j] = x:=⟨_,rfl⟩;rw [hx] at o1 o2;simp [hjt,hx];refine am.quiet eok mix (by kernel_rfl) ?_;simp [ew];refine ⟨_,_,aO x 0 ((tasks.length : Int) - 1),by simp,?_⟩;by_cases c1 : 0<=x/\x<=(tasks.length : Int) - 1
  rotate_left
  ·have h:=hbad2 (o2 (λh=>by obtain ⟨⟨k,hk,e,-⟩,-⟩:=h;exact c1 (by omega)))
   simp [ab c1,ab h]
  obtain ⟨k,rfl⟩ : ∃ k : Nat,x = k:=⟨x.toNat,by omega⟩;have hk : k < tasks.length:=by omega
  obtain ⟨t,ht⟩ : ∃ t,tasks[k] = t:=⟨_,rfl⟩
  have hmay : eo tasks q.doc k ↔ t.pc = 2/\t.c.doc = q.doc:=by
   constructor
   ·rintro ⟨k',hk',e,h1,h2⟩
    have : k = k':=by omega
    subst this;rw [ht] at h1 h2;exact ⟨h1,h2⟩
   ·rintro ⟨h1,h2⟩
    exact ⟨k,hk,rfl,by rw [ht];exact h1,by rw [ht];exact h2⟩
  simp [c1,hk,ht,Task.row];by_cases c2 : t.pc = 2
  rotate_left
  ·have h:=hbad2 (o2 (λh=>c2 (hmay.1 h.1).1))
   simp [c2,ab h]
  simp [c2,hk,ht,Task.row];by_cases c3 : t.c.doc = q.doc
  rotate_left
  ·have h:=hbad2 (o2 (λh=>c3 (hmay.1 h.1).2))
   simp [c3,ab h]
  simp [c3];refine ⟨_,_,lu m (by omega) k,by simp,?_⟩;by_cases c4 : (k : Int)∈m
  ·have h:=hbad2 (o2 (λh=>h.2 c4))
   simp [c4,ab h]
  simp [ab c4];intro b40;refine ⟨by omega,λG'=>Ent.refl ⟨j + 1,m ++ [(k : Int)],⟨by omega,o1 ⟨hmay.2 ⟨c2,c3⟩,c4⟩⟩,by omega,G',?_⟩⟩;simp;exact ah (by omega)
 have hie : i = qs.length:=by omega
 subst hie;simp
 refine ag eok (λk : Nat=>k<=tasks.length/\∀ j,j < k->∀ hj : j < tasks.length,tasks[j].pc = 2->(j : Int)∈all) (λk=>⟨111,0,[(96,.v (.int .i64 k)),(95,.v (.int .i64 tasks.length)),(94,.ro (tasks.map Task.row)),(3,.sl 5000 H 1 0 all.length)],
  [(5000,.rows H 1 (all.map ak) true)]⟩) (λk=>tasks.length - k) 0 (by simp) (by simp) (λk hk=>Ent.refl ?_)
 by_cases hlt : k < tasks.length
 ·obtain ⟨t,ht⟩ : ∃ t,tasks[k] = t:=⟨_,rfl⟩
  simp [hlt,ht,Task.row];intro b9;by_cases c1 : t.pc = 2
  rotate_left
  ·simp [c1]
   exact Ent.refl ⟨k + 1,⟨by omega,dR (P:=λj=>∀ hj : j < tasks.length,tasks[j].pc = 2->(j : Int)∈all) hk.2 (λ_ h=>absurd h (by rw [ht];exact c1))⟩,by omega,by simp;exact ah (by omega)⟩
  simp [c1];refine aa.pure (lu all (by omega) k) (by simp) ?_;by_cases c2 : (k : Int)∈all
  rotate_left
  ·have h : ¬ cD ⟨hh,lk,qs,tasks,step⟩:=by
    rintro ⟨all',e,h⟩
    simp only at e h;rw [hr] at e;obtain rfl:=Option.some.inj e;exact c2 (h k hlt (by rw [ht];exact c1))
   simp [ab c2,ab h]
  simp [c2];exact Ent.refl ⟨k + 1,⟨by omega,dR (P:=λj=>∀ hj : j < tasks.length,tasks[j].pc = 2->(j : Int)∈all) hk.2 (λ_ _=>c2)⟩,by omega,by simp;exact ah (by omega)⟩
 have h : cD ⟨hh,lk,qs,tasks,step⟩:=⟨all,hr,λj hj=>hk.2 j (by simp only at hj;omega) hj⟩;simp [hlt,h]
theorem vX (w : Wld) (hl : ed w<=2 ^ 30) : aj Tryz.prog 162 [.agg w.row] (.one (.c (vb (cD w)) 1)):=by
 refine pci ae Tryz.func162 (λw0 base=>?_);obtain ⟨nh,n2,n3,n4⟩:=bg hl;obtain ⟨hh,lk,qs,tasks,step⟩:=w;have hle:=aA n4;have hlq:=aA n3;simp only at hle hlq n2 n3 n4 nh;have ew : Go.IntKind.i64.wrap ((tasks.length : Int) - 1) = (tasks.length : Int) - 1:=Go.IntWalk.i64_in _ (by omega);simp [Wld.row];intro b1 b10
 refine ag eok (λx : Nat × List Int × Hd=>x.1<=qs.length/\bO ⟨hh,lk,qs,tasks,step⟩ x.1 = some x.2.1/\x.2.1.length<=2 * x.1) (λx=>⟨112,0,[(14,.v (.int .i64 x.1)),(13,.v (.int .i64 qs.length)),(12,.ro (qs.map Queue.row)),(1,.p 16 b1 0),(3,.sl 160 x.2.2 1 0 x.2.1.length)],
  [(16, .vars b1 39 [.v (.bool hh.shut), .ro (hh.docs.map Doc.row), .ro (hh.subs.map Sub.row), .v (.int .i64 hh.last), .ro (lk.map ak), .ro (qs.map Queue.row), .ro (tasks.map Task.row), .v (.int .i64 step)]),
   (160,.rows x.2.2 1 (x.2.1.map ak) true)]⟩) (λx=>qs.length - x.1) (0,[],some (b10,0,0)) (by simp [bO]) (by simp) (λx hi=>Ent.refl ?_)
 obtain ⟨i,all,H⟩:=x;obtain ⟨hi,hr,hal⟩:=hi;simp only at hi hr hal ⊢;by_cases hlt : i < qs.length
 ·obtain ⟨q,hq⟩ : ∃ q,qs[i] = q:=⟨_,rfl⟩
  have hbad : ¬ eI hh qs i->¬ cD ⟨hh,lk,qs,tasks,step⟩:=λh=>dV (w:=⟨hh,lk,qs,tasks,step⟩) hlt (eU (w:=⟨hh,lk,qs,tasks,step⟩) hlt h)
  simp [hlt,hq,Queue.row];intro b5;refine am.quiet eok mix (by kernel_rfl) ?_;simp;have hprev : 0 = i\/0 < i:=by omega
  obtain ⟨prev,hcase⟩ : ∃ prev : Prop,prev = ∀ h : 0 < i,sLt qs[i - 1].doc q.doc:=⟨_,rfl⟩;have hat : ∀ (_ : 1<=q.list.length/\q.list.length<=2) (_ : 0<=ar hh.docs q.doc) (_ : ∀ h : 0 < i,sLt qs[i - 1].doc q.doc),eI hh qs i:=λs2 s3 s1=>λ_=>by rw [hq];exact ⟨s1,s2,s3⟩
  cases i with
  | zero=>
  replace hat:=λs2 s3=>hat s2 s3 (λh=>absurd h (by omega))
  simp;refine ⟨_,_,aZ q.list.length 1 2,by simp,?_⟩;by_cases s2 : 1<=q.list.length/\q.list.length<=2
  rotate_left
  ·have s2' : ¬ (1<=(q.list.length : Int)/\(q.list.length : Int)<=2):=by omega
   have h:=hbad (λh=>s2 (by have:=(h hlt).2.1;rwa [hq] at this));simp [ab s2',ab h]
  have s2' : 1<=(q.list.length : Int)/\(q.list.length : Int)<=2:=by omega
  simp [s2'];refine ⟨_,_,cz hh (by omega) q.doc,by simp [Hub.row],?_⟩;by_cases s3 : 0<=ar hh.docs q.doc
  rotate_left
  ·have h:=hbad (λh=>s3 (by have:=(h hlt).2.2;rwa [hq] at this))
   have s3' : ar hh.docs q.doc < 0:=by omega
   simp [s3',ab h]
  have s3' : ¬ ar hh.docs q.doc < 0:=by omega
  have hsuc:=eT (w:=⟨hh,lk,qs,tasks,step⟩) hlt hr (hat s2 s3);have hbad2 : bc tasks q.doc all q.list = none->¬ cD ⟨hh,lk,qs,tasks,step⟩:=λh=>dV (w:=⟨hh,lk,qs,tasks,step⟩) hlt (by rw [hsuc];simp only;rw [hq];exact h)
  simp only [hq] at hsuc;simp [s3']
  refine ag eok (λx : Nat × List Int × Hd=>x.1<=q.list.length/\bc tasks q.doc all (q.list.take x.1) = some x.2.1) (λx=>⟨112,0,[(51,.v (.int .i64 x.1)),(50,.v (.int .i64 q.list.length)),(49,.ro (q.list.map ak)),(5,.p 80 b5 0),(14,.v (.int .i64 0)),(13,.v (.int .i64 qs.length)),(12,.ro (qs.map Queue.row)),(1,.p 16 b1 0),(3,.sl 160 x.2.2 1 0 x.2.1.length)],
   [(16, .vars b1 39 [.v (.bool hh.shut), .ro (hh.docs.map Doc.row), .ro (hh.subs.map Sub.row), .v (.int .i64 hh.last), .ro (lk.map ak), .ro (qs.map Queue.row), .ro (tasks.map Task.row), .v (.int .i64 step)]), (80, .vars b5 166 [.v (.string q.doc), .ro (q.list.map ak)]),
    (160,.rows x.2.2 1 (x.2.1.map ak) true)]⟩) (λx=>q.list.length - x.1) (0,all,H) (by simp [bc]) (by simp) (λx hi=>Ent.refl ?_)
  obtain ⟨j,m,G⟩:=x;obtain ⟨hj,hm⟩:=hi;simp only at hj hm ⊢
  have hml : m.length<=2 * qs.length:=by
   have:=dv _ _ _ hm;simp at this;omega
  by_cases hjt : j < q.list.length
  rotate_left
  ·have hje : j = q.list.length:=by omega
   subst hje;rw [List.take_length] at hm;simp;refine Ent.refl ⟨1,m,⟨by omega,by rw [hsuc,hm],?_⟩,by omega,G,?_⟩
   ·have:=dv _ _ _ hm
    omega
   ·simp
    exact ah (n:=0) (by omega)
  obtain ⟨o1,o2⟩:=iX hjt hm;obtain ⟨x,hx⟩ : ∃ x,q.list[j] = x:=⟨_,rfl⟩;rw [hx] at o1 o2;simp [hjt,hx];refine am.quiet eok mix (by kernel_rfl) ?_;simp [ew];refine ⟨_,_,aZ x 0 ((tasks.length : Int) - 1),by simp,?_⟩;by_cases c1 : 0<=x/\x<=(tasks.length : Int) - 1
  rotate_left
  ·have h:=hbad2 (o2 (λh=>by obtain ⟨⟨k,hk,e,-⟩,-⟩:=h;exact c1 (by omega)))
   simp [ab c1,ab h]
  obtain ⟨k,rfl⟩ : ∃ k : Nat,x = k:=⟨x.toNat,by omega⟩;have hk : k < tasks.length:=by omega
  obtain ⟨t,ht⟩ : ∃ t,tasks[k] = t:=⟨_,rfl⟩
  have hmay : eo tasks q.doc k ↔ t.pc = 2/\t.c.doc = q.doc:=by
   constructor
   ·rintro ⟨k',hk',e,h1,h2⟩
    have : k = k':=by omega
    subst this;rw [ht] at h1 h2;exact ⟨h1,h2⟩
   ·rintro ⟨h1,h2⟩
    exact ⟨k,hk,rfl,by rw [ht];exact h1,by rw [ht];exact h2⟩
  simp [c1,hk,ht,Task.row];by_cases c2 : t.pc = 2
  rotate_left
  ·have h:=hbad2 (o2 (λh=>c2 (hmay.1 h.1).1))
   simp [c2,ab h]
  simp [c2,hk,ht,Task.row];by_cases c3 : t.c.doc = q.doc
  rotate_left
  ·have h:=hbad2 (o2 (λh=>c3 (hmay.1 h.1).2))
   simp [c3,ab h]
  simp [c3];refine ⟨_,_,mU m (by omega) k,by simp,?_⟩;by_cases c4 : (k : Int)∈m
  ·have h:=hbad2 (o2 (λh=>h.2 c4))
   simp [c4,ab h]
  simp [ab c4];intro b40;refine ⟨by omega,λG'=>Ent.refl ⟨j + 1,m ++ [(k : Int)],⟨by omega,o1 ⟨hmay.2 ⟨c2,c3⟩,c4⟩⟩,by omega,G',?_⟩⟩;simp;exact ah (by omega)
  | succ p=>
  have hp1 : p < qs.length:=by omega
  have ek : Go.IntKind.i64.wrap (p : Int) = p:=ep (by omega);have hp0 : (0 : Int) < (p : Int) + 1:=by omega
  obtain ⟨y,hy⟩ : ∃ y,qs[p] = y:=⟨_,rfl⟩;simp [ek,hp0,hp1,hy,Queue.row];by_cases s1 : sLt y.doc q.doc
  rotate_left
  ·have h:=hbad (λh=>s1 (by have:=(h hlt).1 (by omega);rw [hq] at this;simp only [Nat.add_sub_cancel] at this;rwa [hy] at this))
   simp [ab s1,ab h]
  replace hat:=λs2 s3=>hat s2 s3 (λ_=>by simp only [Nat.add_sub_cancel];rwa [hy])
  simp [s1];refine ⟨_,_,aZ q.list.length 1 2,by simp,?_⟩;by_cases s2 : 1<=q.list.length/\q.list.length<=2
  rotate_left
  ·have s2' : ¬ (1<=(q.list.length : Int)/\(q.list.length : Int)<=2):=by omega
   have h:=hbad (λh=>s2 (by have:=(h hlt).2.1;rwa [hq] at this));simp [ab s2',ab h]
  have s2' : 1<=(q.list.length : Int)/\(q.list.length : Int)<=2:=by omega
  simp [s2'];refine ⟨_,_,cz hh (by omega) q.doc,by simp [Hub.row],?_⟩;by_cases s3 : 0<=ar hh.docs q.doc
  rotate_left
  ·have h:=hbad (λh=>s3 (by have:=(h hlt).2.2;rwa [hq] at this))
   have s3' : ar hh.docs q.doc < 0:=by omega
   simp [s3',ab h]
  have s3' : ¬ ar hh.docs q.doc < 0:=by omega
  have hsuc:=eT (w:=⟨hh,lk,qs,tasks,step⟩) hlt hr (hat s2 s3);have hbad2 : bc tasks q.doc all q.list = none->¬ cD ⟨hh,lk,qs,tasks,step⟩:=λh=>dV (w:=⟨hh,lk,qs,tasks,step⟩) hlt (by rw [hsuc];simp only;rw [hq];exact h)
  simp only [hq] at hsuc;simp [s3']
  refine ag eok (λx : Nat × List Int × Hd=>x.1<=q.list.length/\bc tasks q.doc all (q.list.take x.1) = some x.2.1) (λx=>⟨112,0,[(51,.v (.int .i64 x.1)),(50,.v (.int .i64 q.list.length)),(49,.ro (q.list.map ak)),(5,.p 80 b5 0),(14,.v (.int .i64 ((p : Int) + 1))),(13,.v (.int .i64 qs.length)),(12,.ro (qs.map Queue.row)),(1,.p 16 b1 0),(3,.sl 160 x.2.2 1 0 x.2.1.length)],
   [(16, .vars b1 39 [.v (.bool hh.shut), .ro (hh.docs.map Doc.row), .ro (hh.subs.map Sub.row), .v (.int .i64 hh.last), .ro (lk.map ak), .ro (qs.map Queue.row), .ro (tasks.map Task.row), .v (.int .i64 step)]), (80, .vars b5 166 [.v (.string q.doc), .ro (q.list.map ak)]),
    (160,.rows x.2.2 1 (x.2.1.map ak) true)]⟩) (λx=>q.list.length - x.1) (0,all,H) (by simp [bc]) (by simp) (λx hi=>Ent.refl ?_)
  obtain ⟨j,m,G⟩:=x;obtain ⟨hj,hm⟩:=hi;simp only at hj hm ⊢
  have hml : m.length<=2 * qs.length:=by
   have:=dv _ _ _ hm;simp at this;omega
  by_cases hjt : j < q.list.length
  rotate_left
  ·have hje : j = q.list.length:=by omega
   subst hje;rw [List.take_length] at hm;simp;refine Ent.refl ⟨p + 2,m,⟨by omega,by rw [hsuc,hm],?_⟩,by omega,G,?_⟩
   ·have:=dv _ _ _ hm
    omega
   ·simp
    exact (by rw [Go.IntWalk.i64_in _ (by omega)];omega)
  obtain ⟨o1,o2⟩:=iX hjt hm;obtain ⟨x,hx⟩ : ∃ x,q.list[j] = x:=⟨_,rfl⟩;rw [hx] at o1 o2;simp [hjt,hx];refine am.quiet eok mix (by kernel_rfl) ?_;simp [ew];refine ⟨_,_,aZ x 0 ((tasks.length : Int) - 1),by simp,?_⟩;by_cases c1 : 0<=x/\x<=(tasks.length : Int) - 1
  rotate_left
  ·have h:=hbad2 (o2 (λh=>by obtain ⟨⟨k,hk,e,-⟩,-⟩:=h;exact c1 (by omega)))
   simp [ab c1,ab h]
  obtain ⟨k,rfl⟩ : ∃ k : Nat,x = k:=⟨x.toNat,by omega⟩;have hk : k < tasks.length:=by omega
  obtain ⟨t,ht⟩ : ∃ t,tasks[k] = t:=⟨_,rfl⟩
  have hmay : eo tasks q.doc k ↔ t.pc = 2/\t.c.doc = q.doc:=by
   constructor
   ·rintro ⟨k',hk',e,h1,h2⟩
    have : k = k':=by omega
    subst this;rw [ht] at h1 h2;exact ⟨h1,h2⟩
   ·rintro ⟨h1,h2⟩
    exact ⟨k,hk,rfl,by rw [ht];exact h1,by rw [ht];exact h2⟩
  simp [c1,hk,ht,Task.row];by_cases c2 : t.pc = 2
  rotate_left
  ·have h:=hbad2 (o2 (λh=>c2 (hmay.1 h.1).1))
   simp [c2,ab h]
  simp [c2,hk,ht,Task.row];by_cases c3 : t.c.doc = q.doc
  rotate_left
  ·have h:=hbad2 (o2 (λh=>c3 (hmay.1 h.1).2))
   simp [c3,ab h]
  simp [c3];refine ⟨_,_,mU m (by omega) k,by simp,?_⟩;by_cases c4 : (k : Int)∈m
  ·have h:=hbad2 (o2 (λh=>h.2 c4))
   simp [c4,ab h]
  simp [ab c4];intro b40;refine ⟨by omega,λG'=>Ent.refl ⟨j + 1,m ++ [(k : Int)],⟨by omega,o1 ⟨hmay.2 ⟨c2,c3⟩,c4⟩⟩,by omega,G',?_⟩⟩;simp;exact ah (by omega)
 have hie : i = qs.length:=by omega
 subst hie;simp
 refine ag eok (λk : Nat=>k<=tasks.length/\∀ j,j < k->∀ hj : j < tasks.length,tasks[j].pc = 2->(j : Int)∈all) (λk=>⟨112,0,[(97,.v (.int .i64 k)),(96,.v (.int .i64 tasks.length)),(95,.ro (tasks.map Task.row)),(3,.sl 160 H 1 0 all.length)],
  [(160,.rows H 1 (all.map ak) true)]⟩) (λk=>tasks.length - k) 0 (by simp) (by simp) (λk hk=>Ent.refl ?_)
 by_cases hlt : k < tasks.length
 ·obtain ⟨t,ht⟩ : ∃ t,tasks[k] = t:=⟨_,rfl⟩
  simp [hlt,ht,Task.row];intro b9;by_cases c1 : t.pc = 2
  rotate_left
  ·simp [c1]
   exact Ent.refl ⟨k + 1,⟨by omega,dR (P:=λj=>∀ hj : j < tasks.length,tasks[j].pc = 2->(j : Int)∈all) hk.2 (λ_ h=>absurd h (by rw [ht];exact c1))⟩,by omega,by simp;exact ah (by omega)⟩
  simp [c1];refine aa.pure (mU all (by omega) k) (by simp) ?_;by_cases c2 : (k : Int)∈all
  rotate_left
  ·have h : ¬ cD ⟨hh,lk,qs,tasks,step⟩:=by
    rintro ⟨all',e,h⟩
    simp only at e h;rw [hr] at e;obtain rfl:=Option.some.inj e;exact c2 (h k hlt (by rw [ht];exact c1))
   simp [ab c2,ab h]
  simp [c2];exact Ent.refl ⟨k + 1,⟨by omega,dR (P:=λj=>∀ hj : j < tasks.length,tasks[j].pc = 2->(j : Int)∈all) hk.2 (λ_ _=>c2)⟩,by omega,by simp;exact ah (by omega)⟩
 have h : cD ⟨hh,lk,qs,tasks,step⟩:=⟨all,hr,λj hj=>hk.2 j (by simp only at hj;omega) hj⟩;simp [hlt,h]
def ms (n i : Nat) : List Int:=List.replicate i (-1) ++ List.replicate (n - i) 0
theorem Az (n : Nat) : List.replicate n [CD.v (.int .i64 0)] = (ms n 0).map ak:=by
 unfold ms;simp [ak]
theorem AA (n : Nat) : ms n n = List.replicate n (-1):=by unfold ms;simp
theorem C9 {n i : Nat} (h : i<=n) : (ms n i).length = n:=by unfold ms;simp;omega
theorem C8 {n i : Nat} (h : i < n) : (ms n i).set i (-1) = ms n (i + 1):=by
 unfold ms;refine List.ext_getElem (by simp;omega) (λj h1 h2=>?_);simp only [List.getElem_set,List.getElem_append,List.length_replicate,List.getElem_replicate]
 repeat' split
 all_goals omega
theorem HO {l : List Int} {i : Nat} {x : Int} : (l.map ak).set i [.v (.int .i64 x)] = (l.set i x).map ak:=by rw [List.map_set]
theorem nB {w : Wld} (h : ¬ ∀ t∈w.tasks,cq t) : ¬ ao w:=λh'=>h h'.1
theorem io (w : Wld) (hl : ed w<=2 ^ 30) : aj Tryz.prog 45 [.agg w.row] (.one (.c (vb (ao w)) 1)):=by
 refine pci ae Tryz.func45 (λw0 base=>?_);have hSt:=ur w (by have:=aA (bg hl).2.2.2;omega);have hQu:=wC w hl;obtain ⟨nh,n2,n3,n4⟩:=bg hl;obtain ⟨hh,lk,qs,tasks,step⟩:=w;have hle:=aA n4;simp only at hle n2 n4 nh hSt;simp [Wld.row];intro b1;refine aa.pure (dD hh (by omega)) (by simp [Hub.row]) ?_;by_cases c1 : an hh
 rotate_left
 ·have h : ¬ ao ⟨hh,lk,qs,tasks,step⟩:=λh=>c1 h.2.1
  simp [ab c1,ab h]
 simp [c1];refine aa.pure (aO lk.length 1 4) (by simp) ?_;by_cases c2 : 1<=lk.length/\lk.length<=4
 rotate_left
 ·have h : ¬ ao ⟨hh,lk,qs,tasks,step⟩:=λh=>c2 h.2.2.1
  have c2' : ¬ (1<=(lk.length : Int)/\(lk.length : Int)<=4):=by omega
  simp [ab c2',ab h]
 have c2' : 1<=(lk.length : Int)/\(lk.length : Int)<=4:=by omega
 simp [c2'];by_cases c3 : tasks.length<=10
 rotate_left
 ·have h : ¬ ao ⟨hh,lk,qs,tasks,step⟩:=λh=>c3 h.2.2.2.1
  have c3' : 10 < (tasks.length : Int):=by omega
  simp [c3',ab h]
 have c3' : ¬ 10 < (tasks.length : Int):=by omega
 simp [c3'];refine aa.pure (aO step 0 1000000) (by simp) ?_;by_cases c4 : 0<=step/\step<=1000000
 rotate_left
 ·have h : ¬ ao ⟨hh,lk,qs,tasks,step⟩:=λh=>c4 h.2.2.2.2.1
  simp [ab c4,ab h]
 simp [c4];refine ⟨by omega,λb=>?_⟩
 refine ag eok (λi : Nat=>i<=lk.length) (λi=>⟨88,0,[(37,.v (.int .i64 i)),(36,.v (.int .i64 lk.length)),(4,.sl 544 (some (b,0,lk.length)) 1 0 lk.length),(3,.v (.int .i64 lk.length)),(1,.p 16 b1 0)],
  [(16, .vars b1 39 [.v (.bool hh.shut), .ro (hh.docs.map Doc.row), .ro (hh.subs.map Sub.row), .v (.int .i64 hh.last), .ro (lk.map ak), .ro (qs.map Queue.row), .ro (tasks.map Task.row), .v (.int .i64 step)]),
   (544,.rows (some (b,0,lk.length)) 1 ((ms lk.length i).map ak) true)]⟩) (λi=>lk.length - i) 0 (by simp) (by simp [Az]) (λi hi=>Ent.refl ?_)
 by_cases hlt : i < lk.length
 ·have hL:=C9 (n:=lk.length) (i:=i) (by omega)
  have hli : i < (ms lk.length i).length:=by omega
  simp [hlt,hL,HO,C8 hlt];refine Ent.refl ⟨i + 1,by omega,by omega,?_⟩;simp;exact ah (by omega)
 have hie : i = lk.length:=by omega
 subst hie;rw [AA];simp [-List.map_replicate]
 refine ag eok (λx : Nat × List Int=>x.1<=tasks.length/\(∀ t∈tasks.take x.1,cq t)/\mw tasks lk.length x.1 x.2) (λx=>⟨88,0,[(47,.v (.int .i64 x.1)),(46,.v (.int .i64 tasks.length)),(45,.ro (tasks.map Task.row)),(4,.sl 544 (some (b,0,lk.length)) 1 0 lk.length),(3,.v (.int .i64 lk.length)),(1,.p 16 b1 0)],
  [(16, .vars b1 39 [.v (.bool hh.shut), .ro (hh.docs.map Doc.row), .ro (hh.subs.map Sub.row), .v (.int .i64 hh.last), .ro (lk.map ak), .ro (qs.map Queue.row), .ro (tasks.map Task.row), .v (.int .i64 step)]),
   (544,.rows (some (b,0,lk.length)) 1 (x.2.map ak) true)]⟩) (λx=>tasks.length - x.1) (0,List.replicate lk.length (-1)) ⟨by simp,by simp,Dg _ _⟩ (by simp [-List.map_replicate]) (λx hi=>Ent.refl ?_)
 obtain ⟨i,held⟩:=x;obtain ⟨hi,htk,hh'⟩:=hi;simp only at hi htk hh' ⊢;have hhl:=hh'.1;by_cases hlt : i < tasks.length
 ·obtain ⟨t,ht⟩ : ∃ t,tasks[i] = t:=⟨_,rfl⟩
  have hm:=dB n4 hlt;rw [ht] at hm;have hmem : t∈tasks:=by rw [<- ht];exact List.getElem_mem hlt
  simp [hlt,ht,Task.row];intro b7;refine aa.pure (wu t (by omega)) (by simp [Task.row]) ?_;by_cases d1 : cq t
  rotate_left
  ·have h : ¬ ao ⟨hh,lk,qs,tasks,step⟩:=nB (λh=>d1 (h t hmem))
   simp [ab d1,ab h]
  have htk':=ir hlt htk (by rw [ht];exact d1);simp [d1];by_cases d2 : t.pc = 1
  rotate_left
  ·simp [d2]
   refine Ent.refl ⟨i + 1,held,⟨by omega,htk',Dh hh' hlt (by rw [ht];exact d2)⟩,by omega,?_⟩;simp;exact ah (by omega)
  simp [d2];refine aa.pure (lv t.c.doc (by have:=pW hm;omega) lk.length c2.1 (by omega)) (by simp) ?_;obtain ⟨s,hs⟩ : ∃ s,aP t.c.doc lk.length = s:=⟨_,rfl⟩;have hsl : s < lk.length:=by rw [<- hs];exact (gY t.c.doc c2.1).2
  have hsh : s < held.length:=by omega
  simp [hs,hsl,hsh];by_cases d3 : held[s] = -1
  rotate_left
  ·have h : ¬ ao ⟨hh,lk,qs,tasks,step⟩:=λh=>by
    refine Gc (locks:=lk) hh' hlt (by rw [ht];exact d2) (by rw [ht,hs];exact hsh) ?_ h.2.2.2.2.2.2.1.2;simp only [ht,hs];exact d3
   simp [d3,ab h]
  simp [d3,hsl,hhl];refine Ent.refl ⟨i + 1,held.set s i,⟨by omega,htk',Gd hh' hlt (by rw [ht];exact d2) (by rw [ht];exact hs) hsh d3⟩,by omega,?_⟩;simp;exact ah (by omega)
 have hie : i = tasks.length:=by omega
 subst hie;rw [List.take_length] at htk;have he:=Ge c2.1 hh';simp;refine aa.pure (mV held lk (by omega)) (by simp [hhl]) ?_;have hW : ao ⟨hh,lk,qs,tasks,step⟩ ↔ fE ⟨hh,lk,qs,tasks,step⟩/\held = lk/\cD ⟨hh,lk,qs,tasks,step⟩:=⟨λh=>⟨h.2.2.2.2.2.1,he.2 h.2.2.2.2.2.2.1,h.2.2.2.2.2.2.2⟩,λh=>⟨htk,c1,c2,c3,c4,h.1,he.1 h.2.1,h.2.2⟩⟩;by_cases d1 : held = lk
 rotate_left
 ·have h : ¬ ao ⟨hh,lk,qs,tasks,step⟩:=λh=>d1 (hW.1 h).2.1
  simp [d1,ab h]
 simp [d1];refine aa.pure hSt (by simp) ?_;by_cases d2 : fE ⟨hh,lk,qs,tasks,step⟩
 rotate_left
 ·have h : ¬ ao ⟨hh,lk,qs,tasks,step⟩:=λh=>d2 (hW.1 h).1
  simp [ab d2,ab h]
 simp [d2];refine aa.pure hQu (by simp [Wld.row]) ?_;have e : vb (cD ⟨hh,lk,qs,tasks,step⟩) = vb (ao ⟨hh,lk,qs,tasks,step⟩):=iG ⟨λh=>hW.2 ⟨d2,d1,h⟩,λh=>(hW.1 h).2.2⟩;rw [e];simp
theorem j6 (w : Wld) (hl : ed w<=2 ^ 30) : aj Tryz.prog 66 [.agg w.row] (.one (.c (vb (ao w)) 1)):=by
 refine pci ae Tryz.func66 (λw0 base=>?_);have hSt:=xQ w hl;have hLo:=xS w hl;have hQu:=vX w hl;obtain ⟨nh,n2,n3,n4⟩:=bg hl;obtain ⟨hh,lk,qs,tasks,step⟩:=w;have hle:=aA n4;simp only at hle n2 n4 nh hLo;simp [Wld.row];intro b1
 refine ag eok (λi : Nat=>i<=tasks.length/\∀ t∈tasks.take i,cq t) (λi=>⟨48,0,[(8,.v (.int .i64 i)),(7,.v (.int .i64 tasks.length)),(6,.ro (tasks.map Task.row)),(1,.p 16 b1 0)],
  [(16,.vars b1 39 [.v (.bool hh.shut),.ro (hh.docs.map Doc.row),.ro (hh.subs.map Sub.row),.v (.int .i64 hh.last),.ro (lk.map ak),.ro (qs.map Queue.row),.ro (tasks.map Task.row),.v (.int .i64 step)])]⟩) (λi=>tasks.length - i) 0 (by simp) (by simp) (λi hi=>Ent.refl ?_)
 obtain ⟨hi,htk⟩:=hi;by_cases hlt : i < tasks.length
 ·obtain ⟨t,ht⟩ : ∃ t,tasks[i] = t:=⟨_,rfl⟩
  have hm:=dB n4 hlt;rw [ht] at hm;have hmem : t∈tasks:=by rw [<- ht];exact List.getElem_mem hlt
  simp [hlt,ht,Task.row];intro b7;refine aa.pure (vU t (by omega)) (by simp [Task.row]) ?_;by_cases d1 : cq t
  rotate_left
  ·have h : ¬ ao ⟨hh,lk,qs,tasks,step⟩:=nB (λh=>d1 (h t hmem))
   simp [ab d1,ab h]
  simp [d1];exact Ent.refl ⟨i + 1,⟨by omega,ir hlt htk (by rw [ht];exact d1)⟩,by omega,by simp;exact ah (by omega)⟩
 have hie : i = tasks.length:=by omega
 subst hie;rw [List.take_length] at htk;simp;refine aa.pure (da hh (by omega)) (by simp [Hub.row]) ?_;by_cases c1 : an hh
 rotate_left
 ·have h : ¬ ao ⟨hh,lk,qs,tasks,step⟩:=λh=>c1 h.2.1
  simp [ab c1,ab h]
 simp [c1];refine aa.pure (aZ lk.length 1 4) (by simp) ?_;by_cases c2 : 1<=lk.length/\lk.length<=4
 rotate_left
 ·have h : ¬ ao ⟨hh,lk,qs,tasks,step⟩:=λh=>c2 h.2.2.1
  have c2' : ¬ (1<=(lk.length : Int)/\(lk.length : Int)<=4):=by omega
  simp [ab c2',ab h]
 have c2' : 1<=(lk.length : Int)/\(lk.length : Int)<=4:=by omega
 simp [c2'];by_cases c3 : tasks.length<=10
 rotate_left
 ·have h : ¬ ao ⟨hh,lk,qs,tasks,step⟩:=λh=>c3 h.2.2.2.1
  have c3' : ¬ (tasks.length : Int)<=10:=by omega
  simp [c3',ab h]
 have c3' : (tasks.length : Int)<=10:=by omega
 simp [c3'];refine aa.pure (aZ step 0 1000000) (by simp) ?_;by_cases c4 : 0<=step/\step<=1000000
 rotate_left
 ·have h : ¬ ao ⟨hh,lk,qs,tasks,step⟩:=λh=>c4 h.2.2.2.2.1
  simp [ab c4,ab h]
 simp [c4];refine aa.pure hSt (by simp [Wld.row]) ?_;by_cases d2 : fE ⟨hh,lk,qs,tasks,step⟩
 rotate_left
 ·have h : ¬ ao ⟨hh,lk,qs,tasks,step⟩:=λh=>d2 h.2.2.2.2.2.1
  simp [ab d2,ab h]
 simp [d2];refine aa.pure (hLo c2.1) (by simp [Wld.row]) ?_;by_cases d3 : dY ⟨hh,lk,qs,tasks,step⟩
 rotate_left
 ·have h : ¬ ao ⟨hh,lk,qs,tasks,step⟩:=λh=>d3 h.2.2.2.2.2.2.1
  simp [ab d3,ab h]
 simp [d3];refine aa.pure hQu (by simp [Wld.row]) ?_;have e : vb (cD ⟨hh,lk,qs,tasks,step⟩) = vb (ao ⟨hh,lk,qs,tasks,step⟩):=iG ⟨λh=>⟨htk,c1,c2,c3,c4,d2,d3,h⟩,λh=>h.2.2.2.2.2.2.2⟩;rw [e];simp
theorem AZ (c : Call) (hl : dC c<=2 ^ 30) : aj Tryz.prog 115 [.agg c.row] (.one (.agg c.res)):=by
 refine pci ae Tryz.func115 (λw0 base=>?_);unfold dC at hl;simp [Call.row];intro b1 b2;refine aa.pure (tD c.o (by omega)) (by simp) ?_;simp;intro H1;refine aa.pure (fw c.text (by omega)) (by simp) ?_;simp [Call.res]
theorem xi (a : Answer) (hl : cX a<=2 ^ 30) : aj Tryz.prog 272 [.agg a.row] (.one (.agg a.res)):=by
 refine pci ae Tryz.func272 (λw0 base=>?_);unfold cX at hl;simp [Answer.row];intro b1 b2;refine aa.pure (fw a.text (by omega)) (by simp) ?_;simp;intro H1;refine aa.pure (fV a.list (by omega)) (by simp) ?_;simp [Answer.res]
theorem vk (c : Call) (hl : dC c<=2 ^ 30) : aj Tryz.prog 228 [.agg c.row] (.one (.agg c.res)):=by
 refine pci ae Tryz.func228 (λw0 base=>?_);unfold dC at hl;have h8 : c.text.length * 8<=140737488355328:=by omega
 simp [Call.row];intro b1 b2;refine aa.pure (p6 c.o (by omega)) (by simp) ?_;simp [h8];intros;simp [Call.res]
theorem yE (a : Answer) (hl : cX a<=2 ^ 30) : aj Tryz.prog 263 [.agg a.row] (.one (.agg a.res)):=by
 refine pci ae Tryz.func263 (λw0 base=>?_);unfold cX at hl;have h8 : a.text.length * 8<=140737488355328:=by omega
 simp [Answer.row];intro b1 b2;simp [h8];intros;refine aa.pure (dZ a.list (by omega)) (by simp) ?_;simp [Answer.res]
theorem C1 (t : Task) (hl : eF t<=2 ^ 30) : aj Tryz.prog 164 [.agg t.row] (.one (.agg t.res)):=by
 refine pci ae Tryz.func164 (λw0 base=>?_);obtain ⟨n1,n2⟩:=ln hl;simp [Task.row];intro b1 b2;refine aa.pure (vk t.c n1) (by simp [Call.row]) ?_;simp [Call.res];intro H1 H2;refine aa.pure (yE t.a n2) (by simp [Answer.row]) ?_;simp [Answer.res];intros;simp [Task.res]
theorem zf (l : List Task) (hl : nL eF l<=2 ^ 30) : aj Tryz.prog 173 [.c (.s (l.map Task.row))] (.one (.c (.s (l.map Task.row)) 15)):=by
 refine pci ae Tryz.func173 (λw0 base=>?_);have hle:=aA hl;simp;refine ag eok (λx : Nat × Hd=>x.1<=l.length) (λx=>⟨26,0,[(8,.v (.int .i64 x.1)),(7,.v (.int .i64 l.length)),(6,.ro (l.map Task.row)),(3,.sl 5000 x.2 15 0 x.1)],[(5000,.rows x.2 15 ((l.take x.1).map Task.row) true)]⟩) (λx=>l.length - x.1) (0,none) (by simp) (by simp) (λx hx=>Ent.refl ?_);obtain ⟨i,H⟩:=x;simp only at hx ⊢;by_cases hlt : i < l.length
 ·obtain ⟨n1,n2⟩:=ln (dB hl hlt)
  simp [hlt,Task.row];intro b5;refine aa.pure (AZ l[i].c n1) (by simp [Call.row]) ?_;simp [Call.res];intro H1 H2;refine aa.pure (xi l[i].a n2) (by simp [Answer.row]) ?_;simp [Answer.res];intro H3 H4;have e1 : min i l.length = i:=by omega
  simp [e1];intro b6;refine ⟨by omega,λH2=>Ent.refl ⟨i + 1,by omega,by omega,H2,?_⟩⟩;simp;exact ⟨ah (by omega),cT (f:=Task.row) hlt⟩
 ·have e : l.length = i:=by omega
  simp [hlt];rw [List.take_of_length_le (by simp;omega)];simp [cut,e]
theorem mH (w : Wld) (hl : ed w<=2 ^ 30) : aj Tryz.prog 76 [.agg w.row] (.one (.agg w.res)):=by
 refine pci ae Tryz.func76 (λw0 base=>?_);obtain ⟨nh,n2,n3,n4⟩:=bg hl;obtain ⟨hh,lk,qs,tasks,step⟩:=w;have hle:=aA n4;have hlq:=aA n3;simp only at hle hlq n2 n3 n4 nh;simp [Wld.row];intro b1 b2;refine bE (λx : Hd × Hd × Hd × Hd × Nat=>[(3,.p 48 x.2.2.2.2 0)]) (λx=>[(48,.vars x.2.2.2.2 39 [.v (.bool hh.shut),.sl 129 x.1 5 0 hh.docs.length,.sl 130 x.2.1 6 0 hh.subs.length,.v (.int .i64 hh.last),.sl 176 x.2.2.1 1 0 lk.length,.nil,.sl 224 x.2.2.2.1 15 0 tasks.length,.v (.int .i64 step)]),(129,.rows x.1 5 (hh.docs.map Doc.row) true),(130,.rows x.2.1 6 (hh.subs.map Sub.row) true),(176,.rows x.2.2.1 1 (lk.map ak) true),(224,.rows x.2.2.2.1 15 (tasks.map Task.row) true)]) [1,2] ?_ ?_
 ·refine drw eok mix [0,1,3,4,6,7,9,10] [2,5,8,11,12,13] (.c 8 2 64 191 (.c 8 5 16 175 (.c 8 8 4 171 (.c 8 11 1 170 (.c 8 12 0 170 (.c 8 13 170 0 (.l 8 0) .s) .s) (.c 8 12 0 171 (.c 8 11 1 170 (.c 8 13 170 0 (.l 8 0) .s) .s) .s)) (.c 8 12 0 175 (.c 8 8 4 171 (.c 8 11 1 170 (.c 8 13 170 0 (.l 8 0) .s) .s) .s) .s)) (.c 8 12 0 191 (.c 8 5 16 175 (.c 8 8 4 171 (.c 8 11 1 170 (.c 8 13 170 0 (.l 8 0) .s) .s) .s) .s) .s)) (.c 8 12 0 255 (.c 8 2 64 191 (.c 8 5 16 175 (.c 8 8 4 171 (.c 8 11 1 170 (.c 8 13 170 0 (.l 8 0) .s) .s) .s) .s) .s) .s)) ?_
  simp
  try intros
  repeat' first
   | (refine aa.pure (bP hh nh) (by simp [Hub.row]) ?_;simp [Hub.res];try intros)
   | (refine aa.pure (fw lk (by omega)) (by simp) ?_;simp;try intros)
   | (refine aa.pure (zf tasks n4) (by simp) ?_;simp;try intros)
   | (rw [Trc];refine ⟨?_,?_⟩<;>(try simp)<;>try intros)
 rintro ⟨H1,H2,H3,H4,b3⟩
 simp
 refine ag eok (λx : Nat × Hd=>x.1<=qs.length) (λx=>⟨38,0,[(21,.v (.int .i64 x.1)),(20,.v (.int .i64 qs.length)),(19,.ro (qs.map Queue.row)),(3,.p 48 b3 0),(2,.p 32 b2 0)],
  [(48, .vars b3 39 [.v (.bool hh.shut), .sl 129 H1 5 0 hh.docs.length, .sl 130 H2 6 0 hh.subs.length, .v (.int .i64 hh.last), .sl 176 H3 1 0 lk.length, .sl 5000 x.2 2 0 x.1, .sl 224 H4 15 0 tasks.length, .v (.int .i64 step)]),
   (32,.vars b2 39 [.v (.bool false),.nil,.nil,.v (.int .i64 0),.nil,.nil,.nil,.v (.int .i64 0)]),
   (129,.rows H1 5 (hh.docs.map Doc.row) true),(130,.rows H2 6 (hh.subs.map Sub.row) true),(176,.rows H3 1 (lk.map ak) true),(224,.rows H4 15 (tasks.map Task.row) true),(5000,.rows x.2 2 ((qs.take x.1).map Queue.row) true)]⟩) (λx=>qs.length - x.1) (0,none) (by simp) (by simp) (λx hi=>Ent.refl ?_)
 obtain ⟨i,H⟩:=x;simp only at hi ⊢;by_cases hlt : i < qs.length
 ·have hm:=dB n3 hlt
  unfold dq at hm;have e1 : min i qs.length = i:=by omega
  simp [hlt,Queue.row];intro b5;refine drw eok mix [0,1,2,3,4,5,10] [6,7,8,9,11] (.c 7 6 2 125 (.c 7 7 8 117 (.c 7 8 0 117 (.c 7 9 32 85 (.c 7 11 85 0 (.l 7 0) .s) .s) .s) .s) .s) ?_;simp
  try intros
  refine aa.pure (fw qs[i].list (by omega)) (by simp) ?_;simp
  try intros
  simp [e1];refine ⟨by omega,λH'=>Ent.refl ⟨i + 1,by omega,by omega,H',?_⟩⟩;simp;exact ⟨ah (by omega),cT (f:=Queue.row) hlt⟩
 have hm : i = qs.length:=by omega
 subst hm;simp [Wld.res]
theorem pX (w : Wld) (hl : ed w<=2 ^ 30) : aj Tryz.prog 68 [.agg w.row] (.one (.agg w.res)):=by
 refine pci ae Tryz.func68 (λw0 base=>?_);obtain ⟨nh,n2,n3,n4⟩:=bg hl;obtain ⟨hh,lk,qs,tasks,step⟩:=w;have hle:=aA n4;have hlq:=aA n3;simp only at hle hlq n2 n3 n4 nh;have h8 : lk.length * 8<=140737488355328:=by omega
 simp [Wld.row];intro b1 b2;refine bE (λx : Hd × Hd × Hd × Nat=>[(3,.p 48 x.2.2.2 0)]) (λx=>[(48,.vars x.2.2.2 39 [.v (.bool hh.shut),.sl 161 x.1 5 0 hh.docs.length,.sl 162 x.2.1 6 0 hh.subs.length,.v (.int .i64 hh.last),.sl 176 x.2.2.1 1 0 lk.length,.nil,.nil,.v (.int .i64 step)]),(161,.rows x.1 5 (hh.docs.map Doc.row) true),(162,.rows x.2.1 6 (hh.subs.map Sub.row) true),(176,.rows x.2.2.1 1 (lk.map ak) true)]) [1,2] ?_ ?_
 ·refine drw eok mix [0,1,4,5,7,8] [2,3,6,9,10,11] (.c 6 2 16 47 (.c 6 3 0 47 (.c 6 6 4 43 (.c 6 9 1 42 (.c 6 10 0 42 (.c 6 11 42 0 (.l 6 0) .s) .s) (.c 6 10 0 43 (.c 6 9 1 42 (.c 6 11 42 0 (.l 6 0) .s) .s) .s)) (.c 6 10 0 47 (.c 6 6 4 43 (.c 6 9 1 42 (.c 6 11 42 0 (.l 6 0) .s) .s) .s) .s)) (.c 6 10 0 47 (.c 6 3 0 47 (.c 6 6 4 43 (.c 6 9 1 42 (.c 6 11 42 0 (.l 6 0) .s) .s) .s) .s) .s)) (.c 6 3 0 63 (.c 6 2 16 47 (.c 6 6 4 43 (.c 6 9 1 42 (.c 6 10 0 42 (.c 6 11 42 0 (.l 6 0) .s) .s) (.c 6 10 0 43 (.c 6 9 1 42 (.c 6 11 42 0 (.l 6 0) .s) .s) .s)) (.c 6 10 0 47 (.c 6 6 4 43 (.c 6 9 1 42 (.c 6 11 42 0 (.l 6 0) .s) .s) .s) .s)) (.c 6 10 0 63 (.c 6 2 16 47 (.c 6 6 4 43 (.c 6 9 1 42 (.c 6 11 42 0 (.l 6 0) .s) .s) .s) .s) .s)) (.c 6 10 0 63 (.c 6 2 16 47 (.c 6 3 0 47 (.c 6 6 4 43 (.c 6 9 1 42 (.c 6 11 42 0 (.l 6 0) .s) .s) .s) .s) (.c 6 3 0 63 (.c 6 2 16 47 (.c 6 6 4 43 (.c 6 9 1 42 (.c 6 11 42 0 (.l 6 0) .s) .s) .s) .s) .s)) .s))) ?_
  simp
  try intros
  repeat' first
   | (refine aa.pure (bT hh nh) (by simp [Hub.row]) ?_;simp [Hub.res,h8];try intros)
   | (rw [Trc];refine ⟨?_,?_⟩<;>(try simp [h8])<;>try intros)
 rintro ⟨H1,H2,H3,b3⟩
 simp
 refine ag eok (λx : Nat × Hd=>x.1<=qs.length) (λx=>⟨54,0,[(21,.v (.int .i64 x.1)),(20,.v (.int .i64 qs.length)),(19,.ro (qs.map Queue.row)),(1,.p 16 b1 0),(3,.p 48 b3 0),(2,.p 32 b2 0)],
  [(48, .vars b3 39 [.v (.bool hh.shut), .sl 161 H1 5 0 hh.docs.length, .sl 162 H2 6 0 hh.subs.length, .v (.int .i64 hh.last), .sl 176 H3 1 0 lk.length, .sl 5000 x.2 2 0 x.1, .nil, .v (.int .i64 step)]),
   (32,.vars b2 39 [.v (.bool false),.nil,.nil,.v (.int .i64 0),.nil,.nil,.nil,.v (.int .i64 0)]),
   (16,.vars b1 39 [.v (.bool hh.shut),.ro (hh.docs.map Doc.row),.ro (hh.subs.map Sub.row),.v (.int .i64 hh.last),.ro (lk.map ak),.ro (qs.map Queue.row),.ro (tasks.map Task.row),.v (.int .i64 step)]),
   (161,.rows H1 5 (hh.docs.map Doc.row) true),(162,.rows H2 6 (hh.subs.map Sub.row) true),(176,.rows H3 1 (lk.map ak) true),(5000,.rows x.2 2 ((qs.take x.1).map Queue.row) true)]⟩) (λx=>qs.length - x.1) (0,none) (by simp) (by simp) (λx hi=>Ent.refl ?_)
 obtain ⟨i,H⟩:=x;simp only at hi ⊢;by_cases hlt : i < qs.length
 ·have hm:=dB n3 hlt
  unfold dq at hm;have e1 : min i qs.length = i:=by omega
  have q8 : qs[i].list.length * 8<=140737488355328:=by omega
  simp [hlt,Queue.row];intro b5;refine drw eok mix [0,1,2,3,5,6,11] [4,7,8,9,10,12] (.c 7 4 0 127 (.c 7 7 2 125 (.c 7 8 8 117 (.c 7 9 0 117 (.c 7 10 32 85 (.c 7 12 85 0 (.l 7 0) .s) .s) .s) .s) .s) .s) ?_;simp [q8]
  try intros
  simp [e1];refine ⟨by omega,λH'=>Ent.refl ⟨i + 1,by omega,by omega,H',?_⟩⟩;simp;exact ⟨ah (by omega),cT (f:=Queue.row) hlt⟩
 have hm : i = qs.length:=by omega
 subst hm;simp
 refine ag eok (λx : Nat × Hd=>x.1<=tasks.length) (λx=>⟨54,0,[(41,.v (.int .i64 x.1)),(40,.v (.int .i64 tasks.length)),(39,.ro (tasks.map Task.row)),(3,.p 48 b3 0),(2,.p 32 b2 0)],
  [(48, .vars b3 39 [.v (.bool hh.shut), .sl 161 H1 5 0 hh.docs.length, .sl 162 H2 6 0 hh.subs.length, .v (.int .i64 hh.last), .sl 176 H3 1 0 lk.length, .sl 5000 H 2 0 qs.length, .sl 5001 x.2 15 0 x.1, .v (.int .i64 step)]),
   (32,.vars b2 39 [.v (.bool false),.nil,.nil,.v (.int .i64 0),.nil,.nil,.nil,.v (.int .i64 0)]),
   (161,.rows H1 5 (hh.docs.map Doc.row) true),(162,.rows H2 6 (hh.subs.map Sub.row) true),(176,.rows H3 1 (lk.map ak) true),(5000,.rows H 2 (qs.map Queue.row) true),(5001,.rows x.2 15 ((tasks.take x.1).map Task.row) true)]⟩) (λx=>tasks.length - x.1) (0,none) (by simp) (by simp) (λx hi=>Ent.refl ?_)
 obtain ⟨i,H'⟩:=x;simp only at hi ⊢;by_cases hlt : i < tasks.length
 ·have hm:=dB n4 hlt
  have e1 : min i tasks.length = i:=by omega
  simp [hlt,Task.row];intro b7;refine drw eok mix [0,1,2,6] [3,4,5,7] (.c 4 3 2 13 (.c 4 4 0 13 (.c 4 5 4 9 (.c 4 7 9 0 (.l 4 0) .s) .s) .s) .s) ?_;simp
  try intros
  refine aa.pure (C1 tasks[i] hm) (by simp [Task.row]) ?_;simp [Task.res]
  try intros
  simp [e1];refine ⟨by omega,λH''=>Ent.refl ⟨i + 1,by omega,by omega,H'',?_⟩⟩;simp;exact ⟨ah (by omega),cT (f:=Task.row) hlt⟩
 have hm : i = tasks.length:=by omega
 subst hm;simp [Wld.res]
end Go.Proofs.YtoldjebobgocpaaGreat
