import Derived.Test.YtoldjebobgocpaaGreatPP
import Derived.Test.YtoldjebobgocpaaGreatPL
import Derived.Test.YtoldjebobgocpaaGreatPM
import Derived.Test.YtoldjebobgocpaaGreatPO
import Derived.Test.YtoldjebobgocpaaGreatPK
import Derived.Test.YtoldjebobgocpaaGreatPN
import Derived.Test.YtoldjebobgocpaaGreatMF
import Derived.Test.YtoldjebobgocpaaGreatMG
import Derived.Test.YtoldjebobgocpaaGreatPA
import Derived.Test.YtoldjebobgocpaaGreatPB
import Derived.Test.YtoldjebobgocpaaGreatPD
namespace Go.Proofs.YtoldjebobgocpaaGreat
open Go.AM
set_option maxRecDepth 20000
set_option maxHeartbeats 12800000
theorem tI {l:List Queue} (hp:l.Pairwise jG) {name:ByteArray} (i:Nat) (hi:i<l.length) (h:l[i].doc=name):aL name l=i:=by
 have hon:=λ{k:Nat} h1 h2=>iS (name:=name) (l:=l) (k:=k) h1 h2
 rcases Nat.lt_trichotomy (aL name l) i with hlt|e|hgt
 ·have h1:=List.pairwise_iff_getElem.1 hp (aL name l) i (by omega) hi hlt
  have h2:=(hon (Nat.le_refl _) (by omega)).1 (by unfold jG at h1;rw [h] at h1;exact h1);omega
 ·exact e
 ·have:=(hon (by omega) hi).2 hgt
  rw [h] at this;exact absurd this (lS name)
theorem um (w:Wld) (hl:du w<=2 ^ 30) (k:Nat) (hy:(cr w k).2=true):dD Tryz.prog 15 [.agg w.row,.c (vi k)] (λrr=>rr=.tup [.agg (cr w k).1.res,.c (.v (.bool true)) 1]):=by
 have c0:ap w/\¬ w.step=1000000/\(0<=(k:Int)/\(k:Int)<=(w.tasks.length:Int) - 1):=Classical.byContradiction λc=>by rw [io c] at hy;simp at hy
 obtain ⟨c1,hs,-,hk⟩:=c0;have hk:k<w.tasks.length:=by omega
 have hab:=(iL c1 hs hk).1 hy;have hat:=ji c1 hs hk;have hwo:=eD w (by omega);have hcp:=nq w (by omega);have hao:=oN w (by omega) c1 k hk;obtain ⟨nh,n2,n3,n4⟩:=a9 hl;have hle:=aB n4;have hlq:=aB n3;have hhb:=(dm c1.2.1).1;have htk:=(c1.1 _ (List.getElem_mem hk))
 obtain ⟨t,ht⟩:∃ t,w.tasks[k]=t:=⟨_,rfl⟩;rw [ht] at htk hab hat hao;have hm:=λg=>iT (f:=Task.row) hk ht g
 have hs1:=iB t.c.doc c1.2.2.1.1;have hdsz:=htk.1.2.1;have ew:Go.IntKind.i64.wrap (w.step+1)=w.step+1:=Go.IntWalk.i64_in _ (by have:=c1.2.2.2.2.1;omega);rw [hat] at hy ⊢;refine zd ae Tryz.func15 (by kernel_rfl) rfl rfl rfl (Nat.le_of_ble_eq_true rfl) (λw0 base o=>?_);simp [Wld.row];intro b2 b4;refine aa.ro hwo (by simp [Wld.row]) ?_;simp [c1];refine aa.ro hao (by simp [Wld.row]) ?_;simp [hs,hab];refine aa.pure hcp (by simp [Wld.row]) ?_;simp [Wld.res,hk];intro H1 H2 H3 H4 H5 b6;refine am.quiet eok mix (by kernel_rfl) ?_;simp [hk,ht,Task.row];refine ⟨_,_,l7 t.c.doc (by omega) w.locks.length (by omega) (by omega),by simp,?_⟩;simp;have hs2:=hs1.2;have hdo:=Az w.h (by omega) t.c (by have:=ir htk.1;omega);by_cases p0:t.pc=0
 ·simp [p0,hk,ht,Task.row]
  refine aa.ro (aP t.c.kind) (by simp) ?_;by_cases d:aJ t.c.kind
  ·rw [eV p0 d (hab.1 ⟨p0,d⟩)]
   simp [d,hs2,hm,hk,Task.row,ew]
  ·rw [eW p0 d]
   simp [ab d,hk,ht,Task.row,p0];generalize hR:fDo w.h t.c=R at hdo;obtain ⟨h',a'⟩:=R;refine inl ae Tryz.func79 50000 (λw3 F3=>?_);simp [hk];refine am.freeze 321 (H:=H1) (sz:=5) (rs:=w.h.docs.map Doc.row) (own:=true) (by simp) ?_;simp;refine am.freeze 322 (H:=H2) (sz:=6) (rs:=w.h.subs.map Sub.row) (own:=true) (by simp) ?_;simp;refine drw eok mix [0,1,2,3,4,5,6,7,8,9,14,15,17,18] [10,11,12,13,16,19] (.c 14 10 272 16111 (.c 14 11 0 16111 (.c 14 12 0 16111 (.c 14 13 0 16111 (.c 14 16 12004 4107 (.c 14 19 4105 2 (.l 14 2) .s) .s) .s) .s) .s) .s) ?_;simp [hk,ht,Task.row]
   try intros
   refine dA hdo (by simp [Hub.row,Call.row]) ?_;rintro _ rfl;simp [Hub.res,Answer.res,hk,Task.row,hm,ce]
   try intros
   simp [ew,bm,ix,hR,Task.row]
 by_cases p1:t.pc=1
 ·rw [dQ p1]
  simp [p1,hs2,hk,ht,Task.row];have hdoc:=dL w.h (by omega) t.c.doc;obtain ⟨q0,hq0⟩:∃ q:Prop,q=(¬ t.c.kind=2\/w.h.shut=true\/az w.h.docs t.c.doc<0):=⟨_,rfl⟩;by_cases q:q0
  ·rw [gd (by rw [<- hq0];exact q)]
   refine bL (λ_:Unit=>[(89,.v (.bool (dc q0)))]) (λ_=>[]) [1,4,6,7] ?_ ?_
   ·by_cases q1:t.c.kind=2
    ·cases q2:w.h.shut with
     | true =>
       have hq:q0:=by rw [hq0];exact .inr (.inl q2)
       refine am.quiet eok mix (by kernel_rfl) ?_;simp [hk,ht,Task.row,q1,hq]
     | false =>
       have hq:q0 ↔ az w.h.docs t.c.doc<0:=by rw [hq0,q1,q2];simp
       refine am.quiet eok mix (by kernel_rfl) ?_;simp [hk,ht,Task.row,q1];refine ⟨_,_,hdoc,by simp [Hub.row,q2],?_⟩;simp [hq]
    ·have hq:q0:=by rw [hq0];exact .inl q1
     refine am.quiet eok mix (by kernel_rfl) ?_;simp [hk,ht,Task.row,q1,hq]
   intro _;simp [q];generalize hR:fDo w.h t.c=R at hdo;obtain ⟨h',a'⟩:=R;refine inl ae Tryz.func79 50000 (λw3 F3=>?_);simp [hk];refine am.freeze 321 (H:=H1) (sz:=5) (rs:=w.h.docs.map Doc.row) (own:=true) (by simp) ?_;simp;refine am.freeze 322 (H:=H2) (sz:=6) (rs:=w.h.subs.map Sub.row) (own:=true) (by simp) ?_;simp;refine drw eok mix [0,1,2,3,4,5,6,7,8,9,14,15,17,18] [10,11,12,13,16,19] (.c 14 10 272 16111 (.c 14 11 0 16111 (.c 14 12 0 16111 (.c 14 13 0 16111 (.c 14 16 12004 4107 (.c 14 19 4105 2 (.l 14 2) .s) .s) .s) .s) .s) .s) ?_;simp [hk,ht,Task.row]
   try intros
   refine dA hdo (by simp [Hub.row,Call.row]) ?_;rintro _ rfl;simp [Hub.res,Answer.res,hk,Task.row,hm,ce]
   try intros
   simp [ew,bm,ix,hR,Task.row]
  have q':¬ (¬ t.c.kind=2\/w.h.shut=true\/az w.h.docs t.c.doc<0):=by rw [<- hq0];exact q
  have hal:=kS t.c.doc w.queues;have hon:=λ{k:Nat} h1 h2=>iS (name:=t.c.doc) (l:=w.queues) (k:=k) h1 h2
  have hpw:=(lU.1 c1.2.2.2.2.2.2.2).ord;have hsame:∀ i,∀ hi:i<w.queues.length,w.queues[i].doc=t.c.doc->aL t.c.doc w.queues=i:=tI hpw;have hi1:∀ x:Int,ak x=[CD.v (.int .i64 x)]:=λ_=>rfl
  rcases ch w.queues t.c.doc with ⟨i,hi,eq,hd⟩|eq
  ·have ha:=hsame i hi hd
   by_cases fl:w.queues[i].list.length=2
   ·rw [ge q' hi eq fl]
    refine bL (λ_:Unit=>[(89,.v (.bool (dc q0)))]) (λ_=>[]) [1,4,6,7] ?_ ?_
    ·by_cases q1:t.c.kind=2
     ·cases q2:w.h.shut with
      | true =>
        have hq:q0:=by rw [hq0];exact .inr (.inl q2)
        refine am.quiet eok mix (by kernel_rfl) ?_;simp [hk,ht,Task.row,q1,hq]
      | false =>
        have hq:q0 ↔ az w.h.docs t.c.doc<0:=by rw [hq0,q1,q2];simp
        refine am.quiet eok mix (by kernel_rfl) ?_;simp [hk,ht,Task.row,q1];refine ⟨_,_,hdoc,by simp [Hub.row,q2],?_⟩;simp [hq]
     ·have hq:q0:=by rw [hq0];exact .inl q1
      refine am.quiet eok mix (by kernel_rfl) ?_;simp [hk,ht,Task.row,q1,hq]
    intro _;simp [ab q];refine inl ae Tryz.func81 30000 (λw3 F3=>?_);simp [hk,ht,Task.row]
    refine ag eok (λm:Nat=>m<=aL t.c.doc w.queues) (λm=>⟨96,30000,[(6,.v (.int .i64 m)),(5,.v (.string t.c.doc)),(0,.p 96 b6 0),(1,.v (.int .i64 k))],
     (324,.rows H3 1 ((w.locks.map ak).set (aQ t.c.doc w.locks.length) [.v (.int .i64 (-1))]) true)::(96,.vars b6 39 [.v (.bool w.h.shut),.sl 321 H1 5 0 w.h.docs.length,.sl 322 H2 6 0 w.h.subs.length,.v (.int .i64 w.h.last),.sl 324 H3 1 0 w.locks.length,.sl 325 H4 2 0 w.queues.length,.sl 326 H5 15 0 w.tasks.length,.v (.int .i64 w.step)]) ::  (326,.rows H5 15 (w.tasks.map Task.row) true)::(325,.rows H4 2 (w.queues.map Queue.row) true)::(322,.rows H2 6 (w.h.subs.map Sub.row) true)::(321,.rows H1 5 (w.h.docs.map Doc.row) true)::(64,.vars b4 39 [.v (.bool false),.nil,.nil,.v (.int .i64 0),.nil,.nil,.nil,.v (.int .i64 0)]) ::  phs o⟩) (λm=>w.queues.length - m) 0 (by simp) (by simp) (λm hmm=>Ent.refl ?_)
    by_cases hlt:m<w.queues.length
    rotate_left
    ·exfalso;omega
    obtain ⟨x,hx⟩:∃ x,w.queues[m]=x:=⟨_,rfl⟩;have hiff:=hon hmm hlt;rw [hx] at hiff;simp [hlt,hx,Queue.row];by_cases s:sLt x.doc t.c.doc
    ·simp [s]
     exact Ent.refl ⟨m+1,by have:=hiff.1 s;omega,by omega,by simp;exact ah (by omega)⟩
    have hma:m=i:=by
     have:¬ m<aL t.c.doc w.queues:=λh=>s (hiff.2 h)
     omega
    subst hma;have hmne:¬ (m:Int)=w.queues.length:=by omega
    rw [hx] at fl hd;simp [hmne,hlt,hx,hd,fl,Queue.row,ab (lS t.c.doc),hk,hm,ce,bm,ew,Task.row,hi1]
   ·have hqa:=(Classical.byContradiction (p:=eY w.h w.queues i) λhn=>eg hi (fh hi hn) c1.2.2.2.2.2.2.2) hi
    have hpos:0<w.queues[i].list.length:=hqa.2.1.1;have hle2:=hqa.2.1.2;have hrow:∀ d,jD (w.queues.map Queue.row) i 1 d=(w.queues.map Queue.row).set i [.v (.string w.queues[i].doc),d]:=λd=>iT (f:=Queue.row) hi rfl _
    rw [gc q' hi eq fl]
    refine am.weak (⟨125,0,[(1,.v (.int .i64 k)),(4,.p 64 b4 0),(6,.p 96 b6 0),(7,.e 326 H5 15 k 0)],
     (324,.rows H3 1 ((w.locks.map ak).set (aQ t.c.doc w.locks.length) [.v (.int .i64 (-1))]) true)::(96,.vars b6 39 [.v (.bool w.h.shut),.sl 321 H1 5 0 w.h.docs.length,.sl 322 H2 6 0 w.h.subs.length,.v (.int .i64 w.h.last),.sl 324 H3 1 0 w.locks.length,.sl 325 H4 2 0 w.queues.length,.sl 326 H5 15 0 w.tasks.length,.v (.int .i64 w.step)])::(326,.rows H5 15 (w.tasks.map Task.row) true)::(325,.rows H4 2 (w.queues.map Queue.row) true)::(322,.rows H2 6 (w.h.subs.map Sub.row) true)::(321,.rows H1 5 (w.h.docs.map Doc.row) true)::(64,.vars b4 39 [.v (.bool false),.nil,.nil,.v (.int .i64 0),.nil,.nil,.nil,.v (.int .i64 0)])::phs o⟩) (by simp) ?_
    refine am.open (λ_ h=>h) (k:=325) (i:=i) (j:=1) (k':=60000) (sz':=1) (sz:=2) (H:=H4) (rows:=w.queues.map Queue.row) (srows:=w.queues[i].list.map ak) (row:=w.queues[i].row) (by simp) (by simp [hi]) rfl (by simp) (by decide) (by simp [ak]) (by simp [ASt.quiet,qT,qH,AV.q,AV.qL,AObj.q]) (λG=>?_);simp only [hrow];refine bL (λ_:Unit=>[(89,.v (.bool (dc q0)))]) (λ_=>[]) [1,4,6,7] ?_ ?_
    ·by_cases q1:t.c.kind=2
     ·cases q2:w.h.shut with
      | true =>
        have hq:q0:=by rw [hq0];exact .inr (.inl q2)
        refine am.quiet eok mix (by kernel_rfl) ?_;simp [hk,ht,Task.row,q1,hq]
      | false =>
        have hq:q0 ↔ az w.h.docs t.c.doc<0:=by rw [hq0,q1,q2];simp
        refine am.quiet eok mix (by kernel_rfl) ?_;simp [hk,ht,Task.row,q1];refine ⟨_,_,hdoc,by simp [Hub.row,q2],?_⟩;simp [hq]
     ·have hq:q0:=by rw [hq0];exact .inl q1
      refine am.quiet eok mix (by kernel_rfl) ?_;simp [hk,ht,Task.row,q1,hq]
    intro _;simp [ab q];refine inl ae Tryz.func81 30000 (λw3 F3=>?_);simp [hk,ht,Task.row]
    refine ag eok (λm:Nat=>m<=aL t.c.doc w.queues) (λm=>⟨96,30000,[(6,.v (.int .i64 m)),(5,.v (.string t.c.doc)),(0,.p 96 b6 0),(1,.v (.int .i64 k))],
     (324,.rows H3 1 ((w.locks.map ak).set (aQ t.c.doc w.locks.length) [.v (.int .i64 (-1))]) true)::(96,.vars b6 39 [.v (.bool w.h.shut),.sl 321 H1 5 0 w.h.docs.length,.sl 322 H2 6 0 w.h.subs.length,.v (.int .i64 w.h.last),.sl 324 H3 1 0 w.locks.length,.sl 325 H4 2 0 w.queues.length,.sl 326 H5 15 0 w.tasks.length,.v (.int .i64 w.step)])::(60000,.rows G 1 (w.queues[i].list.map ak) true)::(326,.rows H5 15 (w.tasks.map Task.row) true)::(325,.rows H4 2 ((w.queues.map Queue.row).set i [.v (.string w.queues[i].doc),.h 60000 G 1 w.queues[i].list.length]) true)::(322,.rows H2 6 (w.h.subs.map Sub.row) true)::(321,.rows H1 5 (w.h.docs.map Doc.row) true)::(64,.vars b4 39 [.v (.bool false),.nil,.nil,.v (.int .i64 0),.nil,.nil,.nil,.v (.int .i64 0)]) ::  phs o⟩) (λm=>w.queues.length - m) 0 (by simp) (by simp) (λm hmm=>Ent.refl ?_)
    by_cases hlt:m<w.queues.length
    rotate_left
    ·exfalso;omega
    by_cases hmi:m=i
    rotate_left
    ·have hne:¬ i=m:=λh=>hmi h.symm
     have s:sLt w.queues[m].doc t.c.doc:=(hon hmm hlt).2 (by omega);simp [hlt,Queue.row,hne,s];exact Ent.refl ⟨m+1,by omega,by omega,by simp;exact ah (by omega)⟩
    subst hmi;have hmne:¬ (m:Int)=w.queues.length:=by omega
    have fl':¬ (w.queues[m].list.length:Int)=2:=by omega
    simp [hlt,hd,ab (lS t.c.doc),hmne,fl'];refine drw eok mix [0,1,2,3,4,5,6,7,8,9,10,11,12,13,16,17] [14,15,18] (.c 16 14 4 65531 (.c 16 15 8 65523 (.c 16 18 65521 2 (.l 16 2) .s) .s) .s) ?_;simp [hlt,hpos,ce]
    try intros
    simp [Queue.row,hk,hm,bm,ew,Task.row,hi1];omega
  ·rw [gS q' eq]
   refine am.weak (⟨125,0,[(1,.v (.int .i64 k)),(4,.p 64 b4 0),(6,.p 96 b6 0),(7,.e 326 H5 15 k 0)],
    (324,.rows H3 1 ((w.locks.map ak).set (aQ t.c.doc w.locks.length) [.v (.int .i64 (-1))]) true)::(96,.vars b6 39 [.v (.bool w.h.shut),.sl 321 H1 5 0 w.h.docs.length,.sl 322 H2 6 0 w.h.subs.length,.v (.int .i64 w.h.last),.sl 324 H3 1 0 w.locks.length,.sl 325 H4 2 0 w.queues.length,.sl 326 H5 15 0 w.tasks.length,.v (.int .i64 w.step)])::(326,.rows H5 15 (w.tasks.map Task.row) true)::(325,.rows H4 2 (w.queues.map Queue.row) true)::(322,.rows H2 6 (w.h.subs.map Sub.row) true)::(321,.rows H1 5 (w.h.docs.map Doc.row) true)::(64,.vars b4 39 [.v (.bool false),.nil,.nil,.v (.int .i64 0),.nil,.nil,.nil,.v (.int .i64 0)])::phs o⟩) (by simp) ?_
   refine bL (λ_:Unit=>[(89,.v (.bool (dc q0)))]) (λ_=>[]) [1,4,6,7] ?_ ?_
   ·by_cases q1:t.c.kind=2
    ·cases q2:w.h.shut with
     | true =>
       have hq:q0:=by rw [hq0];exact .inr (.inl q2)
       refine am.quiet eok mix (by kernel_rfl) ?_;simp [hk,ht,Task.row,q1,hq]
     | false =>
       have hq:q0 ↔ az w.h.docs t.c.doc<0:=by rw [hq0,q1,q2];simp
       refine am.quiet eok mix (by kernel_rfl) ?_;simp [hk,ht,Task.row,q1];refine ⟨_,_,hdoc,by simp [Hub.row,q2],?_⟩;simp [hq]
    ·have hq:q0:=by rw [hq0];exact .inl q1
     refine am.quiet eok mix (by kernel_rfl) ?_;simp [hk,ht,Task.row,q1,hq]
   intro _;simp [ab q];refine fm ae Tryz.func81 (by kernel_rfl) rfl rfl rfl (Nat.le_of_ble_eq_true rfl) 30000 rfl (by simp) ?_;simp [hk,ht,Task.row]
   refine ag eok (λm:Nat=>m<=aL t.c.doc w.queues) (λm=>⟨96,30000,[(6,.v (.int .i64 m)),(5,.v (.string t.c.doc)),(0,.p 96 b6 0),(1,.v (.int .i64 k))],
    (324,.rows H3 1 ((w.locks.map ak).set (aQ t.c.doc w.locks.length) [.v (.int .i64 (-1))]) true)::(96,.vars b6 39 [.v (.bool w.h.shut),.sl 321 H1 5 0 w.h.docs.length,.sl 322 H2 6 0 w.h.subs.length,.v (.int .i64 w.h.last),.sl 324 H3 1 0 w.locks.length,.sl 325 H4 2 0 w.queues.length,.sl 326 H5 15 0 w.tasks.length,.v (.int .i64 w.step)]) ::  (326,.rows H5 15 (w.tasks.map Task.row) true)::(325,.rows H4 2 (w.queues.map Queue.row) true)::(322,.rows H2 6 (w.h.subs.map Sub.row) true)::(321,.rows H1 5 (w.h.docs.map Doc.row) true)::(64,.vars b4 39 [.v (.bool false),.nil,.nil,.v (.int .i64 0),.nil,.nil,.nil,.v (.int .i64 0)]) ::  phs o⟩) (λm=>w.queues.length - m) 0 (by simp) (by simp) (λm hmm=>Ent.refl ?_)
   have hnone:∀ j,∀ hj:j<w.queues.length,¬ w.queues[j].doc=t.c.doc:=by
    rcases e8 (λq:Queue=>q.doc=t.c.doc) w.queues with ⟨j,hj,e,-⟩|⟨-,hn⟩
    ·have e':bE w.queues t.c.doc=j:=e
     omega
    ·exact hn
   generalize aL t.c.doc w.queues=a at hal hon hmm;by_cases hlt:m<w.queues.length
   ·obtain ⟨x,hx⟩:∃ x,w.queues[m]=x:=⟨_,rfl⟩
    have hiff:=hon hmm hlt;have hxn:=hnone m hlt;rw [hx] at hiff hxn;simp [hlt,hx,Queue.row];by_cases s:sLt x.doc t.c.doc
    ·simp [s]
     exact Ent.refl ⟨m+1,by have:=hiff.1 s;omega,by omega,by simp;exact ah (by omega)⟩
    have hka:m=a:=by
     have:¬ m<a:=λh=>s (hiff.2 h)
     omega
    subst hka;have hmn:min m w.queues.length=m:=by omega
    have hmne:¬ (m:Int)=w.queues.length:=by omega
    simp [ab s,hmne,hxn,hlt,hx,Queue.row];intro b65;refine gi uf (by decide) (n:=w.queues.length) (rows:=w.queues.map Queue.row) (row:=[.v (.string t.c.doc),.s []]) (k:=325) (kv:=31024) (own:=true) (ownv:=true) (i:=m) (by simp) (by simp) (by simp) (by decide) (by simp;try omega) (by simp;omega) (λH6=>?_);obtain ⟨Z,hZ⟩:∃ Z,Z=(w.queues.map Queue.row).take m++[.v (.string t.c.doc),.s []]::(w.queues.map Queue.row).drop m:=⟨_,rfl⟩;have hZl:Z.length=w.queues.length+1:=by subst hZ;simp;try omega
    have hZm:m<Z.length:=by omega
    have hZe:Z[m]=[.v (.string t.c.doc),.s []]:=by subst hZ;rw [List.getElem_append_right (by rw [List.length_take];exact Nat.min_le_left _ _)];simp [Nat.min_eq_left hal]
    have hZs:∀ d,jD Z m 1 d=Z.set m [.v (.string t.c.doc),d]:=λd=>by have:=iT (f:=λx:List CD=>x) hZm hZe (λrow=>row.set 1 d);rw [List.map_id'] at this;exact this
    have hZt:∀ r,Z.set m r=(w.queues.map Queue.row).take m++r::(w.queues.map Queue.row).drop m:=λr=>by subst hZ;rw [List.set_append_right _ _ (by rw [List.length_take];exact Nat.min_le_left _ _)];simp [Nat.min_eq_left hal]
    rw [<- hZ];have hml:(m:Int)<(w.queues.length:Int)+1:=by omega
    have hml2:m<w.queues.length+1:=by omega
    simp [hZl,hZe,hml,hml2]
    refine am.weak (⟨96,30000,[(6,.v (.int .i64 (m:Nat))),(0,.p 96 b6 0),(1,.v (.int .i64 k))],
     (324,.rows H3 1 ((w.locks.map ak).set (aQ t.c.doc w.locks.length) [.v (.int .i64 (-1))]) true)::(96,.vars b6 39 [.v (.bool w.h.shut),.sl 321 H1 5 0 w.h.docs.length,.sl 322 H2 6 0 w.h.subs.length,.v (.int .i64 w.h.last),.sl 324 H3 1 0 w.locks.length,.sl 325 H6 2 0 (w.queues.length+1),.sl 326 H5 15 0 w.tasks.length,.v (.int .i64 w.step)])::(326,.rows H5 15 (w.tasks.map Task.row) true)::(325,.rows H6 2 Z true)::(322,.rows H2 6 (w.h.subs.map Sub.row) true)::(321,.rows H1 5 (w.h.docs.map Doc.row) true)::(64,.vars b4 39 [.v (.bool false),.nil,.nil,.v (.int .i64 0),.nil,.nil,.nil,.v (.int .i64 0)])::phs o⟩) (by simp) ?_
    refine am.open (λ_ h=>h) (k:=325) (i:=m) (j:=1) (k':=60000) (sz':=1) (sz:=2) (H:=H6) (rows:=Z) (srows:=[]) (row:=[.v (.string t.c.doc),.s []]) (by simp) (by rw [List.getElem?_eq_getElem hZm,hZe]) rfl (by simp) (by decide) (by simp) (by simp [ASt.quiet,qT,qH,AV.q,AV.qL,AObj.q]) (λG=>?_);simp only [hZs];refine drw eok mix [0,1,2,3,4,5,6,7,8,9,10,11,12,13,16,17] [14,15,18] (.c 16 14 4 65531 (.c 16 15 8 65523 (.c 16 18 65521 2 (.l 16 2) .s) .s) .s) ?_;simp [hZl,hml,hml2,ce,JD]
    try intros
    simp [hk,hm,bm,ew,Task.row,hi1,hZt,Queue.row]
    all_goals rw [List.take_of_length_le (by simp),List.drop_eq_nil_of_le (by simp)]
   have hka:m=w.queues.length:=by omega
   have hka2:a=w.queues.length:=by omega
   subst hka2;subst hka;simp;intro b65;refine gi uf (by decide) (n:=w.queues.length) (rows:=w.queues.map Queue.row) (row:=[.v (.string t.c.doc),.s []]) (k:=325) (kv:=31024) (own:=true) (ownv:=true) (i:=w.queues.length) (by simp) (by simp) (by simp) (by decide) (by simp;try omega) (by simp;omega) (λH6=>?_);obtain ⟨Z,hZ⟩:∃ Z,Z=(w.queues.map Queue.row).take w.queues.length++[.v (.string t.c.doc),.s []]::(w.queues.map Queue.row).drop w.queues.length:=⟨_,rfl⟩;have hZl:Z.length=w.queues.length+1:=by subst hZ;simp;try omega
   have hZm:w.queues.length<Z.length:=by omega
   have hZe:Z[w.queues.length]=[.v (.string t.c.doc),.s []]:=by subst hZ;rw [List.getElem_append_right (by rw [List.length_take];exact Nat.min_le_left _ _)];simp [Nat.min_eq_left hal]
   have hZs:∀ d,jD Z w.queues.length 1 d=Z.set w.queues.length [.v (.string t.c.doc),d]:=λd=>by have:=iT (f:=λx:List CD=>x) hZm hZe (λrow=>row.set 1 d);rw [List.map_id'] at this;exact this
   have hZt:∀ r,Z.set w.queues.length r=(w.queues.map Queue.row).take w.queues.length++r::(w.queues.map Queue.row).drop w.queues.length:=λr=>by subst hZ;rw [List.set_append_right _ _ (by rw [List.length_take];exact Nat.min_le_left _ _)];simp [Nat.min_eq_left hal]
   rw [<- hZ];have hml:(w.queues.length:Int)<(w.queues.length:Int)+1:=by omega
   have hml2:w.queues.length<w.queues.length+1:=by omega
   simp [hZl,hZe,hml,hml2]
   refine am.weak (⟨96,30000,[(6,.v (.int .i64 (w.queues.length:Nat))),(0,.p 96 b6 0),(1,.v (.int .i64 k))],
    (324,.rows H3 1 ((w.locks.map ak).set (aQ t.c.doc w.locks.length) [.v (.int .i64 (-1))]) true)::(96,.vars b6 39 [.v (.bool w.h.shut),.sl 321 H1 5 0 w.h.docs.length,.sl 322 H2 6 0 w.h.subs.length,.v (.int .i64 w.h.last),.sl 324 H3 1 0 w.locks.length,.sl 325 H6 2 0 (w.queues.length+1),.sl 326 H5 15 0 w.tasks.length,.v (.int .i64 w.step)])::(326,.rows H5 15 (w.tasks.map Task.row) true)::(325,.rows H6 2 Z true)::(322,.rows H2 6 (w.h.subs.map Sub.row) true)::(321,.rows H1 5 (w.h.docs.map Doc.row) true)::(64,.vars b4 39 [.v (.bool false),.nil,.nil,.v (.int .i64 0),.nil,.nil,.nil,.v (.int .i64 0)])::phs o⟩) (by simp) ?_
   refine am.open (λ_ h=>h) (k:=325) (i:=w.queues.length) (j:=1) (k':=60000) (sz':=1) (sz:=2) (H:=H6) (rows:=Z) (srows:=[]) (row:=[.v (.string t.c.doc),.s []]) (by simp) (by rw [List.getElem?_eq_getElem hZm,hZe]) rfl (by simp) (by decide) (by simp) (by simp [ASt.quiet,qT,qH,AV.q,AV.qL,AObj.q]) (λG=>?_);simp only [hZs];refine drw eok mix [0,1,2,3,4,5,6,7,8,9,10,11,12,13,16,17] [14,15,18] (.c 16 14 4 65531 (.c 16 15 8 65523 (.c 16 18 65521 2 (.l 16 2) .s) .s) .s) ?_;simp [hZl,hml,hml2,ce,JD]
   try intros
   simp [hk,hm,bm,ew,Task.row,hi1,hZt,Queue.row]
   all_goals rw [List.take_of_length_le (by simp),List.drop_eq_nil_of_le (by simp)]
 have p3:t.pc=3:=by
  have h1:=htk.2.2.1;have h2:=hab.2;omega
 rw [eU p3];simp [p3,hm,ce,Task.row,hk,ht,ew]
theorem KZ (p:Int) {n:Int} (h:0<n):(p.tmod n+n).tmod n=p % n:=by
 have h0:0<=p.tmod n+n:=by
  have:=Int.lt_tmod_of_pos p h;omega
 rw [Int.tmod_eq_emod_of_nonneg h0,Int.tmod_def,Int.add_emod,Int.emod_self,Int.add_zero,Int.emod_emod,Int.sub_mul_emod_self_left]
theorem yn (w0:Wld) (i0:Nat) (hi0:i0<=1024) (ht:lF w0 i0) (hs0:0<=w0.step) (hs1:w0.step<=1000000) (picks:List Int) (_hpl:picks.length<=2 ^ 40) (_hp:∀ p∈picks,Rz p) :
 dD Tryz.prog 21 [.agg w0.row,.c (.s (picks.map ak))] (λrr=>rr=.tup [.agg (qn w0 picks).1.res,.c (vi (qn w0 picks).2) 1]):=by
 refine dD.intro ae Tryz.func21 (by kernel_rfl) rfl rfl rfl (Nat.le_of_ble_eq_true rfl) (λwz base o=>?_);have hw:=rm ht (by omega);simp [Wld.row];intro b2 b4;refine aa.ro (nq w0 (by omega)) (by simp [Wld.row]) ?_;simp [Wld.res];intro b6
 refine ag eok (λx:Wld×Nat=>lF x.1 (i0+x.2)/\x.2<=1000000/\x.1.step=w0.step+x.2/\x.1.step<=1000000/\qn w0 picks=mb picks (1000001 - x.2) x.2 x.1)
  (λx=>⟨68,0,[(7,.v (.int .i64 x.2)),(6,.p 96 b6 0),(4,.p 64 b4 0),(1,.ro (picks.map ak))],
   (96,.vars b6 39 [.v (.bool x.1.h.shut),.ro (x.1.h.docs.map Doc.row),.ro (x.1.h.subs.map Sub.row),.v (.int .i64 x.1.h.last),.ro (x.1.locks.map ak),.ro (x.1.queues.map Queue.row),.ro (x.1.tasks.map Task.row),.v (.int .i64 x.1.step)])::(64,.vars b4 39 [.v (.bool false),.nil,.nil,.v (.int .i64 0),.nil,.nil,.nil,.v (.int .i64 0)])::phs o⟩) (λx=>1000001 - x.2)
  (w0,0) ⟨ht,by omega,by simp,hs1,rfl⟩ (by simp) (λx hx=>Ent.refl ?_)
 obtain ⟨w,n⟩:=x;obtain ⟨x1,x2,x3,x4,x5⟩:=hx;simp only at x1 x2 x3 x4 x5;have hwn:=rm x1 (by omega);have c3:=Cs w hwn;have c4:=yg w hwn;obtain ⟨-,-,n3,n4⟩:=a9 hwn;have hlt:=aB n4;have hlq:=aB n3
 have hal:(cH w).length<=w.tasks.length:=by
  by_cases c:ap w/\¬ w.step=1000000
  ·rw [oa c]
   unfold dW;rw [List.length_map];exact Nat.le_trans (List.length_filter_le _ _) (by simp)
  ·rw [qo c];simp
 have hsl:(bU w).length<=w.queues.length:=by
  by_cases c:ap w/\¬ w.step=1000000
  ·rw [jh c];simp
  ·rw [me c];simp
 have wsum:=Go.IntWalk.i64_in (((cH w).length:Int)+((bU w).length:Int)) (by omega);simp;refine am.quiet eok mix (by kernel_rfl) ?_;simp;refine ⟨_,_,c3,by simp [Wld.row],?_⟩;simp;refine ⟨_,_,c4,by simp [Wld.row],?_⟩;simp [wsum];by_cases hm:fF w=0
 ·rw [uq hm] at x5
  have hz:((cH w).length:Int)+((bU w).length:Int)=0:=by unfold fF at hm;omega
  simp [hz,x5]
 have hz:¬ ((cH w).length:Int)+((bU w).length:Int)=0:=by unfold fF at hm;omega
 obtain ⟨wok,wst⟩:=pV hm;rw [show 1000001 - n=(1000001 - (n+1))+1 by omega,w9 hm] at x5;have hmz:(fF w:Int)=((cH w).length:Int)+((bU w).length:Int):=by unfold fF;omega
 have hpl:=wv picks n (show 0<fF w by omega);have yT:=Fe x1 hm hpl;have ys:=yy hm hpl;have wn:=Go.IntWalk.i64_in ((n:Int)+1) (by omega);simp [hz];by_cases hpk:n<picks.length
 ·have e1:(Go.IntKind.i64.wrap (picks[n].tmod (((cH w).length:Int)+((bU w).length:Int))+(((cH w).length:Int)+((bU w).length:Int)))).tmod (((cH w).length:Int)+((bU w).length:Int))=((lV picks n (fF w):Nat):Int):=by
   rw [<- hmz];have hm0:(0:Int)<fF w:=by omega
   have h1:=Int.lt_tmod_of_pos picks[n] hm0;have h2:=Int.tmod_lt_of_pos picks[n] hm0;rw [Go.IntWalk.i64_in _ (by omega),KZ _ hm0];unfold lV;rw [List.getElem?_eq_getElem hpk];have h3:=Int.emod_nonneg picks[n] (show (fF w:Int)≠0 by omega);simp only;omega
  simp [hpk,e1,hz];generalize lV picks n (fF w)=p at hpl yT ys x5;by_cases ha:p<(cH w).length
  ·simp [ha]
   obtain ⟨k,hk,hke,hky⟩:=qA ha;have ey:cN w p=(cr w k).1:=by unfold cN;rw [List.getElem?_eq_getElem ha];simp only [hke]
   have hc:=um w hwn k hky;rw [<- ey] at hc;generalize cN w p=y at yT ys x5 hc;refine drw eok mix [0,1,2,3,4] [5,6,7,8,9] (.c 5 5 17 14 (.c 5 6 0 14 (.c 5 7 0 14 (.c 5 8 0 14 (.c 5 9 14 0 (.l 5 0) .s) .s) .s) .s) .s) ?_;simp [ha,hke]
   try intros
   refine dA hc (by simp [Wld.row]) ?_;rintro _ rfl;simp [Wld.res]
   try intros
   refine Ent.refl ⟨y,n+1,⟨yT,by omega,by omega,by omega,x5⟩,by omega,?_⟩;simp [wn]
  have hs:p - (cH w).length<(bU w).length:=by unfold fF at hpl;omega
  have wsub:Go.IntKind.i64.wrap (((p:Nat):Int) - ((cH w).length:Int))=((p - (cH w).length:Nat):Int):=by rw [Go.IntWalk.i64_in _ (by omega)];omega
  have ey:cN w p=(cf w (bU w)[p - (cH w).length]).1:=by unfold cN;rw [List.getElem?_eq_none (by omega),List.getElem?_eq_getElem hs]
  generalize p - (cH w).length=jj at hs wsub ey;have hc:=r9 w hwn (bU w)[jj];rw [<- ey] at hc;generalize cN w p=y at yT ys x5 hc
  try simp only [Int.zero_sub] at wsub
  simp [ha];refine drw eok mix [0,1,2,3,4,5,6,7] [8,9,10,11,12] (.c 8 8 129 126 (.c 8 9 0 126 (.c 8 10 0 126 (.c 8 11 0 126 (.c 8 12 126 0 (.l 8 0) .s) .s) .s) .s) .s) ?_;simp [hs,wsub,D6]
  try intros
  refine aa.ro hc (by simp [Wld.row]) ?_;simp [Wld.res]
  try intros
  refine Ent.refl ⟨y,n+1,⟨yT,by omega,by omega,by omega,x5⟩,by omega,?_⟩;simp [wn]
 have e1:lV picks n (fF w)=0:=by unfold lV;rw [List.getElem?_eq_none (by omega)]
 rw [e1] at hpl yT ys x5;simp [hpk];by_cases ha:0<(cH w).length
 ·simp [ha,hz]
  obtain ⟨k,hk,hke,hky⟩:=qA ha;have ey:cN w 0=(cr w k).1:=by unfold cN;rw [List.getElem?_eq_getElem ha];simp only [hke]
  have hc:=um w hwn k hky;rw [<- ey] at hc;generalize cN w 0=y at yT ys x5 hc;refine drw eok mix [0,1,2,3,4] [5,6,7,8,9] (.c 5 5 17 14 (.c 5 6 0 14 (.c 5 7 0 14 (.c 5 8 0 14 (.c 5 9 14 0 (.l 5 0) .s) .s) .s) .s) .s) ?_;simp [ha,hke]
  try intros
  refine dA hc (by simp [Wld.row]) ?_;rintro _ rfl;simp [Wld.res]
  try intros
  refine Ent.refl ⟨y,n+1,⟨yT,by omega,by omega,by omega,x5⟩,by omega,?_⟩;simp [wn]
 have hs:0 - (cH w).length<(bU w).length:=by unfold fF at hpl;omega
 have wsub:Go.IntKind.i64.wrap ((0:Int) - ((cH w).length:Int))=((0 - (cH w).length:Nat):Int):=by rw [Go.IntWalk.i64_in _ (by omega)];omega
 have ey:cN w 0=(cf w (bU w)[0 - (cH w).length]).1:=by unfold cN;rw [List.getElem?_eq_none (by omega),List.getElem?_eq_getElem hs]
 generalize 0 - (cH w).length=jj at hs wsub ey;have hc:=r9 w hwn (bU w)[jj];rw [<- ey] at hc;generalize cN w 0=y at yT ys x5 hc
 try simp only [Int.zero_sub] at wsub
 simp [ha,hz];refine drw eok mix [0,1,2,3,4,5,6,7] [8,9,10,11,12] (.c 8 8 129 126 (.c 8 9 0 126 (.c 8 10 0 126 (.c 8 11 0 126 (.c 8 12 126 0 (.l 8 0) .s) .s) .s) .s) .s) ?_;simp [hs,wsub,D6]
 try intros
 refine aa.ro hc (by simp [Wld.row]) ?_;simp [Wld.res]
 try intros
 refine Ent.refl ⟨y,n+1,⟨yT,by omega,by omega,by omega,x5⟩,by omega,?_⟩;simp [wn]
set_option maxHeartbeats 3200000
theorem Jf (x:Int):0<=bits .and .i64 x 255/\bits .and .i64 x 255<=255:=by
 have h:∀ n:Nat,n<=255->Go.IntKind.i64.wrap (n:Int)=n:=λn hn=>Go.IntWalk.i64_in _ ⟨by omega,by omega⟩
 have hle:∀ a:Nat,a &&& 255<=255:=λa=>Nat.and_le_right
 simp only [bits];have e:(BitVec.ofInt IntKind.i64.bits 255).toNat=255:=by decide
 have:=h _ (hle (BitVec.ofInt IntKind.i64.bits x).toNat);simp only [BitVec.toNat_and,e];rw [this];have:=hle (BitVec.ofInt IntKind.i64.bits x).toNat;omega
def Ej (p:Int->Prop) (rr:RR):Prop:=∃ x:Int,p x/\rr=.one (.c (.v (.int .i64 x)) 1)
theorem lC (l:List UInt8) (hl:l.length<=2 ^ 40):gI Tryz.prog 141 (l.map ff) 210 [] (Ej λx=>0<=x/\x<=255):=by
 refine gI.intro ae Tryz.func210 (by kernel_rfl) rfl rfl rfl (Nat.le_of_ble_eq_true rfl) (λw0 base b u i h hi0 hi1 hu=>?_);have bi:IntKind.i64.bits=64:=rfl;simp [cV];refine am.quiet eok mix (by kernel_rfl) ?_;simp [bi];generalize hx:bits BinOp.and IntKind.i64 _ 255=x;have hx1:=Jf (bits .xor .i64 (Go.IntKind.i64.wrap (Go.IntKind.i64.wrap (h*6364136223846793005)+1442695040888963407) / 8589934592) (Go.IntKind.i64.wrap (Go.IntKind.i64.wrap (h*6364136223846793005)+1442695040888963407) / 35184372088832));generalize Go.IntKind.i64.wrap (Go.IntKind.i64.wrap (h*6364136223846793005)+1442695040888963407)=h1 at hx hx1 ⊢;rw [hx] at hx1;refine am.quiet eok mix (by kernel_rfl) ?_;simp;by_cases c:i<(l.length:Int)
 ·simp [c]
  refine drw eok mix [0,1,2,3,4,5,6,7,8,9,10,11,12,13] [14] (.c 14 14 16383 0 (.l 14 0) .s) ?_;simp
  try intros
  refine ⟨_,hu,?_⟩;obtain ⟨k,rfl⟩:∃ k:Nat,i=k:=⟨i.toNat,by omega⟩;have hk:k<l.length:=by omega
  have hk2:=ah (n:=k) (by omega);have hy1:=Jf (Go.IntKind.i64.wrap (x+Go.IntKind.i64.wrap (l[k].toNat:Int)));generalize hy:bits .and .i64 (Go.IntKind.i64.wrap (x+Go.IntKind.i64.wrap (l[k].toNat:Int))) 255=y at hy1;simp [hk,hk2,hy];refine aT (.c _ 1) ⟨y,hy1,rfl⟩ ?_;simp;exact aj rfl (by omega) (by omega)
 ·simp [c]
  refine aT (.c _ 1) ⟨_,hx1,rfl⟩ ?_;simp;exact aj rfl (by omega) (by simpa using hi1)
def OW (n x:Int):Prop:=0<=x/\(n<=0->x=0)/\(0<n->x<n)
theorem al (l:List UInt8) (hl:l.length<=2 ^ 40) (n:Int):gI Tryz.prog 141 (l.map ff) 111 [.c (.v (.int .i64 n))] (Ej (OW n)):=by
 refine gI.intro ae Tryz.func111 (by kernel_rfl) rfl rfl rfl (Nat.le_of_ble_eq_true rfl) (λw0 base b u i h hi0 hi1 hu=>?_);have hi1:i<=(l.length:Int):=by simpa using hi1
 simp [cV];by_cases c0:n<=0
 ·simp [c0]
  refine aT (.c _ 1) ⟨0,⟨by omega,by omega,by omega⟩,rfl⟩ ?_;simp;exact aj rfl hi0 hi1
 have hn:n≠0:=by omega
 by_cases c1:n<=256
 ·simp [c0,c1]
  refine aa.cur (lC l hl) hu (by simp) rfl hi0 hi1 (by simp) ?_
  rintro _ i1 h1 ⟨x,hx,rfl⟩ g0 g1
  simp [hn];refine aT (.c _ 1) ⟨x.tmod n,⟨Int.tmod_nonneg _ hx.1,by omega,λhp=>Int.tmod_lt_of_pos _ hp⟩,rfl⟩ ?_;simp;exact aj rfl g0 g1
 ·simp [c0,c1]
  refine aa.cur (lC l hl) hu (by simp) rfl hi0 hi1 (by simp) ?_
  rintro _ i1 h1 ⟨x,hx,rfl⟩ g0 g1
  simp;refine aa.cur (lC l hl) hu (by simp) rfl g0 g1 (by simp) ?_
  rintro _ i2 h2 ⟨y,hy,rfl⟩ g0 g1
  simp;refine aa.cur (lC l hl) hu (by simp) rfl g0 g1 (by simp) ?_
  rintro _ i3 h3 ⟨z,hz,rfl⟩ g0 g1
  simp;refine aa.cur (lC l hl) hu (by simp) rfl g0 g1 (by simp) ?_
  rintro _ i4 h4 ⟨w,hw,rfl⟩ g0 g1
  have w1:=Go.IntWalk.i64_in (x*16777216) (by omega);have w2:=Go.IntWalk.i64_in (y*65536) (by omega);have w3:=Go.IntWalk.i64_in (z*256) (by omega);have w4:=Go.IntWalk.i64_in (x*16777216+y*65536) (by omega);have w5:=Go.IntWalk.i64_in (x*16777216+y*65536+z*256) (by omega);have w6:=Go.IntWalk.i64_in (x*16777216+y*65536+z*256+w) (by omega);simp [hn,w1,w2,w3,w4,w5,w6];refine aT (.c _ 1) ⟨(x*16777216+y*65536+z*256+w).tmod n,⟨Int.tmod_nonneg _ (by omega),by omega,λhp=>Int.tmod_lt_of_pos _ hp⟩,rfl⟩ ?_;simp;exact aj rfl g0 g1
def Q6 (p:ByteArray->Prop) (rr:RR):Prop:=∃ x:ByteArray,p x/\rr=.one (.c (.v (.string x)) 1)
def TO (rr:RR):Prop:=∃ q:Bool,rr=.one (.c (.v (.bool q)) 1)
theorem gP (l:List UInt8) (hl:l.length<=2 ^ 40) (n:Int):gI Tryz.prog 141 (l.map ff) 205 [.c (.v (.int .i64 n))] TO:=by
 refine gI.intro ae Tryz.func205 (by kernel_rfl) rfl rfl rfl (Nat.le_of_ble_eq_true rfl) (λw0 base b u i h hi0 hi1 hu=>?_);have hi1:i<=(l.length:Int):=by simpa using hi1
 simp [cV];refine aa.cur (al l hl n) hu (by simp) rfl hi0 hi1 (by simp) ?_
 rintro _ i1 h1 ⟨x,hx,rfl⟩ g0 g1
 simp;refine aT (.c _ 1) ⟨dc (x=0),rfl⟩ ?_;simp;exact aj rfl g0 g1
theorem qO (n:Int) : -9223372036854775808<=Go.IntKind.i64.wrap n/\Go.IntKind.i64.wrap n<=9223372036854775807:=by
 rw [Go.IntKind.wrap_i64];omega
theorem wS (l:List UInt8) (hl:l.length<=2 ^ 40) (L:List Int) (hL:0<L.length):gI Tryz.prog 141 (l.map ff) 358 [.c (.s (L.map ak))] (Ej λx=>x∈L):=by
 refine gI.intro ae Tryz.func358 (by kernel_rfl) rfl rfl rfl (Nat.le_of_ble_eq_true rfl) (λw0 base b u i h hi0 hi1 hu=>?_);have hi1:i<=(l.length:Int):=by simpa using hi1
 simp [cV];refine aa.cur (al l hl L.length) hu (by simp) rfl hi0 hi1 (by simp) ?_
 rintro _ i1 h1 ⟨x,hx,rfl⟩ g0 g1
 obtain ⟨k,rfl⟩:∃ k:Nat,x=k:=⟨x.toNat,by have:=hx.1;omega⟩;have hk:k<L.length:=by have:=hx.2.2 (by omega);omega
 simp [hk];refine aT (.c _ 1) ⟨L[k],List.getElem_mem hk,rfl⟩ ?_;simp;exact aj rfl g0 g1
theorem Im (l:List UInt8) (hl:l.length<=2 ^ 40) (L:List ByteArray) (hL:0<L.length):gI Tryz.prog 141 (l.map ff) 309 [.c (.s (L.map λs=>[.v (.string s)]))] (Q6 λx=>x∈L):=by
 refine gI.intro ae Tryz.func309 (by kernel_rfl) rfl rfl rfl (Nat.le_of_ble_eq_true rfl) (λw0 base b u i h hi0 hi1 hu=>?_);have hi1:i<=(l.length:Int):=by simpa using hi1
 simp [cV];refine aa.cur (al l hl L.length) hu (by simp) rfl hi0 hi1 (by simp) ?_
 rintro _ i1 h1 ⟨x,hx,rfl⟩ g0 g1
 obtain ⟨k,rfl⟩:∃ k:Nat,x=k:=⟨x.toNat,by have:=hx.1;omega⟩;have hk:k<L.length:=by have:=hx.2.2 (by omega);omega
 simp [hk];refine aT (.c _ 1) ⟨L[k],List.getElem_mem hk,rfl⟩ ?_;simp;exact aj rfl g0 g1
theorem nX (l:List UInt8) (hl:l.length<=2 ^ 40) (lo hi:Int) (hlo : -9223372036854775808<=lo/\lo<=9223372036854775807) (hhi : -9223372036854775808<=hi/\hi<=9223372036854775807) :
 gI Tryz.prog 141 (l.map ff) 310 [.c (vi lo),.c (vi hi)] (Ej λx=>-9223372036854775808<=x/\x<=9223372036854775807):=by
 refine gI.intro ae Tryz.func310 (by kernel_rfl) rfl rfl rfl (Nat.le_of_ble_eq_true rfl) (λw0 base b u i h hi0 hi1 hu=>?_);have hi1:i<=(l.length:Int):=by simpa using hi1
 simp [cV];refine aa.cur (al l hl 12) hu (by simp) rfl hi0 hi1 (by simp) ?_
 rintro _ i1 h1 ⟨x,hx,rfl⟩ g0 g1
 simp;by_cases c0:x=0
 ·simp [c0]
  refine aT (.c _ 1) ⟨lo,hlo,rfl⟩ ?_;simp;exact aj rfl g0 g1
 by_cases c1:x=1
 ·simp [c1]
  refine aT (.c _ 1) ⟨hi,hhi,rfl⟩ ?_;simp;exact aj rfl g0 g1
 by_cases c2:x=2
 ·simp [c2]
  refine aT (.c _ 1) ⟨_,qO (lo - 1),rfl⟩ ?_;simp;exact aj rfl g0 g1
 by_cases c3:x=3
 ·simp [c3]
  refine aT (.c _ 1) ⟨_,qO (hi+1),rfl⟩ ?_;simp;exact aj rfl g0 g1
 by_cases c4:x=4
 ·simp [c4]
  intro bb;refine aa.cur (wS l hl [9223372036854775807,-9223372036854775808,-1,0,1000000001] (by simp)) hu (by simp) rfl g0 g1 (by simp) ?_
  rintro _ i2 h2 ⟨y,hy,rfl⟩ g0 g1
  simp;refine aT (.c _ 1) ⟨y,by simp at hy;omega,rfl⟩ ?_;simp;exact aj rfl g0 g1
 simp [c0,c1,c2,c3,c4];by_cases c5:60000<Go.IntKind.i64.wrap (hi - lo)
 ·simp [c5]
  refine aa.cur (al l hl 60000) hu (by simp) rfl g0 g1 (by simp) ?_
  rintro _ i2 h2 ⟨y,hy,rfl⟩ g0 g1
  simp;refine aT (.c _ 1) ⟨_,qO (lo+y),rfl⟩ ?_;simp;exact aj rfl g0 g1
 ·simp [c5]
  refine aa.cur (al l hl (Go.IntKind.i64.wrap (Go.IntKind.i64.wrap (hi - lo)+1))) hu (by simp) rfl g0 g1 (by simp) ?_
  rintro _ i2 h2 ⟨y,hy,rfl⟩ g0 g1
  simp;refine aT (.c _ 1) ⟨_,qO (lo+y),rfl⟩ ?_;simp;exact aj rfl g0 g1
theorem ET (l:List UInt8) (hl:l.length<=2 ^ 40):gI Tryz.prog 141 (l.map ff) 293 [] (Ej gj):=by
 refine gI.intro ae Tryz.func293 (by kernel_rfl) rfl rfl rfl (Nat.le_of_ble_eq_true rfl) (λw0 base b u i h hi0 hi1 hu=>?_);have hi1:i<=(l.length:Int):=by simpa using hi1
 simp [cV];refine aa.cur (gP l hl 8) hu (by simp) rfl hi0 hi1 (by simp) ?_
 rintro _ i1 h1 ⟨q,rfl⟩ g0 g1
 simp
 cases q with
 | true =>
   simp;intro bb;refine aa.cur (wS l hl [0,127,128,2047,2048,55295,57344,65535,65536,1114111,10,32] (by simp)) hu (by simp) rfl g0 g1 (by simp) ?_
   rintro _ i2 h2 ⟨y,hy,rfl⟩ g0 g1
   simp;refine aT (.c _ 1) ⟨y,by unfold gj;simp at hy;omega,rfl⟩ ?_;simp;exact aj rfl g0 g1
 | false =>
   simp;refine aa.cur (al l hl 6) hu (by simp) rfl g0 g1 (by simp) ?_
   rintro _ i2 h2 ⟨y,hy,rfl⟩ g0 g1
   have hw:=Go.IntWalk.i64_in (97+y) (by have:=hy.1;have:=hy.2.2 (by omega);omega);simp [hw];refine aT (.c _ 1) ⟨97+y,by unfold gj;have:=hy.1;have:=hy.2.2 (by omega);omega,rfl⟩ ?_;simp;exact aj rfl g0 g1
def Q7 (p:List Int->Prop) (rr:RR):Prop:=∃ L:List Int,p L/\rr=.one (.c (.s (L.map ak)) 1)
theorem iI (l:List UInt8) (hl:l.length<=2 ^ 40) (most:Int) (hm0:0<=most) (hm:most<=1000):gI Tryz.prog 141 (l.map ff) 204 [.c (vi most)] (Q7 λL=>(L.length:Int)<=most/\∀ x∈L,gj x):=by
 refine gI.intro ae Tryz.func204 (by kernel_rfl) rfl rfl rfl (Nat.le_of_ble_eq_true rfl) (λw0 base b u i h hi0 hi1 hu=>?_);have hi1:i<=(l.length:Int):=by simpa using hi1
 have hw:=Go.IntWalk.i64_in (most+1) (by omega);simp [cV,hw];intro b7;refine aa.cur (al l hl (most+1)) hu (by simp) rfl hi0 hi1 (by simp) ?_
 rintro _ i1 h1 ⟨n,hn,rfl⟩ g0 g1
 have hn1:=hn.1;have hn2:=hn.2.2 (by omega);obtain ⟨k,rfl⟩:∃ k:Nat,n=k:=⟨n.toNat,by omega⟩;simp
 refine ag eok (λx:Nat×List Int×Hd×Int×Int=>(x.2.1.length:Int)+x.1<=most/\(∀ s∈x.2.1,gj s)/\0<=x.2.2.2.1/\x.2.2.2.1<=(l.length:Int))
  (λx=>⟨22,0,[(6,.v (.int .i64 x.1)),(5,.sl 112 x.2.2.1 1 0 x.2.1.length),(0,.p 0 b 0)],[(0,.vars b 141 (cV u l.length x.2.2.2.1 x.2.2.2.2)),(112,.rows x.2.2.1 1 (x.2.1.map ak) true)]⟩)
  (λx=>x.1) (k,[],some (b7,0,0),i1,h1) (by simp;omega) (by simp) (λx hx=>Ent.refl ?_)
 obtain ⟨m,L,H,i2,h2⟩:=x;obtain ⟨hx1,hx2,hx3,hx4⟩:=hx;simp only at hx1 hx2 hx3 hx4 ⊢;by_cases hm1:0<m
 ·simp [hm1]
  refine aa.cur (ET l hl) hu (by simp) rfl hx3 hx4 (by simp) ?_
  rintro _ i3 h3 ⟨s,hs,rfl⟩ g2 g3
  simp;intro b19;refine ⟨by omega,λH2=>Ent.refl ?_⟩;have hw2:=Go.IntWalk.i64_in ((m:Int) - 1) (by omega);refine ⟨m - 1,L++[s],H2,i3,⟨by simp;omega,?_,g2,g3⟩,by omega,h3,by simp [hw2];omega⟩;intro y hy;rcases List.mem_append.1 hy with hy|hy
  ·exact hx2 y hy
  ·simp at hy;subst hy;exact hs
 ·have:m=0:=by omega
  subst this;simp;refine aT (.c _ 1) ⟨L,⟨by omega,hx2⟩,rfl⟩ ?_;simp;exact aj rfl hx3 hx4
theorem nV (l:List UInt8) (hl:l.length<=2 ^ 40):gI Tryz.prog 141 (l.map ff) 229 [] (Q6 λs=>fq s):=by
 refine gI.intro ae Tryz.func229 (by kernel_rfl) rfl rfl rfl (Nat.le_of_ble_eq_true rfl) (λw0 base b u i h hi0 hi1 hu=>?_);have hi1:i<=(l.length:Int):=by simpa using hi1
 simp [cV];intro b4;refine aa.cur (Im l hl [⟨#[97]⟩,⟨#[98]⟩,⟨#[110,111,116,101,115]⟩,⟨#[116,111,100,111]⟩] (by simp)) hu (by simp) rfl hi0 hi1 (by simp) ?_
 rintro _ i1 h1 ⟨s,hs,rfl⟩ g0 g1
 have hok:fq s:=by
  simp at hs;rcases hs with rfl|rfl|rfl|rfl<;>(unfold fq;decide)
 simp;refine aT (.c _ 1) ⟨s,hok,rfl⟩ ?_;simp;exact aj rfl g0 g1
set_option maxHeartbeats 6400000
def zS (fr:Int) (p:Part):Prop:=(1<=p.kind/\p.kind<=3)/\(0<=p.n/\p.n<=fr)/\p.signs.length<=3/\∀ x∈p.signs,gj x
def eS (fr:Int) (p:Part):Prop:=((p.kind=1\/p.kind=3)/\(0<=p.n/\p.n<=fr)/\p.signs=[])\/(p.kind=2/\p.n=0/\p.signs.length<=3/\ed p.signs)
theorem eS.b {fr:Int} (h0:0<=fr) {p:Part} (h:eS fr p):zS fr p:=by
 rcases h with ⟨h1,h2,h3⟩|⟨h1,h2,h3,h4⟩
 ·exact ⟨by omega,h2,by simp [h3],by simp [h3]⟩
 ·exact ⟨by omega,by omega,h3,h4⟩
def pts:List Part->Nat
 | []=>0
 |p::o=>(if p.kind=2 then psz p else 0)+pts o
def opD (fr:Int) (o:List Part):Prop:=(∀ p∈o,eS fr p)/\(frs o:Int)=fr/\tos o<=frs o+12/\pts o<=12
theorem fc (p:Part):∀ o:List Part,pts (o++[p])=pts o+(if p.kind=2 then psz p else 0)
 | []=>by simp [pts]
 |q::o=>by simp only [List.cons_append,pts,fc p o];omega
theorem ci (p:Part):∀ o:List Part,frs (o++[p])=frs o+(if p.kind=2 then 0 else psz p)
 | []=>by simp [frs]
 |q::o=>by simp only [List.cons_append,frs,ci p o];omega
theorem fb (p:Part):∀ o:List Part,tos (o++[p])=tos o+(if p.kind=3 then 0 else psz p)
 | []=>by simp [tos]
 |q::o=>by simp only [List.cons_append,tos,fb p o];omega
theorem opD.ok {fr:Int} {o:List Part} (h:opD fr o) (h0:0<=fr) (h1:fr<=188) (hl:o.length<=42):bR o/\bH o=fr/\kt o<=fr+12:=by
 have hp:∀ p∈o,ar p:=λp hp=>by
  rcases h.1 p hp with ⟨h1,h2,h3⟩|⟨h1,h2,h3,h4⟩
  ·exact .inl ⟨h1,by omega,h3⟩
  ·exact .inr ⟨h1,h2,by omega,h4⟩
 have hps:dj o:=⟨hp,by omega⟩;have f:=tQ hps;have t:=zR hps;have:=h.2;exact ⟨⟨hps,by omega,by omega⟩,by omega,by omega⟩
def NN (p:List Part->Prop) (rr:RR):Prop:=∃ L:List Part,p L/\rr=.one (.c (.s (L.map Part.row)) 3)
theorem oA {fr:Int} {o:List Part} {lf:Int} (h:∀ q∈o,eS fr q) (hl:0<=lf/\lf<=fr) (hf:(frs o:Int)+lf=fr) (ht:tos o<=frs o+12) (hq:pts o<=12) (hn:o.length<=41) (h0:0<=fr) :
 (o++[(⟨1,lf,[]⟩:Part)]).length<=42/\(∀ p∈o++[(⟨1,lf,[]⟩:Part)],zS fr p)/\opD fr (o++[(⟨1,lf,[]⟩:Part)]):=by
 have hall:∀ q∈o++[(⟨1,lf,[]⟩:Part)],eS fr q:=λq hq=>(List.mem_append.1 hq).elim (h q) (λh=>by simp at h;subst h;exact Or.inl ⟨Or.inl rfl,hl,rfl⟩)
 refine ⟨by simp;omega,λp hp=>(hall p hp).b h0,hall,?_,?_,?_⟩
 ·rw [ci];simp [psz];omega
 ·rw [ci,fb];simp [psz];omega
 ·rw [fc];simp;omega
theorem wQ (l:List UInt8) (hl:l.length<=2 ^ 40) (fr:Int) (hf0:0<=fr) (hf:fr<=2 ^ 40):gI Tryz.prog 141 (l.map ff) 239 [.c (vi fr)] (NN λo=>o.length<=42/\(∀ p∈o,zS fr p)/\opD fr o):=by
 refine gI.intro ae Tryz.func239 (by kernel_rfl) rfl rfl rfl (Nat.le_of_ble_eq_true rfl) (λw0 base b u i h hi0 hi1 hu=>?_);have hi1:i<=(l.length:Int):=by simpa using hi1
 simp;intro b11
 refine ag eok (λx:List Part×Int×Nat×Hd×Int×Int=>x.1.length<=40/\(∀ p∈x.1,eS fr p)/\(0<=x.2.1/\x.2.1<=fr)/\x.2.2.1<=12/\0<=x.2.2.2.2.1/\x.2.2.2.2.1<=(l.length:Int)/\(frs x.1:Int)+x.2.1=fr/\tos x.1+x.2.2.1<=frs x.1+12/\pts x.1+x.2.2.1<=12)
  (λx=>⟨75,0,[(7,.v (.int .i64 x.2.2.1)),(6,.v (.int .i64 x.2.1)),(5,.sl 176 x.2.2.2.1 3 0 x.1.length),(0,.p 0 b 0)],[(0,.vars b 141 (cV u l.length x.2.2.2.2.1 x.2.2.2.2.2)),(176,.rows x.2.2.2.1 3 (x.1.map Part.row) true)]⟩)
  (λx=>41 - x.1.length) ([],fr,12,some (b11,0,0),i,h) (by simp [frs,tos,pts];omega) (by simp) (λx hx=>Ent.refl ?_)
 obtain ⟨o,left,room,H,i1,h1⟩:=x;obtain ⟨x1,x2,x3,x4,x5,x6,x7,x8,x9⟩:=hx;simp only at x1 x2 x3 x4 x5 x6 x7 x8 x9 ⊢;simp;by_cases c:0<left
 ·simp [c]
  refine aa.cur (al l hl 4) hu (by simp) rfl x5 x6 (by simp) ?_
  rintro _ i2 h2 ⟨z,hz,rfl⟩ y5 y6
  simp;have wl:=Go.IntWalk.i64_in (left+1) (by omega);by_cases z0:z=0
  ·simp [z0]
   refine aa.cur (iI l hl 3 (by omega) (by omega)) hu (by simp) rfl y5 y6 (by simp) ?_
   rintro _ i3 h3 ⟨S,hS,rfl⟩ y5 y6
   simp;intro HS;by_cases c1:room<S.length
   ·have wr:=Go.IntWalk.i64_in (room:Int) (by omega)
    simp [c1,wr];have hP:eS fr (⟨2,0,[]⟩:Part):=.inr ⟨rfl,rfl,by simp,by simp [ed]⟩;have hF:(frs (o++[(⟨2,0,[]⟩:Part)]):Int)+(left:Int)=fr:=by rw [ci];(simp;omega)
    have hT:tos (o++[(⟨2,0,[]⟩:Part)])+(room:Nat)<=frs (o++[(⟨2,0,[]⟩:Part)])+12:=by rw [ci,fb];(simp [psz];omega)
    have hT2:pts (o++[(⟨2,0,[]⟩:Part)])+(room:Nat)<=12:=by rw [fc];(simp [psz];omega)
    have hLf:0<=(left:Int)/\(left:Int)<=fr:=x3;have hRm:(room:Nat)<=12:=x4;have hall:∀ q∈o++[(⟨2,0,[]⟩:Part)],eS fr q:=λq hq=>(List.mem_append.1 hq).elim (x2 q) (λh=>by simp at h;subst h;exact hP)
    intro bA;refine ⟨by omega,λHB=>?_⟩;by_cases c2:40<(o.length:Int)+1
    ·simp [c2]
     intro bB;refine ⟨by omega,λHC=>?_⟩;refine aT (.c _ 3) ⟨o++[(⟨2,0,[]⟩:Part)]++[⟨1,left,[]⟩],oA hall hLf hF (by omega) (by omega) (by simp;omega) hf0,rfl⟩ ?_;simp;refine ⟨?_,⟨rfl,rfl⟩,aj rfl y5 y6⟩
     rintro row (⟨a,-,rfl⟩|rfl|rfl)<;>rfl
    ·simp [c2]
     refine Ent.refl ⟨o++[(⟨2,0,[]⟩:Part)],left,room,HB,_,⟨by simp;omega,hall,hLf,hRm,y5,y6,hF,hT,hT2⟩,by simp;omega,h3,?_⟩;simp [Part.row]<;>omega
   ·have wr:=Go.IntWalk.i64_in ((room:Int) - S.length) (by omega)
    simp [c1,wr];have hP:eS fr (⟨2,0,S⟩:Part):=.inr ⟨rfl,rfl,by have:=hS.1;simp;omega,hS.2⟩;have hF:(frs (o++[(⟨2,0,S⟩:Part)]):Int)+(left:Int)=fr:=by rw [ci];(simp;omega)
    have hT:tos (o++[(⟨2,0,S⟩:Part)])+((room - S.length):Nat)<=frs (o++[(⟨2,0,S⟩:Part)])+12:=by rw [ci,fb];(simp [psz];omega)
    have hT2:pts (o++[(⟨2,0,S⟩:Part)])+((room - S.length):Nat)<=12:=by rw [fc];(simp [psz];omega)
    have hLf:0<=(left:Int)/\(left:Int)<=fr:=x3;have hRm:((room - S.length):Nat)<=12:=(by omega);have hall:∀ q∈o++[(⟨2,0,S⟩:Part)],eS fr q:=λq hq=>(List.mem_append.1 hq).elim (x2 q) (λh=>by simp at h;subst h;exact hP)
    intro bA;refine ⟨by omega,λHB=>?_⟩;by_cases c2:40<(o.length:Int)+1
    ·simp [c2]
     intro bB;refine ⟨by omega,λHC=>?_⟩;refine aT (.c _ 3) ⟨o++[(⟨2,0,S⟩:Part)]++[⟨1,left,[]⟩],oA hall hLf hF (by omega) (by omega) (by simp;omega) hf0,rfl⟩ ?_;simp;refine ⟨?_,⟨rfl,rfl⟩,aj rfl y5 y6⟩
     rintro row (⟨a,-,rfl⟩|rfl|rfl)<;>rfl
    ·simp [c2]
     refine Ent.refl ⟨o++[(⟨2,0,S⟩:Part)],left,(room - S.length),HB,_,⟨by simp;omega,hall,hLf,hRm,y5,y6,hF,hT,hT2⟩,by simp;omega,h3,?_⟩;simp [Part.row]<;>omega
  by_cases z1:z=1
  ·simp [z1,wl]
   refine aa.cur (al l hl (left+1)) hu (by simp) rfl y5 y6 (by simp) ?_
   rintro _ i3 h3 ⟨m,hm,rfl⟩ y5 y6
   have hm1:=hm.1;have hm2:=hm.2.2 (by omega);simp;by_cases c1:4<m
   ·have wr:=Go.IntWalk.i64_in (left - 4) (by omega)
    simp [c1,wr];have hP:eS fr (⟨3,4,[]⟩:Part):=.inl ⟨.inr rfl,by simp;omega,rfl⟩;have hF:(frs (o++[(⟨3,4,[]⟩:Part)]):Int)+((left - 4):Int)=fr:=by rw [ci];(simp [psz];omega)
    have hT:tos (o++[(⟨3,4,[]⟩:Part)])+(room:Nat)<=frs (o++[(⟨3,4,[]⟩:Part)])+12:=by rw [ci,fb];(simp [psz];omega)
    have hT2:pts (o++[(⟨3,4,[]⟩:Part)])+(room:Nat)<=12:=by rw [fc];(simp;omega)
    have hLf:0<=((left - 4):Int)/\((left - 4):Int)<=fr:=(by omega);have hRm:(room:Nat)<=12:=x4;have hall:∀ q∈o++[(⟨3,4,[]⟩:Part)],eS fr q:=λq hq=>(List.mem_append.1 hq).elim (x2 q) (λh=>by simp at h;subst h;exact hP)
    intro bA;refine ⟨by omega,λHB=>?_⟩;by_cases c2:40<(o.length:Int)+1
    ·simp [c2]
     intro bB;refine ⟨by omega,λHC=>?_⟩;refine aT (.c _ 3) ⟨o++[(⟨3,4,[]⟩:Part)]++[⟨1,(left - 4),[]⟩],oA hall hLf hF (by omega) (by omega) (by simp;omega) hf0,rfl⟩ ?_;simp;refine ⟨?_,⟨rfl,rfl⟩,aj rfl y5 y6⟩
     rintro row (⟨a,-,rfl⟩|rfl|rfl)<;>rfl
    ·simp [c2]
     refine Ent.refl ⟨o++[(⟨3,4,[]⟩:Part)],(left - 4),room,HB,_,⟨by simp;omega,hall,hLf,hRm,y5,y6,hF,hT,hT2⟩,by simp;omega,h3,?_⟩;simp [Part.row]<;>omega
   ·have wr:=Go.IntWalk.i64_in (left - m) (by omega)
    simp [c1,wr];have hP:eS fr (⟨3,m,[]⟩:Part):=.inl ⟨.inr rfl,by simp;omega,rfl⟩;have hF:(frs (o++[(⟨3,m,[]⟩:Part)]):Int)+((left - m):Int)=fr:=by rw [ci];(simp [psz];omega)
    have hT:tos (o++[(⟨3,m,[]⟩:Part)])+(room:Nat)<=frs (o++[(⟨3,m,[]⟩:Part)])+12:=by rw [ci,fb];(simp [psz];omega)
    have hT2:pts (o++[(⟨3,m,[]⟩:Part)])+(room:Nat)<=12:=by rw [fc];(simp;omega)
    have hLf:0<=((left - m):Int)/\((left - m):Int)<=fr:=(by omega);have hRm:(room:Nat)<=12:=x4;have hall:∀ q∈o++[(⟨3,m,[]⟩:Part)],eS fr q:=λq hq=>(List.mem_append.1 hq).elim (x2 q) (λh=>by simp at h;subst h;exact hP)
    intro bA;refine ⟨by omega,λHB=>?_⟩;by_cases c2:40<(o.length:Int)+1
    ·simp [c2]
     intro bB;refine ⟨by omega,λHC=>?_⟩;refine aT (.c _ 3) ⟨o++[(⟨3,m,[]⟩:Part)]++[⟨1,(left - m),[]⟩],oA hall hLf hF (by omega) (by omega) (by simp;omega) hf0,rfl⟩ ?_;simp;refine ⟨?_,⟨rfl,rfl⟩,aj rfl y5 y6⟩
     rintro row (⟨a,-,rfl⟩|rfl|rfl)<;>rfl
    ·simp [c2]
     refine Ent.refl ⟨o++[(⟨3,m,[]⟩:Part)],(left - m),room,HB,_,⟨by simp;omega,hall,hLf,hRm,y5,y6,hF,hT,hT2⟩,by simp;omega,h3,?_⟩;simp [Part.row]<;>omega
  simp [z0,z1,wl];refine aa.cur (al l hl (left+1)) hu (by simp) rfl y5 y6 (by simp) ?_
  rintro _ i3 h3 ⟨m,hm,rfl⟩ y5 y6
  have hm1:=hm.1;have hm2:=hm.2.2 (by omega);have wr:=Go.IntWalk.i64_in (left - m) (by omega);simp [wr];have hP:eS fr (⟨1,m,[]⟩:Part):=.inl ⟨.inl rfl,by simp;omega,rfl⟩;have hF:(frs (o++[(⟨1,m,[]⟩:Part)]):Int)+((left - m):Int)=fr:=by rw [ci];(simp [psz];omega)
  have hT:tos (o++[(⟨1,m,[]⟩:Part)])+(room:Nat)<=frs (o++[(⟨1,m,[]⟩:Part)])+12:=by rw [ci,fb];(simp [psz];omega)
  have hT2:pts (o++[(⟨1,m,[]⟩:Part)])+(room:Nat)<=12:=by rw [fc];(simp;omega)
  have hLf:0<=((left - m):Int)/\((left - m):Int)<=fr:=(by omega);have hRm:(room:Nat)<=12:=x4;have hall:∀ q∈o++[(⟨1,m,[]⟩:Part)],eS fr q:=λq hq=>(List.mem_append.1 hq).elim (x2 q) (λh=>by simp at h;subst h;exact hP)
  intro bA;refine ⟨by omega,λHB=>?_⟩;by_cases c2:40<(o.length:Int)+1
  ·simp [c2]
   intro bB;refine ⟨by omega,λHC=>?_⟩;refine aT (.c _ 3) ⟨o++[(⟨1,m,[]⟩:Part)]++[⟨1,(left - m),[]⟩],oA hall hLf hF (by omega) (by omega) (by simp;omega) hf0,rfl⟩ ?_;simp;refine ⟨?_,⟨rfl,rfl⟩,aj rfl y5 y6⟩
   rintro row (⟨a,-,rfl⟩|rfl|rfl)<;>rfl
  ·simp [c2]
   refine Ent.refl ⟨o++[(⟨1,m,[]⟩:Part)],(left - m),room,HB,_,⟨by simp;omega,hall,hLf,hRm,y5,y6,hF,hT,hT2⟩,by simp;omega,h3,?_⟩;simp [Part.row]<;>omega
 ·simp [c]
  refine aa.cur (gP l hl 3) hu (by simp) rfl x5 x6 (by simp) ?_
  rintro _ i9 h9 ⟨q,rfl⟩ x5 x6
  simp
  cases q with
  | true =>
    simp;refine aa.cur (al l hl 4) hu (by simp) rfl x5 x6 (by simp) ?_
    rintro _ i2 h2 ⟨z,hz,rfl⟩ y5 y6
    simp;have wl:=Go.IntWalk.i64_in (left+1) (by omega);by_cases z0:z=0
    ·simp [z0]
     refine aa.cur (iI l hl 3 (by omega) (by omega)) hu (by simp) rfl y5 y6 (by simp) ?_
     rintro _ i3 h3 ⟨S,hS,rfl⟩ y5 y6
     simp;intro HS;by_cases c1:room<S.length
     ·have wr:=Go.IntWalk.i64_in (room:Int) (by omega)
      simp [c1,wr];have hP:eS fr (⟨2,0,[]⟩:Part):=.inr ⟨rfl,rfl,by simp,by simp [ed]⟩;have hF:(frs (o++[(⟨2,0,[]⟩:Part)]):Int)+(left:Int)=fr:=by rw [ci];(simp;omega)
      have hT:tos (o++[(⟨2,0,[]⟩:Part)])+(room:Nat)<=frs (o++[(⟨2,0,[]⟩:Part)])+12:=by rw [ci,fb];(simp [psz];omega)
      have hT2:pts (o++[(⟨2,0,[]⟩:Part)])+(room:Nat)<=12:=by rw [fc];(simp [psz];omega)
      have hLf:0<=(left:Int)/\(left:Int)<=fr:=x3;have hRm:(room:Nat)<=12:=x4;have hall:∀ q∈o++[(⟨2,0,[]⟩:Part)],eS fr q:=λq hq=>(List.mem_append.1 hq).elim (x2 q) (λh=>by simp at h;subst h;exact hP)
      intro bA;refine ⟨by omega,λHB=>?_⟩;by_cases c2:40<(o.length:Int)+1
      ·simp [c2]
       intro bB;refine ⟨by omega,λHC=>?_⟩;refine aT (.c _ 3) ⟨o++[(⟨2,0,[]⟩:Part)]++[⟨1,left,[]⟩],oA hall hLf hF (by omega) (by omega) (by simp;omega) hf0,rfl⟩ ?_;simp;refine ⟨?_,⟨rfl,rfl⟩,aj rfl y5 y6⟩
       rintro row (⟨a,-,rfl⟩|rfl|rfl)<;>rfl
      ·simp [c2]
       refine Ent.refl ⟨o++[(⟨2,0,[]⟩:Part)],left,room,HB,_,⟨by simp;omega,hall,hLf,hRm,y5,y6,hF,hT,hT2⟩,by simp;omega,h3,?_⟩;simp [Part.row]<;>omega
     ·have wr:=Go.IntWalk.i64_in ((room:Int) - S.length) (by omega)
      simp [c1,wr];have hP:eS fr (⟨2,0,S⟩:Part):=.inr ⟨rfl,rfl,by have:=hS.1;simp;omega,hS.2⟩;have hF:(frs (o++[(⟨2,0,S⟩:Part)]):Int)+(left:Int)=fr:=by rw [ci];(simp;omega)
      have hT:tos (o++[(⟨2,0,S⟩:Part)])+((room - S.length):Nat)<=frs (o++[(⟨2,0,S⟩:Part)])+12:=by rw [ci,fb];(simp [psz];omega)
      have hT2:pts (o++[(⟨2,0,S⟩:Part)])+((room - S.length):Nat)<=12:=by rw [fc];(simp [psz];omega)
      have hLf:0<=(left:Int)/\(left:Int)<=fr:=x3;have hRm:((room - S.length):Nat)<=12:=(by omega);have hall:∀ q∈o++[(⟨2,0,S⟩:Part)],eS fr q:=λq hq=>(List.mem_append.1 hq).elim (x2 q) (λh=>by simp at h;subst h;exact hP)
      intro bA;refine ⟨by omega,λHB=>?_⟩;by_cases c2:40<(o.length:Int)+1
      ·simp [c2]
       intro bB;refine ⟨by omega,λHC=>?_⟩;refine aT (.c _ 3) ⟨o++[(⟨2,0,S⟩:Part)]++[⟨1,left,[]⟩],oA hall hLf hF (by omega) (by omega) (by simp;omega) hf0,rfl⟩ ?_;simp;refine ⟨?_,⟨rfl,rfl⟩,aj rfl y5 y6⟩
       rintro row (⟨a,-,rfl⟩|rfl|rfl)<;>rfl
      ·simp [c2]
       refine Ent.refl ⟨o++[(⟨2,0,S⟩:Part)],left,(room - S.length),HB,_,⟨by simp;omega,hall,hLf,hRm,y5,y6,hF,hT,hT2⟩,by simp;omega,h3,?_⟩;simp [Part.row]<;>omega
    by_cases z1:z=1
    ·simp [z1,wl]
     refine aa.cur (al l hl (left+1)) hu (by simp) rfl y5 y6 (by simp) ?_
     rintro _ i3 h3 ⟨m,hm,rfl⟩ y5 y6
     have hm1:=hm.1;have hm2:=hm.2.2 (by omega);simp;by_cases c1:4<m
     ·have wr:=Go.IntWalk.i64_in (left - 4) (by omega)
      simp [c1,wr];have hP:eS fr (⟨3,4,[]⟩:Part):=.inl ⟨.inr rfl,by simp;omega,rfl⟩;have hF:(frs (o++[(⟨3,4,[]⟩:Part)]):Int)+((left - 4):Int)=fr:=by rw [ci];(simp [psz];omega)
      have hT:tos (o++[(⟨3,4,[]⟩:Part)])+(room:Nat)<=frs (o++[(⟨3,4,[]⟩:Part)])+12:=by rw [ci,fb];(simp [psz];omega)
      have hT2:pts (o++[(⟨3,4,[]⟩:Part)])+(room:Nat)<=12:=by rw [fc];(simp;omega)
      have hLf:0<=((left - 4):Int)/\((left - 4):Int)<=fr:=(by omega);have hRm:(room:Nat)<=12:=x4;have hall:∀ q∈o++[(⟨3,4,[]⟩:Part)],eS fr q:=λq hq=>(List.mem_append.1 hq).elim (x2 q) (λh=>by simp at h;subst h;exact hP)
      intro bA;refine ⟨by omega,λHB=>?_⟩;by_cases c2:40<(o.length:Int)+1
      ·simp [c2]
       intro bB;refine ⟨by omega,λHC=>?_⟩;refine aT (.c _ 3) ⟨o++[(⟨3,4,[]⟩:Part)]++[⟨1,(left - 4),[]⟩],oA hall hLf hF (by omega) (by omega) (by simp;omega) hf0,rfl⟩ ?_;simp;refine ⟨?_,⟨rfl,rfl⟩,aj rfl y5 y6⟩
       rintro row (⟨a,-,rfl⟩|rfl|rfl)<;>rfl
      ·simp [c2]
       refine Ent.refl ⟨o++[(⟨3,4,[]⟩:Part)],(left - 4),room,HB,_,⟨by simp;omega,hall,hLf,hRm,y5,y6,hF,hT,hT2⟩,by simp;omega,h3,?_⟩;simp [Part.row]<;>omega
     ·have wr:=Go.IntWalk.i64_in (left - m) (by omega)
      simp [c1,wr];have hP:eS fr (⟨3,m,[]⟩:Part):=.inl ⟨.inr rfl,by simp;omega,rfl⟩;have hF:(frs (o++[(⟨3,m,[]⟩:Part)]):Int)+((left - m):Int)=fr:=by rw [ci];(simp [psz];omega)
      have hT:tos (o++[(⟨3,m,[]⟩:Part)])+(room:Nat)<=frs (o++[(⟨3,m,[]⟩:Part)])+12:=by rw [ci,fb];(simp [psz];omega)
      have hT2:pts (o++[(⟨3,m,[]⟩:Part)])+(room:Nat)<=12:=by rw [fc];(simp;omega)
      have hLf:0<=((left - m):Int)/\((left - m):Int)<=fr:=(by omega);have hRm:(room:Nat)<=12:=x4;have hall:∀ q∈o++[(⟨3,m,[]⟩:Part)],eS fr q:=λq hq=>(List.mem_append.1 hq).elim (x2 q) (λh=>by simp at h;subst h;exact hP)
      intro bA;refine ⟨by omega,λHB=>?_⟩;by_cases c2:40<(o.length:Int)+1
      ·simp [c2]
       intro bB;refine ⟨by omega,λHC=>?_⟩;refine aT (.c _ 3) ⟨o++[(⟨3,m,[]⟩:Part)]++[⟨1,(left - m),[]⟩],oA hall hLf hF (by omega) (by omega) (by simp;omega) hf0,rfl⟩ ?_;simp;refine ⟨?_,⟨rfl,rfl⟩,aj rfl y5 y6⟩
       rintro row (⟨a,-,rfl⟩|rfl|rfl)<;>rfl
      ·simp [c2]
       refine Ent.refl ⟨o++[(⟨3,m,[]⟩:Part)],(left - m),room,HB,_,⟨by simp;omega,hall,hLf,hRm,y5,y6,hF,hT,hT2⟩,by simp;omega,h3,?_⟩;simp [Part.row]<;>omega
    simp [z0,z1,wl];refine aa.cur (al l hl (left+1)) hu (by simp) rfl y5 y6 (by simp) ?_
    rintro _ i3 h3 ⟨m,hm,rfl⟩ y5 y6
    have hm1:=hm.1;have hm2:=hm.2.2 (by omega);have wr:=Go.IntWalk.i64_in (left - m) (by omega);simp [wr];have hP:eS fr (⟨1,m,[]⟩:Part):=.inl ⟨.inl rfl,by simp;omega,rfl⟩;have hF:(frs (o++[(⟨1,m,[]⟩:Part)]):Int)+((left - m):Int)=fr:=by rw [ci];(simp [psz];omega)
    have hT:tos (o++[(⟨1,m,[]⟩:Part)])+(room:Nat)<=frs (o++[(⟨1,m,[]⟩:Part)])+12:=by rw [ci,fb];(simp [psz];omega)
    have hT2:pts (o++[(⟨1,m,[]⟩:Part)])+(room:Nat)<=12:=by rw [fc];(simp;omega)
    have hLf:0<=((left - m):Int)/\((left - m):Int)<=fr:=(by omega);have hRm:(room:Nat)<=12:=x4;have hall:∀ q∈o++[(⟨1,m,[]⟩:Part)],eS fr q:=λq hq=>(List.mem_append.1 hq).elim (x2 q) (λh=>by simp at h;subst h;exact hP)
    intro bA;refine ⟨by omega,λHB=>?_⟩;by_cases c2:40<(o.length:Int)+1
    ·simp [c2]
     intro bB;refine ⟨by omega,λHC=>?_⟩;refine aT (.c _ 3) ⟨o++[(⟨1,m,[]⟩:Part)]++[⟨1,(left - m),[]⟩],oA hall hLf hF (by omega) (by omega) (by simp;omega) hf0,rfl⟩ ?_;simp;refine ⟨?_,⟨rfl,rfl⟩,aj rfl y5 y6⟩
     rintro row (⟨a,-,rfl⟩|rfl|rfl)<;>rfl
    ·simp [c2]
     refine Ent.refl ⟨o++[(⟨1,m,[]⟩:Part)],(left - m),room,HB,_,⟨by simp;omega,hall,hLf,hRm,y5,y6,hF,hT,hT2⟩,by simp;omega,h3,?_⟩;simp [Part.row]<;>omega
  | false =>
    simp;refine aT (.c _ 3) ⟨o,⟨by omega,λp hp=>(x2 p hp).b hf0,x2,by omega,by omega,by omega⟩,rfl⟩ ?_;simp;exact aj rfl x5 x6
end Go.Proofs.YtoldjebobgocpaaGreat
