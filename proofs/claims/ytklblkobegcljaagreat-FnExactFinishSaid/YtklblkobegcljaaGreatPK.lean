import Derived.Test.YtklblkobegcljaaGreatPJ
import Derived.Test.YtklblkobegcljaaGreatPH
import Derived.Test.YtklblkobegcljaaGreatPI
import Derived.Test.YtklblkobegcljaaGreatPE
import Derived.Test.YtklblkobegcljaaGreatPF
import Derived.Test.YtklblkobegcljaaGreatMF
namespace Go.Proofs.YtklblkobegcljaaGreat
open Go.AM
set_option maxRecDepth 20000
set_option maxHeartbeats 12800000
theorem ru{l:List Queue}(hp:l.Pairwise zs){name:ByteArray}(i:Nat)(hi:i<l.length)(h:l[i].doc=name):bK name l=i:=by
 have hon:=λ{k:Nat} h1 h2=>jU (name:=name) (l:=l) (k:=k) h1 h2
 rcases Nat.lt_trichotomy (bK name l) i with hlt|e|hgt
 ·have h1:=uj.1 hp (bK name l) i aa hi hlt
  have h2:=(hon (aH _) aa).1 (by unfold zs at h1;rw[h]at h1;exact h1);omega
 ·exact e
 ·have:=(hon aa hi).2 hgt
  rw[h]at this;exact absurd this (nv name)
theorem lN(w:Wld)(hl:bY w<=2^30)(k:Nat)(hy:(eU w k).2=true):lC Tryz.prog 8 [.agg w.row,.c (vi k)] (λrr=>rr=.tup [.agg (eU w k).1.res,.c (.v (.bool true)) 1]):=by
 have c0:bo w/\¬w.step=1000000/\(0<=(k:Int)/\(k:Int)<=(w.tasks.length:Int)-1):=aT λc=>DG
 obtain⟨c1,hs,-,hk⟩:=c0;have hk:k<w.tasks.length:=aa;have hab:=(jt c1 hs hk).1 hy;have hat:=mq c1 hs hk;have hwo:=hQ w aa;have hcp:=iA w aa;have hao:=jV w aa c1 k hk;obtain⟨nh,n2,n3,n4⟩:=bI hl;have hle:=aS n4;have hlq:=aS n3;have hhb:=(ke c1.2.1).1;have htk:=(c1.1 _ (ak hk))
 obtain⟨t,ht⟩:∃t,w.tasks[k]=t:=⟨_,rfl⟩;rw[ht]at htk hab hat hao;have hm:=λg=>j9 (f:=Task.row) hk ht g
 have hs1:=jF t.c.doc c1.2.2.1.1;have hdsz:=htk.1.2.1;have ew:Go.IntKind.i64.wrap (w.step+1)=w.step+1:=ae _ so;rw[hat]at hy⊢;refine GN aw Tryz.func8 al rfl rfl rfl (ai rfl) (λw0 base o=>?_);simp[Wld.row];intro b2 b4;refine ag.ro hwo bS ?_;simp[c1];refine ag.ro hao bS ?_;simp[hs,hab];refine ag.pure hcp bS ?_;simp[Wld.res,hk];intro H1 H2 H3 H4 H5 b6;refine aY.quiet eok mix al ?_;simp[hk,ht,Task.row];refine⟨_,_,lv t.c.doc aa w.locks.length aa aa,ab,?_⟩;simp;have hs2:=hs1.2;have hdo:=TX w.h aa t.c sm;by_cases p0:t.pc=0
 ·simp[p0,hk,ht,Task.row]
  refine ag.ro (eC t.c.kind) ab ?_;by_cases d:cW t.c.kind
  ·rw[kJ p0 d (hab.1 ⟨p0,d⟩)]
   simp[d,hs2,hm,hk,Task.row,ew]
  ·rw[ju p0 d]
   simp[az d,hk,ht,Task.row,p0];exact Ov
 by_cases p1:t.pc=1
 ·rw[iT p1]
  simp[p1,hs2,hk,ht,Task.row];have hdoc:=fm w.h aa t.c.doc;obtain⟨q0,hq0⟩:∃q:Prop,q=(¬t.c.kind=2\/w.h.shut=true\/bE w.h.docs t.c.doc<0):=⟨_,rfl⟩;by_cases q:q0
  ·rw[na sk]
   refine dS (λ_:Unit=>[(89,.v (.bool (dc q0)))]) (λ_=>[]) [1,4,6,7] ?_ ?_
   ·exact mS
   intro _;simp[q];exact Ov
  have q':¬(¬t.c.kind=2\/w.h.shut=true\/bE w.h.docs t.c.doc<0):=sk;have hal:=l6 t.c.doc w.queues;have hon:=λ{k:Nat} h1 h2=>jU (name:=t.c.doc) (l:=w.queues) (k:=k) h1 h2
  have hpw:=(mW.1 c1.2.2.2.2.2.2.2).ord;have hsame:∀i,∀hi:i<w.queues.length,w.queues[i].doc=t.c.doc->bK t.c.doc w.queues=i:=ru hpw;have hi1:∀x:Int,aG x=[CD.v (.int .i64 x)]:=λ_=>rfl
  rcases ix w.queues t.c.doc with⟨i,hi,eq,hd⟩|eq
  ·have ha:=hsame i hi hd
   by_cases fl:w.queues[i].list.length=2
   ·rw[nc q' hi eq fl]
    refine dS (λ_:Unit=>[(89,.v (.bool (dc q0)))]) (λ_=>[]) [1,4,6,7] ?_ ?_
    ·exact mS
    intro _;simp[az q];refine inl aw Tryz.func38 30000 (λw3 F3=>?_);simp[hk,ht,Task.row]
    refine aE eok (λm:Nat=>m<=bK t.c.doc w.queues) (λm=>⟨96,30000,[(6,.v (.int .i64 m)),(5,.v (.string t.c.doc)),(0,.p 96 b6 0),(1,.v (.int .i64 k))],
     (324,.rows H3 1 ((w.locks.map aG).set (bX t.c.doc w.locks.length) [.v (.int .i64 (-1))]) true)::(96,.vars b6 39 [.v (.bool w.h.shut),.sl 321 H1 5 0 w.h.docs.length,.sl 322 H2 6 0 w.h.subs.length,.v (.int .i64 w.h.last),.sl 324 H3 1 0 w.locks.length,.sl 325 H4 2 0 w.queues.length,.sl 326 H5 15 0 w.tasks.length,.v (.int .i64 w.step)]) ::  (326,.rows H5 15 (w.tasks.map Task.row) true)::(325,.rows H4 2 (w.queues.map Queue.row) true)::(322,.rows H2 6 (w.h.subs.map Sub.row) true)::(321,.rows H1 5 (w.h.docs.map Doc.row) true)::(64,.vars b4 39 [.v (.bool false),.nil,.nil,.v (.int .i64 0),.nil,.nil,.nil,.v (.int .i64 0)]) ::  phs o⟩) (λm=>w.queues.length-m) 0 ab ab (λm hmm=>Ent.refl ?_)
    by_cases hlt:m<w.queues.length
    rotate_left
    ·exfalso;omega
    obtain⟨x,hx⟩:∃x,w.queues[m]=x:=⟨_,rfl⟩;have hiff:=hon hmm hlt;rw[hx]at hiff;simp[hlt,hx,Queue.row];by_cases s:sLt x.doc t.c.doc
    ·exact vj
    have hma:m=i:=by
     have:¬m<bK t.c.doc w.queues:=λh=>s (hiff.2 h)
     omega
    subst hma;have hmne:¬(m:Int)=w.queues.length:=aa;rw[hx]at fl hd;simp[hmne,hlt,hx,hd,fl,Queue.row,az (nv t.c.doc),hk,hm,bf,eg,ew,Task.row,hi1]
   ·have hqa:=(aT (p:=il w.h w.queues i) λhn=>gf hi (gY hi hn) c1.2.2.2.2.2.2.2) hi
    have hpos:0<w.queues[i].list.length:=hqa.2.1.1;have hle2:=hqa.2.1.2;have hrow:∀d,lK (w.queues.map Queue.row) i 1 d=(w.queues.map Queue.row).set i [.v (.string w.queues[i].doc),d]:=λd=>j9 (f:=Queue.row) hi rfl _
    rw[m9 q' hi eq fl]
    refine aY.weak (⟨125,0,[(1,.v (.int .i64 k)),(4,.p 64 b4 0),(6,.p 96 b6 0),(7,.e 326 H5 15 k 0)],
     (324,.rows H3 1 ((w.locks.map aG).set (bX t.c.doc w.locks.length) [.v (.int .i64 (-1))]) true)::(96,.vars b6 39 [.v (.bool w.h.shut),.sl 321 H1 5 0 w.h.docs.length,.sl 322 H2 6 0 w.h.subs.length,.v (.int .i64 w.h.last),.sl 324 H3 1 0 w.locks.length,.sl 325 H4 2 0 w.queues.length,.sl 326 H5 15 0 w.tasks.length,.v (.int .i64 w.step)])::(326,.rows H5 15 (w.tasks.map Task.row) true)::(325,.rows H4 2 (w.queues.map Queue.row) true)::(322,.rows H2 6 (w.h.subs.map Sub.row) true)::(321,.rows H1 5 (w.h.docs.map Doc.row) true)::(64,.vars b4 39 [.v (.bool false),.nil,.nil,.v (.int .i64 0),.nil,.nil,.nil,.v (.int .i64 0)])::phs o⟩) ab ?_
    refine aY.open (λ_ h=>h) (k:=325) (i:=i) (j:=1) (k':=60000) (sz':=1) (sz:=2) (H:=H4) (rows:=w.queues.map Queue.row) (srows:=w.queues[i].list.map aG) (row:=w.queues[i].row) ab (by simp[hi]) rfl ab ah i5 sj (λG=>?_);simp only[hrow];refine dS (λ_:Unit=>[(89,.v (.bool (dc q0)))]) (λ_=>[]) [1,4,6,7] ?_ ?_
    ·exact mS
    intro _;simp[az q];refine inl aw Tryz.func38 30000 (λw3 F3=>?_);simp[hk,ht,Task.row]
    refine aE eok (λm:Nat=>m<=bK t.c.doc w.queues) (λm=>⟨96,30000,[(6,.v (.int .i64 m)),(5,.v (.string t.c.doc)),(0,.p 96 b6 0),(1,.v (.int .i64 k))],
     (324,.rows H3 1 ((w.locks.map aG).set (bX t.c.doc w.locks.length) [.v (.int .i64 (-1))]) true)::(96,.vars b6 39 [.v (.bool w.h.shut),.sl 321 H1 5 0 w.h.docs.length,.sl 322 H2 6 0 w.h.subs.length,.v (.int .i64 w.h.last),.sl 324 H3 1 0 w.locks.length,.sl 325 H4 2 0 w.queues.length,.sl 326 H5 15 0 w.tasks.length,.v (.int .i64 w.step)])::(60000,.rows G 1 (w.queues[i].list.map aG) true)::(326,.rows H5 15 (w.tasks.map Task.row) true)::(325,.rows H4 2 ((w.queues.map Queue.row).set i [.v (.string w.queues[i].doc),.h 60000 G 1 w.queues[i].list.length]) true)::(322,.rows H2 6 (w.h.subs.map Sub.row) true)::(321,.rows H1 5 (w.h.docs.map Doc.row) true)::(64,.vars b4 39 [.v (.bool false),.nil,.nil,.v (.int .i64 0),.nil,.nil,.nil,.v (.int .i64 0)]) ::  phs o⟩) (λm=>w.queues.length-m) 0 ab ab (λm hmm=>Ent.refl ?_)
    by_cases hlt:m<w.queues.length
    rotate_left
    ·exfalso;omega
    by_cases hmi:m=i
    rotate_left
    ·exact NK
    subst hmi;have hmne:¬(m:Int)=w.queues.length:=aa;have fl':¬(w.queues[m].list.length:Int)=2:=aa;simp[hlt,hd,az (nv t.c.doc),hmne,fl'];refine drw eok mix [0,1,2,3,4,5,6,7,8,9,10,11,12,13,16,17] [14,15,18] (.c 16 14 4 65531 (.c 16 15 8 65523 (.c 16 18 65521 2 (.l 16 2) .s) .s) .s) ?_;simp[hlt,hpos,bf]
    try intros
    simp[Queue.row,hk,hm,eg,ew,Task.row,hi1];omega
  ·rw[oI q' eq]
   refine aY.weak (⟨125,0,[(1,.v (.int .i64 k)),(4,.p 64 b4 0),(6,.p 96 b6 0),(7,.e 326 H5 15 k 0)],
    (324,.rows H3 1 ((w.locks.map aG).set (bX t.c.doc w.locks.length) [.v (.int .i64 (-1))]) true)::(96,.vars b6 39 [.v (.bool w.h.shut),.sl 321 H1 5 0 w.h.docs.length,.sl 322 H2 6 0 w.h.subs.length,.v (.int .i64 w.h.last),.sl 324 H3 1 0 w.locks.length,.sl 325 H4 2 0 w.queues.length,.sl 326 H5 15 0 w.tasks.length,.v (.int .i64 w.step)])::(326,.rows H5 15 (w.tasks.map Task.row) true)::(325,.rows H4 2 (w.queues.map Queue.row) true)::(322,.rows H2 6 (w.h.subs.map Sub.row) true)::(321,.rows H1 5 (w.h.docs.map Doc.row) true)::(64,.vars b4 39 [.v (.bool false),.nil,.nil,.v (.int .i64 0),.nil,.nil,.nil,.v (.int .i64 0)])::phs o⟩) ab ?_
   refine dS (λ_:Unit=>[(89,.v (.bool (dc q0)))]) (λ_=>[]) [1,4,6,7] ?_ ?_
   ·exact mS
   intro _;simp[az q];refine dI aw Tryz.func38 al rfl rfl rfl (ai rfl) 30000 rfl ab ?_;simp[hk,ht,Task.row]
   refine aE eok (λm:Nat=>m<=bK t.c.doc w.queues) (λm=>⟨96,30000,[(6,.v (.int .i64 m)),(5,.v (.string t.c.doc)),(0,.p 96 b6 0),(1,.v (.int .i64 k))],
    (324,.rows H3 1 ((w.locks.map aG).set (bX t.c.doc w.locks.length) [.v (.int .i64 (-1))]) true)::(96,.vars b6 39 [.v (.bool w.h.shut),.sl 321 H1 5 0 w.h.docs.length,.sl 322 H2 6 0 w.h.subs.length,.v (.int .i64 w.h.last),.sl 324 H3 1 0 w.locks.length,.sl 325 H4 2 0 w.queues.length,.sl 326 H5 15 0 w.tasks.length,.v (.int .i64 w.step)]) ::  (326,.rows H5 15 (w.tasks.map Task.row) true)::(325,.rows H4 2 (w.queues.map Queue.row) true)::(322,.rows H2 6 (w.h.subs.map Sub.row) true)::(321,.rows H1 5 (w.h.docs.map Doc.row) true)::(64,.vars b4 39 [.v (.bool false),.nil,.nil,.v (.int .i64 0),.nil,.nil,.nil,.v (.int .i64 0)]) ::  phs o⟩) (λm=>w.queues.length-m) 0 ab ab (λm hmm=>Ent.refl ?_)
   have hnone:∀j,∀hj:j<w.queues.length,¬w.queues[j].doc=t.c.doc:=by
    exact Ns
   generalize bK t.c.doc w.queues=a at hal hon hmm;by_cases hlt:m<w.queues.length
   ·obtain⟨x,hx⟩:∃x,w.queues[m]=x:=⟨_,rfl⟩
    have hiff:=hon hmm hlt;have hxn:=hnone m hlt;rw[hx]at hiff hxn;simp[hlt,hx,Queue.row];by_cases s:sLt x.doc t.c.doc
    ·exact vj
    have hka:m=a:=by
     exact D1
    subst hka;have hmn:min m w.queues.length=m:=aa;have hmne:¬(m:Int)=w.queues.length:=aa;simp[az s,hmne,hxn,hlt,hx,Queue.row];intro b65;refine gS qg ah (n:=w.queues.length) (rows:=w.queues.map Queue.row) (row:=[.v (.string t.c.doc),.s []]) (k:=325) (kv:=31024) (own:=true) (ownv:=true) (i:=m) ab ab ab ah (by simp;try omega) aN (λH6=>?_);obtain⟨Z,hZ⟩:∃Z,Z=(w.queues.map Queue.row).take m++[.v (.string t.c.doc),.s []]::(w.queues.map Queue.row).drop m:=⟨_,rfl⟩;have hZl:Z.length=w.queues.length+1:=yH;have hZm:m<Z.length:=aa;have hZe:Z[m]=[.v (.string t.c.doc),.s []]:=by subst hZ;rw[fX nY];simp[ep hal]
    have hZs:∀d,lK Z m 1 d=Z.set m [.v (.string t.c.doc),d]:=λd=>yG
    have hZt:∀r,Z.set m r=(w.queues.map Queue.row).take m++r::(w.queues.map Queue.row).drop m:=λr=>by subst hZ;rw[dW _ _ nY];simp[ep hal]
    rw[<-hZ];have hml:(m:Int)<(w.queues.length:Int)+1:=aa;have hml2:m<w.queues.length+1:=aa;simp[hZl,hZe,hml,hml2]
    refine aY.weak (⟨96,30000,[(6,.v (.int .i64 (m:Nat))),(0,.p 96 b6 0),(1,.v (.int .i64 k))],
     (324,.rows H3 1 ((w.locks.map aG).set (bX t.c.doc w.locks.length) [.v (.int .i64 (-1))]) true)::(96,.vars b6 39 [.v (.bool w.h.shut),.sl 321 H1 5 0 w.h.docs.length,.sl 322 H2 6 0 w.h.subs.length,.v (.int .i64 w.h.last),.sl 324 H3 1 0 w.locks.length,.sl 325 H6 2 0 (w.queues.length+1),.sl 326 H5 15 0 w.tasks.length,.v (.int .i64 w.step)])::(326,.rows H5 15 (w.tasks.map Task.row) true)::(325,.rows H6 2 Z true)::(322,.rows H2 6 (w.h.subs.map Sub.row) true)::(321,.rows H1 5 (w.h.docs.map Doc.row) true)::(64,.vars b4 39 [.v (.bool false),.nil,.nil,.v (.int .i64 0),.nil,.nil,.nil,.v (.int .i64 0)])::phs o⟩) ab ?_
    refine aY.open (λ_ h=>h) (k:=325) (i:=m) (j:=1) (k':=60000) (sz':=1) (sz:=2) (H:=H6) (rows:=Z) (srows:=[]) (row:=[.v (.string t.c.doc),.s []]) ab yF rfl ab ah ab sj (λG=>?_);exact N8
   have hka:m=w.queues.length:=aa;have hka2:a=w.queues.length:=aa;subst hka2;subst hka;simp;intro b65;refine gS qg ah (n:=w.queues.length) (rows:=w.queues.map Queue.row) (row:=[.v (.string t.c.doc),.s []]) (k:=325) (kv:=31024) (own:=true) (ownv:=true) (i:=w.queues.length) ab ab ab ah (by simp;try omega) aN (λH6=>?_);obtain⟨Z,hZ⟩:∃Z,Z=(w.queues.map Queue.row).take w.queues.length++[.v (.string t.c.doc),.s []]::(w.queues.map Queue.row).drop w.queues.length:=⟨_,rfl⟩;have hZl:Z.length=w.queues.length+1:=yH;have hZm:w.queues.length<Z.length:=aa;have hZe:Z[w.queues.length]=[.v (.string t.c.doc),.s []]:=by subst hZ;rw[fX nY];simp[ep hal]
   have hZs:∀d,lK Z w.queues.length 1 d=Z.set w.queues.length [.v (.string t.c.doc),d]:=λd=>yG
   have hZt:∀r,Z.set w.queues.length r=(w.queues.map Queue.row).take w.queues.length++r::(w.queues.map Queue.row).drop w.queues.length:=λr=>by subst hZ;rw[dW _ _ nY];simp[ep hal]
   rw[<-hZ];have hml:(w.queues.length:Int)<(w.queues.length:Int)+1:=aa;have hml2:w.queues.length<w.queues.length+1:=aa;simp[hZl,hZe,hml,hml2]
   refine aY.weak (⟨96,30000,[(6,.v (.int .i64 (w.queues.length:Nat))),(0,.p 96 b6 0),(1,.v (.int .i64 k))],
    (324,.rows H3 1 ((w.locks.map aG).set (bX t.c.doc w.locks.length) [.v (.int .i64 (-1))]) true)::(96,.vars b6 39 [.v (.bool w.h.shut),.sl 321 H1 5 0 w.h.docs.length,.sl 322 H2 6 0 w.h.subs.length,.v (.int .i64 w.h.last),.sl 324 H3 1 0 w.locks.length,.sl 325 H6 2 0 (w.queues.length+1),.sl 326 H5 15 0 w.tasks.length,.v (.int .i64 w.step)])::(326,.rows H5 15 (w.tasks.map Task.row) true)::(325,.rows H6 2 Z true)::(322,.rows H2 6 (w.h.subs.map Sub.row) true)::(321,.rows H1 5 (w.h.docs.map Doc.row) true)::(64,.vars b4 39 [.v (.bool false),.nil,.nil,.v (.int .i64 0),.nil,.nil,.nil,.v (.int .i64 0)])::phs o⟩) ab ?_
   refine aY.open (λ_ h=>h) (k:=325) (i:=w.queues.length) (j:=1) (k':=60000) (sz':=1) (sz:=2) (H:=H6) (rows:=Z) (srows:=[]) (row:=[.v (.string t.c.doc),.s []]) ab yF rfl ab ah ab sj (λG=>?_);exact N8
 have p3:t.pc=3:=by
  have h1:=htk.2.2.1;have h2:=hab.2;omega
 rw[kI p3];simp[p3,hm,bf,Task.row,hk,ht,ew]
set_option maxHeartbeats 3200000
inductive stepTo(w:Wld):Wld->Prop
 |come {c:Call}(h:(Yt w c).2=true):stepTo w (Yt w c).1
 |pick {k:Int}(h:(eU w k).2=true):stepTo w (eU w k).1
 |serve {name:ByteArray}(h:(ia w name).2=true):stepTo w (ia w name).1
inductive Reach(h:Hub):Nat->Wld->Prop
 |new {n:Int}(hn:(C9 h n).2=true):Reach h 0 (C9 h n).1
 |same {i:Nat}{w:Wld}(r:Reach h i w):Reach h (i+1) w
 |step {i:Nat}{w w':Wld}(r:Reach h i w) (s:stepTo w w'):Reach h (i+1) w'
set_option maxHeartbeats 12800000
theorem Pe(p:Int){n:Int}(h:0<n):(p.tmod n+n).tmod n=p % n:=by
 have h0:0<=p.tmod n+n:=by
  have:=Int.lt_tmod_of_pos p h;omega
 rw[fA h0,Int.tmod_def,Int.add_emod,Int.emod_self,Int.add_zero,Int.emod_emod,Int.sub_mul_emod_self_left]
theorem F0(w0:Wld)(i0:Nat)(hi0:i0<=1024)(ht:rN w0 i0)(hs0:0<=w0.step)(hs1:w0.step<=1000000)(picks:List Int)(_hpl:picks.length<=2^40)(_hp:∀p∈picks,gl p) :
 lC Tryz.prog 14 [.agg w0.row,.c (.s (picks.map aG))] (λrr=>rr=.tup [.agg (eZ w0 picks).1.res,.c (vi (eZ w0 picks).2) 1]):=by
 refine lC.intro aw Tryz.func14 al rfl rfl rfl (ai rfl) (λwz base o=>?_);have hw:=wW ht aa;simp[Wld.row];intro b2 b4;refine ag.ro (iA w0 aa) bS ?_;simp[Wld.res];intro b6
 refine aE eok (λx:Wld×Nat=>rN x.1 (i0+x.2)/\x.2<=1000000/\x.1.step=w0.step+x.2/\x.1.step<=1000000/\eZ w0 picks=mC picks (1000001-x.2) x.2 x.1)
  (λx=>⟨68,0,[(7,.v (.int .i64 x.2)),(6,.p 96 b6 0),(4,.p 64 b4 0),(1,.ro (picks.map aG))],
   (96,.vars b6 39 [.v (.bool x.1.h.shut),.ro (x.1.h.docs.map Doc.row),.ro (x.1.h.subs.map Sub.row),.v (.int .i64 x.1.h.last),.ro (x.1.locks.map aG),.ro (x.1.queues.map Queue.row),.ro (x.1.tasks.map Task.row),.v (.int .i64 x.1.step)])::(64,.vars b4 39 [.v (.bool false),.nil,.nil,.v (.int .i64 0),.nil,.nil,.nil,.v (.int .i64 0)])::phs o⟩) (λx=>1000001-x.2)
  (w0,0) ⟨ht,aa,ab,hs1,rfl⟩ ab (λx hx=>Ent.refl ?_)
 obtain⟨w,n⟩:=x;obtain⟨x1,x2,x3,x4,x5⟩:=hx;simp only at x1 x2 x3 x4 x5;have hwn:=wW x1 aa;have c3:=qo w hwn;have c4:=m6 w hwn;obtain⟨-,-,n3,n4⟩:=bI hwn;have hlt:=aS n4;have hlq:=aS n3
 have hal:(bn w).length<=w.tasks.length:=by
  exact sS
 have hsl:(ba w).length<=w.queues.length:=by
  exact sQ
 have wsum:=ae (((bn w).length:Int)+((ba w).length:Int)) aa;simp;refine aY.quiet eok mix al ?_;simp;refine⟨_,_,c3,bS,?_⟩;simp;refine⟨_,_,c4,bS,?_⟩;simp[wsum];by_cases hm:cL w=0
 ·rw[kn hm]at x5
  have hz:((bn w).length:Int)+((ba w).length:Int)=0:=nX;simp[hz,x5]
 have hz:¬((bn w).length:Int)+((ba w).length:Int)=0:=nX;obtain⟨wok,wst⟩:=l7 hm;rw[show 1000001-n=(1000001-(n+1))+1 from aa,pF hm]at x5;have hmz:(cL w:Int)=((bn w).length:Int)+((ba w).length:Int):=by unfold cL;omega
 have hpl:=nj picks n (show 0<cL w from aa);have yT:=pE x1 hm hpl;have ys:=m8 hm hpl;have wn:=ae ((n:Int)+1) aa;simp[hz];by_cases hpk:n<picks.length
 ·have e1:(Go.IntKind.i64.wrap (picks[n].tmod (((bn w).length:Int)+((ba w).length:Int))+(((bn w).length:Int)+((ba w).length:Int)))).tmod (((bn w).length:Int)+((ba w).length:Int))=((dZ picks n (cL w):Nat):Int):=by
   exact EX
  simp[hpk,e1,hz];generalize dZ picks n (cL w)=p at hpl yT ys x5;by_cases ha:p<(bn w).length
  ·simp[ha]
   obtain⟨k,hk,hke,hky⟩:=mc ha;have ey:bk w p=(eU w k).1:=pN;have hc:=lN w hwn k hky;rw[<-ey]at hc;generalize bk w p=y at yT ys x5 hc;refine drw eok mix [0,1,2,3,4] [5,6,7,8,9] (.c 5 5 17 14 (.c 5 6 0 14 (.c 5 7 0 14 (.c 5 8 0 14 (.c 5 9 14 0 (.l 5 0) .s) .s) .s) .s) .s) ?_;simp[ha,hke]
   try intros
   refine gR hc bS ?_;rintro _ rfl;simp[Wld.res]
   try intros
   refine Ent.refl ⟨y,n+1,⟨yT,aa,aa,aa,x5⟩,aa,?_⟩;simp[wn]
  have hs:p-(bn w).length<(ba w).length:=pM;have wsub:Go.IntKind.i64.wrap (((p:Nat):Int)-((bn w).length:Int))=((p-(bn w).length:Nat):Int):=by rw[ae _ aa];omega
  have ey:bk w p=(ia w (ba w)[p-(bn w).length]).1:=by unfold bk;rw[cw aa,aj hs]
  generalize p-(bn w).length=jj at hs wsub ey;have hc:=kF w hwn (ba w)[jj];rw[<-ey]at hc;generalize bk w p=y at yT ys x5 hc
  try simp only[nU]at wsub
  simp[ha];refine drw eok mix [0,1,2,3,4,5,6,7] [8,9,10,11,12] (.c 8 8 129 126 (.c 8 9 0 126 (.c 8 10 0 126 (.c 8 11 0 126 (.c 8 12 126 0 (.l 8 0) .s) .s) .s) .s) .s) ?_;simp[hs,wsub,vk]
  try intros
  refine ag.ro hc bS ?_;simp[Wld.res]
  try intros
  refine Ent.refl ⟨y,n+1,⟨yT,aa,aa,aa,x5⟩,aa,?_⟩;simp[wn]
 have e1:dZ picks n (cL w)=0:=by unfold dZ;rw[cw aa]
 rw[e1]at hpl yT ys x5;simp[hpk];by_cases ha:0<(bn w).length
 ·simp[ha,hz]
  obtain⟨k,hk,hke,hky⟩:=mc ha;have ey:bk w 0=(eU w k).1:=pN;have hc:=lN w hwn k hky;rw[<-ey]at hc;generalize bk w 0=y at yT ys x5 hc;refine drw eok mix [0,1,2,3,4] [5,6,7,8,9] (.c 5 5 17 14 (.c 5 6 0 14 (.c 5 7 0 14 (.c 5 8 0 14 (.c 5 9 14 0 (.l 5 0) .s) .s) .s) .s) .s) ?_;simp[ha,hke]
  try intros
  refine gR hc bS ?_;rintro _ rfl;simp[Wld.res]
  try intros
  refine Ent.refl ⟨y,n+1,⟨yT,aa,aa,aa,x5⟩,aa,?_⟩;simp[wn]
 have hs:0-(bn w).length<(ba w).length:=pM;have wsub:Go.IntKind.i64.wrap ((0:Int)-((bn w).length:Int))=((0-(bn w).length:Nat):Int):=by rw[ae _ aa];omega
 have ey:bk w 0=(ia w (ba w)[0-(bn w).length]).1:=by unfold bk;rw[cw aa,aj hs]
 generalize 0-(bn w).length=jj at hs wsub ey;have hc:=kF w hwn (ba w)[jj];rw[<-ey]at hc;generalize bk w 0=y at yT ys x5 hc
 try simp only[nU]at wsub
 simp[ha,hz];refine drw eok mix [0,1,2,3,4,5,6,7] [8,9,10,11,12] (.c 8 8 129 126 (.c 8 9 0 126 (.c 8 10 0 126 (.c 8 11 0 126 (.c 8 12 126 0 (.l 8 0) .s) .s) .s) .s) .s) ?_;simp[hs,wsub,vk]
 try intros
 refine ag.ro hc bS ?_;simp[Wld.res]
 try intros
 refine Ent.refl ⟨y,n+1,⟨yT,aa,aa,aa,x5⟩,aa,?_⟩;simp[wn]
end Go.Proofs.YtklblkobegcljaaGreat
namespace Go.AM
open Go.RowKit
theorem aV.ent{E:Env}{body:Code}{Q:Exit->ASt->Prop}{st:ASt}(h:Ent E st (aV E body Q)):aV E body Q st:=λa w hR=>by
 obtain⟨st',h1,h2⟩:=h a w hR;exact h1 a w h2
def By(P:Program)(L:World->Prop)(f:Nat)(args:List VD)(R:RR->Prop):Prop:=
 xj P f/\∀(w:World) (o:gQ) (xs:Array Value),o.at w->(∀w',BelowF (λc=>c<w.heap.size/\o.off c) w w'->L w')->xs.size=args.length->(∀i vd,args[i]? = some vd->uQ w o.off (xs.getD i undef) vd) ->
  Calls P f xs w λe w'=>∃v rr,e=.returned v/\R rr/\Below w.heap.size w w'/\Cd w' o.off v rr
theorem By.mono{P:Program}{L:World->Prop}{f:Nat}{args:List VD}{R R':RR->Prop}(hc:By P L f args R)(h:∀r,R r->R' r):By P L f args R':=by
 refine⟨hc.1,λw o xs ho hL hs hx=>(hc.2 w o xs ho hL hs hx).mono ?_⟩;exact LM
theorem OS{P:Program}{Ty:Nat->Option TI}{L:World->Prop}{fn:Func}{w w':World}{o:gQ}(hE:EOk ⟨P,Ty,w,⟨λc=>c<w.heap.size/\o.off c,λc=>c<w.heap.size/\o.off c,false,L⟩⟩)(ho:o.at w){R:RR->Prop}{st':ASt}{a':Act}
 (hR':Rep w ⟨λc=>c<w.heap.size/\o.off c,λc=>c<w.heap.size/\o.off c,false,L⟩ st' a' w')
 (hq:gP ⟨P,Ty,w,⟨λc=>c<w.heap.size/\o.off c,λc=>c<w.heap.size/\o.off c,false,L⟩⟩ st' fn.results.toList λl=>∃rr,R rr/\nQ ⟨P,Ty,w,⟨λc=>c<w.heap.size/\o.off c,λc=>c<w.heap.size/\o.off c,false,L⟩⟩ st'.h l rr/\oO st'.h o) :
 a'.defers=[]/\∃v,(results fn a'.tmps).run P w'=.ok v w'/\∃v' rr,Ending.returned v=.returned v'/\R rr/\Below w.heap.size w w'/\Cd w' o.off v' rr:=by
 let B:Bs:=⟨λc=>c<w.heap.size/\o.off c,λc=>c<w.heap.size/\o.off c,false,L⟩
 obtain⟨vs,l,h1,h2,h3,rr,hRR,h4,hg⟩:=gq hE hR' fn.results.toList hq;obtain⟨Es,hH⟩:=hR'.heap
 refine⟨hR'.dfr,_,OQ h1,_,rr,rfl,hRR,⟨hR'.below.os,hR'.below.tape,hR'.below.output,hR'.below.size,λc hc=>?_⟩,
  HG (E:=⟨P,Ty,w,B⟩) hH (S:=o.off) (λc hc=>aT λh=>?_) (λk b' o' C sz rows own hgk=>aT λh=>?_) (λv d hd=>?_) h2 h3 h4⟩
 ·by_cases h:o.off c
  ·exact hR'.below.block c ⟨hc,h⟩
  ·exact(s7 hH ho hg h).1
 ·obtain⟨-,k,-,hk,-⟩:=s7 hH ho hg h
  exact hc ⟨k,hk⟩
 ·obtain⟨-,k',-,hk,b,T,l,he⟩:=s7 hH ho hg h
  have:=hH.inj k k' b' (by rw[hgk];rfl) hk;subst this;rw[hgk]at he;cases he
 ·exact Rd.map hd (λc hc _=>hR'.below.block c hc) (λc hc _=>hc.2)
theorem By.intro {P : Program} {Ty : Nat → Option TI} (hT : ∀ t ti, Ty t = some ti → TIok P t ti) {L : World → Prop} {f : Nat} {fn : Func} {c : Code} (hf : P.funcs[f]? = some fn) (hname : (fn.name == "runtime.NumGoroutine") = false) (hb : fn.body = some c)
 {n:Nat}{rs:List ResultVar}(hnt:fn.ntmps=n) (hrs:fn.results=⟨rs⟩) {args:List VD}{R:RR->Prop}(hn:args.length<=n)
 (h:∀w0 base o,EOk ⟨P,Ty,w0,⟨base,base,false,L⟩⟩->ic ⟨P,Ty,w0,⟨base,base,false,L⟩⟩ c (Bf ⟨P,Ty,w0,⟨base,base,false,L⟩⟩ o rs R) { n:=n,kb:=0,t:=nW 0 args,h:=phs o }):By P L f args R:=by
 subst hnt;have hrs':fn.results.toList=rs:=lX;subst hrs';refine⟨⟨fn,hf,hname,kX⟩,λw o xs ho hL hs hx=>jg hf hb ?_⟩;have hE:EOk ⟨P,Ty,w,⟨λc=>c<w.heap.size/\o.off c,λc=>c<w.heap.size/\o.off c,false,L⟩⟩:=⟨hT,hL⟩
 obtain⟨r1,r2,r3,⟨Er,r4⟩,r5,r6⟩:=JF ho (n:=fn.ntmps) (xs:=xs) (t:=nW 0 args) aa (λq=>by
  rw[rX,an (iU q),jO]
  split
  ·exact D0
  ·exact .any _)
 have hR:Rep w ⟨λc=>c<w.heap.size/\o.off c,λc=>c<w.heap.size/\o.off c,false,L⟩ { n:=fn.ntmps,kb:=0,t:=nW 0 args,h:=phs o } { tmps:=xs++Array.replicate (fn.ntmps-xs.size) undef,defers:=[] } w:=
  ⟨r1,r2,r3,⟨Er,r4.obj,r4.inj,r4.low,r4.elow,r4.einj,r4.em⟩,r5,r6⟩
 refine gT (dD hE c _ _ _ w hR (h w _ o hE)) ?_
 rintro e a' w' ⟨st',hq,hR'⟩
 cases e with
 |normal=>exact OS hE ho hR' hq
 |ret=>exact OS hE ho hR' hq
 |_=>exact hq.elim
def mI(P:Program)(f:Nat)(args:List VD)(post:AV->AH->Prop):Prop:=
 xj P f/\∀(w:World) (xs:Array Value),xs.size=args.length->(∀i vd,args[i]? = some vd->RdV w (xs.getD i undef) vd) ->
  Calls P f xs w λe w'=>∃v av h E,e=.returned v/\post av h/\av.q=true/\(∀k,(h.get k).q=true)/\Below w.heap.size w w'/\VRel w' h.M av v /\
   HRel ⟨λc=>c<w.heap.size,λc=>c<w.heap.size,false,λ_=>True⟩ h w' E
theorem mI.mono{P:Program}{f:Nat}{args:List VD}{R R':AV->AH->Prop}(hc:mI P f args R)(h:∀av hp,R av hp->R' av hp):mI P f args R':=by
 refine⟨hc.1,λw xs hs hx=>(hc.2 w xs hs hx).mono ?_⟩
 rintro e w' ⟨v,av,hp,E,rfl,h1,h2⟩
 exact⟨v,av,hp,E,rfl,h _ _ h1,h2⟩
theorem rK:∀(hN h:AH) (k:Nat),AH.get (hN++h) k=if k∈hN.map (·.1)then hN.get k else h.get k
 | [],h,k=>ab
 | (j, o) :: hN, h, k => by
   rw[dn,bH,bH,rK hN h k];by_cases e:k=j
   ·simp[e]
   ·simp only[bL,aX,e,false_or,dv]
theorem zw:∀(h:AH) {k:Nat},k∉h.map (·.1)->h.get k=.dead
 | [],_,_=>rfl
 | (j, o) :: l, k, hk => by
   simp only[bL,aX,not_or]at hk;rw[bH,aq hk.1];exact zw l hk.2
theorem mv{E:Env}{f:Nat}{args:List VD}{post:AV->AH->Prop}(hc:mI E.P f args post){avs:List AV}{st:ASt}{dst:Option Nat}{K:ASt->Prop}(hin:sb E.rd st.h avs args)
 (hout:∀av hN,post av hN->bQ { st with h:=hN++st.h } dst av K):ag E f avs st dst K:=by
 refine⟨hc.1,λa w hR xs hs hx=>?_⟩;obtain⟨Es,hH⟩:=hR.heap;obtain⟨hl,hr⟩:=kO hH hR.rd avs args hx hin;refine(hc.2 w xs aa hr).mono ?_
 rintro e w' ⟨v,av,hN,EN,rfl,hp,hq,hqo,hb,hv,HN⟩
 have hlow:∀k b,(hN.get k).blk=some b->w.heap.size<=b:=λk b h=>pf (HN.low k b h).1
 have hMo:∀c,(AH.M (hN++st.h)) c->hN.M c\/st.h.M c:=by
  rintro c ⟨k,hk⟩
  rw[rK]at hk
  split at hk
  ·exact .inl ⟨k,hk⟩
  ·exact .inr ⟨k,hk⟩
 have t:Tr st.h.M w (AH.M (hN++st.h)) w':=⟨hb.size,λb hlt _=>hb.block b hlt,λb hlt hM=>(hMo b hM).elim (λ⟨k,hk⟩=>by have:=hlow k b hk;omega) id⟩
 have HX:HRel E.base (hN++st.h) w' (λk c=>if k∈hN.map (·.1)then EN k c else Es k c):=by
  refine⟨λk=>?_,λk k' b h1 h2=>?_,λk b h1=>?_,λk c hc=>?_,λk k' c h1 h2=>?_,λk c hc hM=>?_⟩
  ·rw[rK]
   split
   ·refine(HN.obj k).quiet (hqo k) (λc hc hn hM=>?_)
    rcases hMo c hM with h|⟨j,hj⟩
    ·exact hn h
    ·have:=(HN.elow k c hc).1
     have:=hH.lt hj;omega
   ·exact(hH.obj k).tr t (λb hk=>hb.block b (hH.lt hk)) (λc hc _=>hc)
  ·rw[rK]at h1 h2
   split at h1<;>split at h2
   ·exact HN.inj _ _ _ h1 h2
   ·have:=hlow _ _ h1;have:=hH.lt h2;omega
   ·have:=hlow _ _ h2;have:=hH.lt h1;omega
   ·exact hH.inj _ _ _ h1 h2
  ·rw[rK]at h1
   split at h1
   ·exact hR.newer (hlow _ _ h1)
   ·exact hH.low _ _ h1
  ·split at hc
   ·exact⟨(hR.newer (pf (HN.elow k c hc).1)).2,(HN.elow k c hc).2⟩
   ·exact⟨(hH.elow k c hc).1,cg (hH.elow k c hc).2 hb.size⟩
  ·split at h1<;>split at h2
   ·exact HN.einj _ _ _ h1 h2
   ·have:=(HN.elow k c h1).1;have:=(hH.elow k' c h2).2;omega
   ·have:=(HN.elow k' c h2).1;have:=(hH.elow k c h1).2;omega
   ·exact hH.einj _ _ _ h1 h2
  ·split at hc
   ·rcases hMo c hM with h|⟨j,hj⟩
    ·exact HN.em k c hc h
    ·have:=(HN.elow k c hc).1
     have:=hH.lt hj;omega
   ·rcases hMo c hM with⟨j,hj⟩|h
    ·have:=(hH.elow k c hc).2
     have:=hlow _ _ hj;omega
    ·exact hH.em k c hc h
 have hv':VRel w' (AH.M (hN++st.h)) av v:=hv.quiet hq;obtain⟨av',h3,h1,h2,h4,h5⟩:=(hR.move HX t ⟨hb.os,hb.tape,hb.output⟩).put hv' (hout av hN hp);exact⟨v,av',h3,rfl,h1,h2,h4,h5⟩
theorem HRel.some{base:Bs}{h hN:AH}{w:World}{E:Nat->Nat->Prop}(H:HRel base h w E)(hg:∀k∈hN.map (·.1),hN.get k=h.get k)(_hq:∀k,(hN.get k).q=true) :
 HRel base hN w (λk c=>k∈hN.map (·.1)/\E k c):=by
 have hb:∀k b,(hN.get k).blk=Option.some b->k∈hN.map (·.1)/\(h.get k).blk=Option.some b:=by
  intro k b hk;by_cases hm:k∈hN.map (·.1)
  ·exact⟨hm,by rw[<-hg k hm];exact hk⟩
  ·rw[zw hN hm]at hk;cases hk
 have hM:∀c,hN.M c->h.M c:=λc ⟨k,hk⟩=>⟨k,(hb k c hk).2⟩
 refine⟨λk=>?_,λk k' b h1 h2=>H.inj _ _ _ (hb _ _ h1).2 (hb _ _ h2).2,λk b h1=>H.low _ _ (hb _ _ h1).2,λk c hc=>H.elow k c hc.2,λk k' c h1 h2=>H.einj _ _ _ h1.2 h2.2,λk c hc hm=>H.em k c hc.2 (hM c hm)⟩;by_cases hm:k∈hN.map (·.1)
 ·rw[hg k hm]
  exact(H.obj k).mono (λc _ hc=>hM c hc) (λc hc=>⟨hm,hc⟩)
 ·rw[zw hN hm]
  trivial
def BQ(x:AV)(K:AV->Prop):Prop:=
 match x with
 | .sl k (some (b,o,C)) sz off len=>if 70000<=k then ∀H',(H'=some (b,o+off*sz,C-off)\/len=0/\H'=none)->K (.ml k H' sz len)else K x
 |x=>K x
def Hr(l:List AV)(K:List AV->Prop):Prop:=
 match l with
 | []=>K []
 |a::l=>BQ a λa'=>Hr l λl'=>K (a'::l')
def JA(x:AV)(K:AV->Prop):Prop:=
 match x with
 | .agg l=>Hr l λl'=>K (.agg l')
 |x=>BQ x K
def rn(l:List AV)(K:List AV->Prop):Prop:=
 match l with
 | []=>K []
 |a::l=>JA a λa'=>rn l λl'=>K (a'::l')
theorem Af{w:World}{M:Nat->Prop}{x:AV}{u:Value}(h:VRel w M x u){K:AV->Prop}(hk:BQ x K):∃x',VRel w M x' u/\K x':=by
 unfold BQ at hk
 split at hk
 ·rename_i k b o C sz off len
  split at hk
  ·rename_i h7
   have hm:MlS k sz len:=.free h7
   cases h with
   | sl _ _ _ _ _ _ hs =>
     rcases hs with⟨rfl,hC⟩|⟨rfl,hp,a,rfl⟩
     ·refine⟨_,.ml _ _ _ _ _ (.inl ⟨hm,?_⟩),hk (Option.some (b,o+off*sz,C-off)) (.inl rfl)⟩
      exact y6
     ·have hs:SlV none sz 0 0 (.slice a 0 0):=⟨⟨a,rfl⟩,rfl⟩
      exact⟨_,.ml _ _ _ _ _ (.inl ⟨hm,hs⟩),hk none (.inr ⟨rfl,rfl⟩)⟩
  ·exact⟨_,h,hk⟩
 ·exact⟨_,h,hk⟩
theorem Ag{w:World}{M:Nat->Prop}:∀(l:List AV) {us:Nat->Value}(_:∀i av,l[i]? = some av->VRel w M av (us i)) {K:List AV->Prop}(_:Hr l K),
 ∃l',l'.length=l.length/\(∀i av,l'[i]? = some av->VRel w M av (us i))/\K l'
 | [],us,h,K,hk=>⟨[],rfl,h,hk⟩
 | a :: l, us, h, K, hk => by
   unfold Hr at hk;obtain⟨a',h1,hk⟩:=Af (h 0 a rfl) hk;obtain⟨l',h2,h3,hk⟩:=Ag l (us:=λi=>us (i+1)) (λi av hi=>h (i+1) av ee) hk;exact Np
theorem Jz{w:World}{M:Nat->Prop}{x:AV}{u:Value}(h:VRel w M x u){K:AV->Prop}(hk:JA x K):∃x',VRel w M x' u/\K x':=by
 unfold JA at hk
 split at hk
 ·rename_i l
  cases h with
  | agg _ xs hs hl =>
    obtain⟨l',h1,h2,h3⟩:=Ag l (us:=λi=>xs.getD i undef) hl hk;exact⟨_,.agg l' xs aa h2,h3⟩
 ·exact Af h hk
theorem xz{w:World}{M:Nat->Prop}:∀(l:List AV) {us:Nat->Value}(_:∀i av,l[i]? = some av->VRel w M av (us i)) {K:List AV->Prop}(_:rn l K),
 ∃l',l'.length=l.length/\(∀i av,l'[i]? = some av->VRel w M av (us i))/\K l'
 | [],us,h,K,hk=>⟨[],rfl,h,hk⟩
 | a :: l, us, h, K, hk => by
   unfold rn at hk;obtain⟨a',h1,hk⟩:=Jz (h 0 a rfl) hk;obtain⟨l',h2,h3,hk⟩:=xz l (us:=λi=>us (i+1)) (λi av hi=>h (i+1) av ee) hk;exact Np
def qJ:List AV->AV
 | [x]=>x
 |l=>.tup l
def U7(E:Env)(rs:List ResultVar)(post:AV->AH->Prop):Exit->ASt->Prop
 | .normal,st=>gP E st rs λl=>rn l λl=>∃hN:AH,post (qJ l) hN/\AV.qL l=true/\qH hN=true/\∀p∈hN,st.h.get p.1=p.2
 | .ret,st=>gP E st rs λl=>rn l λl=>∃hN:AH,post (qJ l) hN/\AV.qL l=true/\qH hN=true/\∀p∈hN,st.h.get p.1=p.2
 |_,_=>False
theorem Ue:∀(h:AH) {k:Nat},k∈h.map (·.1)->(k,h.get k)∈h
 | (j, o) :: l, k, hk => by
   rw[bH]
   split
   ·rename_i e;subst e;exact aJ ..
   ·rename_i e
    simp only[bL,aX]at hk;exact aC _ (Ue l (hk.resolve_left e))
theorem mI.intro {P : Program} {T : Nat → Option TI} (hT : ∀ t ti, T t = some ti → TIok P t ti) {f : Nat} {fn : Func} {c : Code} (hf : P.funcs[f]? = some fn) (hname : (fn.name == "runtime.NumGoroutine") = false) (hb : fn.body = some c)
 {n:Nat}{rs:List ResultVar}(hnt:fn.ntmps=n) (hrs:fn.results=⟨rs⟩) {args:List VD}{post:AV->AH->Prop}(hn:args.length<=n) (kb:Nat)
 (h:∀w0 b,ic ⟨P,T,w0,⟨b,b,false,λ_=>True⟩⟩ c (U7 ⟨P,T,w0,⟨b,b,false,λ_=>True⟩⟩ rs post) { n:=n,kb:=kb,t:=nW 0 args,h:=[] }):mI P f args post:=by
 subst hnt;have hrs':fn.results.toList=rs:=lX;subst hrs';refine⟨⟨fn,hf,hname,kX⟩,λw xs hs hx=>jg hf hb ?_⟩
 let bs:Bs:=⟨λc=>c<w.heap.size,λc=>c<w.heap.size,false,λ_=>True⟩
 have hE:EOk ⟨P,T,w,bs⟩:=⟨hT,λw' hb=>trivial⟩;have hM:∀b,¬AH.M [] b:=DS
 have hR:Rep w bs { n:=fn.ntmps,kb:=kb,t:=nW 0 args,h:=[] } { tmps:=xs++Array.replicate (fn.ntmps-xs.size) undef,defers:=[] } w:=by
  exact E4
 refine gT (dD hE c _ _ _ w hR (h w (λc=>c<w.heap.size))) ?_
 rintro e a' w' ⟨st',hq,hR'⟩
 have key:(gP ⟨P,T,w,bs⟩ st' fn.results.toList λl=>rn l λl=>∃hN:AH,post (qJ l) hN/\AV.qL l=true/\qH hN=true/\∀p∈hN,st'.h.get p.1=p.2)->a'.defers=[]/\∃v,(results fn a'.tmps).run P w'=.ok v w' /\
  ∃v' av h E,Ending.returned v=.returned v'/\post av h/\av.q=true/\(∀k,(h.get k).q=true)/\Below w.heap.size w w'/\VRel w' h.M av v'/\HRel bs h w' E:=by
  intro hq;obtain⟨vs,l,h1,h2,h3,h4⟩:=gq hE hR' fn.results.toList hq;obtain⟨l',hl',h3',hN,hp,hql,hqh,hg⟩:=xz l h3 h4;obtain⟨Es,hH⟩:=hR'.heap
  have hqa:(qJ l').q=true:=by
   unfold qJ
   split
   ·simpa[AV.qL]using hql
   ·simpa[AV.q]using hql
  refine⟨hR'.dfr,if vs.length=1 then vs.getD 0 undef else .tuple vs.toArray,?_,_,qJ l',hN,_,rfl,hp,hqa,wC hN hqh,⟨hR'.below.os,hR'.below.tape,hR'.below.output,hR'.below.size,hR'.below.block⟩,?_,
   hH.some (λk hk=>(hg _ (Ue hN hk)).symm) (wC hN hqh)⟩
  ·have h1':(fn.results.toList.mapM (j8 a'.tmps)).run P w'=.ok vs w':=h1
   rw[ny,uk];simp only[ff,Sem.run_map,h1',cZ,fN]
   cases vs with
   |nil=>simp
   |cons v vs=>cases vs<;>simp
  ·by_cases h:vs.length=1
   ·rw[an h]
    obtain⟨x,rfl⟩:∃x,l'=[x]:=List.length_eq_one_iff.1 aa;exact(h3' 0 x rfl).quiet (by simpa[AV.qL]using hql)
   ·rw[aq h]
    have e:qJ l'=.tup l':=by
     unfold qJ
     split
     ·simp at hl';omega
     ·rfl
    rw[e];refine .tup _ _ aN (λi av hi=>?_);have:=(h3' i av hi).quiet (w':=w') (M':=hN.M) (kQ l' hql i av hi)
    simpa using this
 cases e with
 |normal=>exact key hq
 |ret=>exact key hq
 |_=>exact hq.elim
theorem Xz{E:Env}{rs:List ResultVar}{post:AV->AH->Prop}{st:ASt}:U7 E rs post .normal st=gP E st rs λl=>rn l λl=>∃hN:AH,post (qJ l) hN/\AV.qL l=true/\qH hN=true/\∀p∈hN,st.h.get p.1=p.2:=(rfl)
theorem Xy{E:Env}{rs:List ResultVar}{post:AV->AH->Prop}{st:ASt}:U7 E rs post .ret st=gP E st rs λl=>rn l λl=>∃hN:AH,post (qJ l) hN/\AV.qL l=true/\qH hN=true/\∀p∈hN,st.h.get p.1=p.2:=(rfl)
def Wg(h:AH)(d d':CD):Prop:=
 d=d'\/∃(k:Nat) (H':Hd) (sz len b o C off C':Nat) (rows:List (List CD)) (own:Bool),d=.h k H' sz len/\70000<=k/\h.get k=.rows (some (b,o,C)) sz rows own/\(H'=some (b,o+off*sz,C')\/len=0/\H'=none)/\C'+off<=C/\off+len<=rows.length/\d'=.s (cut rows off len)
def aae(h:AH)(d d':CD):Prop:=
 Wg h d d'\/∃rows rows':List (List CD),d=.s rows/\d'=.s rows'/\rows.length=rows'.length/\(∀(i:Nat) (row row':List CD),rows[i]? = some row->rows'[i]? = some row'->row.length=row'.length/\∀(j:Nat) (d d':CD),row[j]? = some d->row'[j]? = some d'->Wg h d d')
theorem uz{base:Bs}{h:AH}{w:World}{E:Nat->Nat->Prop}(H:HRel base h w E){u:Value}{S:Nat->Prop}{d d':CD}(hr:Rd w false S u d)(hc:Wg h d d'):Rd w false (λ_=>True) u d':=by
 rcases hc with rfl|⟨k,H',sz,len,b,o,C,off,C',rows,own,rfl,h7,hk,hH,hC,hln,rfl⟩
 ·exact hr.map (λ_ _ _=>rfl) (λ_ _ _=>trivial)
 ·cases hr with
  | h _ _ _ _ _ h1 h2 =>
    have hs:=h1 (.free h7);rcases hH with rfl|⟨rfl,rfl⟩
    ·rcases hs with⟨rfl,h3⟩|⟨-,h3,-⟩
     ·have ho:=H.obj k
      rw[hk]at ho;obtain⟨S1,hr1,-⟩:=iP ho ⟨k,by rw[hk];rfl⟩ (u:=.slice (some ⟨b,o+off*sz,none⟩) len (C-off)) (.inl ⟨rfl,aa⟩) hln;have:=(hr1.weaken.map (λ_ _ _=>rfl) (S':=λ_=>True) (λ_ _ _=>trivial)).shrink (cap':=C') aa aa;exact jD
     ·omega
    ·obtain⟨⟨a',rfl⟩,-⟩:=hs
     rw[show cut rows off 0=[]from aA (kt _ _ _ hln)];exact zh
theorem Jw{base:Bs}{h:AH}{w:World}{E:Nat->Nat->Prop}(H:HRel base h w E){u:Value}{S:Nat->Prop}{d d':CD}(hr:Rd w false S u d)(hc:aae h d d'):Rd w false (λ_=>True) u d':=by
 rcases hc with hc|⟨rows,rows',rfl,rfl,hl,hrr⟩
 ·exact uz H hr hc
 ·cases hr with
  | empty a cap hc =>
    have:rows'=[]:=aA (by rw[<-hl];rfl);subst this;exact zh
  | slice b off cap sz cs T fr _ F hcap hmax hsz hS hb hfit hown hF hd hlen hr =>
    rw[hl];refine .slice b off cap sz cs T fr rows' (λ_ _ _=>True) aa hmax hsz trivial hb (by rw[<-hl];exact hfit) eS (λ_ _ _ _=>⟨trivial,eS⟩) eS (λrow' hm=>?_) (λi j row' d' h1 h2=>?_)
    ·obtain⟨i,hi⟩:=en hm
     have hlt:i<rows.length:=by rw[hl];exact(au.1 hi).1
     have:=(hrr i _ _ (aj hlt) hi).1;rw[<-this];exact hlen _ (ak hlt)
    ·have hlt:i<rows.length:=by rw[hl];exact(au.1 h1).1
     obtain⟨h3,h4⟩:=hrr i _ _ (aj hlt) h1;have hj:j<(rows[i]).length:=by rw[h3];exact(au.1 h2).1
     have h5:=aj hj;exact uz H (hr i j _ _ (aj hlt) h5) (h4 j _ _ h5 h2)
def Vg(R:Value->CD->Prop)(h:AH)(x:AV)(d:CD):Prop:=
 (∃d0,aIn R h x d0/\aae h d0 d)\/∃k H sz len,x=.ml k H sz len/\70000<=k/\Wg h (.h k H sz len) d
def Vf(R:Value->CD->Prop)(h:AH):List AV->List CD->Prop
 | [],[]=>True
 |a::l,d::ds=>Vg R h a d/\Vf R h l ds
 |_,_=>False
def Px(R:Value->CD->Prop)(h:AH)(x:AV)(v:VD):Prop:=
 match v with
 | .c d=>Vg R h x d
 | .agg ds => match x with
   | .agg l=>Vf R h l ds
   |_=>False
def Pw(R:Value->CD->Prop)(h:AH):List AV->List VD->Prop
 | [],[]=>True
 |a::l,d::ds=>Px R h a d/\Pw R h l ds
 |_,_=>False
theorem P4{h:AH}{d:CD}:aae h d d:=.inl (.inl rfl)
theorem dw{R:Value->CD->Prop}{h:AH}{x:AV}{d:CD}(hi:aIn R h x d):Vg R h x d:=.inl ⟨d,hi,P4⟩
theorem TW{R:Value->CD->Prop}{h:AH}{k0 sz0 n:Nat}{H0:Hd}{rows0:List (List CD)}{own0:Bool}{i j:Nat}{row:List CD}{k b o C off C' sz len:Nat}{H:Hd}{rows:List (List CD)}{own:Bool}(hk0:h.get k0=.rows H0 sz0 ((rows0).set i (row.set j (.h k H sz len))) own0)(hn:n=rows0.length)
 (hi:rows0[i]? = some row) (hj:row[j]? = some (.s (cut rows off len)))
 (h7:70000<=k) (hk:h.get k=.rows (some (b,o,C)) sz rows own) (hH:H=some (b,o+off*sz,C')\/len=0/\H=none)
 (hC:C'+off<=C) (hl:off+len<=rows.length):Vg R h (.sl k0 H0 sz0 0 n) (.s rows0):=by
 refine .inl ⟨.s (rows0.set i (row.set j (.h k H sz len))),?_,.inr ⟨_,_,rfl,rfl,ab,λi' r r' h1 h2=>?_⟩⟩
 ·unfold aIn
  simp only[hk0];refine⟨trivial,trivial,by simp[hn],?_⟩;rw[hn];simp[cut]
 ·rw[eQ]at h1
  split at h1
  ·rename_i e
   subst e
   split at h1
   ·cases h1
    rw[hi]at h2
    cases h2
    refine⟨ab,λj' d d' h3 h4=>?_⟩;rw[eQ]at h3
    split at h3
    ·rename_i e
     subst e
     split at h3
     ·cases h3
      rw[hj]at h4
      cases h4
      exact .inr ⟨k,H,sz,len,b,o,C,off,C',rows,own,rfl,h7,hk,hH,hC,hl,rfl⟩
     ·cases h3
    ·rw[h3]at h4;cases h4;exact .inl rfl
   ·cases h1
  ·rw[h1]at h2
   cases h2
   exact⟨rfl,λj' d d' h3 h4=>by rw[h3]at h4;cases h4;exact .inl rfl⟩
theorem Bt{base:Bs}{h:AH}{w:World}{E:Nat->Nat->Prop}(H:HRel base h w E){R:Value->CD->Prop}(hR:∀u d,R u d->Rd w false (λ_=>True) u d){x:AV}{u:Value}(hv:VRel w h.M x u){d:CD}(hi:Vg R h x d):Rd w false (λ_=>True) u d:=by
 rcases hi with⟨d0,h1,h2⟩|⟨k,Hk,sz,len,rfl,h7,hc⟩
 ·have:=(kO H hR [x] [.c d0] (us:=λ_=>u) (λi av hi=>by
   rcases i with _|i
   ·simp at hi;subst hi;exact hv
   ·simp at hi) ⟨h1,trivial⟩).2 0 (.c d0) rfl
  exact Jw H this h2
 ·cases hv with
  | ml _ _ _ _ _ hx =>
    have hs:SlV Hk sz 0 len u:=hx.elim (λh=>h.2) (λh=>absurd (.free h7) h.2.1);exact uz H (S:=λ_=>True) (.h k Hk sz len u (λ_=>hs) (λ_ hn=>absurd (.free h7) hn)) hc
theorem yf{base:Bs}{h:AH}{w:World}{E:Nat->Nat->Prop}(H:HRel base h w E){R:Value->CD->Prop}(hR:∀u d,R u d->Rd w false (λ_=>True) u d):∀(l:List AV) (ds:List CD) {us:Nat->Value}(_:∀(i:Nat) (av:AV),l[i]? = some av->VRel w h.M av (us i)) (_:Vf R h l ds),
 l.length=ds.length/\∀(i:Nat) (d:CD),ds[i]? = some d->Rd w false (λ_=>True) (us i) d
 | [],[],_,_,_=>⟨rfl,λi d hi=>oc⟩
 | a :: l, d :: ds, us, hv, hi => by
   obtain⟨h1,h2⟩:=yf H hR l ds (us:=λi=>us (i+1)) (λi av h=>hv (i+1) av mN) hi.2;refine⟨kW,λi x hx=>?_⟩
   cases i with
   |zero=>simp at hx;subst hx;exact Bt H hR (hv 0 a rfl) hi.1
   |succ i=>exact h2 i x oa
 | [],_::_,_,_,hi=>hi.elim
 |_::_,[],_,_,hi=>hi.elim
theorem ye{base:Bs}{h:AH}{w:World}{E:Nat->Nat->Prop}(H:HRel base h w E){R:Value->CD->Prop}(hR:∀u d,R u d->Rd w false (λ_=>True) u d):∀(l:List AV) (vs:List VD) {us:Nat->Value}(_:∀(i:Nat) (av:AV),l[i]? = some av->VRel w h.M av (us i)) (_:Pw R h l vs),
 l.length=vs.length/\∀(i:Nat) (v:VD),vs[i]? = some v->RdV w (us i) v
 | [],[],_,_,_=>⟨rfl,λi d hi=>oc⟩
 | a :: l, v :: vs, us, hv, hi => by
   obtain⟨h1,h2⟩:=ye H hR l vs (us:=λi=>us (i+1)) (λi av h=>hv (i+1) av mN) hi.2;refine⟨kW,λi x hx=>?_⟩
   cases i with
   | zero =>
     simp at hx;subst hx;have ha:=hv 0 a rfl;have hd:=hi.1
     cases v with
     |c d=>exact Bt H hR ha hd
     | agg ds =>
       unfold Px at hd;simp only at hd
       split at hd
       ·rename_i l'
        generalize us 0=u0 at ha
        cases ha with
        | agg _ xs hs hl =>
          obtain⟨g1,g2⟩:=yf H hR l' ds (us:=λi=>xs.getD i undef) hl hd;exact⟨xs,rfl,aa,g2⟩
       ·exact hd.elim
   |succ i=>exact h2 i x oa
 | [],_::_,_,_,hi=>hi.elim
 |_::_,[],_,_,hi=>hi.elim
theorem KU{E:Env}(hE:EOk E){f:Nat}{args:List VD}{rr:RR}(hc:nO E.P E.base.L f args rr){avs:List AV}{st:ASt}{dst:Option Nat}{K:ASt->Prop}(hin:Pw E.rd st.h avs args)
 (hout:bQ st dst (roR rr) K):ag E f avs st dst K:=by
 refine⟨hc.1,λa w hR xs hs hx=>?_⟩;obtain⟨Es,hH⟩:=hR.heap;obtain⟨hl,hr⟩:=ye hH hR.rd avs args hx hin;refine(hc.2 w (hE.2 w hR.below) xs aa hr).mono ?_
 rintro e w' ⟨v,rfl,hb,hrr⟩
 have t:Tr st.h.M w st.h.M w':=⟨hb.size,λb hlt _=>hb.block b hlt,λb _ h=>h⟩;have H':HRel E.base st.h w' Es:=⟨λk=>(hH.obj k).tr t (λb hk=>hb.block b (hH.lt hk)) (λc hc _=>hc),hH.inj,hH.low,λk c hc=>⟨(hH.elow k c hc).1,cg (hH.elow k c hc).2 hb.size⟩,hH.einj,hH.em⟩;have hv:VRel w' st.h.M (roR rr) v:=Fs hrr (λc hc ⟨k,hk⟩=>yW);obtain⟨av',h3,h1,h2,h4,h5⟩:=(hR.move H' t ⟨hb.os,hb.tape,hb.output⟩).put hv hout;exact⟨v,av',h3,rfl,h1,h2,h4,h5⟩
theorem lT{E:Env}(hE:EOk E){f:Nat}{args:List VD}{rr:RR}(hc:ar E.P f args rr){avs:List AV}{st:ASt}{dst:Option Nat}{K:ASt->Prop}(hin:Pw E.rd st.h avs args)
 (hout:bQ st dst (roR rr) K):ag E f avs st dst K:=KU hE hc.up hin hout
theorem GS{E:Env}{f:Nat}{args args':List AV}{st:ASt}{dst:Option Nat}{K:ASt->Prop}(hl:args'.length=args.length)
 (hle:∀(i:Nat) (av av':AV),args[i]? = some av->args'[i]? = some av'->∀(w:World) (M:Nat->Prop) (x:Value),VRel w M av x->VRel w M av' x) (h:ag E f args' st dst K):ag E f args st dst K:=by
 refine⟨h.1,λa w hR xs hs hx=>h.2 a w hR xs aa (λi av' hi=>?_)⟩;have hlt:i<args.length:=by rw[<-hl];exact(au.1 hi).1
 exact hle i _ av' (aj hlt) hi w _ _ (hx i _ (aj hlt))
theorem ady{w:World}{M:Nat->Prop}{k b o C sz off len:Nat}{H:Hd}{x:Value}(h7:70000<=k)(hH:H=some (b,o+off*sz,C-off)\/len=0/\H=none)(hC:off<=C)(h0:0<len)
 (h:VRel w M (.ml k H sz len) x):VRel w M (.sl k (some (b,o,C)) sz off len) x:=by
 cases h with
 | ml _ _ _ _ _ h =>
   rcases h with⟨-,h⟩|⟨-,h,-⟩
   ·rcases hH with rfl|⟨rfl,-⟩
    ·rcases h with⟨rfl,h2⟩|⟨rfl,h2,-⟩
     ·exact .sl _ _ _ _ _ _ (.inl ⟨ab,aa⟩)
     ·omega
    ·omega
   ·exact absurd (.free h7) h
theorem ag.hd{E:Env}{f:Nat}{args:List AV}{st:ASt}{dst:Option Nat}{K:ASt->Prop}(hfn:xj E.P f){k sz:Nat}{H:Hd}{rows:List (List CD)}{own:Bool}(hk:st.h.get k=.rows H sz rows own)(hne:rows≠[])
 (h:∀b o C,H=some (b,o,C)->rows.length<=C->ag E f args st dst K):ag E f args st dst K:=by
 refine⟨hfn,λa w hR xs hs hx=>?_⟩;obtain⟨Es,hH⟩:=hR.heap;have ho:=hH.obj k;rw[hk]at ho
 cases H with
 |none=>exact absurd ho hne
 | some q =>
   obtain⟨b,o,C⟩:=q;have hC:rows.length<=C:=by obtain⟨_,_,_,_,h2,_⟩:=ho;exact h2
   exact(h b o C rfl hC).2 a w hR xs hs hx
theorem Tt{k sz len:Nat}(h:70000<=k):MlS k sz len=True:=Jb (.free h)
theorem P7{K:List AV->Prop}:rn [] K=K []:=(rfl)
theorem Jy{a:AV}{l:List AV}{K:List AV->Prop}:rn (a::l) K=JA a λa'=>rn l λl'=>K (a'::l'):=(rfl)
theorem S4{K:List AV->Prop}:Hr [] K=K []:=(rfl)
theorem P6{a:AV}{l:List AV}{K:List AV->Prop}:Hr (a::l) K=BQ a λa'=>Hr l λl'=>K (a'::l'):=(rfl)
theorem S5{l:List AV}{K:AV->Prop}:JA (.agg l) K=Hr l λl'=>K (.agg l'):=(rfl)
theorem aah{u:Value}{K:AV->Prop}:JA (.v u) K=K (.v u):=(rfl)
theorem Wk{k sz len:Nat}{H:Hd}{K:AV->Prop}:JA (.ml k H sz len) K=K (.ml k H sz len):=(rfl)
theorem aag{u:Value}{K:AV->Prop}:BQ (.v u) K=K (.v u):=(rfl)
theorem S3{K:AV->Prop}:BQ .nil K=K .nil:=(rfl)
theorem Wh{k sz len:Nat}{H:Hd}{K:AV->Prop}:BQ (.ml k H sz len) K=K (.ml k H sz len):=(rfl)
theorem Wj{k b o C sz off len:Nat}{K:AV->Prop}(h:70000<=k):BQ (.sl k (some (b,o,C)) sz off len) K=∀H',(H'=some (b,o+off*sz,C-off)\/len=0/\H'=none)->K (.ml k H' sz len):=by
 show(if 70000<=k then _ else _)=_
 rw[an h]
theorem Wi{k sz off len:Nat}{H:Hd}{K:AV->Prop}(h:k<70000):BQ (.sl k H sz off len) K=K (.sl k H sz off len):=by
 cases H with
 |none=>rfl
 | some q =>
   obtain⟨b,o,C⟩:=q
   show(if 70000<=k then _ else _)=_
   rw[aq aa]
theorem Qh{x:AV}:qJ [x]=x:=(rfl)
theorem Qg{x y:AV}{l:List AV}:qJ (x::y::l)=.tup (x::y::l):=(rfl)
attribute [simp ↓] Xz Xy P7 Jy S4 P6 S5 aah Wk aag S3 Wh Wj Wi
attribute [simp] Qh Qg Tt
def Kx(E:Env)(rs:List ResultVar)(rr:RR):Exit->ASt->Prop
 | .normal,st=>Ent E st λst=>gP E st rs (uy st.h rr)
 | .ret,st=>Ent E st λst=>gP E st rs (uy st.h rr)
 |_,_=>False
theorem GM {P : Program} {T : Nat → Option TI} (hT : ∀ t ti, T t = some ti → TIok P t ti) {L : World → Prop} (hL : LSt L) {f : Nat} {fn : Func} {c : Code} (hf : P.funcs[f]? = some fn) (hname : (fn.name == "runtime.NumGoroutine") = false) (hb : fn.body = some c)
 {n:Nat}{rs:List ResultVar}(hnt:fn.ntmps=n) (hrs:fn.results=⟨rs⟩) {args:List VD}{res:RR}(hn:args.length<=n) (kb:Nat)
 (h:∀w0 b,EOk ⟨P,T,w0,⟨b,b,false,L⟩⟩->ic ⟨P,T,w0,⟨b,b,false,L⟩⟩ c (Kx ⟨P,T,w0,⟨b,b,false,L⟩⟩ rs res) { n:=n,kb:=kb,t:=nW 0 args,h:=[] }):nO P L f args res:=by
 subst hnt;have hrs':fn.results.toList=rs:=lX;subst hrs';refine⟨⟨fn,hf,hname,kX⟩,λw hw xs hs hx=>jg hf hb ?_⟩
 let bs:Bs:=⟨λc=>c<w.heap.size,λc=>c<w.heap.size,false,L⟩
 have hE:EOk ⟨P,T,w,bs⟩:=⟨hT,λw' hb=>hL w w' hb hw⟩;have hM:∀b,¬AH.M [] b:=DS
 have hR:Rep w bs { n:=fn.ntmps,kb:=kb,t:=nW 0 args,h:=[] } { tmps:=xs++Array.replicate (fn.ntmps-xs.size) undef,defers:=[] } w:=by
  exact E4
 refine gT (dD hE c _ _ _ w hR (h w (λc=>c<w.heap.size) hE)) ?_
 rintro e a' w' ⟨st0,hq,hR0⟩
 have key:(Ent ⟨P,T,w,bs⟩ st0 λst=>gP ⟨P,T,w,bs⟩ st fn.results.toList (uy st.h res))->a'.defers=[]/\∃v,(results fn a'.tmps).run P w'=.ok v w'/\∃v',Ending.returned v=.returned v'/\Below w.heap.size w w'/\GK w' (λc=>w.heap.size<=c/\c<w'.heap.size) v' res:=by
  intro hq;obtain⟨st',hq,hR'⟩:=hq a' w' hR0;obtain⟨vs,l,h1,h2,h3,h4⟩:=gq hE hR' fn.results.toList hq;obtain⟨Es,hH⟩:=hR'.heap;refine⟨hR'.dfr,if vs.length=1 then vs.getD 0 undef else .tuple vs.toArray,?_,_,rfl,⟨hR'.below.os,hR'.below.tape,hR'.below.output,hR'.below.size,hR'.below.block⟩,?_⟩
  ·have h1':(fn.results.toList.mapM (j8 a'.tmps)).run P w'=.ok vs w':=h1
   exact zp
  ·have low:∀c,((∃k,Es k c)\/st'.h.M c)->w.heap.size<=c/\c<w'.heap.size:=by
    rintro c (⟨k,hk⟩|⟨k,hk⟩)
    ·exact⟨pf (hH.elow k c hk).1,(hH.elow k c hk).2⟩
    ·exact⟨pf (hH.low k c hk).1,hH.lt hk⟩
   cases res with
   | one r =>
     unfold uy at h4;simp only at h4
     split at h4
     ·rename_i x
      obtain⟨h',E',S,-,hr,O⟩:=sa hH (h3 0 x rfl) h4;rw[an lZ];exact tI.mono hr (λc hc=>low c (O.own c hc).1)
     ·exact h4.elim
   | tup rs =>
     obtain⟨hne,h4⟩:=h4;obtain⟨h',E',S,F,-,hl,hF,hd,hr,O⟩:=qz l rs hH h3 h4;rw[aq aa];exact⟨vs.toArray,F,rfl,aN,λj c hc=>low c (O.own c (hF j c hc)).1,hd,λj t hj=>by simpa using hr j t hj⟩
 cases e with
 |normal=>exact key hq
 |ret=>exact key hq
 |_=>exact hq.elim
theorem U4{E:Env}{rs:List ResultVar}{rr:RR}{st:ASt}:Kx E rs rr .normal st=Ent E st λst=>gP E st rs (uy st.h rr):=(rfl)
theorem U3{E:Env}{rs:List ResultVar}{rr:RR}{st:ASt}:Kx E rs rr .ret st=Ent E st λst=>gP E st rs (uy st.h rr):=(rfl)
attribute [simp ↓] U4 U3
end Go.AM
namespace Go.Proofs.YtklblkobegcljaaGreat
open Go.AM
set_option maxRecDepth 20000
set_option maxHeartbeats 6400000
theorem adx{α:Type}{f:α->List CD}{l:List α}{k:Nat}{t:α}(hk:k<l.length)(ht:l[k]=t)(g:List CD->List CD):(l.map f).modify k g=(l.map f).set k (g (f t)):=by
 subst ht
 apply uT
 intro j;rw[iV,eQ];by_cases h:k=j
 ·subst h
  simp[hk]
 ·simp[h]
def Ta(r:Ring)(k:Nat)(av:AV)(hN:AH):Prop:=∃b o C H1,r.list.length<=C/\(H1=some (b,o+k*3,C-k)\/r.list.length-k=0/\H1=none) /\
 av=.tup [.agg [.v (.int .i64 r.cap),.v (.int .i64 (r.next+k)),.v (.bool false),.ml 80179 H1 3 (r.list.length-k)],.ml 80179 (some (b,o,k)) 3 k,.v (.int .i64 0)] /\
 hN=[(80179,.rows (some (b,o,C)) 3 (r.list.map Entry.row) true)]
theorem AF(r:Ring)(hl:dh r<=2^30)(n:Nat)(c1:cF r)(c2:1<=n)(c3:r.out=false)(hne:r.list≠[]){k:Nat}(hk0:min n r.list.length=k) :
 mI Tryz.prog 204 [.agg r.row,.c (vi n)] (Ta r k):=by
 refine mI.intro aw Tryz.func204 al rfl rfl rfl (ai rfl) 80000 (λw0 base=>?_);have hnl:nL aZ r.list<=2^30:=uX;have hle:=aS hnl;simp[Ring.row];intro b2 b4;refine ag.pure (nI r hl) dQ ?_;simp[Ring.res];intro H b7;refine ag.hd (gb r aa).1 (k:=80179) (sz:=3) (H:=H) (rows:=r.list.map Entry.row) (own:=true) ab (by simpa using hne) ?_
 rintro b o C rfl hC
 simp at hC;refine ag.ro (gb r aa) dQ ?_;have c2':¬(n:Int)<1:=aa;have hk:k<=r.list.length:=aa;have hnx:=c1.2.2.1;have ew:Go.IntKind.i64.wrap (r.next+(k:Int))=r.next+k:=ae _ aa;simp[c1,c2',c3,KE,hk0,hk,ew];exact⟨⟨_,⟨b,o,C,_,hC,.inl rfl,rfl,rfl⟩,ab,ab⟩,λh0=>⟨_,⟨b,o,C,_,hC,.inr ⟨h0,rfl⟩,rfl,rfl⟩,ab,ab⟩⟩
def wu(s:Sub)(r:Ring)(H:Hd)(len:Nat):List CD:=[.v (.int .i64 s.id),.v (.string s.doc),.v (.int .i64 r.cap),.v (.int .i64 r.next),.v (.bool r.out),.h 80179 H 3 len]
def W0(h:Hub)(i:Nat)(s:Sub)(k:Nat)(av:AV)(hN:AH):Prop:=∃b o C H1 Hd Hs,s.r.list.length<=C/\(H1=some (b,o+k*3,C-k)\/s.r.list.length-k=0/\H1=none) /\
 av=.tup [.agg [.v (.bool h.shut),.sl 10753 Hd 5 0 h.docs.length,.sl 10754 Hs 6 0 h.subs.length,.v (.int .i64 h.last)],.ml 80179 (some (b,o,k)) 3 k,.v (.int .i64 0)] /\
 hN=[(10753,.rows Hd 5 (h.docs.map Doc.row) true),(10754,.rows Hs 6 ((h.subs.map Sub.row).set i (wu s ⟨s.r.cap,s.r.next+k,false,[]⟩ H1 (s.r.list.length-k))) true),(80179,.rows (some (b,o,C)) 3 (s.r.list.map Entry.row) true)]
theorem B2(h:Hub)(hl:dk h<=2^28)(id:Int)(n:Nat)(c1:bJ h)(c2:1<=n){i:Nat}(hi:i<h.subs.length)(e:fJ h.subs id=i){s:Sub}(hs:h.subs[i]=s)(c3:s.r.out=false)(hne:s.r.list≠[]){k:Nat}(hk0:min n s.r.list.length=k) :
 mI Tryz.prog 144 [.agg h.row,.c (vi id),.c (vi n)] (W0 h i s k):=by
 refine mI.intro aw Tryz.func144 al rfl rfl rfl (ai rfl) 10000 (λw0 base=>?_);have hm:=cT (f:=dC) (iJ hl).2 hi;rw[hs]at hm;unfold dC at hm;have hro:=(td c1 hi).1;rw[hs]at hro;have c2':¬(n:Int)<1:=aa;have hi0:¬(i:Int)<0:=aa;simp[Hub.row];intro b3 b6;refine ag.pure (m7 h aa id) bp ?_;simp[e];refine ag.pure (el h aa) bp ?_;simp[c1,c2',hi0,hi,hs,Sub.row];refine mv (AF s.r aa n hro c2 c3 hne hk0) dQ ?_
 rintro _ _ ⟨b,o,C,H1,hC,hH1,rfl,rfl⟩
 simp;intro b10;refine ag.pure (eI h aa) bp ?_;simp[Hub.res,hi];intro Hd Hs b13;have hm2:=λg=>adx (f:=Sub.row) hi hs g
 refine⟨_,⟨b,o,C,H1,Hd,Hs,hC,hH1,rfl,rfl⟩,ab,?_⟩;simp[hm2,Sub.row,wu]
 rintro a x (⟨rfl,rfl⟩|⟨rfl,rfl⟩|⟨rfl,rfl⟩)<;>simp
def abh(h:Hub)(i:Nat)(s:Sub)(k:Nat)(av:AV)(hN:AH):Prop:=∃b o C H1 Hd Hs,s.r.list.length<=C/\(H1=some (b,o+k*3,C-k)\/s.r.list.length-k=0/\H1=none) /\
 av=.tup [.agg [.v (.bool h.shut),.sl 10753 Hd 5 0 h.docs.length,.sl 10754 Hs 6 0 h.subs.length,.v (.int .i64 h.last)],.agg [.v (.int .i64 0),.v (.int .i64 0),.nil,.ml 80179 (some (b,o,k)) 3 k]] /\
 hN=[(10753,.rows Hd 5 (h.docs.map Doc.row) true),(10754,.rows Hs 6 ((h.subs.map Sub.row).set i (wu s ⟨s.r.cap,s.r.next+k,false,[]⟩ H1 (s.r.list.length-k))) true),(80179,.rows (some (b,o,C)) 3 (s.r.list.map Entry.row) true)]
theorem TY(h:Hub)(hl:dk h<=2^28)(c:Call)(hc:dX c<=2^28)(n6:c.kind=6)(c1:bJ h)(cc:dx c){n:Nat}(hn:c.n=n)(c2:1<=n){i:Nat}(hi:i<h.subs.length)(e:fJ h.subs c.client=i){s:Sub}(hs:h.subs[i]=s)(c3:s.r.out=false)(hne:s.r.list≠[]){k:Nat}(hk0:min n s.r.list.length=k) :
 mI Tryz.prog 85 [.agg h.row,.agg c.row] (abh h i s k):=by
 refine mI.intro aw Tryz.func85 al rfl rfl rfl (ai rfl) 20000 (λw0 base=>?_);have hp:=B2 h hl c.client n c1 c2 hi e hs c3 hne hk0;rw[<-hn]at hp;simp[Hub.row,Call.row];intro b2 b3 b4 b5;refine ag.ro (el h aa) bp ?_;simp[c1];refine ag.ro (jJ c aa) i4 ?_;simp[cc];intro b6 b7;simp[n6];refine mv hp bp ?_
 rintro _ _ ⟨b,o,C,H1,Hd,Hs,hC,hH1,rfl,rfl⟩
 simp;refine drw eok mix [0,1] [2,3] (.c 2 2 2 1 (.c 2 3 1 0 (.l 2 0) .s) .s) ?_;simp
 try intros
 refine⟨_,⟨b,o,C,H1,Hd,Hs,hC,hH1,rfl,rfl⟩,ab,?_⟩;simp[wu]
 rintro a x (⟨rfl,rfl⟩|⟨rfl,rfl⟩|⟨rfl,rfl⟩)<;>simp
theorem AG(r:Ring)(n:Nat)(c1:cF r)(c2:1<=n)(c3:r.out=false)(he:r.list=[]) :
 ar Tryz.prog 204 [.agg r.row,.c (vi n)] (.tup [.agg r.res,.c (.s []) 3,.c (vi 0) 1]):=by
 refine GM aw LSt.true Tryz.func204 al rfl rfl rfl (ai rfl) 80000 (λw0 base _=>?_);have hnl:dh r<=2^30:=by unfold dh;rw[he];simp[nL,cK]
 have h1:=nI r hnl;have h2:=gb r aa;have hnx:=c1.2.2.1;obtain⟨cap,next,out,list⟩:=r;simp only at he c3 hnx;subst he c3;have c2':¬(n:Int)<1:=aa;have ew:Go.IntKind.i64.wrap next=next:=ae _ aa;have hn0:¬(n:Int)<0:=aa
 have hmin:∀F:AV->Prop,Cb (.v (.int .i64 (n:Int))) (.v (.int .i64 0)) F=F (.v (.int .i64 0)):=λF=>by
  show F (.v (.int .i64 (if(0:Int)<n then 0 else n)))=_
  rw[an aa]
 simp[Ring.row];intro b2 b4;refine ag.pure h1 dQ ?_;simp[Ring.res];intro H b7;refine ag.ro h2 dQ ?_
 cases H with
 | none =>
   simp[c1,c2',ew,hmin];refine Ent.refl ?_;simp
 | some q =>
   obtain⟨b,o,C⟩:=q;simp[c1,c2',ew,hmin];refine Ent.refl ?_;simp
theorem B3(h:Hub)(hl:dk h<=2^28)(id:Int)(n:Nat)(c1:bJ h)(c2:1<=n){i:Nat}(hi:i<h.subs.length)(e:fJ h.subs id=i){s:Sub}(hs:h.subs[i]=s)(c3:s.r.out=false)(he:s.r.list=[]) :
 ar Tryz.prog 144 [.agg h.row,.c (vi id),.c (vi n)] (.tup [.agg h.res,.c (.s []) 3,.c (vi 0) 1]):=by
 refine pci aw Tryz.func144 (λw0 base=>?_);have hro:=(td c1 hi).1;rw[hs]at hro;have c2':¬(n:Int)<1:=aa;have hi0:¬(i:Int)<0:=aa;have hm2:=λg=>adx (f:=Sub.row) hi hs g
 have hset:(h.subs.map Sub.row).set i s.row=h.subs.map Sub.row:=by
  rw[<-yj,<-hs,List.set_getElem_self]
 simp[Hub.row];intro b3 b6;refine ag.ro (m7 h aa id) bp ?_;simp[e];refine ag.ro (el h aa) bp ?_;simp[c1,c2',hi0,hi,hs,Sub.row];refine ag.pure (AG s.r n hro c2 c3 he) dQ ?_;simp[Ring.res,he];intros;refine ag.pure (eI h aa) bp ?_;simp[Hub.res,hi];intros;have hr:s.row=[vi s.id,.v (.string s.doc),vi s.r.cap,vi s.r.next,.v (.bool s.r.out),.s []]:=by simp[Sub.row,he]
 rw[hr]at hset;simp[hm2,Sub.row,he,hset]
def wy(h:Hub)(c:Call):Prop:=bJ h/\dx c/\c.kind=6/\1<=c.n/\∃i:Nat,∃hi:i<h.subs.length,fJ h.subs c.client=i/\h.subs[i].r.out=false/\h.subs[i].r.list≠[]
theorem QM(h:Hub)(hl:dk h<=2^28)(c:Call)(hc:dX c<=2^28)(n6:c.kind=6)(hns:¬wy h c):ar Tryz.prog 85 [.agg h.row,.agg c.row] (.tup [.agg (fDo h c).1.res,.agg (fDo h c).2.res]):=by
 refine pci aw Tryz.func85 (λw0 base=>?_);have hcn:c.doc.size<=2^28/\nL bc c.o<=2^28/\c.text.length<=2^28:=sr;simp[Hub.row,Call.row];intro b2 b3 b4 b5;refine ag.ro (el h aa) bp ?_;by_cases c1:bJ h
 rotate_left
 ·exact EK
 simp[c1];refine ag.ro (jJ c aa) i4 ?_;by_cases c2:dx c
 rotate_left
 ·exact EJ
 simp[c2];intro b6 b7;have hat:=Pi ⟨c1,c2⟩ n6;by_cases z:(dr h c.client c.n).2.2=0
 rotate_left
 ·rw[aq z]at hat
  have hd:=tV h aa c.client c.n;generalize dr h c.client c.n=R at hd hat z;obtain⟨X,list,code⟩:=R;simp only at hd hat z;simp[n6];refine gR hd bp ?_
  rintro _ rfl
  simp[Hub.res]
  try intros
  exact OC
 rw[an z]at hat;have hn1:1<=c.n:=aT λq=>by rw[mr (λa=>q a.2)]at z;simp at z
 rcases kY h.subs c.client with⟨i,hi,e,-⟩|e;rotate_left
 ·rw[o8 ⟨c1,hn1⟩ e]at z;simp at z
 obtain⟨n,hn⟩:∃n:Nat,c.n=n:=⟨c.n.toNat,aa⟩;obtain⟨s,hs⟩:∃s,h.subs[i]=s:=⟨_,rfl⟩;have hro:=(td c1 hi).1;have hpo:=oJ ⟨c1,hn1⟩ hi e;rw[hs]at hpo hro
 have c3:s.r.out=false:=by
  cases ho:s.r.out with
  |false=>rfl
  | true =>
    rw[o7 ⟨hro,hn1⟩ ho]at hpo;rw[hpo]at z;simp at z
 have he:s.r.list=[]:=aT λq=>hns ⟨c1,c2,n6,hn1,i,hi,e,by rw[hs];exact c3,by rw[hs];exact q⟩
 have hrp:=l9 ⟨hro,hn1⟩ c3 (k:=0) (by rw[he];simp);have hre:(⟨s.r.cap,s.r.next+((0:Nat):Int),s.r.out,s.r.list.drop 0⟩:Ring)=s.r:=ab;rw[hre]at hrp;rw[hrp,an rfl]at hpo
 have hse:h.subs.set i ⟨s.id,s.doc,s.r⟩=h.subs:=by
  have:(⟨s.id,s.doc,s.r⟩:Sub)=h.subs[i]:=by rw[hs]
  rw[this,List.set_getElem_self]
 rw[hpo]at hat;simp only[hse,he,List.take_nil]at hat;have hp:=B3 h hl c.client n c1 aa hi e hs c3 he;rw[<-hn]at hp;simp[n6];refine ag.pure hp bp ?_;simp[Hub.res];intros;exact Oo
theorem QL(h:Hub)(hl:dk h<=2^28)(c:Call)(hc:dX c<=2^28)(hns:¬wy h c):ar Tryz.prog 85 [.agg h.row,.agg c.row] (.tup [.agg (fDo h c).1.res,.agg (fDo h c).2.res]):=by
 by_cases n6:c.kind=6
 ·exact QM h hl c hc n6 hns
 ·exact C3 h hl c hc n6
theorem PT{h:Hub}{c:Call}(sh:wy h c):∃(n i k:Nat) (hi:i<h.subs.length),c.n=n/\1<=n/\fJ h.subs c.client=i/\h.subs[i].r.out=false/\h.subs[i].r.list ≠ []/\min n h.subs[i].r.list.length=k /\
 fDo h c=(⟨h.shut,h.docs,h.subs.set i ⟨h.subs[i].id,h.subs[i].doc,⟨h.subs[i].r.cap,h.subs[i].r.next+k,false,h.subs[i].r.list.drop k⟩⟩,h.last⟩,⟨0,0,[],h.subs[i].r.list.take k⟩):=by
 obtain⟨c1,c2,n6,hn1,i,hi,e,c3,hne⟩:=sh;obtain⟨n,hn⟩:∃n:Nat,c.n=n:=⟨c.n.toNat,aa⟩;refine⟨n,i,min n h.subs[i].r.list.length,hi,hn,aa,e,c3,hne,rfl,?_⟩;have hro:=(td c1 hi).1;have hpo:=oJ ⟨c1,hn1⟩ hi e;have hrp:=l9 ⟨hro,hn1⟩ c3 (k:=min n h.subs[i].r.list.length) (by rw[hn];simp);rw[hrp,an rfl]at hpo;rw[Pi ⟨c1,c2⟩ n6,hpo,an rfl,c3]
end Go.Proofs.YtklblkobegcljaaGreat
