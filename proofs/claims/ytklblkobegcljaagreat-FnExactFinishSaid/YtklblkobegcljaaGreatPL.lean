import Derived.Test.YtklblkobegcljaaGreatPK
import Derived.Test.YtklblkobegcljaaGreatPJ
import Derived.Test.YtklblkobegcljaaGreatPH
import Derived.Test.YtklblkobegcljaaGreatPI
import Derived.Test.YtklblkobegcljaaGreatNA
import Derived.Test.YtklblkobegcljaaGreatMF
namespace Go.Proofs.YtklblkobegcljaaGreat
open Go.AM
set_option maxRecDepth 20000
set_option maxHeartbeats 12800000
def OK(w:Wld)(k:Nat):Prop:=∃hk:k<w.tasks.length,wy w.h w.tasks[k].c/\w.tasks[k].pc=0
theorem Fq{α:Type}{f:α->List CD}{n:Nat}(hf:∀a,(f a).length=n){l:List α}{k:Nat}{r:List CD}(hr:r.length=n):∀row∈(l.map f).set k r,row.length=n:=by
 intro row h;rcases iH h with h|rfl
 ·obtain⟨a,-,rfl⟩:=cE.1 h;exact hf a
 ·exact hr
theorem HT{l:List Task}{k:Nat}{r:List CD}(hr:r.length=15):∀row∈(l.map Task.row).set k r,row.length=15:=Fq (f:=Task.row) (n:=15) (λ_=>rfl) hr
theorem agk{l:List Queue}{k:Nat}{r:List CD}(hr:r.length=2):∀row∈(l.map Queue.row).set k r,row.length=2:=Fq (f:=Queue.row) (n:=2) (λ_=>rfl) hr
theorem Qr{l:List Int}{k:Nat}{r:List CD}(hr:r.length=1):∀row∈(l.map aG).set k r,row.length=1:=Fq (f:=aG) (n:=1) (λ_=>rfl) hr
theorem Yn{l:List Queue}{m:Nat}{r:List CD}(hr:r.length=2):∀row:List CD,row∈(l.map Queue.row).take m\/row=r\/row∈(l.map Queue.row).drop m->row.length=2:=by
 rintro row (h|rfl|h)
 ·obtain⟨a,-,rfl⟩:=cE.1 (br h);rfl
 ·exact hr
 ·obtain⟨a,-,rfl⟩:=cE.1 (a8 h);rfl
theorem J3(w:Wld)(hl:bY w<=2^30)(k:Nat)(hy:(eU w k).2=true)(hns:¬OK w k):ar Tryz.prog 8 [.agg w.row,.c (vi k)] (.tup [.agg (eU w k).1.res,.c (.v (.bool true)) 1]):=by
 have c0:bo w/\¬w.step=1000000/\(0<=(k:Int)/\(k:Int)<=(w.tasks.length:Int)-1):=aT λc=>DG
 obtain⟨c1,hs,-,hk⟩:=c0;have hk:k<w.tasks.length:=aa;have hab:=(jt c1 hs hk).1 hy;have hat:=mq c1 hs hk;have hwo:=hQ w aa;have hcp:=iA w aa;have hao:=jV w aa c1 k hk;obtain⟨nh,n2,n3,n4⟩:=bI hl;have hle:=aS n4;have hlq:=aS n3;have hhb:=(ke c1.2.1).1;have htk:=(c1.1 _ (ak hk))
 obtain⟨t,ht⟩:∃t,w.tasks[k]=t:=⟨_,rfl⟩;rw[ht]at htk hab hat hao;have hm:=λg=>j9 (f:=Task.row) hk ht g
 have hs1:=jF t.c.doc c1.2.2.1.1;have hdsz:=htk.1.2.1;have ew:Go.IntKind.i64.wrap (w.step+1)=w.step+1:=ae _ so;rw[hat]at hy⊢;refine ar.introL aw Tryz.func8 al rfl rfl rfl (ai rfl) rfl (λw0 base us hrd=>?_);simp[Wld.row]at hrd;obtain⟨r1,r2,r3,r4,r5⟩:=hrd;simp[Wld.row];intro b2 b4;refine ag.pure hwo pO ?_;simp[c1];refine ag.pure hao pO ?_;simp[hs,hab];refine ag.pure hcp pO ?_;simp[Wld.res,hk];intro H1 H2 H3 H4 H5 b6;refine aY.quiet eok mix al ?_;simp[hk,ht,Task.row];refine⟨_,_,lv t.c.doc aa w.locks.length aa aa,ab,?_⟩;simp;have hs2:=hs1.2
 have hdo:t.pc=0\/t.pc=1->ar Tryz.prog 85 [.agg w.h.row,.agg t.c.row] (.tup [.agg (fDo w.h t.c).1.res,.agg (fDo w.h t.c).2.res]):=λhp=>by
  refine QL w.h aa t.c sm λsh=>?_
  rcases hp with hp|hp
  ·exact hns ⟨hk,by rw[ht];exact sh,by rw[ht];exact hp⟩
  ·have h1:=htk.2.2.2.1 hp
   have h2:=sh.2.2.1;unfold cW at h1;omega
 by_cases p0:t.pc=0
 ·have hdo:=hdo (.inl p0)
  simp[p0,hk,ht,Task.row];refine ag.ro (eC t.c.kind) ab ?_;by_cases d:cW t.c.kind
  ·rw[kJ p0 d (hab.1 ⟨p0,d⟩)]
   simp[d,hs2,hm,hk,Task.row,ew];exact⟨Qr rfl,HT rfl⟩
  ·rw[ju p0 d]
   simp[az d,hk,ht,Task.row,p0];exact Ou
 by_cases p1:t.pc=1
 ·have hdo:=hdo (.inr p1)
  rw[iT p1];simp[p1,hs2,hk,ht,Task.row];have hdoc:=fm w.h aa t.c.doc;obtain⟨q0,hq0⟩:∃q:Prop,q=(¬t.c.kind=2\/w.h.shut=true\/bE w.h.docs t.c.doc<0):=⟨_,rfl⟩;by_cases q:q0
  ·rw[na sk]
   refine dS (λ_:Unit=>[(89,.v (.bool (dc q0)))]) (λ_=>[]) [1,4,6,7] ?_ ?_
   ·exact mS
   intro _;simp[q];exact Ou
  have q':¬(¬t.c.kind=2\/w.h.shut=true\/bE w.h.docs t.c.doc<0):=sk;have hal:=l6 t.c.doc w.queues;have hon:=λ{k:Nat} h1 h2=>jU (name:=t.c.doc) (l:=w.queues) (k:=k) h1 h2
  have hpw:=(mW.1 c1.2.2.2.2.2.2.2).ord;have hsame:∀i,∀hi:i<w.queues.length,w.queues[i].doc=t.c.doc->bK t.c.doc w.queues=i:=ru hpw;have hi1:∀x:Int,aG x=[CD.v (.int .i64 x)]:=λ_=>rfl
  rcases ix w.queues t.c.doc with⟨i,hi,eq,hd⟩|eq
  ·have ha:=hsame i hi hd
   by_cases fl:w.queues[i].list.length=2
   ·rw[nc q' hi eq fl]
    refine dS (λ_:Unit=>[(89,.v (.bool (dc q0)))]) (λ_=>[]) [1,4,6,7] ?_ ?_
    ·exact mS
    intro _;simp[az q];refine inl aw Tryz.func38 30000 (λw3 F3=>?_);simp[hk,ht,Task.row]
    refine aE eok (λm:Nat=>m<=bK t.c.doc w.queues) (λm=>⟨96,30000,[(6,.v (.int .i64 m)),(5,.v (.string t.c.doc)),(0,.p 96 b6 0),(1,.v (.int .i64 k))],
     (324,.rows H3 1 ((w.locks.map aG).set (bX t.c.doc w.locks.length) [.v (.int .i64 (-1))]) true)::(96,.vars b6 39 [.v (.bool w.h.shut),.sl 321 H1 5 0 w.h.docs.length,.sl 322 H2 6 0 w.h.subs.length,.v (.int .i64 w.h.last),.sl 324 H3 1 0 w.locks.length,.sl 325 H4 2 0 w.queues.length,.sl 326 H5 15 0 w.tasks.length,.v (.int .i64 w.step)]) ::  (326,.rows H5 15 (w.tasks.map Task.row) true)::(325,.rows H4 2 (w.queues.map Queue.row) true)::(322,.rows H2 6 (w.h.subs.map Sub.row) true)::(321,.rows H1 5 (w.h.docs.map Doc.row) true)::(64,.vars b4 39 [.v (.bool false),.nil,.nil,.v (.int .i64 0),.nil,.nil,.nil,.v (.int .i64 0)]) ::  []⟩) (λm=>w.queues.length-m) 0 ab ab (λm hmm=>Ent.refl ?_)
    by_cases hlt:m<w.queues.length
    rotate_left
    ·exfalso;omega
    obtain⟨x,hx⟩:∃x,w.queues[m]=x:=⟨_,rfl⟩;have hiff:=hon hmm hlt;rw[hx]at hiff;simp[hlt,hx,Queue.row];by_cases s:sLt x.doc t.c.doc
    ·exact vj
    have hma:m=i:=by
     have:¬m<bK t.c.doc w.queues:=λh=>s (hiff.2 h)
     omega
    subst hma;have hmne:¬(m:Int)=w.queues.length:=aa;rw[hx]at fl hd;simp[hmne,hlt,hx,hd,fl,Queue.row,az (nv t.c.doc),hk,hm,bf,eg,ew,Task.row,hi1];exact⟨Qr rfl,HT rfl⟩
   ·have hqa:=(aT (p:=il w.h w.queues i) λhn=>gf hi (gY hi hn) c1.2.2.2.2.2.2.2) hi
    have hpos:0<w.queues[i].list.length:=hqa.2.1.1;have hle2:=hqa.2.1.2;have hrow:∀d,lK (w.queues.map Queue.row) i 1 d=(w.queues.map Queue.row).set i [.v (.string w.queues[i].doc),d]:=λd=>j9 (f:=Queue.row) hi rfl _
    rw[m9 q' hi eq fl]
    refine aY.weak (⟨125,0,[(1,.v (.int .i64 k)),(4,.p 64 b4 0),(6,.p 96 b6 0),(7,.e 326 H5 15 k 0)],
     (324,.rows H3 1 ((w.locks.map aG).set (bX t.c.doc w.locks.length) [.v (.int .i64 (-1))]) true)::(96,.vars b6 39 [.v (.bool w.h.shut),.sl 321 H1 5 0 w.h.docs.length,.sl 322 H2 6 0 w.h.subs.length,.v (.int .i64 w.h.last),.sl 324 H3 1 0 w.locks.length,.sl 325 H4 2 0 w.queues.length,.sl 326 H5 15 0 w.tasks.length,.v (.int .i64 w.step)])::(326,.rows H5 15 (w.tasks.map Task.row) true)::(325,.rows H4 2 (w.queues.map Queue.row) true)::(322,.rows H2 6 (w.h.subs.map Sub.row) true)::(321,.rows H1 5 (w.h.docs.map Doc.row) true)::(64,.vars b4 39 [.v (.bool false),.nil,.nil,.v (.int .i64 0),.nil,.nil,.nil,.v (.int .i64 0)])::[]⟩) ab ?_
    refine aY.open (λ_ h=>h) (k:=325) (i:=i) (j:=1) (k':=60000) (sz':=1) (sz:=2) (H:=H4) (rows:=w.queues.map Queue.row) (srows:=w.queues[i].list.map aG) (row:=w.queues[i].row) ab (by simp[hi]) rfl ab ah i5 sj (λG=>?_);simp only[hrow];refine dS (λ_:Unit=>[(89,.v (.bool (dc q0)))]) (λ_=>[]) [1,4,6,7] ?_ ?_
    ·exact mS
    intro _;simp[az q];refine inl aw Tryz.func38 30000 (λw3 F3=>?_);simp[hk,ht,Task.row]
    refine aE eok (λm:Nat=>m<=bK t.c.doc w.queues) (λm=>⟨96,30000,[(6,.v (.int .i64 m)),(5,.v (.string t.c.doc)),(0,.p 96 b6 0),(1,.v (.int .i64 k))],
     (324,.rows H3 1 ((w.locks.map aG).set (bX t.c.doc w.locks.length) [.v (.int .i64 (-1))]) true)::(96,.vars b6 39 [.v (.bool w.h.shut),.sl 321 H1 5 0 w.h.docs.length,.sl 322 H2 6 0 w.h.subs.length,.v (.int .i64 w.h.last),.sl 324 H3 1 0 w.locks.length,.sl 325 H4 2 0 w.queues.length,.sl 326 H5 15 0 w.tasks.length,.v (.int .i64 w.step)])::(60000,.rows G 1 (w.queues[i].list.map aG) true)::(326,.rows H5 15 (w.tasks.map Task.row) true)::(325,.rows H4 2 ((w.queues.map Queue.row).set i [.v (.string w.queues[i].doc),.h 60000 G 1 w.queues[i].list.length]) true)::(322,.rows H2 6 (w.h.subs.map Sub.row) true)::(321,.rows H1 5 (w.h.docs.map Doc.row) true)::(64,.vars b4 39 [.v (.bool false),.nil,.nil,.v (.int .i64 0),.nil,.nil,.nil,.v (.int .i64 0)]) ::  []⟩) (λm=>w.queues.length-m) 0 ab ab (λm hmm=>Ent.refl ?_)
    by_cases hlt:m<w.queues.length
    rotate_left
    ·exfalso;omega
    by_cases hmi:m=i
    rotate_left
    ·exact NK
    subst hmi;have hmne:¬(m:Int)=w.queues.length:=aa;have fl':¬(w.queues[m].list.length:Int)=2:=aa;simp[hlt,hd,az (nv t.c.doc),hmne,fl'];refine drw eok mix [0,1,2,3,4,5,6,7,8,9,10,11,12,13,16,17] [14,15,18] (.c 16 14 4 65531 (.c 16 15 8 65523 (.c 16 18 65521 2 (.l 16 2) .s) .s) .s) ?_;simp[hlt,hpos,bf]
    try intros
    simp[Queue.row,hk,hm,eg,ew,Task.row,hi1];exact⟨aa,Qr rfl,agk rfl,HT rfl⟩
  ·rw[oI q' eq]
   refine aY.weak (⟨125,0,[(1,.v (.int .i64 k)),(4,.p 64 b4 0),(6,.p 96 b6 0),(7,.e 326 H5 15 k 0)],
    (324,.rows H3 1 ((w.locks.map aG).set (bX t.c.doc w.locks.length) [.v (.int .i64 (-1))]) true)::(96,.vars b6 39 [.v (.bool w.h.shut),.sl 321 H1 5 0 w.h.docs.length,.sl 322 H2 6 0 w.h.subs.length,.v (.int .i64 w.h.last),.sl 324 H3 1 0 w.locks.length,.sl 325 H4 2 0 w.queues.length,.sl 326 H5 15 0 w.tasks.length,.v (.int .i64 w.step)])::(326,.rows H5 15 (w.tasks.map Task.row) true)::(325,.rows H4 2 (w.queues.map Queue.row) true)::(322,.rows H2 6 (w.h.subs.map Sub.row) true)::(321,.rows H1 5 (w.h.docs.map Doc.row) true)::(64,.vars b4 39 [.v (.bool false),.nil,.nil,.v (.int .i64 0),.nil,.nil,.nil,.v (.int .i64 0)])::[]⟩) ab ?_
   refine dS (λ_:Unit=>[(89,.v (.bool (dc q0)))]) (λ_=>[]) [1,4,6,7] ?_ ?_
   ·exact mS
   intro _;simp[az q];refine dI aw Tryz.func38 al rfl rfl rfl (ai rfl) 30000 rfl ab ?_;simp[hk,ht,Task.row]
   refine aE eok (λm:Nat=>m<=bK t.c.doc w.queues) (λm=>⟨96,30000,[(6,.v (.int .i64 m)),(5,.v (.string t.c.doc)),(0,.p 96 b6 0),(1,.v (.int .i64 k))],
    (324,.rows H3 1 ((w.locks.map aG).set (bX t.c.doc w.locks.length) [.v (.int .i64 (-1))]) true)::(96,.vars b6 39 [.v (.bool w.h.shut),.sl 321 H1 5 0 w.h.docs.length,.sl 322 H2 6 0 w.h.subs.length,.v (.int .i64 w.h.last),.sl 324 H3 1 0 w.locks.length,.sl 325 H4 2 0 w.queues.length,.sl 326 H5 15 0 w.tasks.length,.v (.int .i64 w.step)]) ::  (326,.rows H5 15 (w.tasks.map Task.row) true)::(325,.rows H4 2 (w.queues.map Queue.row) true)::(322,.rows H2 6 (w.h.subs.map Sub.row) true)::(321,.rows H1 5 (w.h.docs.map Doc.row) true)::(64,.vars b4 39 [.v (.bool false),.nil,.nil,.v (.int .i64 0),.nil,.nil,.nil,.v (.int .i64 0)]) ::  []⟩) (λm=>w.queues.length-m) 0 ab ab (λm hmm=>Ent.refl ?_)
   have hnone:∀j,∀hj:j<w.queues.length,¬w.queues[j].doc=t.c.doc:=by
    exact Ns
   generalize bK t.c.doc w.queues=a at hal hon hmm;by_cases hlt:m<w.queues.length
   ·obtain⟨x,hx⟩:∃x,w.queues[m]=x:=⟨_,rfl⟩
    have hiff:=hon hmm hlt;have hxn:=hnone m hlt;rw[hx]at hiff hxn;simp[hlt,hx,Queue.row];by_cases s:sLt x.doc t.c.doc
    ·exact vj
    have hka:m=a:=by
     exact D1
    subst hka;have hmn:min m w.queues.length=m:=aa;have hmne:¬(m:Int)=w.queues.length:=aa;simp[az s,hmne,hxn,hlt,hx,Queue.row];intro b65;refine gS qg ah (n:=w.queues.length) (rows:=w.queues.map Queue.row) (row:=[.v (.string t.c.doc),.s []]) (k:=325) (kv:=31024) (own:=true) (ownv:=true) (i:=m) ab ab ab ah (by simp;try omega) aN (λH6=>?_);obtain⟨Z,hZ⟩:∃Z,Z=(w.queues.map Queue.row).take m++[.v (.string t.c.doc),.s []]::(w.queues.map Queue.row).drop m:=⟨_,rfl⟩;have hZl:Z.length=w.queues.length+1:=yH;have hZm:m<Z.length:=aa;have hZe:Z[m]=[.v (.string t.c.doc),.s []]:=by subst hZ;rw[fX nY];simp[ep hal]
    have hZs:∀d,lK Z m 1 d=Z.set m [.v (.string t.c.doc),d]:=λd=>yG
    have hZt:∀r,Z.set m r=(w.queues.map Queue.row).take m++r::(w.queues.map Queue.row).drop m:=λr=>by subst hZ;rw[dW _ _ nY];simp[ep hal]
    rw[<-hZ];have hml:(m:Int)<(w.queues.length:Int)+1:=aa;have hml2:m<w.queues.length+1:=aa;simp[hZl,hZe,hml,hml2]
    refine aY.weak (⟨96,30000,[(6,.v (.int .i64 (m:Nat))),(0,.p 96 b6 0),(1,.v (.int .i64 k))],
     (324,.rows H3 1 ((w.locks.map aG).set (bX t.c.doc w.locks.length) [.v (.int .i64 (-1))]) true)::(96,.vars b6 39 [.v (.bool w.h.shut),.sl 321 H1 5 0 w.h.docs.length,.sl 322 H2 6 0 w.h.subs.length,.v (.int .i64 w.h.last),.sl 324 H3 1 0 w.locks.length,.sl 325 H6 2 0 (w.queues.length+1),.sl 326 H5 15 0 w.tasks.length,.v (.int .i64 w.step)])::(326,.rows H5 15 (w.tasks.map Task.row) true)::(325,.rows H6 2 Z true)::(322,.rows H2 6 (w.h.subs.map Sub.row) true)::(321,.rows H1 5 (w.h.docs.map Doc.row) true)::(64,.vars b4 39 [.v (.bool false),.nil,.nil,.v (.int .i64 0),.nil,.nil,.nil,.v (.int .i64 0)])::[]⟩) ab ?_
    refine aY.open (λ_ h=>h) (k:=325) (i:=m) (j:=1) (k':=60000) (sz':=1) (sz:=2) (H:=H6) (rows:=Z) (srows:=[]) (row:=[.v (.string t.c.doc),.s []]) ab yF rfl ab ah ab sj (λG=>?_);exact Oh
   have hka:m=w.queues.length:=aa;have hka2:a=w.queues.length:=aa;subst hka2;subst hka;simp;intro b65;refine gS qg ah (n:=w.queues.length) (rows:=w.queues.map Queue.row) (row:=[.v (.string t.c.doc),.s []]) (k:=325) (kv:=31024) (own:=true) (ownv:=true) (i:=w.queues.length) ab ab ab ah (by simp;try omega) aN (λH6=>?_);obtain⟨Z,hZ⟩:∃Z,Z=(w.queues.map Queue.row).take w.queues.length++[.v (.string t.c.doc),.s []]::(w.queues.map Queue.row).drop w.queues.length:=⟨_,rfl⟩;have hZl:Z.length=w.queues.length+1:=yH;have hZm:w.queues.length<Z.length:=aa;have hZe:Z[w.queues.length]=[.v (.string t.c.doc),.s []]:=by subst hZ;rw[fX nY];simp[ep hal]
   have hZs:∀d,lK Z w.queues.length 1 d=Z.set w.queues.length [.v (.string t.c.doc),d]:=λd=>yG
   have hZt:∀r,Z.set w.queues.length r=(w.queues.map Queue.row).take w.queues.length++r::(w.queues.map Queue.row).drop w.queues.length:=λr=>by subst hZ;rw[dW _ _ nY];simp[ep hal]
   rw[<-hZ];have hml:(w.queues.length:Int)<(w.queues.length:Int)+1:=aa;have hml2:w.queues.length<w.queues.length+1:=aa;simp[hZl,hZe,hml,hml2]
   refine aY.weak (⟨96,30000,[(6,.v (.int .i64 (w.queues.length:Nat))),(0,.p 96 b6 0),(1,.v (.int .i64 k))],
    (324,.rows H3 1 ((w.locks.map aG).set (bX t.c.doc w.locks.length) [.v (.int .i64 (-1))]) true)::(96,.vars b6 39 [.v (.bool w.h.shut),.sl 321 H1 5 0 w.h.docs.length,.sl 322 H2 6 0 w.h.subs.length,.v (.int .i64 w.h.last),.sl 324 H3 1 0 w.locks.length,.sl 325 H6 2 0 (w.queues.length+1),.sl 326 H5 15 0 w.tasks.length,.v (.int .i64 w.step)])::(326,.rows H5 15 (w.tasks.map Task.row) true)::(325,.rows H6 2 Z true)::(322,.rows H2 6 (w.h.subs.map Sub.row) true)::(321,.rows H1 5 (w.h.docs.map Doc.row) true)::(64,.vars b4 39 [.v (.bool false),.nil,.nil,.v (.int .i64 0),.nil,.nil,.nil,.v (.int .i64 0)])::[]⟩) ab ?_
   refine aY.open (λ_ h=>h) (k:=325) (i:=w.queues.length) (j:=1) (k':=60000) (sz':=1) (sz:=2) (H:=H6) (rows:=Z) (srows:=[]) (row:=[.v (.string t.c.doc),.s []]) ab yF rfl ab ah ab sj (λG=>?_);exact Oh
 have p3:t.pc=3:=by
  have h1:=htk.2.2.1;have h2:=hab.2;omega
 rw[kI p3];simp[p3,hm,bf,Task.row,hk,ht,ew];exact HT rfl
set_option maxHeartbeats 6400000
def iu(H:Hd)(s:Sub):List CD:=[.v (.int .i64 s.id),.v (.string s.doc),.v (.int .i64 s.r.cap),.v (.int .i64 s.r.next),.v (.bool s.r.out),.h 80179 H 3 s.r.list.length]
def eu(H:Hd)(t:Task):List CD:=[vi t.c.kind,.v (.string t.c.doc),vi t.c.client,vi t.c.seq,vi t.c.n,.s (t.c.o.map Part.row),.s (t.c.text.map aG),vi t.pc,vi t.inv,vi t.lin,vi t.rs,vi t.a.code,vi t.a.rev,.s (t.a.text.map aG),.h 80179 H 3 t.a.list.length]
structure Two(A B b o C:Nat)(Ha Hb:Hd):Prop where
 le:A+B<=C
 ha:Ha=some (b,o,A)
 hb:Hb=some (b,o+A*3,C-A)\/B=0/\Hb=none
theorem agz{A B:List Entry}:cut ((A++B).map Entry.row) 0 A.length=A.map Entry.row:=by
 rw[fu];simp
theorem agy{A B:List Entry}:cut ((A++B).map Entry.row) A.length B.length=B.map Entry.row:=by
 rw[fu];simp;exact ve
theorem zX{R:Value->CD->Prop}{h:AH}{x:Wld}{i k:Nat}{s:Sub}{t:Task}(hi:x.h.subs[i]? = some s)(hk:x.tasks[k]? = some t){b o C:Nat}{Ha Hb Hc Hs Hl Hq Ht:Hd}(T:Two t.a.list.length s.r.list.length b o C Ha Hb)
 (g1:h.get 10753=.rows Hc 5 (x.h.docs.map Doc.row) true) (g2:h.get 10754=.rows Hs 6 ((x.h.subs.map Sub.row).set i (iu Hb s)) true) (g3:h.get 40324=.rows Hl 1 (x.locks.map aG) true) (g4:h.get 40325=.rows Hq 2 (x.queues.map Queue.row) true)
 (g5:h.get 40326=.rows Ht 15 ((x.tasks.map Task.row).set k (eu Ha t)) true) (g6:h.get 80179=.rows (some (b,o,C)) 3 ((t.a.list++s.r.list).map Entry.row) true) :
 Px R h (.agg [.v (.bool x.h.shut),.sl 10753 Hc 5 0 x.h.docs.length,.sl 10754 Hs 6 0 x.h.subs.length,.v (.int .i64 x.h.last),.sl 40324 Hl 1 0 x.locks.length,.sl 40325 Hq 2 0 x.queues.length,.sl 40326 Ht 15 0 x.tasks.length,.v (.int .i64 x.step)]) (.agg x.row):=by
 have e1:iu Hb s=s.row.set 5 (.h 80179 Hb 3 s.r.list.length):=rfl;have e2:eu Ha t=t.row.set 14 (.h 80179 Ha 3 t.a.list.length):=rfl;rw[e1]at g2;rw[e2]at g5;have j1:s.row[5]? = some (.s (cut ((t.a.list++s.r.list).map Entry.row) t.a.list.length s.r.list.length)):=by rw[agy];rfl
 have j2:t.row[14]? = some (.s (cut ((t.a.list++s.r.list).map Entry.row) 0 t.a.list.length)):=by rw[agz];rfl
 have hle:=T.le;refine⟨dw ab,dw (by simp[g1]),TW g2 ab (by simp[hi]) j1 ah g6 T.hb aa ab,dw ab,dw (by simp[g3]),dw (by simp[g4]),TW (C':=t.a.list.length) g5 ab (by simp[hk]) j2 ah g6 (.inl (by simp[T.ha])) aa ab,dw ab,trivial⟩
section
variable {α:Type}{mk:α->Int->α}{cn:α->Nat}{f g:α->List CD}{l:List α}{p i:Nat}{k:Int}
def tg(l:List α)(p:Nat):List (α×Bool):=l.zipIdx.map λq=>(q.1,q.2==p)
def mkB(mk:α->Int->α)(x:α×Bool)(k:Int):α×Bool:=(mk x.1 k,x.2)
def cnB(cn:α->Nat)(x:α×Bool):Nat:=cn x.1
def rwB(f g:α->List CD)(x:α×Bool):List CD:=bif x.2 then g x.1 else f x.1
theorem ni:(tg l p).length=l.length:=by simp[tg]
theorem zL(h:i<l.length)(h':i<(tg l p).length):(tg l p)[i]=(l[i],i==p):=by simp[tg]
theorem Z7:(tg l p).map (·.1)=l:=by
 apply eA (by simp[tg])
 intro i h1 h2;simp[tg]
theorem IM:∀(l:List (α×Bool)),aQ (cnB cn) l=aQ cn (l.map (·.1))
 | []=>rfl
 |a::l=>by simp[aQ,IM l,cnB]
theorem A9:aQ (cnB cn) ((tg l p).take i)=aQ cn (l.take i):=by rw[IM,dU,Z7]
theorem DB(hp:p<l.length):(tg l p).map (rwB f g)=(l.map f).set p (g l[p]):=by
 apply eA (by simp[tg])
 intro i h1 h2;rw[pg,zL (by simpa[tg]using h1),jz];by_cases e:i=p
 ·subst e;simp[rwB]
 ·have e':¬p=i:=λc=>e c.symm
  have e2:(i==p)=false:=by simp[e]
  simp[rwB,e2,e']
theorem Tu:aM (mkB mk) (cnB cn) (tg l p) k=tg (aM mk cn l k) p:=by
 apply eA (by simp[tg,aK])
 intro i h1 h2;have h3:i<l.length:=by simpa[tg,aK]using h2
 have h4:=lM (mk:=mkB mk) (cn:=cnB cn) (l:=tg l p) (k:=k) (i:=i) (by rw[ni];exact h3);have h5:=lM (mk:=mk) (cn:=cn) (l:=l) (k:=k) h3;rw[aj h1]at h4;rw[aj (by rw[aK];exact h3)]at h5;rw[fO h4,zL h3,A9,zL (by rw[aK];exact h3),fO h5];rfl
end
theorem V7{A B:List (List CD)}{l:List Entry}{q:Int}{z:Nat}:(A++(bT Entry.mark Entry.cnt Entry.row l q z++B)).length=A.length+(l.length+B.length):=by simp[bR]
theorem V6{A B:List (List CD)}{l:List Entry}{q:Int}{z:Nat}(h:z<l.length):(A++(bT Entry.mark Entry.cnt Entry.row l q z++B)).set (A.length+z) l[z].row=A++(bT Entry.mark Entry.cnt Entry.row l q z++B):=by
 rw[dW _ _ aa,Nat.add_sub_cancel_left,List.set_append_left _ _ (by rw[bR];exact h),hI h]
theorem V5{A B:List (List CD)}{l:List Entry}{q:Int}{z:Nat}(h:z<l.length){r:List CD}(hr:r=(Entry.mark l[z] (q+aQ Entry.cnt (l.take z))).row):(A++(bT Entry.mark Entry.cnt Entry.row l q z++B)).set (A.length+z) r=A++(bT Entry.mark Entry.cnt Entry.row l q (z+1)++B):=by
 rw[dW _ _ aa,Nat.add_sub_cancel_left,List.set_append_left _ _ (by rw[bR];exact h),gZ h hr]
open Go.AM
set_option maxRecDepth 20000
set_option maxHeartbeats 12800000
def SQ(x:Wld)(u:Value)(i k:Nat)(s:Sub)(t:Task)(av:AV)(hN:AH):Prop:=∃b o C Ha Hb Hd Hs Hl Hq Ht,Two t.a.list.length s.r.list.length b o C Ha Hb /\
 av=.tup [.agg [.v (.bool x.h.shut),.sl 10753 Hd 5 0 x.h.docs.length,.sl 10754 Hs 6 0 x.h.subs.length,.v (.int .i64 x.h.last),.sl 40324 Hl 1 0 x.locks.length,.sl 40325 Hq 2 0 x.queues.length,.sl 40326 Ht 15 0 x.tasks.length,.v (.int .i64 x.step)],.v u] /\
 hN=[(10753,.rows Hd 5 (x.h.docs.map Doc.row) true),(10754,.rows Hs 6 ((x.h.subs.map Sub.row).set i (iu Hb s)) true),(40324,.rows Hl 1 (x.locks.map aG) true),(40325,.rows Hq 2 (x.queues.map Queue.row) true),(40326,.rows Ht 15 ((x.tasks.map Task.row).set k (eu Ha t)) true),(80179,.rows (some (b,o,C)) 3 ((t.a.list++s.r.list).map Entry.row) true)]
def jE(s:Sub)(kk:Nat):Sub:=⟨s.id,s.doc,⟨s.r.cap,s.r.next+kk,false,s.r.list.drop kk⟩⟩
def gJ(t:Task)(step:Int)(s:Sub)(kk:Nat):Task:=⟨t.c,3,t.inv,step,t.rs,⟨0,0,[],s.r.list.take kk⟩⟩
def kS(w:Wld)(k i kk:Nat)(s:Sub)(t:Task):Wld:=⟨⟨w.h.shut,w.h.docs,w.h.subs.set i (jE s kk),w.h.last⟩,w.locks,w.queues,w.tasks.set k (gJ t w.step s kk),w.step+1⟩
theorem AJ(w:Wld)(hl:bY w<=2^30)(k:Nat)(c1:bo w)(hs:¬w.step=1000000)(hk:k<w.tasks.length){t:Task}(ht:w.tasks[k]=t)(p0:t.pc=0)(sh:wy w.h t.c){n i kk:Nat}(hi:i<w.h.subs.length)(hn:t.c.n=n)(c2:1<=n)
 (e:fJ w.h.subs t.c.client=i) {s:Sub}(hss:w.h.subs[i]=s) (c3:s.r.out=false) (hne:s.r.list≠[]) (hk0:min n s.r.list.length=kk):mI Tryz.prog 8 [.agg w.row,.c (vi k)] (SQ (kS w k i kk s t) (.bool true) i k (jE s kk) (gJ t w.step s kk)):=by
 have hwo:=hQ w aa;have hcp:=iA w aa;have hao:=jV w aa c1 k hk;obtain⟨nh,n2,n3,n4⟩:=bI hl;have hle:=aS n4;have hlq:=aS n3;have htk:=(c1.1 _ (ak hk));have hhb:=(ke c1.2.1).1;have hm:=λg=>j9 (f:=Task.row) hk ht g
 rw[ht]at htk hao;have n6:=sh.2.2.1;have d:¬cW t.c.kind:=by unfold cW;omega
 have hab:iG w t:=⟨λq=>absurd q.2 d,aa,aa⟩;have hs1:=jF t.c.doc c1.2.2.1.1;have hdsz:=htk.1.2.1;have ew:Go.IntKind.i64.wrap (w.step+1)=w.step+1:=ae _ so;have hdo:=TY w.h aa t.c sm n6 c1.2.1 htk.1 hn c2 hi e hss c3 hne hk0;refine mI.intro aw Tryz.func8 al rfl rfl rfl (ai rfl) 40000 (λw0 base=>?_);simp[Wld.row];intro b2 b4;refine ag.ro hwo bS ?_;simp[c1];refine ag.ro hao bS ?_;simp[hs,hab];refine ag.pure hcp bS ?_;simp[Wld.res,hk];intro H1 H2 H3 H4 H5 b6;refine aY.quiet eok mix al ?_;simp[hk,ht,Task.row];refine⟨_,_,lv t.c.doc aa w.locks.length aa aa,ab,?_⟩;simp;simp[p0,hk,ht,Task.row];refine ag.ro (eC t.c.kind) ab ?_;simp[az d,hk,ht,Task.row,p0]
 refine inl aw Tryz.func36 50000 (λw3 F3=>?_);simp[hk];refine drw eok mix [0,1,2,3,4,5,6,7,8,9,14,15,17,18] [10,11,12,13,16,19] (.c 14 10 272 16111 (.c 14 11 0 16111 (.c 14 12 0 16111 (.c 14 13 0 16111 (.c 14 16 12004 4107 (.c 14 19 4105 2 (.l 14 2) .s) .s) .s) .s) .s) .s) ?_;simp[hk,ht,Task.row]
 try intros
 refine mv hdo (by simp[Hub.row,Call.row]) ?_;rintro _ _ ⟨b,o,C,Hh,Hd,Hs,hC,hH1,rfl,rfl⟩;simp[hk,Task.row,hm,bf]
 try intros
 simp[ew];have hle:kk<=s.r.list.length:=aa
 have e1:((w.h.subs.set i (jE s kk)).map Sub.row).set i (iu Hh (jE s kk))=(w.h.subs.map Sub.row).set i (wu s ⟨s.r.cap,s.r.next+kk,false,[]⟩ Hh (s.r.list.length-kk)):=by
  rw[yj,List.set_set]
  congr 1
  simp[iu,wu,jE]
 have e2:((w.tasks.set k (gJ t w.step s kk)).map Task.row).set k (eu (some (b,o,kk)) (gJ t w.step s kk))=(w.tasks.map Task.row).set k [vi t.c.kind,.v (.string t.c.doc),vi t.c.client,vi t.c.seq,vi t.c.n,.s (t.c.o.map Part.row),.s (t.c.text.map aG),vi 3,vi t.inv,vi w.step,vi t.rs,vi 0,vi 0,.s [],.h 80179 (some (b,o,kk)) 3 kk]:=by
  rw[yj,List.set_set]
  congr 1
  simp[eu,gJ,hle]
 have e3:(gJ t w.step s kk).a.list++(jE s kk).r.list=s.r.list:=dV _ _;refine⟨_,⟨b,o,C,some (b,o,kk),Hh,Hd,Hs,H3,H4,H5,⟨?_,?_,?_⟩,?_,rfl⟩,ab,?_⟩
 ·simp[gJ,jE];omega
 ·simp[gJ,hle]
 ·simp[gJ,jE,hle];omega
 ·simp[kS]
 ·rw[show(kS w k i kk s t).h.subs=w.h.subs.set i (jE s kk)from rfl,show(kS w k i kk s t).tasks=w.tasks.set k (gJ t w.step s kk)from rfl,e1,e2,e3]
  simp[kS]
  rintro a x (⟨rfl,rfl⟩|⟨rfl,rfl⟩|⟨rfl,rfl⟩|⟨rfl,rfl⟩|⟨rfl,rfl⟩|⟨rfl,rfl⟩)<;>first|rfl|simp
theorem Db{w:Wld}{k:Nat}(c1:bo w)(hs:¬w.step=1000000)(hk:k<w.tasks.length){t:Task}(ht:w.tasks[k]=t)(p0:t.pc=0)(sh:wy w.h t.c) :
 ∃(n i kk:Nat) (s:Sub),i<w.h.subs.length/\t.c.n=n/\1<=n/\fJ w.h.subs t.c.client=i/\w.h.subs[i]? = some s/\s.r.out=false/\s.r.list≠[]/\min n s.r.list.length=kk/\eU w k=(kS w k i kk s t,true):=by
 have d:¬cW t.c.kind:=by have:=sh.2.2.1;unfold cW;omega
 obtain⟨n,i,kk,hi,hn,c2,e,c3,hne,hk0,hdo⟩:=PT sh;refine⟨n,i,kk,w.h.subs[i],hi,hn,c2,e,aj hi,c3,hne,hk0,?_⟩;rw[mq c1 hs hk,ht,ju p0 d];unfold mH eg;rw[hdo];rfl
set_option maxHeartbeats 6400000
def low(hr:AH):Prop:=∀p∈hr,p.1<900/\AH.get hr p.1=p.2
theorem pn{hr:AH}(hl:low hr):wkH hr hr=True:=by
 rw[<-rb];exact Jb λp hp=>by rw[(hl p hp).2];exact fH.refl _
theorem nn{hr h:AH}(hl:low hr){j:Nat}{o:AObj}(hj:900<=j):wkH ((j,o)::h) hr=wkH h hr:=by
 rw[<-rb,<-rb]
 have:∀p∈hr,AH.get ((j,o)::h) p.1=AH.get h p.1:=λp hp=>by
  have:=(hl p hp).1;rw[bH,aq aa]
 simp only[yi];exact⟨λh p hp=>by rw[<-this p hp];exact h p hp,λh p hp=>by rw[this p hp];exact h p hp⟩
theorem WH{hr:AH}(hl:low hr){j:Nat}(hj:900<=j):AH.get hr j=.dead:=zw hr λhm=>by
 obtain⟨p,hp,rfl⟩:=cE.1 hm;have:=(hl p hp).1;omega
theorem ag.fz{E:Env}{f:Nat}(k:Nat){avs:List AV}{st:ASt}{dst:Option Nat}{K:ASt->Prop}{H:Hd}{sz:Nat}{rs:List (List CD)}{own:Bool}
 (hget:st.h.get k=.rows H sz rs own) (A:ag E f (fzL k H sz rs avs) { st with h:=(k,.dead)::st.h } dst K):ag E f avs st dst K:=by
 refine⟨A.1,λa w hR xs hs hx=>?_⟩;obtain⟨Es,hH⟩:=hR.heap;have t:=Tr.kill hH k
 have hM:∀c,AH.M ((k,.dead)::st.h) c->st.h.M c/\(st.h.get k).blk≠some c:=by
  intro c hc;rcases qC.1 hc with h1|⟨j,hne,hj⟩
  ·cases h1
  ·exact⟨⟨j,hj⟩,λhk=>hne (hH.inj _ _ c hj hk)⟩
 have hR1:Go.AM.Rep E.w0 E.base { st with h:=(k,.dead)::st.h } a w:=⟨hR.dfr,hR.size,λi=>(hR.tmp i).tr t,⟨_,hH.kill k⟩,hR.below,hR.base_le⟩
 have hfz:∀i av,(fzL k H sz rs avs)[i]? = some av->VRel w (AH.M ((k,.dead)::st.h)) av (xs.getD i undef):=by
  intro i av hi;rw[zx]at hi;obtain⟨x,hx2,rfl⟩:=aU.1 hi;exact Kb hH hget hM (hx i x hx2)
 refine(A.2 a w hR1 xs (by rw[th];exact hs) hfz).mono ?_
 rintro e w' ⟨v,av,h',h1,h2,h3,h4,h5⟩
 exact⟨v,av,h',h1,h2,h3,λhl=>t.trans (h4 hl),h5⟩
theorem KW{E:Env}{f:Nat}{avs:List AV}{st:ASt}{dst:Option Nat}{K:ASt->Prop}(hfn:xj E.P f)(hl:E.base.loose=true)(hqa:AV.qL avs=true)(h:Ent E st λst'=>(∃h',st'={ st with h:=h' })/\ag E f avs st' dst K):ag E f avs st dst K:=by
 refine⟨hfn,λa w hR xs hs hx=>?_⟩;obtain⟨st',⟨⟨h',rfl⟩,hc⟩,hR'⟩:=h a w hR;have:=hc.2 a w hR' xs hs (λi av hi=>(hx i av hi).quiet (kQ _ hqa i av hi));have e:∀(h0:AH) (av:AV) (h':AH),ASt.aft ⟨st.n,st.kb,st.t,h0⟩ dst av h'=ASt.aft st dst av h':=λh0 av h'=>by cases dst<;>rfl
 simp only[hl,e,Bool.true_eq_false,false_implies]at this⊢;exact this
theorem BS{w0:World}{F:Nat->Prop}(l:List Entry)(A B:List (List CD)){b o C C':Nat}{k:Int}(h0:0<=k)(hk:k+aQ Entry.cnt l<=4611686018427387904)(hl:nL aZ l<=2^40)
 {o1 o2 o3 o4 o5 o6:AObj}{hr:AH}(hl6:low hr) (hq6:qH hr=true) (z1:o1.q=true) (z2:o2.q=true) (z3:o3.q=true) (z4:o4.q=true) (z5:o5.q=true) (z6:o6.q=true) {n0 kb0:Nat}{t0:List (Nat×AV)}(hq:qT t0=true) {h:AH}{dst:Option Nat}{K:ASt->Prop}
 (g0:h.get 80179=.rows (some (b,o,C)) 3 (A++(l.map Entry.row++B)) true) (g1:h.get 10754=o1) (g2:h.get 10753=o2) (g3:h.get 40324=o3) (g4:h.get 40325=o4) (g5:h.get 40326=o5) (g6:h.get 64032=o6) (gr:wkH h hr)
 (hK:bQ ⟨n0,kb0,t0,(80179,.rows (some (b,o,C)) 3 (A++((aM Entry.mark Entry.cnt l k).map Entry.row++B)) true)::(10754,o1)::(10753,o2)::(40324,o3)::(40325,o4)::(40326,o5)::(64032,o6)::hr⟩ dst (.v (.int .i64 (k+aQ Entry.cnt l))) K) :
 ag ⟨Tryz.prog,tt,w0,⟨F,F,true,λ_=>True⟩⟩ 97 [.sl 80179 (some (b,o,C')) 3 A.length l.length,.v (.int .i64 k)] ⟨n0,kb0,t0,h⟩ dst K:=by
 refine dI aw Tryz.func97 al rfl rfl rfl (ai rfl) 61000 rfl hq ?_;have hle:=aS hl;simp
 refine aE eok (λi:Nat=>i<=l.length) (λi=>⟨34,61000,[(5,.v (.int .i64 i)),(1,.v (.int .i64 (k+aQ Entry.cnt (l.take i)))),(0,.sl 80179 (some (b,o,C')) 3 A.length l.length)],
  (80179,.rows (some (b,o,C)) 3 (A++(bT Entry.mark Entry.cnt Entry.row l k i++B)) true)::(10754,o1)::(10753,o2)::(40324,o3)::(40325,o4)::(40326,o5)::(64032,o6)::hr⟩) (λi=>l.length-i) 0 ab (by simp[rA,aQ,g0,g1,g2,g3,g4,g5,g6,fH.refl,gr]) (λi hi=>?_)
 by_cases h:i<l.length
 ·have hc:=cY (cn:=Entry.cnt) h
  have hs:=cD (cn:=Entry.cnt) h;have hni:=cT hl h;simp only[aZ]at hni;obtain⟨q0,hq0⟩:∃q,k+((aQ Entry.cnt (l.take i):Nat):Int)=q:=⟨_,rfl⟩;have hpc:l[i].cnt=2+(aQ Part.cnt l[i].o):=rfl;rw[hq0];have hrow:=V6 (A:=A) (B:=B) (q:=k) h;have hset:=λ(r:List CD) hr=>V5 (A:=A) (B:=B) (q:=k) h (r:=r) hr
  have hlen:=V7 (A:=A) (B:=B) (l:=l) (q:=k) (z:=i);generalize A++(bT Entry.mark Entry.cnt Entry.row l k i++B)=R at hrow hset hlen⊢;rw[<-hrow];have hR:A.length+i<R.length:=aa;have e0:Go.IntKind.i64.wrap q0=q0:=ae _ aa;obtain⟨q1,hq1⟩:∃q,q0+1=q:=⟨_,rfl⟩;have e1:Go.IntKind.i64.wrap q1=q1:=ae _ aa;obtain⟨q2,hq2⟩:∃q,q1+1=q:=⟨_,rfl⟩;have e2:Go.IntKind.i64.wrap q2=q2:=ae _ aa;obtain⟨q3,hq3⟩:∃q,q2+((aQ Part.cnt l[i].o:Nat):Int)=q:=⟨_,rfl⟩;have e3:Go.IntKind.i64.wrap q3=q3:=ae _ aa;have e:Go.IntKind.i64.wrap ((i:Int)+1)=((i+1:Nat):Int):=aR aa
  refine Ent.open (λ_ h=>h) (k:=80179) (i:=A.length+i) (j:=2) (k':=902) (sz':=3) (sz:=3) (H:=some (b,o,C)) (rows:=R.set (A.length+i) l[i].row) (srows:=l[i].o.map Part.row) (row:=l[i].row) ab gv rfl mK ah gw DF (λH2=>?_);refine Ent.refl ?_;simp[h,hR,Entry.row,dK,bf,hq1,e1,hq2,e2];refine ag.mark (mj l[i].o q2 aa aa aa) rfl (λ_ h=>h) DF ?_;simp[e,hq3];refine dO (k:=80179) (i:=A.length+i) (j:=2) (k':=902) (sz':=3) (sz:=3) (H:=some (b,o,C)) (rows:=R.set (A.length+i) [vi q0,vi q1,.h 902 H2 3 l[i].o.length]) (row:=[vi q0,vi q1,.h 902 H2 3 l[i].o.length]) (H':=H2) (srows:=(aM Part.mark Part.cnt l[i].o q2).map Part.row) ab gv fC ab ah DF ?_;refine Ent.refl ⟨i+1,aa,aa,?_⟩
  simp[dK,hs,hpc,fH.refl,pn hl6,nn hl6];refine⟨aa,?_⟩;refine hset _ ?_;rw[hq0];subst hq1 hq2 hq3;rfl
 ·have:i=l.length:=by omega
  subst this;refine Ent.refl ?_;simp[hJ];exact hK
theorem yr{w0:World}{F:Nat->Prop}{H:Hd}{k:Int}
 {o0 o1 o2 o3 o4 o5 o6:AObj}{hr:AH}(_hl6:low hr) (_hq6:qH hr=true) {n0 kb0:Nat}{t0:List (Nat×AV)}(hq:qT t0=true) {h:AH}{dst:Option Nat}{K:ASt->Prop}
 (g0:h.get 80179=o0) (g1:h.get 10754=o1) (g2:h.get 10753=o2) (g3:h.get 40324=o3) (g4:h.get 40325=o4) (g5:h.get 40326=o5) (g6:h.get 64032=o6) (gr:wkH h hr)
 (hK:bQ ⟨n0,kb0,t0,(80179,o0)::(10754,o1)::(10753,o2)::(40324,o3)::(40325,o4)::(40326,o5)::(64032,o6)::hr⟩ dst (.v (.int .i64 k)) K) :
 ag ⟨Tryz.prog,tt,w0,⟨F,F,true,λ_=>True⟩⟩ 97 [.ml 80179 H 3 0,.v (.int .i64 k)] ⟨n0,kb0,t0,h⟩ dst K:=by
 refine dI aw Tryz.func97 al rfl rfl rfl (ai rfl) 61000 rfl hq ?_;simp
 refine aE eok (λ_:Unit=>True) (λ_=>⟨34,61000,[(5,.v (.int .i64 0)),(1,.v (.int .i64 k)),(0,.ml 80179 H 3 0)],
  (80179,o0)::(10754,o1)::(10753,o2)::(40324,o3)::(40325,o4)::(40326,o5)::(64032,o6)::hr⟩) (λ_=>0) () trivial (by simp[g0,g1,g2,g3,g4,g5,g6,fH.refl,gr]) (λ_ _=>Ent.refl ?_)
 simp;exact hK
theorem tS{w0:World}{F:Nat->Prop}(l:List Entry)(A B:List (List CD)){b o C C':Nat}{H:Hd}(hH:H=some (b,o+A.length*3,C'-A.length)\/l.length=0/\H=none)(hC:A.length<=C'){k:Int}(h0:0<=k)(hk:k+aQ Entry.cnt l<=4611686018427387904)(hl:nL aZ l<=2^40)
 {o1 o2 o3 o4 o5 o6:AObj}{hr:AH}(hl6:low hr) (hq6:qH hr=true) (z1:o1.q=true) (z2:o2.q=true) (z3:o3.q=true) (z4:o4.q=true) (z5:o5.q=true) (z6:o6.q=true) {n0 kb0:Nat}{t0:List (Nat×AV)}(hq:qT t0=true) {h:AH}{dst:Option Nat}{K:ASt->Prop}
 (g0:h.get 80179=.rows (some (b,o,C)) 3 (A++(l.map Entry.row++B)) true) (g1:h.get 10754=o1) (g2:h.get 10753=o2) (g3:h.get 40324=o3) (g4:h.get 40325=o4) (g5:h.get 40326=o5) (g6:h.get 64032=o6) (gr:wkH h hr)
 (hK:bQ ⟨n0,kb0,t0,(80179,.rows (some (b,o,C)) 3 (A++((aM Entry.mark Entry.cnt l k).map Entry.row++B)) true)::(10754,o1)::(10753,o2)::(40324,o3)::(40325,o4)::(40326,o5)::(64032,o6)::hr⟩ dst (.v (.int .i64 (k+aQ Entry.cnt l))) K) :
 ag ⟨Tryz.prog,tt,w0,⟨F,F,true,λ_=>True⟩⟩ 97 [.ml 80179 H 3 l.length,.v (.int .i64 k)] ⟨n0,kb0,t0,h⟩ dst K:=by
 rcases Nat.eq_zero_or_pos l.length with e|e
 ·have e':=aA e
  subst e';refine yr hl6 hq6 hq g0 g1 g2 g3 g4 g5 g6 gr ?_
  simpa[aM,aQ]using hK
 ·refine GS (args':=[.sl 80179 (some (b,o,C')) 3 A.length l.length,.v (.int .i64 k)]) rfl (λi av av' h1 h2 w M x hx=>?_) (BS l A B h0 hk hl hl6 hq6 z1 z2 z3 z4 z5 z6 hq g0 g1 g2 g3 g4 g5 g6 gr hK)
  rcases i with _|_|i
  ·simp at h1 h2
   subst h1 h2;exact ady ah hH hC e hx
  ·simp at h1 h2
   subst h1 h2;exact hx
  ·simp at h1
set_option maxHeartbeats 12800000
theorem HO{w0:World}{F:Nat->Prop}(l:List Sub)(p:Nat)(hp:p<l.length)(A:List (List CD)){b o C:Nat}{Hb H:Hd}(hH:Hb=some (b,o+A.length*3,C-A.length)\/l[p].r.list.length=0/\Hb=none)(hC:A.length+l[p].r.list.length<=C){k:Int}(h0:0<=k)(hk:k+aQ Sub.cnt l<=4611686018427387904)(hl:nL dC l<=2^40)
 {o2 o3 o4 o5 o6:AObj}{hr:AH}(hl6:low hr) (hqr:qH hr=true) (z2:o2.q=true) (z3:o3.q=true) (z4:o4.q=true) (z5:o5.q=true) (z6:o6.q=true) {n0 kb0:Nat}{t0:List (Nat×AV)}(hq:qT t0=true) {h:AH}{dst:Option Nat}{K:ASt->Prop}
 (g0:h.get 80179=.rows (some (b,o,C)) 3 (A++(l[p].r.list).map Entry.row) true) (gk:h.get 10754=.rows H 6 ((l.map Sub.row).set p (iu Hb l[p])) true) (g1:h.get 10753=o2) (g2:h.get 40324=o3) (g3:h.get 40325=o4) (g4:h.get 40326=o5) (g5:h.get 64032=o6) (gr:wkH h hr)
 (hK:bQ ⟨n0,kb0,t0,(10754,.rows H 6 (((aM Sub.mark Sub.cnt l k).map Sub.row).set p (iu Hb (Sub.mark l[p] (k+aQ Sub.cnt (l.take p))))) true)::(80179,.rows (some (b,o,C)) 3 (A++(aM Entry.mark Entry.cnt l[p].r.list (k+((aQ Sub.cnt (l.take p):Nat):Int)+1+1+1+1+1)).map Entry.row) true)::(10753,o2)::(40324,o3)::(40325,o4)::(40326,o5)::(64032,o6)::hr⟩ dst (.v (.int .i64 (k+aQ Sub.cnt l))) K) :
 ag ⟨Tryz.prog,tt,w0,⟨F,F,true,λ_=>True⟩⟩ 94 [.sl 10754 H 6 0 l.length,.v (.int .i64 k)] ⟨n0,kb0,t0,h⟩ dst K:=by
 refine dI aw Tryz.func94 al rfl rfl rfl (ai rfl) 62000 rfl hq ?_;have hle:=aS hl;have hr0:bT (mkB Sub.mark) (cnB Sub.cnt) (rwB Sub.row (iu Hb)) (tg l p) k 0=(l.map Sub.row).set p (iu Hb l[p]):=by rw[rA,DB hp]
 have hr1:bT (mkB Sub.mark) (cnB Sub.cnt) (rwB Sub.row (iu Hb)) (tg l p) k l.length=((aM Sub.mark Sub.cnt l k).map Sub.row).set p (iu Hb (Sub.mark l[p] (k+aQ Sub.cnt (l.take p)))):=by
  have hg:=lM (mk:=Sub.mark) (cn:=Sub.cnt) (k:=k) hp;exact NF
 simp
 refine aE eok (λi:Nat=>i<=l.length) (λi=>⟨62,62000,[(5,.v (.int .i64 i)),(1,.v (.int .i64 (k+aQ Sub.cnt (l.take i)))),(0,.sl 10754 H 6 0 l.length)],
  (10754,.rows H 6 (bT (mkB Sub.mark) (cnB Sub.cnt) (rwB Sub.row (iu Hb)) (tg l p) k i) true)::(80179,.rows (some (b,o,C)) 3 (A++(if p<i then aM Entry.mark Entry.cnt l[p].r.list (k+((aQ Sub.cnt (l.take p):Nat):Int)+1+1+1+1+1)else l[p].r.list).map Entry.row) true)::(10753,o2)::(40324,o3)::(40325,o4)::(40326,o5)::(64032,o6)::hr⟩) (λi=>l.length-i) 0 ab K7 (λi hi=>?_)
 by_cases h:i<l.length
 ·have hc:=cY (cn:=Sub.cnt) h
  have hs:=cD (cn:=Sub.cnt) h;have hni:=cT hl h;simp only[dC,dh]at hni;obtain⟨q0,hq0⟩:∃q,k+((aQ Sub.cnt (l.take i):Nat):Int)=q:=⟨_,rfl⟩;have hpc:l[i].cnt=5+(aQ Entry.cnt l[i].r.list):=rfl;rw[hq0];have hT:i<(tg l p).length:=by rw[ni];exact h
  have hrow:=hI (mk:=mkB Sub.mark) (cn:=cnB Sub.cnt) (f:=rwB Sub.row (iu Hb)) (k:=k) hT;have hset:=λ(r:List CD) hr=>gZ (mk:=mkB Sub.mark) (cn:=cnB Sub.cnt) (f:=rwB Sub.row (iu Hb)) (k:=k) hT (r:=r) hr
  rw[zL h hT]at hrow hset;rw[A9,hq0]at hset;have hlen:(bT (mkB Sub.mark) (cnB Sub.cnt) (rwB Sub.row (iu Hb)) (tg l p) k i).length=l.length:=by rw[bR,ni]
  generalize bT (mkB Sub.mark) (cnB Sub.cnt) (rwB Sub.row (iu Hb)) (tg l p) k i=R at hrow hset hlen⊢;rw[<-hrow];have hR:i<R.length:=aa;have e0:Go.IntKind.i64.wrap q0=q0:=ae _ aa;obtain⟨q1,hq1⟩:∃q,q0+1=q:=⟨_,rfl⟩;have e1:Go.IntKind.i64.wrap q1=q1:=ae _ aa;obtain⟨q2,hq2⟩:∃q,q1+1=q:=⟨_,rfl⟩;have e2:Go.IntKind.i64.wrap q2=q2:=ae _ aa;obtain⟨q3,hq3⟩:∃q,q2+1=q:=⟨_,rfl⟩;have e3:Go.IntKind.i64.wrap q3=q3:=ae _ aa;obtain⟨q4,hq4⟩:∃q,q3+1=q:=⟨_,rfl⟩;have e4:Go.IntKind.i64.wrap q4=q4:=ae _ aa;obtain⟨q5,hq5⟩:∃q,q4+1=q:=⟨_,rfl⟩;have e5:Go.IntKind.i64.wrap q5=q5:=ae _ aa
  obtain⟨q6,hq6⟩:∃q,q5+((aQ Entry.cnt l[i].r.list:Nat):Int)=q:=⟨_,rfl⟩;have e6:Go.IntKind.i64.wrap q6=q6:=ae _ aa;have e:Go.IntKind.i64.wrap ((i:Int)+1)=((i+1:Nat):Int):=aR aa;by_cases hip:i=p
  ·subst hip
   have er:rwB Sub.row (iu Hb) (l[i],i==i)=iu Hb l[i]:=by simp[rwB]
   rw[er];refine Ent.refl ?_;simp[h,hR,iu,bf,hq1,e1];refine ag.pure (fL q1 aa aa) ab ?_;simp[h,hR,bf,hq2,e2,hq3,e3,hq4,e4,hq5,e5];refine tS (b:=b) (o:=o) (C:=C) l[i].r.list A [] (C':=C) hH aa (k:=q5) aa aa aa (o1:=.rows H 6 (R.set i [vi q0,.v (.string (markT q1)),vi q2,vi q3,.v (.bool (oz q4)),.h 80179 Hb 3 l[i].r.list.length]) true) hl6 hqr rfl z2 z3 z4 z5 z6 ab ab (by simp[oz]) ab ab ab ab ab DE ?_;simp[e,hq6];refine Ent.refl ⟨i+1,aa,aa,?_⟩;simp[hs,hpc,fH.refl,pn hl6,nn hl6];refine⟨aa,?_⟩;refine⟨hset _ ?_,?_⟩
   ·subst hq1 hq2 hq3 hq4 hq5 hq6
    simp[rwB,mkB,iu,Sub.mark,aK]
   ·subst hq1 hq2 hq3 hq4 hq5 hq6
    rw[hq0]
  ·have eb:(i==p)=false:=by simp[hip]
   have er:rwB Sub.row (iu Hb) (l[i],i==p)=l[i].row:=by simp[rwB,eb]
   rw[er];have hpi:(p<i+1)=(p<i):=by simp only[yi];omega
   refine Ent.open (λ_ h=>h) (k:=10754) (i:=i) (j:=5) (k':=905) (sz':=3) (sz:=6) (H:=H) (rows:=(R.set i l[i].row)) (srows:=l[i].r.list.map Entry.row) (row:=l[i].row) ab gv rfl mK ah fB DD (λH5=>?_);refine Ent.refl ?_;simp[h,hR,Sub.row,dK,bf,hq1,e1];refine ag.pure (fL q1 aa aa) ab ?_;simp[h,hR,bf,hq2,e2,hq3,e3,hq4,e4,hq5,e5];refine ag.mark (jI l[i].r.list q5 aa aa aa) rfl (λ_ h=>h) DD ?_;simp[e,hq6]
   refine dO (k:=10754) (i:=i) (j:=5) (k':=905) (sz':=3) (sz:=6) (H:=H) (rows:=R.set i [vi q0,.v (.string (markT q1)),vi q2,vi q3,.v (.bool (oz q4)),.h 905 H5 3 l[i].r.list.length]) (row:=[vi q0,.v (.string (markT q1)),vi q2,vi q3,.v (.bool (oz q4)),.h 905 H5 3 l[i].r.list.length]) (H':=H5) (srows:=(aM Entry.mark Entry.cnt l[i].r.list q5).map Entry.row) (by simp[oz]) gv fC ab ah DD ?_;refine Ent.refl ⟨i+1,aa,aa,?_⟩;simp[dK,hs,hpc,hpi,fH.refl,pn hl6,nn hl6];refine⟨aa,?_⟩;refine hset _ ?_;subst hq1 hq2 hq3 hq4 hq5 hq6;simp[rwB,mkB,iu,Sub.mark,aK,Sub.row,eb]
 ·have:i=l.length:=by omega
  subst this;refine Ent.refl ?_;simp[hr1,hp];exact hK
theorem FH{w0:World}{F:Nat->Prop}(l:List Task)(p:Nat)(hp:p<l.length)(B:List (List CD)){b o C:Nat}{Hb H:Hd}(hH:Hb=some (b,o,l[p].a.list.length)){k:Int}(h0:0<=k)(hk:k+aQ Task.cnt l<=4611686018427387904)(hl:nL dq l<=2^36)
 {o1 o2 o3 o4 o6:AObj}{hr:AH}(hl6:low hr) (hqr:qH hr=true) (z1:o1.q=true) (z2:o2.q=true) (z3:o3.q=true) (z4:o4.q=true) (z6:o6.q=true) {n0 kb0:Nat}{t0:List (Nat×AV)}(hq:qT t0=true) {h:AH}{dst:Option Nat}{K:ASt->Prop}
 (g0:h.get 80179=.rows (some (b,o,C)) 3 ((l[p].a.list).map Entry.row++B) true) (gk:h.get 40326=.rows H 15 ((l.map Task.row).set p (eu Hb l[p])) true) (g1:h.get 10754=o1) (g2:h.get 10753=o2) (g3:h.get 40324=o3) (g4:h.get 40325=o4) (g5:h.get 64032=o6) (gr:wkH h hr)
 (hK:bQ ⟨n0,kb0,t0,(40326,.rows H 15 (((aM Task.mark Task.cnt l k).map Task.row).set p (eu Hb (Task.mark l[p] (k+aQ Task.cnt (l.take p))))) true)::(80179,.rows (some (b,o,C)) 3 ((aM Entry.mark Entry.cnt l[p].a.list (k+((aQ Task.cnt (l.take p):Nat):Int)+1+1+1+1+1+((aQ Part.cnt l[p].c.o:Nat):Int)+((l[p].c.text.length:Nat):Int)+1+1+1+1+1+1+((l[p].a.text.length:Nat):Int))).map Entry.row++B) true)::(10754,o1)::(10753,o2)::(40324,o3)::(40325,o4)::(64032,o6)::hr⟩ dst (.v (.int .i64 (k+aQ Task.cnt l))) K) :
 ag ⟨Tryz.prog,tt,w0,⟨F,F,true,λ_=>True⟩⟩ 44 [.sl 40326 H 15 0 l.length,.v (.int .i64 k)] ⟨n0,kb0,t0,h⟩ dst K:=by
 refine dI aw Tryz.func44 al rfl rfl rfl (ai rfl) 63000 rfl hq ?_;have hle:=aS hl;have hr0:bT (mkB Task.mark) (cnB Task.cnt) (rwB Task.row (eu Hb)) (tg l p) k 0=(l.map Task.row).set p (eu Hb l[p]):=by rw[rA,DB hp]
 have hr1:bT (mkB Task.mark) (cnB Task.cnt) (rwB Task.row (eu Hb)) (tg l p) k l.length=((aM Task.mark Task.cnt l k).map Task.row).set p (eu Hb (Task.mark l[p] (k+aQ Task.cnt (l.take p)))):=by
  have hg:=lM (mk:=Task.mark) (cn:=Task.cnt) (k:=k) hp;exact NF
 simp
 refine aE eok (λi:Nat=>i<=l.length) (λi=>⟨130,63000,[(5,.v (.int .i64 i)),(1,.v (.int .i64 (k+aQ Task.cnt (l.take i)))),(0,.sl 40326 H 15 0 l.length)],
  (40326,.rows H 15 (bT (mkB Task.mark) (cnB Task.cnt) (rwB Task.row (eu Hb)) (tg l p) k i) true)::(80179,.rows (some (b,o,C)) 3 ((if p<i then aM Entry.mark Entry.cnt l[p].a.list (k+((aQ Task.cnt (l.take p):Nat):Int)+1+1+1+1+1+((aQ Part.cnt l[p].c.o:Nat):Int)+((l[p].c.text.length:Nat):Int)+1+1+1+1+1+1+((l[p].a.text.length:Nat):Int))else l[p].a.list).map Entry.row++B) true)::(10754,o1)::(10753,o2)::(40324,o3)::(40325,o4)::(64032,o6)::hr⟩) (λi=>l.length-i) 0 ab K7 (λi hi=>?_)
 by_cases h:i<l.length
 ·have hc:=cY (cn:=Task.cnt) h
  have hs:=cD (cn:=Task.cnt) h;have hni:=cT hl h;simp only[dq,dX,cH]at hni;obtain⟨q0,hq0⟩:∃q,k+((aQ Task.cnt (l.take i):Nat):Int)=q:=⟨_,rfl⟩;have hpc:l[i].cnt=11+(aQ Part.cnt l[i].c.o+(l[i].c.text.length+(l[i].a.text.length+(aQ Entry.cnt l[i].a.list)))):=rfl;rw[hq0];have hT:i<(tg l p).length:=by rw[ni];exact h
  have hrow:=hI (mk:=mkB Task.mark) (cn:=cnB Task.cnt) (f:=rwB Task.row (eu Hb)) (k:=k) hT;have hset:=λ(r:List CD) hr=>gZ (mk:=mkB Task.mark) (cn:=cnB Task.cnt) (f:=rwB Task.row (eu Hb)) (k:=k) hT (r:=r) hr
  rw[zL h hT]at hrow hset;rw[A9,hq0]at hset;have hlen:(bT (mkB Task.mark) (cnB Task.cnt) (rwB Task.row (eu Hb)) (tg l p) k i).length=l.length:=by rw[bR,ni]
  generalize bT (mkB Task.mark) (cnB Task.cnt) (rwB Task.row (eu Hb)) (tg l p) k i=R at hrow hset hlen⊢;rw[<-hrow];have hR:i<R.length:=aa;have e0:Go.IntKind.i64.wrap q0=q0:=ae _ aa;obtain⟨q1,hq1⟩:∃q,q0+1=q:=⟨_,rfl⟩;have e1:Go.IntKind.i64.wrap q1=q1:=ae _ aa;obtain⟨q2,hq2⟩:∃q,q1+1=q:=⟨_,rfl⟩;have e2:Go.IntKind.i64.wrap q2=q2:=ae _ aa;obtain⟨q3,hq3⟩:∃q,q2+1=q:=⟨_,rfl⟩;have e3:Go.IntKind.i64.wrap q3=q3:=ae _ aa;obtain⟨q4,hq4⟩:∃q,q3+1=q:=⟨_,rfl⟩;have e4:Go.IntKind.i64.wrap q4=q4:=ae _ aa;obtain⟨q5,hq5⟩:∃q,q4+1=q:=⟨_,rfl⟩;have e5:Go.IntKind.i64.wrap q5=q5:=ae _ aa
  obtain⟨q6,hq6⟩:∃q,q5+((aQ Part.cnt l[i].c.o:Nat):Int)=q:=⟨_,rfl⟩;have e6:Go.IntKind.i64.wrap q6=q6:=ae _ aa;obtain⟨q7,hq7⟩:∃q,q6+((l[i].c.text.length:Nat):Int)=q:=⟨_,rfl⟩;have e7:Go.IntKind.i64.wrap q7=q7:=ae _ aa;obtain⟨q8,hq8⟩:∃q,q7+1=q:=⟨_,rfl⟩;have e8:Go.IntKind.i64.wrap q8=q8:=ae _ aa;obtain⟨q9,hq9⟩:∃q,q8+1=q:=⟨_,rfl⟩;have e9:Go.IntKind.i64.wrap q9=q9:=ae _ aa;obtain⟨q10,hq10⟩:∃q,q9+1=q:=⟨_,rfl⟩;have e10:Go.IntKind.i64.wrap q10=q10:=ae _ aa;obtain⟨q11,hq11⟩:∃q,q10+1=q:=⟨_,rfl⟩;have e11:Go.IntKind.i64.wrap q11=q11:=ae _ aa;obtain⟨q12,hq12⟩:∃q,q11+1=q:=⟨_,rfl⟩
  have e12:Go.IntKind.i64.wrap q12=q12:=ae _ aa;obtain⟨q13,hq13⟩:∃q,q12+1=q:=⟨_,rfl⟩;have e13:Go.IntKind.i64.wrap q13=q13:=ae _ aa;obtain⟨q14,hq14⟩:∃q,q13+((l[i].a.text.length:Nat):Int)=q:=⟨_,rfl⟩;have e14:Go.IntKind.i64.wrap q14=q14:=ae _ aa;obtain⟨q15,hq15⟩:∃q,q14+((aQ Entry.cnt l[i].a.list:Nat):Int)=q:=⟨_,rfl⟩;have e15:Go.IntKind.i64.wrap q15=q15:=ae _ aa;have e:Go.IntKind.i64.wrap ((i:Int)+1)=((i+1:Nat):Int):=aR aa;by_cases hip:i=p
  ·subst hip
   have er:rwB Task.row (eu Hb) (l[i],i==i)=eu Hb l[i]:=by simp[rwB]
   rw[er];refine Ent.open (λ_ h=>h) (k:=40326) (i:=i) (j:=5) (k':=905) (sz':=3) (sz:=15) (H:=H) (rows:=(R.set i (eu Hb l[i]))) (srows:=l[i].c.o.map Part.row) (row:=eu Hb l[i]) ab gv rfl mK ah gw fj (λH5=>?_)
   refine Ent.open (λ_ h=>h) (k:=40326) (i:=i) (j:=6) (k':=906) (sz':=1) (sz:=15) (H:=H) (rows:=(R.set i [vi l[i].c.kind,.v (.string l[i].c.doc),vi l[i].c.client,vi l[i].c.seq,vi l[i].c.n,.h 905 H5 3 l[i].c.o.length,.s (l[i].c.text.map aG),vi l[i].pc,vi l[i].inv,vi l[i].lin,vi l[i].rs,vi l[i].a.code,vi l[i].a.rev,.s (l[i].a.text.map aG),.h 80179 Hb 3 l[i].a.list.length])) (srows:=l[i].c.text.map aG) (row:=[vi l[i].c.kind,.v (.string l[i].c.doc),vi l[i].c.client,vi l[i].c.seq,vi l[i].c.n,.h 905 H5 3 l[i].c.o.length,.s (l[i].c.text.map aG),vi l[i].pc,vi l[i].inv,vi l[i].lin,vi l[i].rs,vi l[i].a.code,vi l[i].a.rev,.s (l[i].a.text.map aG),.h 80179 Hb 3 l[i].a.list.length]) (by simp[dK,eu]) gv rfl mK ah i5 fj (λH6=>?_)
   refine Ent.open (λ_ h=>h) (k:=40326) (i:=i) (j:=13) (k':=913) (sz':=1) (sz:=15) (H:=H) (rows:=(R.set i [vi l[i].c.kind,.v (.string l[i].c.doc),vi l[i].c.client,vi l[i].c.seq,vi l[i].c.n,.h 905 H5 3 l[i].c.o.length,.h 906 H6 1 l[i].c.text.length,vi l[i].pc,vi l[i].inv,vi l[i].lin,vi l[i].rs,vi l[i].a.code,vi l[i].a.rev,.s (l[i].a.text.map aG),.h 80179 Hb 3 l[i].a.list.length])) (srows:=l[i].a.text.map aG) (row:=[vi l[i].c.kind,.v (.string l[i].c.doc),vi l[i].c.client,vi l[i].c.seq,vi l[i].c.n,.h 905 H5 3 l[i].c.o.length,.h 906 H6 1 l[i].c.text.length,vi l[i].pc,vi l[i].inv,vi l[i].lin,vi l[i].rs,vi l[i].a.code,vi l[i].a.rev,.s (l[i].a.text.map aG),.h 80179 Hb 3 l[i].a.list.length]) (by simp[dK,eu]) gv rfl mK ah i5 fj (λH13=>?_);refine Ent.refl ?_
   simp[h,hR,eu,dK,bf,hq1,e1];refine ag.pure (fL q1 aa aa) ab ?_;simp[h,hR,bf,hq2,e2,hq3,e3,hq4,e4,hq5,e5];refine ag.mark (mj l[i].c.o q5 aa aa aa) rfl (λ_ h=>h) fj ?_;simp[h,hR,hq6];refine ag.mark (fh l[i].c.text q6 aa aa) rfl (λ_ h=>h) fj ?_;simp[h,hR,bf,hq7,hq8,e8,hq9,e9,hq10,e10,hq11,e11,hq12,e12,hq13,e13];refine ag.mark (fh l[i].a.text q13 aa aa) rfl (λ_ h=>h) fj ?_;simp[h,hR,hq14];refine KW (jI [] 0 aa jZ (by simp[nL,cK])).1 rfl ab ?_
   refine dO (k:=40326) (i:=i) (j:=5) (k':=905) (sz':=3) (sz:=15) (H:=H) (rows:=R.set i [vi q0,.v (.string (markT q1)),vi q2,vi q3,vi q4,.h 905 H5 3 l[i].c.o.length,.h 906 H6 1 l[i].c.text.length,vi q7,vi q8,vi q9,vi q10,vi q11,vi q12,.h 913 H13 1 l[i].a.text.length,.h 80179 Hb 3 l[i].a.list.length]) (row:=[vi q0,.v (.string (markT q1)),vi q2,vi q3,vi q4,.h 905 H5 3 l[i].c.o.length,.h 906 H6 1 l[i].c.text.length,vi q7,vi q8,vi q9,vi q10,vi q11,vi q12,.h 913 H13 1 l[i].a.text.length,.h 80179 Hb 3 l[i].a.list.length]) (H':=H5) (srows:=(aM Part.mark Part.cnt l[i].c.o q5).map Part.row) ab gv fC ab ah fj ?_
   refine dO (k:=40326) (i:=i) (j:=6) (k':=906) (sz':=1) (sz:=15) (H:=H) (rows:=R.set i [vi q0,.v (.string (markT q1)),vi q2,vi q3,vi q4,.s ((aM Part.mark Part.cnt l[i].c.o q5).map Part.row),.h 906 H6 1 l[i].c.text.length,vi q7,vi q8,vi q9,vi q10,vi q11,vi q12,.h 913 H13 1 l[i].a.text.length,.h 80179 Hb 3 l[i].a.list.length]) (row:=[vi q0,.v (.string (markT q1)),vi q2,vi q3,vi q4,.s ((aM Part.mark Part.cnt l[i].c.o q5).map Part.row),.h 906 H6 1 l[i].c.text.length,vi q7,vi q8,vi q9,vi q10,vi q11,vi q12,.h 913 H13 1 l[i].a.text.length,.h 80179 Hb 3 l[i].a.list.length]) (H':=H6) (srows:=(aM fk one l[i].c.text q6).map aG) kU gv fC ab ah fj ?_
   refine dO (k:=40326) (i:=i) (j:=13) (k':=913) (sz':=1) (sz:=15) (H:=H) (rows:=R.set i [vi q0,.v (.string (markT q1)),vi q2,vi q3,vi q4,.s ((aM Part.mark Part.cnt l[i].c.o q5).map Part.row),.s ((aM fk one l[i].c.text q6).map aG),vi q7,vi q8,vi q9,vi q10,vi q11,vi q12,.h 913 H13 1 l[i].a.text.length,.h 80179 Hb 3 l[i].a.list.length]) (row:=[vi q0,.v (.string (markT q1)),vi q2,vi q3,vi q4,.s ((aM Part.mark Part.cnt l[i].c.o q5).map Part.row),.s ((aM fk one l[i].c.text q6).map aG),vi q7,vi q8,vi q9,vi q10,vi q11,vi q12,.h 913 H13 1 l[i].a.text.length,.h 80179 Hb 3 l[i].a.list.length]) (H':=H13) (srows:=(aM fk one l[i].a.text q13).map aG) kU gv fC ab ah fj ?_;refine Ent.refl ⟨⟨_,rfl⟩,?_⟩
   refine tS (b:=b) (o:=o) (C:=C) l[i].a.list [] B (C':=l[i].a.list.length) (.inl (by simp[hH])) (iU _) (k:=q14) aa aa aa hl6 hqr z1 z2 z3 z4 (o5:=.rows H 15 (R.set i [vi q0,.v (.string (markT q1)),vi q2,vi q3,vi q4,.s ((aM Part.mark Part.cnt l[i].c.o q5).map Part.row),.s ((aM fk one l[i].c.text q6).map aG),vi q7,vi q8,vi q9,vi q10,vi q11,vi q12,.s ((aM fk one l[i].a.text q13).map aG),.h 80179 Hb 3 l[i].a.list.length]) true) rfl z6 ab ab ab ab ab ab kU ab DE ?_;simp[e,hq15];refine Ent.refl ⟨i+1,aa,aa,?_⟩;simp[hs,hpc,fH.refl,pn hl6,nn hl6];refine⟨aa,?_⟩;refine⟨hset _ ?_,?_⟩
   ·subst hq1 hq2 hq3 hq4 hq5 hq6 hq7 hq8 hq9 hq10 hq11 hq12 hq13 hq14 hq15
    simp[rwB,mkB,eu,Task.mark,aK]
   ·subst hq1 hq2 hq3 hq4 hq5 hq6 hq7 hq8 hq9 hq10 hq11 hq12 hq13 hq14 hq15
    rw[hq0]
  ·have eb:(i==p)=false:=by simp[hip]
   have er:rwB Task.row (eu Hb) (l[i],i==p)=l[i].row:=by simp[rwB,eb]
   rw[er];have hpi:(p<i+1)=(p<i):=by simp only[yi];omega
   refine Ent.open (λ_ h=>h) (k:=40326) (i:=i) (j:=5) (k':=905) (sz':=3) (sz:=15) (H:=H) (rows:=(R.set i l[i].row)) (srows:=l[i].c.o.map Part.row) (row:=l[i].row) ab gv rfl mK ah gw fj (λH5=>?_)
   refine Ent.open (λ_ h=>h) (k:=40326) (i:=i) (j:=6) (k':=906) (sz':=1) (sz:=15) (H:=H) (rows:=(R.set i [vi l[i].c.kind,.v (.string l[i].c.doc),vi l[i].c.client,vi l[i].c.seq,vi l[i].c.n,.h 905 H5 3 l[i].c.o.length,.s (l[i].c.text.map aG),vi l[i].pc,vi l[i].inv,vi l[i].lin,vi l[i].rs,vi l[i].a.code,vi l[i].a.rev,.s (l[i].a.text.map aG),.s (l[i].a.list.map Entry.row)])) (srows:=l[i].c.text.map aG) (row:=[vi l[i].c.kind,.v (.string l[i].c.doc),vi l[i].c.client,vi l[i].c.seq,vi l[i].c.n,.h 905 H5 3 l[i].c.o.length,.s (l[i].c.text.map aG),vi l[i].pc,vi l[i].inv,vi l[i].lin,vi l[i].rs,vi l[i].a.code,vi l[i].a.rev,.s (l[i].a.text.map aG),.s (l[i].a.list.map Entry.row)]) sw gv rfl mK ah i5 fj (λH6=>?_)
   refine Ent.open (λ_ h=>h) (k:=40326) (i:=i) (j:=13) (k':=913) (sz':=1) (sz:=15) (H:=H) (rows:=(R.set i [vi l[i].c.kind,.v (.string l[i].c.doc),vi l[i].c.client,vi l[i].c.seq,vi l[i].c.n,.h 905 H5 3 l[i].c.o.length,.h 906 H6 1 l[i].c.text.length,vi l[i].pc,vi l[i].inv,vi l[i].lin,vi l[i].rs,vi l[i].a.code,vi l[i].a.rev,.s (l[i].a.text.map aG),.s (l[i].a.list.map Entry.row)])) (srows:=l[i].a.text.map aG) (row:=[vi l[i].c.kind,.v (.string l[i].c.doc),vi l[i].c.client,vi l[i].c.seq,vi l[i].c.n,.h 905 H5 3 l[i].c.o.length,.h 906 H6 1 l[i].c.text.length,vi l[i].pc,vi l[i].inv,vi l[i].lin,vi l[i].rs,vi l[i].a.code,vi l[i].a.rev,.s (l[i].a.text.map aG),.s (l[i].a.list.map Entry.row)]) sw gv rfl mK ah i5 fj (λH13=>?_)
   refine Ent.open (λ_ h=>h) (k:=40326) (i:=i) (j:=14) (k':=914) (sz':=3) (sz:=15) (H:=H) (rows:=(R.set i [vi l[i].c.kind,.v (.string l[i].c.doc),vi l[i].c.client,vi l[i].c.seq,vi l[i].c.n,.h 905 H5 3 l[i].c.o.length,.h 906 H6 1 l[i].c.text.length,vi l[i].pc,vi l[i].inv,vi l[i].lin,vi l[i].rs,vi l[i].a.code,vi l[i].a.rev,.h 913 H13 1 l[i].a.text.length,.s (l[i].a.list.map Entry.row)])) (srows:=l[i].a.list.map Entry.row) (row:=[vi l[i].c.kind,.v (.string l[i].c.doc),vi l[i].c.client,vi l[i].c.seq,vi l[i].c.n,.h 905 H5 3 l[i].c.o.length,.h 906 H6 1 l[i].c.text.length,vi l[i].pc,vi l[i].inv,vi l[i].lin,vi l[i].rs,vi l[i].a.code,vi l[i].a.rev,.h 913 H13 1 l[i].a.text.length,.s (l[i].a.list.map Entry.row)]) sw gv rfl mK ah fB fj (λH14=>?_);refine Ent.refl ?_
   simp[h,hR,Task.row,dK,bf,hq1,e1];refine ag.pure (fL q1 aa aa) ab ?_;simp[h,hR,bf,hq2,e2,hq3,e3,hq4,e4,hq5,e5];refine ag.mark (mj l[i].c.o q5 aa aa aa) rfl (λ_ h=>h) fj ?_;simp[h,hR,hq6];refine ag.mark (fh l[i].c.text q6 aa aa) rfl (λ_ h=>h) fj ?_;simp[h,hR,bf,hq7,hq8,e8,hq9,e9,hq10,e10,hq11,e11,hq12,e12,hq13,e13];refine ag.mark (fh l[i].a.text q13 aa aa) rfl (λ_ h=>h) fj ?_;simp[h,hR,hq14];refine ag.mark (jI l[i].a.list q14 aa aa aa) rfl (λ_ h=>h) fj ?_;simp[e,hq15]
   refine dO (k:=40326) (i:=i) (j:=5) (k':=905) (sz':=3) (sz:=15) (H:=H) (rows:=R.set i [vi q0,.v (.string (markT q1)),vi q2,vi q3,vi q4,.h 905 H5 3 l[i].c.o.length,.h 906 H6 1 l[i].c.text.length,vi q7,vi q8,vi q9,vi q10,vi q11,vi q12,.h 913 H13 1 l[i].a.text.length,.h 914 H14 3 l[i].a.list.length]) (row:=[vi q0,.v (.string (markT q1)),vi q2,vi q3,vi q4,.h 905 H5 3 l[i].c.o.length,.h 906 H6 1 l[i].c.text.length,vi q7,vi q8,vi q9,vi q10,vi q11,vi q12,.h 913 H13 1 l[i].a.text.length,.h 914 H14 3 l[i].a.list.length]) (H':=H5) (srows:=(aM Part.mark Part.cnt l[i].c.o q5).map Part.row) ab gv fC ab ah fj ?_
   refine dO (k:=40326) (i:=i) (j:=6) (k':=906) (sz':=1) (sz:=15) (H:=H) (rows:=R.set i [vi q0,.v (.string (markT q1)),vi q2,vi q3,vi q4,.s ((aM Part.mark Part.cnt l[i].c.o q5).map Part.row),.h 906 H6 1 l[i].c.text.length,vi q7,vi q8,vi q9,vi q10,vi q11,vi q12,.h 913 H13 1 l[i].a.text.length,.h 914 H14 3 l[i].a.list.length]) (row:=[vi q0,.v (.string (markT q1)),vi q2,vi q3,vi q4,.s ((aM Part.mark Part.cnt l[i].c.o q5).map Part.row),.h 906 H6 1 l[i].c.text.length,vi q7,vi q8,vi q9,vi q10,vi q11,vi q12,.h 913 H13 1 l[i].a.text.length,.h 914 H14 3 l[i].a.list.length]) (H':=H6) (srows:=(aM fk one l[i].c.text q6).map aG) kU gv fC ab ah fj ?_
   refine dO (k:=40326) (i:=i) (j:=13) (k':=913) (sz':=1) (sz:=15) (H:=H) (rows:=R.set i [vi q0,.v (.string (markT q1)),vi q2,vi q3,vi q4,.s ((aM Part.mark Part.cnt l[i].c.o q5).map Part.row),.s ((aM fk one l[i].c.text q6).map aG),vi q7,vi q8,vi q9,vi q10,vi q11,vi q12,.h 913 H13 1 l[i].a.text.length,.h 914 H14 3 l[i].a.list.length]) (row:=[vi q0,.v (.string (markT q1)),vi q2,vi q3,vi q4,.s ((aM Part.mark Part.cnt l[i].c.o q5).map Part.row),.s ((aM fk one l[i].c.text q6).map aG),vi q7,vi q8,vi q9,vi q10,vi q11,vi q12,.h 913 H13 1 l[i].a.text.length,.h 914 H14 3 l[i].a.list.length]) (H':=H13) (srows:=(aM fk one l[i].a.text q13).map aG) kU gv fC ab ah fj ?_
   refine dO (k:=40326) (i:=i) (j:=14) (k':=914) (sz':=3) (sz:=15) (H:=H) (rows:=R.set i [vi q0,.v (.string (markT q1)),vi q2,vi q3,vi q4,.s ((aM Part.mark Part.cnt l[i].c.o q5).map Part.row),.s ((aM fk one l[i].c.text q6).map aG),vi q7,vi q8,vi q9,vi q10,vi q11,vi q12,.s ((aM fk one l[i].a.text q13).map aG),.h 914 H14 3 l[i].a.list.length]) (row:=[vi q0,.v (.string (markT q1)),vi q2,vi q3,vi q4,.s ((aM Part.mark Part.cnt l[i].c.o q5).map Part.row),.s ((aM fk one l[i].c.text q6).map aG),vi q7,vi q8,vi q9,vi q10,vi q11,vi q12,.s ((aM fk one l[i].a.text q13).map aG),.h 914 H14 3 l[i].a.list.length]) (H':=H14) (srows:=(aM Entry.mark Entry.cnt l[i].a.list q14).map Entry.row) kU gv fC ab ah fj ?_;refine Ent.refl ⟨i+1,aa,aa,?_⟩
   simp[dK,hs,hpc,hpi,fH.refl,pn hl6,nn hl6];refine⟨aa,?_⟩;refine hset _ ?_;subst hq1 hq2 hq3 hq4 hq5 hq6 hq7 hq8 hq9 hq10 hq11 hq12 hq13 hq14 hq15;simp[rwB,mkB,eu,Task.mark,aK,Task.row,eb]
 ·have:i=l.length:=by omega
  subst this;refine Ent.refl ?_;simp[hr1,hp];exact hK
set_option maxHeartbeats 6400000
theorem FG{w0:World}{F:Nat->Prop}(x:Wld){i j:Nat}{s:Sub}{t:Task}(hi:x.h.subs[i]? = some s)(hj:x.tasks[j]? = some t){b o C:Nat}{Ha Hb Hc Hs Hl Hq Ht:Hd}(T:Two t.a.list.length s.r.list.length b o C Ha Hb){k:Int}(h0:0<=k)(hk:k+x.cntT<=4611686018427387904)(hl:bY x<=2^36)
 {n0 kb0:Nat}{t0:List (Nat×AV)}(hq:qT t0=true) {hr:AH}(hl6:low hr) (hqr:qH hr=true) {h:AH}(hqh:qH h=true) (gr:wkH h hr) {dst:Option Nat}{K:ASt->Prop}
 (g1:h.get 10753=.rows Hc 5 (x.h.docs.map Doc.row) true) (g2:h.get 10754=.rows Hs 6 ((x.h.subs.map Sub.row).set i (iu Hb s)) true) (g3:h.get 40324=.rows Hl 1 (x.locks.map aG) true) (g4:h.get 40325=.rows Hq 2 (x.queues.map Queue.row) true)
 (g5:h.get 40326=.rows Ht 15 ((x.tasks.map Task.row).set j (eu Ha t)) true) (g6:h.get 80179=.rows (some (b,o,C)) 3 ((t.a.list++s.r.list).map Entry.row) true)
 (hK:∀s' t' o6,(x.markT k).h.subs[i]? = some s'->(x.markT k).tasks[j]? = some t'->s'.r.list.length=s.r.list.length->t'.a.list.length=t.a.list.length ->
  bQ ⟨n0,kb0,t0,(40326,.rows Ht 15 (((x.markT k).tasks.map Task.row).set j (eu Ha t')) true)::(80179,.rows (some (b,o,C)) 3 ((t'.a.list++s'.r.list).map Entry.row) true)::(10754,.rows Hs 6 (((x.markT k).h.subs.map Sub.row).set i (iu Hb s')) true)::(10753,.rows Hc 5 ((x.markT k).h.docs.map Doc.row) true)::(40324,.rows Hl 1 ((x.markT k).locks.map aG) true)::(40325,.rows Hq 2 ((x.markT k).queues.map Queue.row) true)::(64032,o6)::hr⟩ dst (.v (.int .i64 (k+x.cntT))) K) :
 ag ⟨Tryz.prog,tt,w0,⟨F,F,true,λ_=>True⟩⟩ 10 [.agg [.v (.bool x.h.shut),.sl 10753 Hc 5 0 x.h.docs.length,.sl 10754 Hs 6 0 x.h.subs.length,.v (.int .i64 x.h.last),.sl 40324 Hl 1 0 x.locks.length,.sl 40325 Hq 2 0 x.queues.length,.sl 40326 Ht 15 0 x.tasks.length,.v (.int .i64 x.step)],.v (.int .i64 k)] ⟨n0,kb0,t0,h⟩ dst K:=by
 obtain⟨hp,rfl⟩:=au.1 hi;obtain⟨hpj,rfl⟩:=au.1 hj;unfold Wld.cntT at hk;have hwl:=hl;unfold bY dk at hwl;have hle:=T.le;refine dI aw Tryz.func10 al rfl rfl rfl (ai rfl) 64000 rfl hq ?_;simp;intro b6;refine dI aw Tryz.func42 al rfl rfl rfl (ai rfl) 65000 rfl ab ?_;simp;intro b7;refine ag.mark (Ay x.h.docs k aa aa aa) rfl (λ_ h=>h) (by simp[hqh]) ?_;simp[g1];obtain⟨q1,hq1⟩:∃q,k+((aQ Doc.cnt x.h.docs:Nat):Int)=q:=⟨_,rfl⟩;rw[hq1]
 refine HO (b:=b) (o:=o) (C:=C) x.h.subs i hp ((x.tasks[j].a.list).map Entry.row) (Hb:=Hb) (by simpa using T.hb) (by simpa using hle) (k:=q1) aa aa aa (o2:=.rows Hc 5 ((aM Doc.mark Doc.cnt x.h.docs k).map Doc.row) true) (o3:=.rows Hl 1 (x.locks.map aG) true) (o4:=.rows Hq 2 (x.queues.map Queue.row) true) (o5:=.rows Ht 15 ((x.tasks.map Task.row).set j (eu Ha x.tasks[j])) true) hl6 hqr rfl rfl rfl rfl
  (o6:=.vars b6 39 [.v (.bool x.h.shut),.sl 10753 Hc 5 0 x.h.docs.length,.sl 10754 Hs 6 0 x.h.subs.length,.v (.int .i64 x.h.last),.sl 40324 Hl 1 0 x.locks.length,.sl 40325 Hq 2 0 x.queues.length,.sl 40326 Ht 15 0 x.tasks.length,.v (.int .i64 x.step)]) ab ab (by simp[g6]) (by simp[g2]) ab (by simp[g3]) (by simp[g4]) (by simp[g5]) ab (by simp[nn hl6,gr]) ?_
 simp;obtain⟨q2,hq2⟩:∃q,q1+((aQ Sub.cnt x.h.subs:Nat):Int)=q:=⟨_,rfl⟩;rw[hq2];refine ag.mark (fh x.locks q2 aa aa) rfl (λ_ h=>h) (by simp[hqr]) ?_;simp;obtain⟨q3,hq3⟩:∃q,q2+((x.locks.length:Nat):Int)=q:=⟨_,rfl⟩;rw[hq3];refine ag.mark (vD x.queues q3 aa aa aa) rfl (λ_ h=>h) (by simp[hqr]) ?_;simp;obtain⟨q4,hq4⟩:∃q,q3+((aQ Queue.cnt x.queues:Nat):Int)=q:=⟨_,rfl⟩;rw[hq4];obtain⟨B,hB⟩:∃B,aM Entry.mark Entry.cnt x.h.subs[i].r.list (q1+((aQ Sub.cnt (x.h.subs.take i):Nat):Int)+1+1+1+1+1)=B:=⟨_,rfl⟩;rw[hB]
 refine FH (b:=b) (o:=o) (C:=C) x.tasks j hpj (B.map Entry.row) (Hb:=Ha) T.ha (k:=q4) aa aa aa (o1:=.rows Hs 6 (((aM Sub.mark Sub.cnt x.h.subs q1).map Sub.row).set i (iu Hb (x.h.subs[i].mark (q1+((aQ Sub.cnt (x.h.subs.take i):Nat):Int))))) true) (o2:=.rows Hc 5 ((aM Doc.mark Doc.cnt x.h.docs k).map Doc.row) true) (o3:=.rows Hl 1 ((aM fk one x.locks q2).map aG) true) (o4:=.rows Hq 2 ((aM Queue.mark Queue.cnt x.queues q3).map Queue.row) true) hl6 hqr rfl rfl rfl rfl
  (o6:=.vars b6 39 [.v (.bool x.h.shut),.sl 10753 Hc 5 0 x.h.docs.length,.sl 10754 Hs 6 0 x.h.subs.length,.v (.int .i64 x.h.last),.sl 40324 Hl 1 0 x.locks.length,.sl 40325 Hq 2 0 x.queues.length,.sl 40326 Ht 15 0 x.tasks.length,.v (.int .i64 x.step)]) ab ab ab ab ab ab ab ab ab DE ?_
 simp;have e:q4+((aQ Task.cnt x.tasks:Nat):Int)=k+(x.cntT:Int):=by unfold Wld.cntT;omega
 rw[e];subst hB hq4 hq3 hq2 hq1;have h1:(x.markT k).h.subs[i]? = some _:=lM (mk:=Sub.mark) (cn:=Sub.cnt) (k:=k+((aQ Doc.cnt x.h.docs:Nat):Int)) hp;have h2:(x.markT k).tasks[j]? = some _:=lM (mk:=Task.mark) (cn:=Task.cnt) (k:=k+((aQ Doc.cnt x.h.docs:Nat):Int)+((aQ Sub.cnt x.h.subs:Nat):Int)+((x.locks.length:Nat):Int)+((aQ Queue.cnt x.queues:Nat):Int)) hpj;have hK2:=λo6=>hK _ _ o6 h1 h2 (by simp[Sub.mark,aK]) (by simp[Task.mark,aK])
 simp only[fR]at hK2;exact hK2 _
end Go.Proofs.YtklblkobegcljaaGreat
