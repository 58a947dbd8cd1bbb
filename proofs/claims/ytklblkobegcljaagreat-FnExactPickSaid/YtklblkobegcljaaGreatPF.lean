import Derived.Test.YtklblkobegcljaaGreatPE
import Derived.Test.YtklblkobegcljaaGreatPD
import Derived.Test.YtklblkobegcljaaGreatPC
namespace Go.Proofs.YtklblkobegcljaaGreat
open Go.AM
set_option maxRecDepth 20000
set_option maxHeartbeats 6400000
theorem rQ{h:Hub}(h0:∀i,sN h.docs i){k:Nat}(hk:k<h.docs.length):0<=aB h.docs[k]/\aB h.docs[k]<=1000000000:=by
 have:=dg (h0 k hk).1;omega
theorem IF{l:List Doc}{d:Doc}(h:0<l.length)(e:l[0]=d)(hd:bQ d):sN l 0:=λ_=>⟨by rw[e];exact hd,λh=>absurd h aa⟩
theorem OV{l:List Doc}{d y:Doc}{k:Nat}(h:k+1<l.length)(e:l[k+1]=d)(ey:l[k]=y)(hd:bQ d)(hs:sLt y.name d.name):sN l (k+1):=λ_=>⟨by rw[e];exact hd,λ_=>by
 simp only[r9];rw[e,ey];exact hs⟩
theorem jh{P:Nat->Prop}{i:Nat}(h:∀j,j<i->P j)(hi:P i):∀j,j<i+1->P j:=λj hj=>by
 by_cases e:j=i
 ·subst e;exact hi
 ·exact h j aa
theorem dZ(h:Hub)(hl:dh h<=2^30):ar Tryz.prog 75 [.agg h.row] (.one (.c (vb (bC h)) 1)):=by
 refine pci aw Tryz.func75 (λw0 base=>?_);obtain⟨sh,docs,subs,last⟩:=h;have hl0:=hl;unfold dh at hl;simp only at hl;have hle:=aY (f:=cB) (B:=2^30) (l:=docs) aa;have hls:=aY (f:=dp) (B:=2^30) (l:=subs) aa;simp[Hub.row];intro b1;by_cases c1:docs.length<=5
 rotate_left
 ·exact KT
 have c1':¬5<(docs.length:Int):=aa;by_cases c2:subs.length<=6
 rotate_left
 ·exact KX
 have c2':¬6<(subs.length:Int):=aa;simp[c1',c2'];refine ag.pure (bT last 0 1000000000) ab ?_;by_cases c3:0<=last/\last<=1000000000
 rotate_left
 ·exact J8
 simp[c3]
 refine aU.intro eok (λi:Nat=>i<=docs.length/\∀j,j<i->sN docs j) (λi=>⟨119,0,[(27,.v (.int .i64 i)),(26,.v (.int .i64 docs.length)),(25,.ro (docs.map Doc.row)),(1,.p 16 b1 0)],
  [(16,.vars b1 35 [.v (.bool sh),.ro (docs.map Doc.row),.ro (subs.map Sub.row),.v (.int .i64 last)])]⟩) (λi=>docs.length-i) 0 ab ab (λi hi=>?_)
 by_cases hlt:i<docs.length
 ·have hm:=gF (f:=cB) (B:=2^30) (l:=docs) aa (aj hlt)
  have hno:¬sN docs i->¬bC ⟨sh,docs,subs,last⟩:=λh h'=>h (h'.2.2.2.1 i)
  obtain⟨x,hx⟩:∃x,docs[i]=x:=⟨_,rfl⟩;rw[hx]at hm;simp[hlt,hx,Doc.row];intro b4;refine aZ.quiet eok mix al ?_;simp;refine⟨_,_,iR x aa,bo,?_⟩;exact Mh
 have c4:∀i,sN docs i:=λi=>by
  exact JT
 simp[hlt]
 refine aU.intro eok (λi:Nat=>i<=subs.length/\∀j,j<i->yE docs last subs j) (λi=>⟨119,0,[(55,.v (.int .i64 i)),(54,.v (.int .i64 subs.length)),(53,.ro (subs.map Sub.row)),(1,.p 16 b1 0)],
  [(16,.vars b1 35 [.v (.bool sh),.ro (docs.map Doc.row),.ro (subs.map Sub.row),.v (.int .i64 last)])]⟩) (λi=>subs.length-i) 0 ab ab (λi hi=>?_)
 by_cases hlt:i<subs.length
 rotate_left
 ·exact Lo
 have hm:=gF (f:=dp) (B:=2^30) (l:=subs) aa (aj hlt);have hno:¬yE docs last subs i->¬bC ⟨sh,docs,subs,last⟩:=λh h'=>h (h'.2.2.2.2 i)
 obtain⟨x,hx⟩:∃x,subs[i]=x:=⟨_,rfl⟩;rw[hx]at hm;unfold dp at hm;have ew:Go.IntKind.i64.wrap ((i:Int)+1)=((i+1:Nat):Int):=aQ aa;simp[hlt,hx,Sub.row];intro b6;refine ag.pure (eS ⟨sh,docs,subs,last⟩ aa x.doc) bj ?_;simp;have noid:¬(1<=x.id/\x.id<=last)->¬bC ⟨sh,docs,subs,last⟩:=λs2=>hno (λh=>s2 (by have:=(h hlt).1;rwa[hx]at this))
 have noring:¬cl x.r->¬bC ⟨sh,docs,subs,last⟩:=λs2=>hno (λh=>s2 xy)
 have nodoc:bq docs x.doc = -1->¬bC ⟨sh,docs,subs,last⟩:=λs2=>hno (λh=>by
  obtain⟨k,hk,e,-⟩:=(h hlt).2.2.2;rw[hx,s2]at e;omega)
 have noprev:∀_:0<i,¬subs[i-1].id<x.id->¬bC ⟨sh,docs,subs,last⟩:=λh0 s2=>hno (λh=>s2 (by have:=(h hlt).2.2.1 h0;rwa[hx]at this))
 have hix:=jH (λd:Doc=>d.name=x.doc) docs
 change (∃k:Nat,∃h:k<docs.length,bq docs x.doc=k/\_)\/(bq docs x.doc = -1/\_)at hix
 have norev:∀k:Nat,∀hk:k<docs.length,bq docs x.doc=k->x.r.out=false->¬x.r.next+x.r.list.length=aB docs[k]+1->¬bC ⟨sh,docs,subs,last⟩:=λk hk e ho s2=>hno (λh=>by
  obtain⟨k',hk',e',h'⟩:=(h hlt).2.2.2;simp only[hx]at e' h';have:k=k':=aa;subst this;exact s2 (h' ho))
 have fin:∀(s1:1<=x.id/\x.id<=last) (s2:cl x.r) (s3:∀_:0<i,subs[i-1].id<x.id) (k:Nat) (hk:k<docs.length) (e:bq docs x.doc=k) (s4:x.r.out=false->x.r.next+x.r.list.length=aB docs[k]+1),∀j,j<i+1->yE docs last subs j:=
  λs1 s2 s3 k hk e s4=>jh hi.2 (λ_=>by simp only[hx];exact⟨s1,s2,s3,k,hk,e,s4⟩)
 generalize bq docs x.doc=K at hix nodoc norev fin⊢;refine aZ.quiet eok mix al ?_;simp;refine⟨_,_,bT x.id 1 last,ab,?_⟩;by_cases s1:1<=x.id/\x.id<=last
 rotate_left
 ·simp[az s1,az (noid s1)]
 simp[s1]
 cases i with
 | zero =>
   simp;refine⟨_,_,fH x.r aa,dH,?_⟩;by_cases s2:cl x.r
   rotate_left
   ·simp[az s2,az (noring s2)]
   simp[s2];rcases hix with⟨k,hk,rfl,-⟩|⟨rfl,-⟩;rotate_left
   ·simp[az (nodoc rfl)]
   have hk0':¬(k:Int)<0:=aa;simp[hk0'];have sn:=s2.2.2.1;have sl:=s2.2.2.2.1;have sc:=s2.2.1;have hr:=rQ (h:=⟨sh,docs,subs,last⟩) c4 hk;simp only at hr;have e1:Go.IntKind.i64.wrap (x.r.next+x.r.list.length)=x.r.next+x.r.list.length:=ae _ aa;have e2:Go.IntKind.i64.wrap (aB docs[k]+1)=aB docs[k]+1:=ae _ aa;refine aZ.quiet eok mix al ?_;simp
   cases ho:x.r.out with
   | true =>
     exact Lq
   | false =>
     simp[hk];refine⟨_,_,cD docs[k],bo,?_⟩;exact LQ
 | succ m =>
   have hk1:m<subs.length:=aa;have ek:Go.IntKind.i64.wrap (m:Int)=m:=fh aa;have hm0:(0:Int)<(m:Int)+1:=aa;obtain⟨y,hy⟩:∃y,subs[m]=y:=⟨_,rfl⟩;simp[ek,hm0,hk1,hy,Sub.row];by_cases s3:y.id<x.id
   rotate_left
   ·exact KF
   have s3':¬x.id<=y.id:=aa;have hp:∀_:0<m+1,subs[m+1-1].id<x.id:=λ_=>xx
   simp[s3'];refine⟨_,_,fH x.r aa,dH,?_⟩;by_cases s2:cl x.r
   rotate_left
   ·simp[az s2,az (noring s2)]
   simp[s2];rcases hix with⟨k,hk,rfl,-⟩|⟨rfl,-⟩;rotate_left
   ·simp[az (nodoc rfl)]
   have hk0':¬(k:Int)<0:=aa;simp[hk0'];have sn:=s2.2.2.1;have sl:=s2.2.2.2.1;have sc:=s2.2.1;have hr:=rQ (h:=⟨sh,docs,subs,last⟩) c4 hk;simp only at hr;have e1:Go.IntKind.i64.wrap (x.r.next+x.r.list.length)=x.r.next+x.r.list.length:=ae _ aa;have e2:Go.IntKind.i64.wrap (aB docs[k]+1)=aB docs[k]+1:=ae _ aa;refine aZ.quiet eok mix al ?_;simp
   cases ho:x.r.out with
   | true =>
     exact Ji
   | false =>
     simp[hk];refine⟨_,_,cD docs[k],bo,?_⟩;exact LP
theorem gi(h:Hub)(hl:dh h<=2^30):ar Tryz.prog 60 [.agg h.row] (.one (.c (vb (bC h)) 1)):=by
 refine pci aw Tryz.func60 (λw0 base=>?_);obtain⟨sh,docs,subs,last⟩:=h;have hl0:=hl;unfold dh at hl;simp only at hl;have hle:=aY (f:=cB) (B:=2^30) (l:=docs) aa;have hls:=aY (f:=dp) (B:=2^30) (l:=subs) aa;simp[Hub.row];intro b1;by_cases c1:docs.length<=5
 rotate_left
 ·exact KT
 have c1':¬5<(docs.length:Int):=aa;by_cases c2:subs.length<=6
 rotate_left
 ·exact KX
 have c2':¬6<(subs.length:Int):=aa;simp[c1',c2'];refine ag.pure (cG last 0 1000000000) ab ?_;by_cases c3:0<=last/\last<=1000000000
 rotate_left
 ·exact J8
 simp[c3]
 refine aU.intro eok (λi:Nat=>i<=docs.length/\∀j,j<i->sN docs j) (λi=>⟨119,0,[(27,.v (.int .i64 i)),(26,.v (.int .i64 docs.length)),(25,.ro (docs.map Doc.row)),(1,.p 16 b1 0)],
  [(16,.vars b1 35 [.v (.bool sh),.ro (docs.map Doc.row),.ro (subs.map Sub.row),.v (.int .i64 last)])]⟩) (λi=>docs.length-i) 0 ab ab (λi hi=>?_)
 by_cases hlt:i<docs.length
 ·have hm:=gF (f:=cB) (B:=2^30) (l:=docs) aa (aj hlt)
  have hno:¬sN docs i->¬bC ⟨sh,docs,subs,last⟩:=λh h'=>h (h'.2.2.2.1 i)
  obtain⟨x,hx⟩:∃x,docs[i]=x:=⟨_,rfl⟩;rw[hx]at hm;simp[hlt,hx,Doc.row];intro b4;refine aZ.quiet eok mix al ?_;simp;refine⟨_,_,iL x aa,bo,?_⟩;exact Mh
 have c4:∀i,sN docs i:=λi=>by
  exact JT
 simp[hlt]
 refine aU.intro eok (λi:Nat=>i<=subs.length/\∀j,j<i->yE docs last subs j) (λi=>⟨119,0,[(55,.v (.int .i64 i)),(54,.v (.int .i64 subs.length)),(53,.ro (subs.map Sub.row)),(1,.p 16 b1 0)],
  [(16,.vars b1 35 [.v (.bool sh),.ro (docs.map Doc.row),.ro (subs.map Sub.row),.v (.int .i64 last)])]⟩) (λi=>subs.length-i) 0 ab ab (λi hi=>?_)
 by_cases hlt:i<subs.length
 rotate_left
 ·exact Lo
 have hm:=gF (f:=dp) (B:=2^30) (l:=subs) aa (aj hlt);have hno:¬yE docs last subs i->¬bC ⟨sh,docs,subs,last⟩:=λh h'=>h (h'.2.2.2.2 i)
 obtain⟨x,hx⟩:∃x,subs[i]=x:=⟨_,rfl⟩;rw[hx]at hm;unfold dp at hm;have ew:Go.IntKind.i64.wrap ((i:Int)+1)=((i+1:Nat):Int):=aQ aa;simp[hlt,hx,Sub.row];intro b6;refine ag.pure (fE ⟨sh,docs,subs,last⟩ aa x.doc) bj ?_;simp;have noid:¬(1<=x.id/\x.id<=last)->¬bC ⟨sh,docs,subs,last⟩:=λs2=>hno (λh=>s2 (by have:=(h hlt).1;rwa[hx]at this))
 have noring:¬cl x.r->¬bC ⟨sh,docs,subs,last⟩:=λs2=>hno (λh=>s2 xy)
 have nodoc:bq docs x.doc = -1->¬bC ⟨sh,docs,subs,last⟩:=λs2=>hno (λh=>by
  obtain⟨k,hk,e,-⟩:=(h hlt).2.2.2;rw[hx,s2]at e;omega)
 have noprev:∀_:0<i,¬subs[i-1].id<x.id->¬bC ⟨sh,docs,subs,last⟩:=λh0 s2=>hno (λh=>s2 (by have:=(h hlt).2.2.1 h0;rwa[hx]at this))
 have hix:=jH (λd:Doc=>d.name=x.doc) docs
 change (∃k:Nat,∃h:k<docs.length,bq docs x.doc=k/\_)\/(bq docs x.doc = -1/\_)at hix
 have norev:∀k:Nat,∀hk:k<docs.length,bq docs x.doc=k->x.r.out=false->¬x.r.next+x.r.list.length=aB docs[k]+1->¬bC ⟨sh,docs,subs,last⟩:=λk hk e ho s2=>hno (λh=>by
  obtain⟨k',hk',e',h'⟩:=(h hlt).2.2.2;simp only[hx]at e' h';have:k=k':=aa;subst this;exact s2 (h' ho))
 have fin:∀(s1:1<=x.id/\x.id<=last) (s2:cl x.r) (s3:∀_:0<i,subs[i-1].id<x.id) (k:Nat) (hk:k<docs.length) (e:bq docs x.doc=k) (s4:x.r.out=false->x.r.next+x.r.list.length=aB docs[k]+1),∀j,j<i+1->yE docs last subs j:=
  λs1 s2 s3 k hk e s4=>jh hi.2 (λ_=>by simp only[hx];exact⟨s1,s2,s3,k,hk,e,s4⟩)
 generalize bq docs x.doc=K at hix nodoc norev fin⊢;refine aZ.quiet eok mix al ?_;simp;refine⟨_,_,cG x.id 1 last,ab,?_⟩;by_cases s1:1<=x.id/\x.id<=last
 rotate_left
 ·simp[az s1,az (noid s1)]
 simp[s1];refine⟨_,_,kg x.r aa,dH,?_⟩;by_cases s2:cl x.r
 rotate_left
 ·simp[az s2,az (noring s2)]
 simp[s2];rcases hix with⟨k,hk,rfl,-⟩|⟨rfl,-⟩;rotate_left
 ·simp[az (nodoc rfl)]
 have hk0':¬(k:Int)<0:=aa;simp[hk0']
 cases i with
 | zero =>
   simp;have sn:=s2.2.2.1;have sl:=s2.2.2.2.1;have sc:=s2.2.1;have hr:=rQ (h:=⟨sh,docs,subs,last⟩) c4 hk;simp only at hr;have e1:Go.IntKind.i64.wrap (x.r.next+x.r.list.length)=x.r.next+x.r.list.length:=ae _ aa;have e2:Go.IntKind.i64.wrap (aB docs[k]+1)=aB docs[k]+1:=ae _ aa;refine aZ.quiet eok mix al ?_;simp
   cases ho:x.r.out with
   | true =>
     exact Lq
   | false =>
     simp[hk];refine⟨_,_,cC docs[k],bo,?_⟩;exact LQ
 | succ m =>
   have hk1:m<subs.length:=aa;have ek:Go.IntKind.i64.wrap (m:Int)=m:=fh aa;have hm0:(0:Int)<(m:Int)+1:=aa;obtain⟨y,hy⟩:∃y,subs[m]=y:=⟨_,rfl⟩;simp[ek,hm0,hk1,hy,Sub.row];by_cases s3:y.id<x.id
   rotate_left
   ·exact KF
   have s3':¬x.id<=y.id:=aa;have hp:∀_:0<m+1,subs[m+1-1].id<x.id:=λ_=>xx
   simp[s3'];have sn:=s2.2.2.1;have sl:=s2.2.2.2.1;have sc:=s2.2.1;have hr:=rQ (h:=⟨sh,docs,subs,last⟩) c4 hk;simp only at hr;have e1:Go.IntKind.i64.wrap (x.r.next+x.r.list.length)=x.r.next+x.r.list.length:=ae _ aa;have e2:Go.IntKind.i64.wrap (aB docs[k]+1)=aB docs[k]+1:=ae _ aa;refine aZ.quiet eok mix al ?_;simp
   cases ho:x.r.out with
   | true =>
     exact Ji
   | false =>
     simp[hk];refine⟨_,_,cC docs[k],bo,?_⟩;exact LP
set_option maxHeartbeats 3200000
theorem mQ(r:Ring)(hl:cV r<=2^30):ar Tryz.prog 137 [.agg r.row] (.one (.agg r.res)):=by
 refine pci aw Tryz.func137 (λw0 base=>?_);unfold cV at hl;simp[Ring.row];intro b1 b2;refine ag.pure (jo r.list hl) ab ?_;simp[Ring.res]
theorem vr(r:Ring)(hl:cV r<=2^30):ar Tryz.prog 168 [.agg r.row] (.one (.agg r.res)):=by
 refine pci aw Tryz.func168 (λw0 base=>?_);unfold cV at hl;simp[Ring.row];intro b1 b2;refine drw eok mix [0,1,2,3,4,5,6,7] [8,9,10] (.c 8 8 1 254 (.c 8 9 84 170 (.c 8 10 170 0 (.l 8 0) .s) .s) .s) ?_;simp
 try intros
 refine ag.pure (gm r.list hl) ab ?_;simp
 try intros
 simp[Ring.res]
theorem Ro(s:Sub)(hl:dp s<=2^30):ar Tryz.prog 116 [.agg s.row] (.one (.agg s.res)):=by
 refine pci aw Tryz.func116 (λw0 base=>?_);unfold dp at hl;simp[Sub.row];intro b1 b2;refine drw eok mix [0,1,2,3,4,5] [6,7,8] (.c 6 6 1 62 (.c 6 7 20 42 (.c 6 8 42 0 (.l 6 0) .s) .s) .s) ?_;simp
 try intros
 refine ag.pure (vr s.r aa) dH ?_;simp[Ring.res]
 try intros
 simp[Sub.res]
theorem eE(h:Hub)(hl:dh h<=2^30):ar Tryz.prog 81 [.agg h.row] (.one (.agg h.res)):=by
 refine pci aw Tryz.func81 (λw0 base=>?_);obtain⟨sh,docs,subs,last⟩:=h;unfold dh at hl;simp only at hl;have hle:=aY (f:=cB) (B:=2^30) (l:=docs) aa;have hls:=aY (f:=dp) (B:=2^30) (l:=subs) aa;simp[Hub.row];intro b1 b2 b3
 refine aH eok (λx:Nat×Hd=>x.1<=docs.length) (λx=>⟨47,0,[(16,.v (.int .i64 x.1)),(15,.v (.int .i64 docs.length)),(14,.ro (docs.map Doc.row)),(1,.p 16 b1 0),(2,.p 32 b2 0),(3,.p 48 b3 0)],
  [(48, .vars b3 35 [.v (.bool sh), .sl 5000 x.2 5 0 x.1, .nil, .v (.int .i64 last)]),(32, .vars b2 35 [.v (.bool false), .nil, .nil, .v (.int .i64 0)]),
   (16,.vars b1 35 [.v (.bool sh),.ro (docs.map Doc.row),.ro (subs.map Sub.row),.v (.int .i64 last)]),(5000,.rows x.2 5 ((docs.take x.1).map Doc.row) true)]⟩) (λx=>docs.length-x.1) (0,none) ab ab (λx hi=>Ent.refl ?_)
 obtain⟨i,H⟩:=x;simp only at hi⊢;by_cases hlt:i<docs.length
 ·have hm:=gF (f:=cB) (B:=2^30) (l:=docs) aa (aj hlt)
  have e1:min i docs.length=i:=aa;simp[hlt,Doc.row];intro b5;refine drw eok mix [0,1,2,6] [3,4,5,7] (.c 4 3 2 13 (.c 4 4 0 13 (.c 4 5 4 9 (.c 4 7 9 0 (.l 4 0) .s) .s) .s) .s) ?_;simp
  try intros
  refine ag.pure (vL docs[i] hm) bo ?_;exact Lp
 have hm:i=docs.length:=aa;subst hm;simp
 refine aH eok (λx:Nat×Hd=>x.1<=subs.length) (λx=>⟨47,0,[(31,.v (.int .i64 x.1)),(30,.v (.int .i64 subs.length)),(29,.ro (subs.map Sub.row)),(2,.p 32 b2 0),(3,.p 48 b3 0)],
  [(48, .vars b3 35 [.v (.bool sh), .sl 5000 H 5 0 docs.length, .sl 5001 x.2 6 0 x.1, .v (.int .i64 last)]),(32, .vars b2 35 [.v (.bool false), .nil, .nil, .v (.int .i64 0)]),
   (5000,.rows H 5 (docs.map Doc.row) true),(5001,.rows x.2 6 ((subs.take x.1).map Sub.row) true)]⟩) (λx=>subs.length-x.1) (0,none) ab ab (λx hi=>Ent.refl ?_)
 obtain⟨i,H'⟩:=x;simp only at hi⊢;by_cases hlt:i<subs.length
 ·have hm:=gF (f:=dp) (B:=2^30) (l:=subs) aa (aj hlt)
  unfold dp at hm;have e1:min i subs.length=i:=aa;simp[hlt,Sub.row];intro b7;refine ag.pure (mQ subs[i].r aa) dH ?_;simp[Ring.res];intro H7;simp[e1];intro b8;exact K9
 have hm:i=subs.length:=aa;subst hm;simp[Hub.res]
theorem gb(h:Hub)(hl:dh h<=2^30):ar Tryz.prog 64 [.agg h.row] (.one (.agg h.res)):=by
 refine pci aw Tryz.func64 (λw0 base=>?_);obtain⟨sh,docs,subs,last⟩:=h;unfold dh at hl;simp only at hl;have hle:=aY (f:=cB) (B:=2^30) (l:=docs) aa;have hls:=aY (f:=dp) (B:=2^30) (l:=subs) aa;simp[Hub.row];intro b1 b2 b3
 refine aH eok (λx:Nat×Hd=>x.1<=docs.length) (λx=>⟨44,0,[(16,.v (.int .i64 x.1)),(15,.v (.int .i64 docs.length)),(14,.ro (docs.map Doc.row)),(1,.p 16 b1 0),(2,.p 32 b2 0),(3,.p 48 b3 0)],
  [(48, .vars b3 35 [.v (.bool sh), .sl 5000 x.2 5 0 x.1, .nil, .v (.int .i64 last)]),(32, .vars b2 35 [.v (.bool false), .nil, .nil, .v (.int .i64 0)]),
   (16,.vars b1 35 [.v (.bool sh),.ro (docs.map Doc.row),.ro (subs.map Sub.row),.v (.int .i64 last)]),(5000,.rows x.2 5 ((docs.take x.1).map Doc.row) true)]⟩) (λx=>docs.length-x.1) (0,none) ab ab (λx hi=>Ent.refl ?_)
 obtain⟨i,H⟩:=x;simp only at hi⊢;by_cases hlt:i<docs.length
 ·have hm:=gF (f:=cB) (B:=2^30) (l:=docs) aa (aj hlt)
  have e1:min i docs.length=i:=aa;simp[hlt,Doc.row];intro b5;refine drw eok mix [0,1,2,6] [3,4,5,7] (.c 4 3 2 13 (.c 4 4 0 13 (.c 4 5 4 9 (.c 4 7 9 0 (.l 4 0) .s) .s) .s) .s) ?_;simp
  try intros
  refine ag.pure (vu docs[i] hm) bo ?_;exact Lp
 have hm:i=docs.length:=aa;subst hm;simp
 refine aH eok (λx:Nat×Hd=>x.1<=subs.length) (λx=>⟨44,0,[(31,.v (.int .i64 x.1)),(30,.v (.int .i64 subs.length)),(29,.ro (subs.map Sub.row)),(2,.p 32 b2 0),(3,.p 48 b3 0)],
  [(48, .vars b3 35 [.v (.bool sh), .sl 5000 H 5 0 docs.length, .sl 5001 x.2 6 0 x.1, .v (.int .i64 last)]),(32, .vars b2 35 [.v (.bool false), .nil, .nil, .v (.int .i64 0)]),
   (5000,.rows H 5 (docs.map Doc.row) true),(5001,.rows x.2 6 ((subs.take x.1).map Sub.row) true)]⟩) (λx=>subs.length-x.1) (0,none) ab ab (λx hi=>Ent.refl ?_)
 obtain⟨i,H'⟩:=x;simp only at hi⊢;by_cases hlt:i<subs.length
 ·have hm:=gF (f:=dp) (B:=2^30) (l:=subs) aa (aj hlt)
  have e1:min i subs.length=i:=aa;simp[hlt,Sub.row];intro b7;refine drw eok mix [0,1,2,6] [3,4,5,7] (.c 4 3 2 13 (.c 4 4 0 13 (.c 4 5 4 9 (.c 4 7 9 0 (.l 4 0) .s) .s) .s) .s) ?_;simp
  try intros
  refine ag.pure (Ro subs[i] hm) (by simp[Sub.row]) ?_;simp[Sub.res]
  try intros
  simp[e1];exact K9
 have hm:i=subs.length:=aa;subst hm;simp[Hub.res]
theorem vK{l:List Entry}{k:Nat}(_h:k<=l.length):cut (l.map Entry.row) 0 k=(l.take k).map Entry.row:=by
 rw[gL,kH,eG]
theorem Sk{l:List Entry}{row:List CD}(h:row∈l.map Entry.row):row.length=3:=by
 exact Db
theorem su(room rev:Int)(hr : -4611686018427387904<=rev/\rev<=4611686018427387904):ar Tryz.prog 175 [.c (vi room),.c (vi rev)] (.tup [.agg (fv room rev).1.res,.c (.v (.bool (fv room rev).2)) 1]):=by
 refine pci aw Tryz.func175 (λw0 base=>?_);simp;intro b4;by_cases c1:1000000000<rev
 ·have h:¬cl (eD room rev):=λh=>by have:=h.2.2.1;simp[eD]at this;omega
  simp[c1,wt h,Ring.res,Ring.zero]
 have ew:Go.IntKind.i64.wrap (rev+1)=rev+1:=ae _ aa;simp[c1,ew];intro b6;refine ag.pure (kg (eD room rev) (by rw[p6];omega)) (by simp[eD,Ring.row]) ?_;exact LF
theorem yG(r:Ring)(hl:cV r<=2^30)(e:Entry)(he:aX e<=2^30):ar Tryz.prog 172 [.agg r.row,.agg e.row] (.one (.agg (eg r e).res)):=by
 refine pci aw Tryz.func172 (λw0 base=>?_);have hno:=@uE r e;have hfull:=@qy r e;have hroom:=@qx r e;have hle:=aY (f:=aX) (B:=2^30) (l:=r.list) tK;simp[Ring.row,Entry.row];intro b2 b3 b4;refine ag.pure (vr r hl) dH ?_;simp[Ring.res];intro H b5;refine ag.pure (kg r aa) dH ?_;by_cases c1:cl r
 rotate_left
 ·exact xP
 simp[c1];refine ag.pure (nP e aa) fe ?_;by_cases c2:cZ e
 rotate_left
 ·simp[az c2,hno (λh=>c2 h.2.1)]
 simp[c2]
 cases c3:r.out with
 |true=>simp[hno (λh=>by rw[c3]at h;exact absurd h.2.2 ab),c3]
 |false=>
 simp;by_cases c4:(r.list.length:Int)=r.cap
 ·have e1:=hfull ⟨c1,c2,c3⟩ c4
  simp[c4,e1]
 have e1:=hroom ⟨c1,c2,c3⟩ c4;simp[c4];refine drw eok mix [0,1,2,6] [3,4,5,7] (.c 4 3 2 13 (.c 4 4 0 13 (.c 4 5 4 9 (.c 4 7 9 0 (.l 4 0) .s) .s) .s) .s) ?_;simp
 try intros
 refine ag.pure (zb e he) fe ?_;simp[Entry.res];exact Kt
theorem yH(r:Ring)(hl:cV r<=2^30)(n:Int):ar Tryz.prog 177 [.agg r.row,.c (vi n)] (.tup [.agg (cm r n).1.res,.c (.s ((cm r n).2.1.map Entry.row)) 3,.c (vi (cm r n).2.2) 1]):=by
 refine pci aw Tryz.func177 (λw0 base=>?_);have hno:=@uF r n;have hout:=@nZ r n;have hyes:=@lr r n;have hnl:nL aX r.list<=2^30:=tK;have hle:=aY hnl;simp[Ring.row];intro b2 b4;refine ag.pure (vr r hl) dH ?_;simp[Ring.res];intro H b7;refine ag.pure (kg r aa) dH ?_;by_cases c1:cl r
 rotate_left
 ·exact xP
 simp[c1];by_cases c2:1<=n
 rotate_left
 ·have c2':n<1:=by omega
  simp[c2',hno (λh=>c2 h.2)]
 have c2':¬n<1:=aa;simp[c2'];have hnx:=c1.2.2.1
 cases c3:r.out with
 |true=>simp[hout ⟨c1,c2⟩ c3,c3]
 |false=>
 simp
 have hdrop:∀k,nL aX (r.list.drop k)<=2^30:=λk=>by
  have h:=ir (f:=aX) (r.list.take k) (r.list.drop k);rw[dI]at h;omega
 by_cases c4:(r.list.length:Int)<n
 ·have e1:=hyes ⟨c1,c2⟩ c3 (k:=r.list.length) aa
  have ew:Go.IntKind.i64.wrap (r.next+(r.list.length:Int))=r.next+r.list.length:=ae _ aa;have cd:=kT (l:=r.list) (k:=r.list.length) (aF _);have ct:=vK (l:=r.list) (k:=r.list.length) (aF _);rw[bg (aF _)]at cd e1;simp at cd;simp[c4];refine ag.pure (gm [] (by simp[nL,cw])) (by simp[cd]) ?_;simp[ew];intro H2;refine drw eok mix [0,1,2,3,4,8] [5,6,7] (.c 6 5 2 61 (.c 6 6 32 29 (.c 6 7 28 1 (.l 6 1) .s) .s) .s) ?_;simp
  try intros
  refine ag.pure (gm r.list hnl) ab ?_;simp
  try intros
  rw[e1];simp[c3]
 obtain⟨k,rfl⟩:∃k:Nat,n=k:=⟨n.toNat,aa⟩;have hk:k<=r.list.length:=aa;have e1:=hyes ⟨c1,c2⟩ c3 (k:=k) aM;have ew:Go.IntKind.i64.wrap (r.next+(k:Int))=r.next+k:=ae _ aa;have cd:=kT hk;have ct:=vK hk;simp[c4,hk];refine ag.pure (gm (r.list.drop k) (hdrop k)) (by simp[cd]) ?_;simp[ew];intro H2;refine drw eok mix [0,1,2,3,4,8] [5,6,7] (.c 6 5 2 61 (.c 6 6 32 29 (.c 6 7 28 1 (.l 6 1) .s) .s) .s) ?_;simp[hk]
 try intros
 refine ag.pure (gm (r.list.take k) (DU hnl)) (by simp[ct]) ?_;simp[hk]
 try intros
 rw[e1];simp[c3];exact⟨λrow h=>Sk (ba h),λrow h=>Sk (bu h)⟩
theorem ve(r:Ring)(hl:cV r<=2^30)(rev:Int)(hr : -4611686018427387904<=rev/\rev<=4611686018427387904):ar Tryz.prog 178 [.agg r.row,.c (vi rev)] (.tup [.agg (cW r rev).1.res,.c (.v (.bool (cW r rev).2)) 1]):=by
 refine pci aw Tryz.func178 (λw0 base=>?_);have hno:=@qw r rev;have hyes:=@pJ r rev;simp[Ring.row];intro b2 b4;refine ag.pure (kg r aa) dH ?_;by_cases c1:cl r
 rotate_left
 ·simp[az c1,hno c1,Ring.res,Ring.zero]
 simp[c1];have hc:=su r.cap rev hr;exact KZ
set_option maxHeartbeats 1600000
theorem Ee(name:ByteArray)(t:List Int)(h1:name.size<=2^28)(h2:t.length<=2^28):ar Tryz.prog 196 [.c (.v (.string name)),.c (.s (t.map aI))] (.tup [.agg (lu name t).1.res,.c (.v (.bool (lu name t).2)) 1]):=by
 refine pci aw Tryz.func196 (λw0 base=>?_);have hn:=Sl name t;simp;intro b4;refine ag.pure (iV t aa) ab ?_;simp;intro H9 b6;refine ag.pure (iR (gK name t) aa) (by simp[Doc.row,gK]) ?_;exact LO
theorem DH(name:ByteArray)(t:List Int)(h1:name.size<=2^28)(h2:t.length<=2^28):ar Tryz.prog 170 [.c (.v (.string name)),.c (.s (t.map aI))] (.tup [.agg (lu name t).1.res,.c (.v (.bool (lu name t).2)) 1]):=by
 refine pci aw Tryz.func170 (λw0 base=>?_);have hn:=Sl name t;simp;intro b4 b8;refine⟨aa,λH9 b6=>?_⟩;refine ag.pure (iL (gK name t) aa) (by simp[Doc.row,gK]) ?_;exact LO
set_option maxHeartbeats 6400000
theorem ic{h:Hub}{B:Nat}(hl:dh h<=B):nL cB h.docs<=B/\nL dp h.subs<=B:=by unfold dh at hl;omega
theorem rN{l:List Sub}{k:Nat}(hk:k<l.length)(r:Ring):(l.map Sub.row).modify k (λrow=>ix row 2 [.v (.int .i64 r.cap),.v (.int .i64 r.next),.v (.bool r.out),.s (r.list.map Entry.row)])=(l.set k ⟨l[k].id,l[k].doc,r⟩).map Sub.row:=by
 rw[wS];refine eO ab (λj h1 h2=>?_);rw[List.getElem_modify,iX]
 split
 ·rename_i e
  subst e;simp[Sub.row]
 ·simp
theorem tZ(h:Hub)(hl:dh h<=2^40)(id:Int):ar Tryz.prog 176 [.agg h.row,.c (vi id)] (.one (.c (vi (fk h.subs id)) 1)):=by
 refine pci aw Tryz.func176 (λw0 base=>?_);obtain⟨sh,docs,l,last⟩:=h;have hle:=aY (ic hl).2;simp only at hle;simp[Hub.row];intro b2;refine aU.intro eok (λi:Nat=>i<=l.length/\∀j,j<i->∀hj:j<l.length,¬l[j].id=id) (λi=>⟨21,0,[(10,.v (.int .i64 i)),(9,.v (.int .i64 l.length)),(8,.ro (l.map Sub.row)),(1,.v (.int .i64 id))],[]⟩) (λi=>l.length-i) 0 ab ab (λi hi=>?_);by_cases hlt:i<l.length
 ·simp[hlt,Sub.row]
  exact Jl
 ·exact JU
theorem An(h:Hub)(hl:dh h<=2^30):ar Tryz.prog 125 [.agg h.row] (.tup [.agg (eh h).1.res,.c (vi (eh h).2) 1]):=by
 refine pci aw Tryz.func125 (λw0 base=>?_);simp[Hub.row];intro b1 b2;refine ag.pure (gi h hl) bj ?_;by_cases c1:bC h
 rotate_left
 ·simp[az c1,wv c1,Hub.res,Hub.zero]
 simp[c1]
 cases c2:h.shut with
 |true=>simp[sH c1 c2,Hub.res,Hub.zero]
 |false=>
 have e:=uI c1 qZ;simp;refine ag.pure (gb h hl) m7 ?_;simp[Hub.res,e]
theorem sX(h:Hub)(hl:dh h<=2^28)(name:ByteArray)(room:Int):ar Tryz.prog 122 [.agg h.row,.c (.v (.string name)),.c (vi room)]
 (.tup [.agg (bp h name room).1.res,.c (vi (bp h name room).2.1) 1,.c (vi (bp h name room).2.2) 1]):=by
 refine pci aw Tryz.func122 (λw0 base=>?_);have hls:=aY (ic hl).2;simp[Hub.row];intro b3 b6;refine ag.pure (fE h aa name) bj ?_;simp;refine ag.pure (gi h aa) bj ?_;by_cases c1:bC h
 rotate_left
 ·simp[az c1,jb (λh=>c1 h.1),Hub.res,Hub.zero]
 simp[c1];refine ag.pure (cG room 1 6) ab ?_;by_cases c2:1<=room/\room<=6
 rotate_left
 ·simp[az c2,jb (λh=>c2 h.2),Hub.res,Hub.zero]
 simp[c2]
 cases c3:h.shut with
 |true=>simp[mN ⟨c1,c2⟩ c3,Hub.res,Hub.zero]
 |false=>
 simp;rcases fI h.docs name with⟨k,hk,e,-⟩|e;rotate_left
 ·simp[e,mO ⟨c1,c2⟩ m6 e,Hub.res,Hub.zero]
 have hk0:¬(k:Int)<0:=aa;have hat:=oC ⟨c1,c2⟩ m6 hk e;simp[e,hk0];have hlast:=c1.2.2.1;by_cases c4:h.subs.length=6
 ·have c4':(h.subs.length:Int)=6:=by omega
  rw[ao (.inl c4)]at hat;simp[c4',hat,Hub.res,Hub.zero]
 have c4':¬(h.subs.length:Int)=6:=aa;simp[c4'];by_cases c5:h.last=1000000000
 ·rw[ao (.inr c5)]at hat
  simp[c5,hat,Hub.res,Hub.zero]
 rw[au (λh=>h.elim c4 c5)]at hat;have ew:Go.IntKind.i64.wrap (h.last+1)=h.last+1:=ae _ aa;have hh:=dg (ja c1 hk);obtain⟨d,hd⟩:∃d,h.docs[k]=d:=⟨_,rfl⟩;rw[hd]at hat hh;simp[c5,hk,hd,Doc.row];refine ag.pure (cC d) bo ?_;simp;have hc:=su room (aB d) aa;generalize fv room (aB d)=R at hc hat;obtain⟨⟨cp,nx,ot,ls⟩,ok⟩:=R;refine ag.pure hc ab ?_;simp[Ring.res];intro H10 b10;refine ag.pure (gb h aa) (by simp[Hub.row,c3]) ?_;simp[Hub.res,ew,c3];intro H1 H2 b12 b13;refine⟨aa,λH=>?_⟩;refine drw eok mix [0,1,2,4,5] [3] (.c 5 3 16 15 (.l 5 15) .s) ?_;simp
 try intros
 rw[hat];simp[c3,Sub.row]
 try (rintro row (⟨a,-,rfl⟩|rfl)<;>rfl)
theorem Ao(h:Hub)(hl:dh h<=2^28)(id n:Int):ar Tryz.prog 123 [.agg h.row,.c (vi id),.c (vi n)]
 (.tup [.agg (df h id n).1.res,.c (.s ((df h id n).2.1.map Entry.row)) 3,.c (vi (df h id n).2.2) 1]):=by
 refine pci aw Tryz.func123 (λw0 base=>?_);have hls:=aY (ic hl).2;simp[Hub.row];intro b3 b6;refine ag.pure (tZ h aa id) bj ?_;simp;refine ag.pure (gi h aa) bj ?_;by_cases c1:bC h
 rotate_left
 ·simp[az c1,lJ (λh=>c1 h.1),Hub.res,Hub.zero]
 simp[c1];by_cases c2:1<=n
 rotate_left
 ·have c2':n<1:=by omega
  simp[c2',lJ (λh=>c2 h.2),Hub.res,Hub.zero]
 have c2':¬n<1:=aa;simp[c2'];rcases kc h.subs id with⟨k,hk,e,-⟩|e;rotate_left
 ·simp[e,n7 ⟨c1,c2⟩ e,Hub.res,Hub.zero]
 have hk0:¬(k:Int)<0:=aa;have hat:=nG ⟨c1,c2⟩ hk e;have hm:=cH (f:=dp) (ic hl).2 hk;unfold dp at hm;have hmod:=rN hk;obtain⟨s,hs⟩:∃s,h.subs[k]=s:=⟨_,rfl⟩;rw[hs]at hat hm hmod;have hc:=yH s.r aa n;generalize cm s.r n=R at hc hat;obtain⟨r,list,code⟩:=R;simp only at hat hc;simp[e,hk0,hk,hs,Sub.row];refine ag.pure hc dH ?_;simp[Ring.res];intro H10 H11 b10;by_cases c3:code=0
 rotate_left
 ·rw[au c3]at hat
  simp[c3,hat,Hub.res,Hub.zero]
 rw[ao c3]at hat;simp[c3];refine ag.pure (gb h aa) bj ?_;simp[Hub.res,hk]
 try intros
 rw[hat];simp[hmod r];exact vh
theorem wZ(h:Hub)(hl:dh h<=2^28)(id:Int):ar Tryz.prog 124 [.agg h.row,.c (vi id)]
 (.tup [.agg (bP h id).1.res,.c (.s ((bP h id).2.1.map aI)) 1,.c (vi (bP h id).2.2.1) 1,.c (vi (bP h id).2.2.2) 1]):=by
 refine pci aw Tryz.func124 (λw0 base=>?_);have hls:=aY (ic hl).2;simp[Hub.row];intro b2 b4;refine ag.pure (tZ h aa id) bj ?_;simp;refine ag.pure (gi h aa) bj ?_;by_cases c1:bC h
 rotate_left
 ·simp[az c1,sI c1,Hub.res,Hub.zero]
 simp[c1];rcases kc h.subs id with⟨k,hk,e,-⟩|e;rotate_left
 ·simp[e,pM c1 e,Hub.res,Hub.zero]
 have hk0:¬(k:Int)<0:=aa;obtain⟨hro,j,hj,ej⟩:=rP c1 hk;have hat:=sJ c1 hk e hj ej;have hm:=cH (f:=dp) (ic hl).2 hk;have hdn:=cH (f:=cB) (ic hl).1 hj;have hh:=dg (ja c1 hj);unfold dp at hm;have hmod:=rN hk;obtain⟨s,hs⟩:∃s,h.subs[k]=s:=⟨_,rfl⟩;obtain⟨d,hd⟩:∃d,h.docs[j]=d:=⟨_,rfl⟩;rw[hs]at hat hm hmod ej;rw[hd]at hat hdn hh;have hc:=ve s.r aa (aB d) aa;generalize cW s.r (aB d)=R at hc hat;obtain⟨r,ok⟩:=R;simp only at hat hc;simp[e,hk0];refine dV (λx:Nat=>[(9,.p 144 x 0)]) (λx=>[(144,.vars x 119 [.v (.string d.name),.v (.int .i64 d.fr),.ro (d.text.map aI),.ro (d.list.map Entry.row),.ro (d.seen.map Seen.row)])]) [1,2,4,5,6,7,8] ?_ ?_
 ·refine drw eok mix [0,1,2,3,4,5,6,7,8] [9,10,11,12,13] (.c 9 9 65 446 (.c 9 10 128 318 (.c 9 11 0 318 (.c 9 12 0 318 (.c 9 13 318 0 (.l 9 0) .s) .s) (.c 9 12 0 318 (.c 9 11 0 318 (.c 9 13 318 0 (.l 9 0) .s) .s) .s)) (.c 9 12 0 446 (.c 9 10 128 318 (.c 9 11 0 318 (.c 9 13 318 0 (.l 9 0) .s) .s) .s) .s)) (.c 9 12 0 511 (.c 9 9 65 446 (.c 9 10 128 318 (.c 9 11 0 318 (.c 9 13 318 0 (.l 9 0) .s) .s) .s) .s) .s)) ?_
  simp[hk,hs,Sub.row]
  try intros
  repeat' first
   |(refine ag.pure (fE h aa s.doc) bj ?_;simp[hj,hd,Doc.row,ej];try intros)
   |(rw[Trc];refine⟨?_,?_⟩<;>(try simp[hk,hs,hj,hd,Sub.row,Doc.row])<;>try intros)
 rintro b9
 simp;refine ag.pure (gb h aa) bj ?_;simp[Hub.res];intro H1 H2 b10;refine drw eok mix [0,1,2,3,4,5,6,7,8,9,15,16] [10,11,12,13,14,17] (.c 12 10 4 4091 (.c 12 11 8 4083 (.c 12 12 0 4083 (.c 12 13 0 4083 (.c 12 14 0 4083 (.c 12 17 4081 2 (.l 12 2) .s) .s) .s) .s) .s) .s) ?_;simp[hk,hs,Sub.row]
 try intros
 refine ag.pure (cC d) bo ?_;simp
 try intros
 refine ag.pure (hc) dH ?_;simp[Ring.res,hk]
 try intros
 refine drw eok mix [0,1,3,8] [2,4,5,6,7] (.c 4 2 4 11 (.c 4 4 2 9 (.c 4 5 8 1 (.c 4 6 0 1 (.c 4 7 0 1 (.l 4 1) .s) .s) .s) .s) .s) ?_;simp
 try intros
 refine ag.pure (mE d aa) bo ?_;simp
 try intros
 refine ag.pure (cC d) bo ?_;simp
 try intros
 rw[hat];simp[hmod r];exact vh
theorem G5(h:Hub)(hl:dh h<=2^28)(_c1:bC h)(c:Call):ar Tryz.prog 121 [.agg h.row,.agg c.row] (.one (.agg (nE h c).res)):=by
 refine pci aw Tryz.func121 (λw0 base=>?_);simp[Hub.row,Call.row];intro b2 b3 b4;refine ag.pure (fE h aa c.doc) bj ?_;simp
 cases c3:h.shut with
 |true=>simp[zr c3,Answer.res,eX]
 |false=>
 simp;rcases fI h.docs c.doc with⟨k,hk,e,-⟩|e;rotate_left
 ·simp[e,zs m6 e,Answer.res,eX]
 have hk0:¬(k:Int)<0:=aa;have hat:=Gn (c:=c) m6 hk e;have hdn:=cH (f:=cB) (ic hl).1 hk;obtain⟨d,hd⟩:∃d,h.docs[k]=d:=⟨_,rfl⟩;rw[hd]at hat hdn;simp[e,hk0];by_cases c4:c.kind=4
 ·rw[ao c4]at hat
  simp[c4];refine drw eok mix [0,1,2,3,4,6,7,8,9,10] [5,11,12,13] (.c 10 5 32 991 (.c 10 11 1 990 (.c 10 12 0 990 (.c 10 13 990 0 (.l 10 0) .s) .s) .s) .s) ?_;simp[hk,hd,Doc.row]
  try intros
  refine ag.pure (mE d aa) m5 ?_;simp
  try intros
  refine ag.pure (cC d) m5 ?_;simp
  try intros
  rw[hat];simp[Answer.res]
 rw[au c4]at hat;have hf:=Fk d aa c.n;exact LZ
def chn(L:List Part):Prop:=∀i,∀h:i+1<L.length,L[i].kind≠L[i+1].kind
theorem M5:chn []:=λi h=>gQ
theorem Ss{p:Part}{L:List Part}(h:chn (p::L)):chn L/\∀h0:0<L.length,p.kind≠L[0].kind:=by
 refine⟨λi hi=>?_,λh0=>?_⟩
 ·have:=h (i+1) aM
  exact i4
 ·have:=h 0 aM
  exact i4
theorem qG{L:List Part}{p:Part}(h:chn L)(hp:∀h:0<L.length,(L[L.length-1]' aa).kind≠p.kind):chn (L++[p]):=by
 intro i hi;simp at hi;by_cases c:i+1<L.length
 ·rw[tG aa,tG c];exact h i c
 ·have h0:0<L.length:=by omega
  have:=hp h0;rw[tG aa,fB aa];have e:i=L.length-1:=aa;subst e;exact i4
theorem U3{L:List Part}{i:Nat}{p:Part}(h:chn L)(hi:i<L.length)(hk:p.kind=L[i].kind):chn (L.set i p):=by
 intro j hj;simp at hj;have h1:=h j hj;rw[iX,iX]
 split
 ·rename_i e;subst e
  rw[au aa,hk];exact h1
 ·split
  ·rename_i e;subst e;rw[hk];exact h1
  ·exact h1
def Rn(L:List Part):Prop:=∀h:0<L.length,(L[L.length-1]' aa).kind=1
theorem za{L:List Part}{p:Part}:(((L++[p])[(L++[p]).length-1]' ab)).kind=p.kind:=ab
theorem BB{L:List Part}{P:List Int}{D:Int}(h:chn L)(hl:Rn L):chn (bE L P D):=by
 unfold bE
 split
 ·split
  ·rw[ij]
   exact qG h λh0=>by rw[hl h0];simp
  ·simpa using h
 ·have h1:chn (L++[⟨2,0,P⟩]):=qG h λh0=>by rw[hl h0];simp
  split
  ·rw[<-bX]
   exact qG h1 λh0=>by rw[za];simp
  ·simpa using h1
theorem Rs{L:List Part}{n:Int}(h:chn L):chn (dE L n)/\Rn (dE L n):=by
 unfold dE
 split
 ·rename_i h0
  split
  ·rename_i hk
   refine⟨U3 h aa hk.symm,λh1=>?_⟩;simp
  ·rename_i hk
   refine⟨qG h λ_=>hk,λh1=>?_⟩;rw[za]
 ·exact⟨qG (L:=[]) M5 (λh=>gQ),λ_=>rfl⟩
theorem Bo(o:List Part):∀(i:Nat),i<=o.length->chn (bZ (o.take i)).1/\Rn (bZ (o.take i)).1
 | 0, _ => by
   simp only[bZ,List.take_zero,List.foldl_nil];exact⟨M5,λh=>gQ⟩
 | i + 1, hi => by
   obtain⟨h1,h2⟩:=Bo o i aa;rw[jM (show i<o.length from aa)];generalize bZ (o.take i)=s at h1 h2;unfold fY
   split
   ·exact⟨h1,h2⟩
   ·split
    ·exact⟨h1,h2⟩
    ·split
     ·exact Rs (BB h1 h2)
     ·exact⟨h1,h2⟩
theorem HJ(o:List Part):chn (normal o):=by
 obtain⟨h1,h2⟩:=Bo o o.length (aF _);rw[cI]at h1 h2;exact BB h1 h2
def Gb:At->List Part->List Part
 | .k,[]=>[⟨1,1,[]⟩]
 | .k,p::l=>if p.kind=1 then⟨1,p.n+1,[]⟩::l else⟨1,1,[]⟩::p::l
 | .d,[]=>[⟨3,1,[]⟩]
 | .d,p::l=>if p.kind=3 then⟨3,p.n+1,[]⟩::l else⟨3,1,[]⟩::p::l
 | .p c,[]=>[⟨2,0,[c]⟩]
 | .p c,p::l=>if p.kind=2 then⟨2,0,c::p.signs⟩::l else⟨2,0,[c]⟩::p::l
def grp(l:List At):List Part:=l.foldr Gb []
theorem RL{L:List Part}(h:∀h0:0<L.length,L[0].kind≠1):∀n:Nat,(List.replicate (n+1) At.k).foldr Gb L=⟨1,(n:Int)+1,[]⟩::L
 | 0 => by
   exact C3
 | n + 1 => by
   rw[bJ,Pt,RL h n];simp[Gb]
theorem RM{L:List Part}(h:∀h0:0<L.length,L[0].kind≠3):∀n:Nat,(List.replicate (n+1) At.d).foldr Gb L=⟨3,(n:Int)+1,[]⟩::L
 | 0 => by
   exact C3
 | n + 1 => by
   rw[bJ,Pt,RM h n];simp[Gb]
theorem RK{L:List Part}(h:∀h0:0<L.length,L[0].kind≠2):∀(Q:List Int) (c:Int),((c::Q).map At.p).foldr Gb L=⟨2,0,c::Q⟩::L
 | [], c => by
   exact C3
 | d :: Q, c => by
   rw[bK,Pt,RK h Q d];simp[Gb]
theorem BA:∀{L:List Part},(∀q∈L,Shp q)->chn L->grp (bR L)=L
 | [],_,_=>rfl
 | p :: L, hs, hc => by
   obtain⟨h1,h2⟩:=Ss hc;have ih:=BA (λq hq=>hs q (aD _ hq)) h1;have hp:=hs p (aK ..);unfold grp at ih⊢;rw[bR,List.foldr_append,ih];have hpos:=hp.pos;have hn:=hp.n;unfold ats;obtain⟨kd,n,sg⟩:=p;by_cases k2:kd=2
   ·subst k2
    obtain⟨e1,-⟩:=hp.put rfl;simp only at e1;subst e1;simp only[dk]
    cases sg with
    |nil=>simp[psz]at hpos
    |cons c Q=>exact RK (λh0=>Cb) Q c
   ·have e1:=hp.run k2
    simp only at e1 hn;subst e1;have hz:psz ⟨kd,n,[]⟩=n.toNat:=by simp[psz]
    rw[hz]at hpos;obtain⟨m,hm⟩:∃m,n.toNat=m+1:=⟨n.toNat-1,aa⟩;have hnm:n=(m:Int)+1:=aa;rw[hz,hm,au k2];by_cases k3:kd=3
    ·subst k3
     simp only[dk];rw[RM (λh0=>Cb),hnm]
    ·have k1:kd=1:=by rcases hp.k with h|h|h<;>simp only at h<;>omega
     subst k1;rw[au ab,RL (λh0=>Cb),hnm]
theorem FG:∀(l:List At) (P:List Int) (n:Nat),nA [] 0 (nA P n l)=nA P n l
 | [], P, n => by
   have h2:=MK n P 0 [];rw[bI,cE]at h2;rw[nA,MI,ij,h2,nA]
 | .k :: l, P, n => by
   rw[nA,MI,MK,ij,cE,nA,FG l]
 | .p c::l,P,n=>by rw[nA,FG l]
 | .d::l,P,n=>by rw[nA,FG l]
theorem oX{o:List Part}(h:∀p∈o,a8 p):normal o=grp (pG (bR o)):=by
 rw[<-kP h,BA (y1 h) (HJ o)]
theorem As{o:List Part}(h:dv o):normal (normal o)=normal o:=by
 have h2:=(vo h).1;rw[oX h2.1.1,kP h.1.1,oX h.1.1];unfold pG;rw[FG]
theorem Ax{o:List Part}(h:dv o):ku (normal o):=by
 have h2:=(vo h).1;refine⟨h2,?_⟩;unfold dz;rw[ao h2,As h]
theorem Aw{o:List Part}(h:dv o):ku (dz o):=by
 have e:dz o=normal o:=by unfold dz;rw[ao h]
 rw[e];exact Ax h
theorem yY:∀(l:List (List Part)) (v v':List Part),ku v->lU l v=some v'->ku v'
 | [],v,v',h,e=>by simp only[lU,ez]at e;exact e ▸ h
 | a :: l, v, v', h, e => by
   rw[lU]at e
   split at e
   ·rename_i ht
    refine yY l _ v' ?_ e;unfold bn at ht⊢
    split at ht
    ·rename_i h1
     split at ht
     ·rename_i h2
      rw[ao h1,ao h2];have hi:=xi h1.1 h1.2.1 h1.2.2;have hk:=VK hi;simp only;refine⟨h2.2,?_⟩;unfold dz;rw[ao h2.2,oX h2.2.1.1,kP hk.2];unfold pG;rw[FG];exact(oX hk.2).symm
     ·simp at ht
    ·simp at ht
   ·cases e
theorem Iw{l:List (List Part)}{b:List Part}(h:(jS l b).2=true):ku (jS l b).1:=by
 unfold jS at h⊢
 split at h
 ·rename_i hb
  rw[ao hb]
  cases e:lU l (dz b)with
  |none=>rw[e]at h;simp at h
  |some v=>exact yY l _ v (Aw hb) e
 ·simp at h
theorem uL{d:Doc}(h:bQ d)(e:Entry):aB (cK d e)=aB d+1/\(cK d e).list.getLast? = some e:=by
 obtain⟨h1,h2,h3,h4⟩:=dg h;unfold cK
 split
 ·refine⟨?_,ab⟩
  unfold aB;simp only[eK,cr,il];rw[ae _ aa,ae _ aa];omega
 ·refine⟨?_,?_⟩
  ·unfold aB
   simp only[eK,cr,il,iW];rw[ae _ aa,ae _ aa];omega
  ·have hl:d.list.length=8:=by omega
   rw[List.getLast?_drop];rw[au (by rw[eK,List.length_singleton];omega)];simp
theorem vm{α:Type}{R:α->α->Prop}(tr:∀a b c,R a b->R b c->R a c):∀{l:List α},(∀i,∀h:i<l.length,∀h0:0<i,R (l[i-1]' aa) l[i])->l.Pairwise R
 | [],_=>.nil
 | [a],_=>ab
 | a :: b :: l, h => by
   have ih:=vm tr (l:=b::l) (λi hi h0=>by
    have:=h (i+1) (by simp at hi⊢;omega) aa;obtain⟨j,rfl⟩:∃j,i=j+1:=⟨i-1,aa⟩
    simpa using this)
   have hab:R a b:=by have:=h 1 ab aa;simpa using this
   refine fO.2 ⟨λc hc=>?_,ih⟩;rcases aV.1 hc with rfl|hc
   ·exact hab
   ·exact tr _ _ _ hab ((fO.1 ih).1 c hc)
theorem BN{α:Type}{R:α->α->Prop}{l:List α}(h:l.Pairwise R):∀i,∀h:i<l.length,∀h0:0<i,R (l[i-1]' aa) l[i]:=
 λi hi h0=>(sQ.1 h) (i-1) i aa hi aa
def aa3(R:Int)(s:Seen):Prop:=(1<=s.client/\s.client<=8)/\(1<=s.seq/\s.seq<=1000000000)/\(1<=s.rev/\s.rev<=R)
theorem vZ{d:Doc}:uc d↔(∀s∈d.seen,aa3 (aB d) s)/\d.seen.Pairwise λa b=>a.client<b.client:=by
 constructor
 ·intro h
  refine⟨λs hs=>?_,vm (R:=λa b:Seen=>a.client<b.client) (λ_ _ _=>Int.lt_trans) λi hi h0=>(h i hi).2.2.2 h0⟩;obtain⟨i,hi,rfl⟩:=fb hs;obtain⟨h1,h2,h3,-⟩:=h i hi;exact⟨h1,h2,h3⟩
 ·rintro⟨h1,h2⟩ i hi
  obtain⟨a,b,c⟩:=h1 _ (aj hi);exact⟨a,b,c,λh0=>BN h2 i hi h0⟩
theorem pZ{c s r:Int}:∀{l:List Seen}{x:Seen},x∈cT c s r l->x=⟨c,s,r⟩\/x∈l
 | [],x,h=>by simp[cT]at h;exact .inl h
 | y :: l, x, h => by
   unfold cT at h
   split at h
   ·rcases aV.1 h with h|h
    ·exact .inr (by simp[h])
    ·rcases pZ h with h|h
     ·exact .inl h
     ·exact .inr (aD _ h)
   ·split at h
    ·rcases aV.1 h with h|h
     ·exact .inl h
     ·exact .inr (aD _ h)
    ·rcases aV.1 h with h|h
     ·exact .inl h
     ·exact .inr h
theorem yO{c s r:Int}:∀{l:List Seen},(l.Pairwise λa b=>a.client<b.client)->(cT c s r l).Pairwise λa b=>a.client<b.client
 | [],_=>by simp[cT]
 | y :: l, h => by
   obtain⟨h1,h2⟩:=fO.1 h;unfold cT
   split
   ·rename_i hc
    refine fO.2 ⟨λx hx=>?_,yO h2⟩;rcases pZ hx with rfl|hx
    ·exact hc
    ·exact h1 x hx
   ·split
    ·rename_i hc
     exact fO.2 ⟨λx hx=>by have:=h1 x hx;simp only;omega,h2⟩
    ·refine fO.2 ⟨λx hx=>?_,h⟩
     rcases aV.1 hx with rfl|hx
     ·simp only;omega
     ·have:=h1 x hx;simp only;omega
theorem IE{d:Doc}(h:bQ d){e:Entry}(he:cZ e)(hf:lF e.o (eL d))(hr:aB d<999999000):bQ (cK d e):=by
 have hh:=dg h;have hp:=(uL h e).1;obtain⟨t1,t2⟩:=sE h;obtain⟨g1,g2,g3,g4,g5,g6,g7⟩:=h
 have hap:(bk ((d.list++[e]).map Entry.o) d.text).isSome=true:=by
  rw[ik,jd,t1];simp only[fN,bK,jg,bk];rw[ao (mz.2 hf)];rfl
 have hse:uc (cK d e):=by
  rw[vZ,hp];obtain⟨s1,s2⟩:=vZ.1 g7;have e1:(cK d e).seen=cT e.client e.seq (aB d+1) d.seen:=by unfold cK;split<;>rfl
  rw[e1];refine⟨λx hx=>?_,yO s2⟩;rcases pZ hx with rfl|hx
  ·exact⟨he.1,he.2.1,gh⟩
  ·obtain⟨a,b,c⟩:=s1 x hx
   exact⟨a,b,aa⟩
 have hen:∀x∈d.list++[e],cZ x:=λx hx=>by
  rcases aO.1 hx with hx|hx
  ·exact g5 x hx
  ·simp at hx;subst hx;exact he
 unfold cK at hse⊢
 split
 ·rename_i hl
  rw[ao hl]at hse;exact⟨g1,g2,g3,aM,hen,hap,hse⟩
 ·rename_i hl
  rw[au hl]at hse
  obtain⟨x,l',hx⟩:∃x l',d.list++[e]=x::l':=by
   cases hd:d.list++[e]with
   |nil=>simp at hd
   |cons x l'=>exact⟨x,l',rfl⟩
  have hlen:l'.length=d.list.length:=by have:=oI List.length hx;simp at this;omega
  simp only[hx]at hse hap hen⊢;simp only[List.getElem_cons_zero,List.drop_one,List.tail_cons]at hse⊢;rw[bK,bk]at hap
  split at hap
  ·rename_i ha
   exact⟨g1,gh,(mr (mz.1 ha)).1,gh,λy hy=>hen y (aD _ hy),hap,hse⟩
  ·simp at hap
theorem EC(d:Doc)(e:Entry):(cK d e).name=d.name:=by unfold cK;split<;>rfl
theorem AJ{d:Doc}{client seq base:Int}{o:List Part}(h:bQ d)(hc:(cU d client seq base o).2.2=0) :
 bQ (cU d client seq base o).1/\(cU d client seq base o).1.name=d.name/\((cU d client seq base o).1=d\/
  ∃e,cZ e/\e.client=client/\e.seq=seq/\(cU d client seq base o).1=cK d e/\lF e.o (eL d)/\aB d<999999000):=by
 unfold cU at hc⊢
 split at hc
 ·rename_i hs
  rw[ao hs]
  split at hc
  ·rename_i h1
   rw[ao h1];exact⟨h,rfl,.inl rfl⟩
  ·rename_i h1
   rw[au h1]
   split at hc
   ·rename_i h2
    rw[ao h2]
    split at hc
    ·rename_i h3
     rw[ao h3]
     split at hc
     ·simp at hc
     ·rename_i h4
      rw[au h4]
      have key:ku (eJ d base o).1/\lF (eJ d base o).1 (eL d):=by
       unfold eJ at h3⊢
       split at h3
       ·rename_i c1
        rw[ao c1]
        split at h3
        ·simp at h3
        ·rename_i c2
         rw[au c2]
         split at h3
         ·simp at h3
         ·rename_i c3
          rw[au c3]
          split at h3
          ·rename_i c4
           rw[ao c4]
           split at h3
           ·rename_i c5
            rw[ao c5];exact⟨Iw c5,uG c1.1 c1.2 aa aa c4 c5⟩
           ·simp at h3
          ·simp at h3
       ·simp at h3
      have he:cZ ⟨client,seq,(eJ d base o).1⟩:=⟨hs.2.1,hs.2.2.1,key.1⟩;exact⟨IE h he key.2 aa,EC _ _,.inr ⟨_,he,rfl,rfl,rfl,key.2,aa⟩⟩
    ·rename_i h3;exact absurd hc h3
   ·simp at hc
 ·simp at hc
theorem zm{d:Doc}{client seq base:Int}{o:List Part}(h:bQ d)(hc:(cU d client seq base o).2.2=0) :
 (cU d client seq base o).1=d\/∃e,aB (cU d client seq base o).1=aB d+1/\(cU d client seq base o).1.list.getLast? = some e:=by
 obtain⟨-,-,h1|⟨e,-,-,-,h2,-⟩⟩:=AJ h hc
 ·exact .inl h1
 ·rw[h2];exact .inr ⟨e,uL h e⟩
theorem N5{l:List Doc}{row:List CD}(h:row∈l.map Doc.row):row.length=5:=by
 exact Db
theorem OY{l:List Doc}{k:Nat}:cut (l.map Doc.row) 0 k=(l.take k).map Doc.row:=by rw[gL,kH,eG]
theorem OZ{l:List Doc}{k:Nat}:cut (l.map Doc.row) k (l.length-k)=(l.drop k).map Doc.row:=by
 rw[gL,tF,aC ab]
noncomputable def iK(name:ByteArray)(e:Entry)(l:List Sub)(i:Nat):List Sub:=(l.take i).map (gg name e)++l.drop i
theorem vT(name:ByteArray)(e:Entry)(l:List Sub):iK name e l 0=l:=by simp[iK]
theorem yw(name:ByteArray)(e:Entry)(l:List Sub):iK name e l l.length=l.map (gg name e):=by simp[iK]
theorem sU(name:ByteArray)(e:Entry)(l:List Sub)(i:Nat):(iK name e l i).length=l.length:=by simp[iK];omega
theorem va{name:ByteArray}{e:Entry}{l:List Sub}{i:Nat}(h:i<l.length):(iK name e l i)[i]'(by rw[sU];exact h)=l[i]:=by
 unfold iK;rw[fB aM];simp[dT (Z0 h)]
theorem sT{name:ByteArray}{e:Entry}{l:List Sub}{i:Nat}(h:i<l.length):(iK name e l i).set i (gg name e l[i])=iK name e l (i+1):=by
 unfold iK;rw[dJ _ _ aM,cY h];simp only[xh,Nk,dT (Z0 h),Nat.sub_self,sa];rw[<-bb h,ik];simp
theorem vU{name:ByteArray}{e:Entry}{l:List Sub}{i:Nat}(h:i<l.length)(hn:¬l[i].doc=name):iK name e l i=iK name e l (i+1):=by
 rw[<-sT h];have:gg name e l[i]=l[i]:=by unfold gg;rw[au hn]
 rw[this];refine eO ab (λj h1 h2=>?_);rw[iX]
 split
 ·rename_i ej;subst ej;exact va h
 ·rfl
theorem Ap(h:Hub)(hl:dh h<=2^28)(name:ByteArray)(hs:name.size<=2^28)(t:List Int)(ht:t.length<=2^28):ar Tryz.prog 119 [.agg h.row,.c (.v (.string name)),.c (.s (t.map aI))]
 (.tup [.agg (dD h name t).1.res,.c (vi (dD h name t).2) 1]):=by
 refine pci aw Tryz.func119 (λw0 base=>?_);have hld:=aY (ic hl).1;have hdn:=DH name t hs ht;unfold lu at hdn;simp[Hub.row];intro b3 b6;by_cases c0:bQ (gK name t)
 rotate_left
 ·rw[au c0]at hdn
  refine ag.pure hdn ab ?_;simp[Doc.res,Doc.zero];intros;refine ag.pure (gi h aa) bj ?_;by_cases c1:bC h
  ·simp[c1,jT (λh=>c0 h.2),Hub.res,Hub.zero]
  ·simp[az c1,jT (λh=>c0 h.2),Hub.res,Hub.zero]
 rw[ao c0]at hdn;refine ag.pure hdn ab ?_;simp[Doc.res,gK];intro H1 H2 H3 b8;refine ag.pure (gi h aa) bj ?_;by_cases c1:bC h
 rotate_left
 ·simp[az c1,jT (λh=>c1 h.1),Hub.res,Hub.zero]
 simp[c1]
 cases c2:h.shut with
 |true=>simp[sK ⟨c1,c0⟩ c2,Hub.res,Hub.zero]
 |false=>
 have c2':¬h.shut=true:=qZ;simp;refine ag.pure (fE h aa name) m7 ?_;simp;by_cases c3:0<=bq h.docs name
 ·simp[c3,sL ⟨c1,c0⟩ c2' c3,Hub.res,Hub.zero]
 simp[c3];by_cases c4:h.docs.length=5
 ·have c4':(h.docs.length:Int)=5:=by omega
  simp[c4',sM ⟨c1,c0⟩ c2' c3 c4,Hub.res,Hub.zero]
 have c4':¬(h.docs.length:Int)=5:=aa;have hat:=uJ ⟨c1,c0⟩ c2' c3 c4;rw[rU]at hat;have hal:=qC (gK name t).name h.docs;have hon:=λ{k:Nat} h1 h2=>qD (name:=(gK name t).name) (l:=h.docs) (k:=k) h1 h2
 rw[show(gK name t).name=name from rfl]at hat hal hon;generalize fw name h.docs=a at hat hal hon;simp[c4'];refine ag.pure (gb h aa) m7 ?_;simp[Hub.res,c2];intro K1 K2 b10
 refine aH eok (λk:Nat=>k<=a) (λk=>⟨81,0,[(11,.v (.int .i64 k)),(1,.v (.string name)),(6,.p 96 b6 0),(8,.p 128 b8 0),(10,.p 160 b10 0)],
  [(160, .vars b10 35 [.v (.bool false), .sl 721 K1 5 0 h.docs.length, .sl 722 K2 6 0 h.subs.length, .v (.int .i64 h.last)]),(96, .vars b6 35 [.v (.bool false), .nil, .nil, .v (.int .i64 0)]),
   (128,.vars b8 119 [.v (.string name),.v (.int .i64 0),.sl 258 H1 1 0 t.length,.sl 259 H2 3 0 0,.sl 260 H3 3 0 0]),
   (258,.rows H1 1 (t.map aI) true),(259,.rows H2 3 [] true),(260,.rows H3 3 [] true),
   (721,.rows K1 5 (h.docs.map Doc.row) true),(722,.rows K2 6 (h.subs.map Sub.row) true)]⟩) (λk=>h.docs.length-k) 0 ab ab (λk hk=>Ent.refl ?_)
 by_cases hlt:k<h.docs.length
 ·obtain⟨x,hx⟩:∃x,h.docs[k]=x:=⟨_,rfl⟩
  have hiff:=hon hk hlt;rw[hx]at hiff;simp[hlt,hx,Doc.row];by_cases s:sLt x.name name
  ·simp[s]
   exact Ent.refl ⟨k+1,by have:=hiff.1 s;omega,aa,by simp;exact aQ aa⟩
  have hka:k=a:=by
   have:¬k<a:=λh=>s (hiff.2 h)
   omega
  subst hka;have hm:min k h.docs.length=k:=aa;simp[az s,OY,OZ,hat,c2,hm,gK];refine⟨aa,aa,aa,aa,aa,aa,aa,?_,?_⟩
  ·rintro row (h|rfl|h)
   ·exact N5 (bu h)
   ·rfl
   ·exact N5 (ba h)
  ·rw[uN (by simp[hm];omega)]
   rfl
 have hka:k=h.docs.length:=aa;have hka2:a=h.docs.length:=aa;subst hka2;have hm:min k h.docs.length=k:=aa;subst hka;have hz:cut (h.docs.map Doc.row) h.docs.length 0=[]:=by rw[gL];simp
 simp[hat,c2,gK,hz];refine⟨aa,aa,?_,?_⟩
 ·rintro row (⟨a,-,rfl⟩|rfl)<;>rfl
 ·rfl
theorem wY(h:Hub)(hl:dh h<=2^28)(name:ByteArray)(client seq base:Int)(o:List Part)(ho:nL a9 o<=2^40) :
 ar Tryz.prog 120 [.agg h.row,.c (.v (.string name)),.c (vi client),.c (vi seq),.c (vi base),.c (.s (o.map Part.row))]
 (.tup [.agg (ca h name client seq base o).1.res,.c (vi (ca h name client seq base o).2.1) 1,.c (vi (ca h name client seq base o).2.2) 1]):=by
 refine pci aw Tryz.func120 (λw0 bs=>?_);have hls:=aY (ic hl).2;simp[Hub.row];intro b6 b12;refine ag.pure (fE h aa name) bj ?_;simp;refine ag.pure (gi h aa) bj ?_;by_cases c1:bC h
 rotate_left
 ·simp[az c1,sF c1,Hub.res,Hub.zero]
 simp[c1]
 cases c2:h.shut with
 |true=>simp[pK c1 c2,Hub.res,Hub.zero]
 |false=>
 have c2':¬h.shut=true:=qZ;simp;rcases fI h.docs name with⟨k,hk,e,-⟩|e;rotate_left
 ·simp[e,pL c1 c2' e,Hub.res,Hub.zero]
 have hk0:¬(k:Int)<0:=aa;have hat:=sG (client:=client) (seq:=seq) (base:=base) (o:=o) c1 c2' hk e;have hdn:=cH (f:=cB) (ic hl).1 hk;have hdo:=ja c1 hk;have hDn:=vD (client:=client) (seq:=seq) (base:=base) (o:=o) hdo;have hok:=zm (client:=client) (seq:=seq) (base:=base) (o:=o) hdo;obtain⟨d,hd⟩:∃d,h.docs[k]=d:=⟨_,rfl⟩;rw[hd]at hat hdn hDn hok;have hc:=Dy d hdn client seq base o ho;generalize cU d client seq base o=S at hc hat hDn hok;obtain⟨D,rev,code⟩:=S;simp only at hc hat hDn hok;simp[e,hk0,hk,hd,Doc.row];refine ag.pure hc bo ?_;simp[Doc.res];intro H1 H2 H3 b16;by_cases c3:code=0
 rotate_left
 ·rw[au c3]at hat
  simp[c3,hat,Hub.res,Hub.zero]
 rw[ao c3]at hat;have hok:=hok c3;simp[c3];refine ag.pure (gb h aa) m7 ?_;simp[Hub.res,c2,hk];intro K1 K2 b19;refine drw eok mix [0,2,3,4,5,6] [1,7,8] (.c 6 1 32 31 (.c 6 7 1 30 (.c 6 8 0 30 (.l 6 30) .s) .s) .s) ?_;simp[hk,hd,Doc.row]
 try intros
 refine ag.pure (cC D) m5 ?_;simp
 try intros
 refine ag.pure (cC d) m5 ?_;simp
 try intros
 by_cases c5:aB D=aB d
 ·have hcm:gd h name k d D=⟨h.shut,h.docs.set k D,h.subs,h.last⟩:=by unfold gd;rw[au aa]
  rw[hcm]at hat;simp[c5,hat,c2];exact⟨rJ,rfl⟩
 rcases hok with rfl|⟨e,he1,he2⟩
 ·exact absurd rfl c5
 have hcm:gd h name k d D=⟨h.shut,h.docs.set k D,h.subs.map (gg name e),h.last⟩:=by unfold gd;rw[ao aa,he2]
 rw[hcm]at hat;have hmem:e∈D.list:=Ah he2;have hpos:0<D.list.length:=mX hmem;obtain⟨m,hm⟩:∃m,D.list.length=m+1:=⟨D.list.length-1,aa⟩;have hml:m<D.list.length:=aa
 have hme:D.list[m]=e:=by
  exact Ky
 have hDl:nL aX D.list<=2^24:=by unfold cB at hDn;omega
 have hen:=gF (f:=aX) hDl hmem;have hlen24:=aY hDl;have ew:Go.IntKind.i64.wrap ((D.list.length:Int)-1)=(m:Int):=by rw[ae _ aa];omega
 have em:Go.IntKind.i64.wrap (m:Int)=m:=fh aa;simp[c5,hm,em,hme,Entry.row];refine⟨aa,λb20=>?_⟩
 refine aH eok (λi:Nat=>i<=h.subs.length) (λi=>⟨107,0,[(86,.v (.int .i64 i)),(85,.v (.int .i64 h.subs.length)),(84,.sl 930 K2 6 0 h.subs.length),(19,.p 304 b19 0),(20,.p 320 b20 0),(17,.v (.int .i64 rev)),(1,.v (.string name)),(12,.p 192 b12 0)],
  [(304, .vars b19 35 [.v (.bool false), .sl 929 K1 5 0 h.docs.length, .sl 930 K2 6 0 h.subs.length, .v (.int .i64 h.last)]),(192, .vars b12 35 [.v (.bool false), .nil, .nil, .v (.int .i64 0)]),
   (320,.vars b20 183 [.v (.int .i64 e.client),.v (.int .i64 e.seq),.ro (e.o.map Part.row)]),
   (929,.rows K1 5 ((h.docs.set k D).map Doc.row) true),(930,.rows K2 6 ((iK name e h.subs i).map Sub.row) true)]⟩) (λi=>h.subs.length-i) 0 ab (by simp[vT];rfl) (λi hi=>Ent.refl ?_)
 have htl:=sU name e h.subs i;by_cases hlt:i<h.subs.length
 ·have hti:=va (name:=name) (e:=e) hlt
  have hlt':i<(iK name e h.subs i).length:=aa;have hsk:=vU (name:=name) (e:=e) hlt;have hsu:=sT (name:=name) (e:=e) hlt;have hmd:=rN hlt' (eg h.subs[i].r e);have hmn:=cH (f:=dp) (ic hl).2 hlt;unfold dp at hmn;rw[hti]at hmd;obtain⟨s,hs⟩:∃s,h.subs[i]=s:=⟨_,rfl⟩;rw[hs]at hti hsk hsu hmd hmn;simp[hlt,htl,hti,Sub.row];intro b22;by_cases c6:s.doc=name
  rotate_left
  ·simp[c6]
   refine Ent.refl ⟨i+1,aa,aa,?_⟩;rw[<-hsk c6];simp;exact aQ aa
  have htell:gg name e s=⟨s.id,s.doc,eg s.r e⟩:=by unfold gg;rw[ao c6]
  rw[htell]at hsu;rw[hsu]at hmd;have hpc:=yG s.r aa e aa;generalize eg s.r e=R at hpc hmd;simp[c6];refine drw eok mix [0,1,2,3,4,5,7,8] [6,9] (.c 8 6 12 243 (.c 8 9 241 2 (.l 8 2) .s) .s) ?_;simp[hlt]
  try intros
  refine ag.pure (hpc) (by simp[Ring.row,Entry.row]) ?_;simp[Ring.res,hlt,htl]
  try intros
  refine Ent.refl ⟨i+1,aa,aa,?_⟩;rw[<-hmd];simp;exact aQ aa
 have hie:i=h.subs.length:=aa;subst hie;rw[yw];simp[hat,c2];exact rJ
end Go.Proofs.YtklblkobegcljaaGreat
