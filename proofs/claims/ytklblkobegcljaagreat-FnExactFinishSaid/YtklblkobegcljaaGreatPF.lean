import Derived.Test.YtklblkobegcljaaGreatPE
import Derived.Test.YtklblkobegcljaaGreatPD
import Derived.Test.YtklblkobegcljaaGreatPC
import Derived.Test.YtklblkobegcljaaGreatMG
namespace Go.Proofs.YtklblkobegcljaaGreat
open Go.AM
set_option maxRecDepth 20000
set_option maxHeartbeats 6400000
theorem tf{h:Hub}(h0:∀i,uf h.docs i){k:Nat}(hk:k<h.docs.length):0<=aD h.docs[k]/\aD h.docs[k]<=1000000000:=by
 have:=dt (h0 k hk).1;omega
theorem Ks{l:List Doc}{d:Doc}(h:0<l.length)(e:l[0]=d)(hd:bV d):uf l 0:=λ_=>⟨by rw[e];exact hd,λh=>absurd h aa⟩
theorem Ra{l:List Doc}{d y:Doc}{k:Nat}(h:k+1<l.length)(e:l[k+1]=d)(ey:l[k]=y)(hd:bV d)(hs:sLt y.name d.name):uf l (k+1):=λ_=>⟨by rw[e];exact hd,λ_=>by
 simp only[tD];rw[e,ey];exact hs⟩
theorem jQ{P:Nat->Prop}{i:Nat}(h:∀j,j<i->P j)(hi:P i):∀j,j<i+1->P j:=λj hj=>by
 by_cases e:j=i
 ·subst e;exact hi
 ·exact h j aa
theorem el(h:Hub)(hl:dk h<=2^30):ar Tryz.prog 75 [.agg h.row] (.one (.c (vb (bJ h)) 1)):=by
 refine pci aw Tryz.func75 (λw0 base=>?_);obtain⟨sh,docs,subs,last⟩:=h;have hl0:=hl;unfold dk at hl;simp only at hl;have hle:=aS (f:=cN) (B:=2^30) (l:=docs) aa;have hls:=aS (f:=dC) (B:=2^30) (l:=subs) aa;simp[Hub.row];intro b1;by_cases c1:docs.length<=5
 rotate_left
 ·exact M7
 have c1':¬5<(docs.length:Int):=aa;by_cases c2:subs.length<=6
 rotate_left
 ·exact Na
 have c2':¬6<(subs.length:Int):=aa;simp[c1',c2'];refine ag.pure (bZ last 0 1000000000) ab ?_;by_cases c3:0<=last/\last<=1000000000
 rotate_left
 ·exact Mn
 simp[c3]
 refine aV.intro eok (λi:Nat=>i<=docs.length/\∀j,j<i->uf docs j) (λi=>⟨119,0,[(27,.v (.int .i64 i)),(26,.v (.int .i64 docs.length)),(25,.ro (docs.map Doc.row)),(1,.p 16 b1 0)],
  [(16,.vars b1 35 [.v (.bool sh),.ro (docs.map Doc.row),.ro (subs.map Sub.row),.v (.int .i64 last)])]⟩) (λi=>docs.length-i) 0 ab ab (λi hi=>?_)
 by_cases hlt:i<docs.length
 ·have hm:=gA (f:=cN) (B:=2^30) (l:=docs) aa (ak hlt)
  have hno:¬uf docs i->¬bJ ⟨sh,docs,subs,last⟩:=λh h'=>h (h'.2.2.2.1 i)
  obtain⟨x,hx⟩:∃x,docs[i]=x:=⟨_,rfl⟩;rw[hx]at hm;simp[hlt,hx,Doc.row];intro b4;refine aY.quiet eok mix al ?_;simp;refine⟨_,_,jq x aa,bB,?_⟩;exact Ow
 have c4:∀i,uf docs i:=λi=>by
  exact L0
 simp[hlt]
 refine aV.intro eok (λi:Nat=>i<=subs.length/\∀j,j<i->zP docs last subs j) (λi=>⟨119,0,[(55,.v (.int .i64 i)),(54,.v (.int .i64 subs.length)),(53,.ro (subs.map Sub.row)),(1,.p 16 b1 0)],
  [(16,.vars b1 35 [.v (.bool sh),.ro (docs.map Doc.row),.ro (subs.map Sub.row),.v (.int .i64 last)])]⟩) (λi=>subs.length-i) 0 ab ab (λi hi=>?_)
 by_cases hlt:i<subs.length
 rotate_left
 ·exact Ny
 have hm:=gA (f:=dC) (B:=2^30) (l:=subs) aa (ak hlt);have hno:¬zP docs last subs i->¬bJ ⟨sh,docs,subs,last⟩:=λh h'=>h (h'.2.2.2.2 i)
 obtain⟨x,hx⟩:∃x,subs[i]=x:=⟨_,rfl⟩;rw[hx]at hm;unfold dC at hm;have ew:Go.IntKind.i64.wrap ((i:Int)+1)=((i+1:Nat):Int):=aR aa;simp[hlt,hx,Sub.row];intro b6;refine ag.pure (fm ⟨sh,docs,subs,last⟩ aa x.doc) bp ?_;simp;have noid:¬(1<=x.id/\x.id<=last)->¬bJ ⟨sh,docs,subs,last⟩:=λs2=>hno (λh=>s2 (by have:=(h hlt).1;rwa[hx]at this))
 have noring:¬cF x.r->¬bJ ⟨sh,docs,subs,last⟩:=λs2=>hno (λh=>s2 yO)
 have nodoc:bE docs x.doc = -1->¬bJ ⟨sh,docs,subs,last⟩:=λs2=>hno (λh=>by
  obtain⟨k,hk,e,-⟩:=(h hlt).2.2.2;rw[hx,s2]at e;omega)
 have noprev:∀_:0<i,¬subs[i-1].id<x.id->¬bJ ⟨sh,docs,subs,last⟩:=λh0 s2=>hno (λh=>s2 (by have:=(h hlt).2.2.1 h0;rwa[hx]at this))
 have hix:=jw (λd:Doc=>d.name=x.doc) docs
 change (∃k:Nat,∃h:k<docs.length,bE docs x.doc=k/\_)\/(bE docs x.doc = -1/\_)at hix
 have norev:∀k:Nat,∀hk:k<docs.length,bE docs x.doc=k->x.r.out=false->¬x.r.next+x.r.list.length=aD docs[k]+1->¬bJ ⟨sh,docs,subs,last⟩:=λk hk e ho s2=>hno (λh=>by
  obtain⟨k',hk',e',h'⟩:=(h hlt).2.2.2;simp only[hx]at e' h';have:k=k':=aa;subst this;exact s2 (h' ho))
 have fin:∀(s1:1<=x.id/\x.id<=last) (s2:cF x.r) (s3:∀_:0<i,subs[i-1].id<x.id) (k:Nat) (hk:k<docs.length) (e:bE docs x.doc=k) (s4:x.r.out=false->x.r.next+x.r.list.length=aD docs[k]+1),∀j,j<i+1->zP docs last subs j:=
  λs1 s2 s3 k hk e s4=>jQ hi.2 (λ_=>by simp only[hx];exact⟨s1,s2,s3,k,hk,e,s4⟩)
 generalize bE docs x.doc=K at hix nodoc norev fin⊢;refine aY.quiet eok mix al ?_;simp;refine⟨_,_,bZ x.id 1 last,ab,?_⟩;by_cases s1:1<=x.id/\x.id<=last
 rotate_left
 ·simp[az s1,az (noid s1)]
 simp[s1]
 cases i with
 | zero =>
   simp;refine⟨_,_,gb x.r aa,dQ,?_⟩;by_cases s2:cF x.r
   rotate_left
   ·simp[az s2,az (noring s2)]
   simp[s2];rcases hix with⟨k,hk,rfl,-⟩|⟨rfl,-⟩;rotate_left
   ·simp[az (nodoc rfl)]
   have hk0':¬(k:Int)<0:=aa;simp[hk0'];have sn:=s2.2.2.1;have sl:=s2.2.2.2.1;have sc:=s2.2.1;have hr:=tf (h:=⟨sh,docs,subs,last⟩) c4 hk;simp only at hr;have e1:Go.IntKind.i64.wrap (x.r.next+x.r.list.length)=x.r.next+x.r.list.length:=ae _ aa;have e2:Go.IntKind.i64.wrap (aD docs[k]+1)=aD docs[k]+1:=ae _ aa;refine aY.quiet eok mix al ?_;simp
   cases ho:x.r.out with
   | true =>
     exact NA
   | false =>
     simp[hk];refine⟨_,_,cP docs[k],bB,?_⟩;exact N2
 | succ m =>
   have hk1:m<subs.length:=aa;have ek:Go.IntKind.i64.wrap (m:Int)=m:=fE aa;have hm0:(0:Int)<(m:Int)+1:=aa;obtain⟨y,hy⟩:∃y,subs[m]=y:=⟨_,rfl⟩;simp[ek,hm0,hk1,hy,Sub.row];by_cases s3:y.id<x.id
   rotate_left
   ·exact MV
   have s3':¬x.id<=y.id:=aa;have hp:∀_:0<m+1,subs[m+1-1].id<x.id:=λ_=>yM
   simp[s3'];refine⟨_,_,gb x.r aa,dQ,?_⟩;by_cases s2:cF x.r
   rotate_left
   ·simp[az s2,az (noring s2)]
   simp[s2];rcases hix with⟨k,hk,rfl,-⟩|⟨rfl,-⟩;rotate_left
   ·simp[az (nodoc rfl)]
   have hk0':¬(k:Int)<0:=aa;simp[hk0'];have sn:=s2.2.2.1;have sl:=s2.2.2.2.1;have sc:=s2.2.1;have hr:=tf (h:=⟨sh,docs,subs,last⟩) c4 hk;simp only at hr;have e1:Go.IntKind.i64.wrap (x.r.next+x.r.list.length)=x.r.next+x.r.list.length:=ae _ aa;have e2:Go.IntKind.i64.wrap (aD docs[k]+1)=aD docs[k]+1:=ae _ aa;refine aY.quiet eok mix al ?_;simp
   cases ho:x.r.out with
   | true =>
     exact Lh
   | false =>
     simp[hk];refine⟨_,_,cP docs[k],bB,?_⟩;exact N1
theorem gd(h:Hub)(hl:dk h<=2^30):ar Tryz.prog 60 [.agg h.row] (.one (.c (vb (bJ h)) 1)):=by
 refine pci aw Tryz.func60 (λw0 base=>?_);obtain⟨sh,docs,subs,last⟩:=h;have hl0:=hl;unfold dk at hl;simp only at hl;have hle:=aS (f:=cN) (B:=2^30) (l:=docs) aa;have hls:=aS (f:=dC) (B:=2^30) (l:=subs) aa;simp[Hub.row];intro b1;by_cases c1:docs.length<=5
 rotate_left
 ·exact M7
 have c1':¬5<(docs.length:Int):=aa;by_cases c2:subs.length<=6
 rotate_left
 ·exact Na
 have c2':¬6<(subs.length:Int):=aa;simp[c1',c2'];refine ag.pure (cS last 0 1000000000) ab ?_;by_cases c3:0<=last/\last<=1000000000
 rotate_left
 ·exact Mn
 simp[c3]
 refine aV.intro eok (λi:Nat=>i<=docs.length/\∀j,j<i->uf docs j) (λi=>⟨119,0,[(27,.v (.int .i64 i)),(26,.v (.int .i64 docs.length)),(25,.ro (docs.map Doc.row)),(1,.p 16 b1 0)],
  [(16,.vars b1 35 [.v (.bool sh),.ro (docs.map Doc.row),.ro (subs.map Sub.row),.v (.int .i64 last)])]⟩) (λi=>docs.length-i) 0 ab ab (λi hi=>?_)
 by_cases hlt:i<docs.length
 ·have hm:=gA (f:=cN) (B:=2^30) (l:=docs) aa (ak hlt)
  have hno:¬uf docs i->¬bJ ⟨sh,docs,subs,last⟩:=λh h'=>h (h'.2.2.2.1 i)
  obtain⟨x,hx⟩:∃x,docs[i]=x:=⟨_,rfl⟩;rw[hx]at hm;simp[hlt,hx,Doc.row];intro b4;refine aY.quiet eok mix al ?_;simp;refine⟨_,_,ji x aa,bB,?_⟩;exact Ow
 have c4:∀i,uf docs i:=λi=>by
  exact L0
 simp[hlt]
 refine aV.intro eok (λi:Nat=>i<=subs.length/\∀j,j<i->zP docs last subs j) (λi=>⟨119,0,[(55,.v (.int .i64 i)),(54,.v (.int .i64 subs.length)),(53,.ro (subs.map Sub.row)),(1,.p 16 b1 0)],
  [(16,.vars b1 35 [.v (.bool sh),.ro (docs.map Doc.row),.ro (subs.map Sub.row),.v (.int .i64 last)])]⟩) (λi=>subs.length-i) 0 ab ab (λi hi=>?_)
 by_cases hlt:i<subs.length
 rotate_left
 ·exact Ny
 have hm:=gA (f:=dC) (B:=2^30) (l:=subs) aa (ak hlt);have hno:¬zP docs last subs i->¬bJ ⟨sh,docs,subs,last⟩:=λh h'=>h (h'.2.2.2.2 i)
 obtain⟨x,hx⟩:∃x,subs[i]=x:=⟨_,rfl⟩;rw[hx]at hm;unfold dC at hm;have ew:Go.IntKind.i64.wrap ((i:Int)+1)=((i+1:Nat):Int):=aR aa;simp[hlt,hx,Sub.row];intro b6;refine ag.pure (fY ⟨sh,docs,subs,last⟩ aa x.doc) bp ?_;simp;have noid:¬(1<=x.id/\x.id<=last)->¬bJ ⟨sh,docs,subs,last⟩:=λs2=>hno (λh=>s2 (by have:=(h hlt).1;rwa[hx]at this))
 have noring:¬cF x.r->¬bJ ⟨sh,docs,subs,last⟩:=λs2=>hno (λh=>s2 yO)
 have nodoc:bE docs x.doc = -1->¬bJ ⟨sh,docs,subs,last⟩:=λs2=>hno (λh=>by
  obtain⟨k,hk,e,-⟩:=(h hlt).2.2.2;rw[hx,s2]at e;omega)
 have noprev:∀_:0<i,¬subs[i-1].id<x.id->¬bJ ⟨sh,docs,subs,last⟩:=λh0 s2=>hno (λh=>s2 (by have:=(h hlt).2.2.1 h0;rwa[hx]at this))
 have hix:=jw (λd:Doc=>d.name=x.doc) docs
 change (∃k:Nat,∃h:k<docs.length,bE docs x.doc=k/\_)\/(bE docs x.doc = -1/\_)at hix
 have norev:∀k:Nat,∀hk:k<docs.length,bE docs x.doc=k->x.r.out=false->¬x.r.next+x.r.list.length=aD docs[k]+1->¬bJ ⟨sh,docs,subs,last⟩:=λk hk e ho s2=>hno (λh=>by
  obtain⟨k',hk',e',h'⟩:=(h hlt).2.2.2;simp only[hx]at e' h';have:k=k':=aa;subst this;exact s2 (h' ho))
 have fin:∀(s1:1<=x.id/\x.id<=last) (s2:cF x.r) (s3:∀_:0<i,subs[i-1].id<x.id) (k:Nat) (hk:k<docs.length) (e:bE docs x.doc=k) (s4:x.r.out=false->x.r.next+x.r.list.length=aD docs[k]+1),∀j,j<i+1->zP docs last subs j:=
  λs1 s2 s3 k hk e s4=>jQ hi.2 (λ_=>by simp only[hx];exact⟨s1,s2,s3,k,hk,e,s4⟩)
 generalize bE docs x.doc=K at hix nodoc norev fin⊢;refine aY.quiet eok mix al ?_;simp;refine⟨_,_,cS x.id 1 last,ab,?_⟩;by_cases s1:1<=x.id/\x.id<=last
 rotate_left
 ·simp[az s1,az (noid s1)]
 simp[s1];refine⟨_,_,k9 x.r aa,dQ,?_⟩;by_cases s2:cF x.r
 rotate_left
 ·simp[az s2,az (noring s2)]
 simp[s2];rcases hix with⟨k,hk,rfl,-⟩|⟨rfl,-⟩;rotate_left
 ·simp[az (nodoc rfl)]
 have hk0':¬(k:Int)<0:=aa;simp[hk0']
 cases i with
 | zero =>
   simp;have sn:=s2.2.2.1;have sl:=s2.2.2.2.1;have sc:=s2.2.1;have hr:=tf (h:=⟨sh,docs,subs,last⟩) c4 hk;simp only at hr;have e1:Go.IntKind.i64.wrap (x.r.next+x.r.list.length)=x.r.next+x.r.list.length:=ae _ aa;have e2:Go.IntKind.i64.wrap (aD docs[k]+1)=aD docs[k]+1:=ae _ aa;refine aY.quiet eok mix al ?_;simp
   cases ho:x.r.out with
   | true =>
     exact NA
   | false =>
     simp[hk];refine⟨_,_,cO docs[k],bB,?_⟩;exact N2
 | succ m =>
   have hk1:m<subs.length:=aa;have ek:Go.IntKind.i64.wrap (m:Int)=m:=fE aa;have hm0:(0:Int)<(m:Int)+1:=aa;obtain⟨y,hy⟩:∃y,subs[m]=y:=⟨_,rfl⟩;simp[ek,hm0,hk1,hy,Sub.row];by_cases s3:y.id<x.id
   rotate_left
   ·exact MV
   have s3':¬x.id<=y.id:=aa;have hp:∀_:0<m+1,subs[m+1-1].id<x.id:=λ_=>yM
   simp[s3'];have sn:=s2.2.2.1;have sl:=s2.2.2.2.1;have sc:=s2.2.1;have hr:=tf (h:=⟨sh,docs,subs,last⟩) c4 hk;simp only at hr;have e1:Go.IntKind.i64.wrap (x.r.next+x.r.list.length)=x.r.next+x.r.list.length:=ae _ aa;have e2:Go.IntKind.i64.wrap (aD docs[k]+1)=aD docs[k]+1:=ae _ aa;refine aY.quiet eok mix al ?_;simp
   cases ho:x.r.out with
   | true =>
     exact Lh
   | false =>
     simp[hk];refine⟨_,_,cO docs[k],bB,?_⟩;exact N1
set_option maxHeartbeats 3200000
theorem nI(r:Ring)(hl:dh r<=2^30):ar Tryz.prog 137 [.agg r.row] (.one (.agg r.res)):=by
 refine pci aw Tryz.func137 (λw0 base=>?_);unfold dh at hl;simp[Ring.row];intro b1 b2;refine ag.pure (jW r.list hl) ab ?_;simp[Ring.res]
theorem wJ(r:Ring)(hl:dh r<=2^30):ar Tryz.prog 168 [.agg r.row] (.one (.agg r.res)):=by
 refine pci aw Tryz.func168 (λw0 base=>?_);unfold dh at hl;simp[Ring.row];intro b1 b2;refine drw eok mix [0,1,2,3,4,5,6,7] [8,9,10] (.c 8 8 1 254 (.c 8 9 84 170 (.c 8 10 170 0 (.l 8 0) .s) .s) .s) ?_;simp
 try intros
 refine ag.pure (gM r.list hl) ab ?_;simp
 try intros
 simp[Ring.res]
theorem TG(s:Sub)(hl:dC s<=2^30):ar Tryz.prog 116 [.agg s.row] (.one (.agg s.res)):=by
 refine pci aw Tryz.func116 (λw0 base=>?_);unfold dC at hl;simp[Sub.row];intro b1 b2;refine drw eok mix [0,1,2,3,4,5] [6,7,8] (.c 6 6 1 62 (.c 6 7 20 42 (.c 6 8 42 0 (.l 6 0) .s) .s) .s) ?_;simp
 try intros
 refine ag.pure (wJ s.r aa) dQ ?_;simp[Ring.res]
 try intros
 simp[Sub.res]
theorem eI(h:Hub)(hl:dk h<=2^30):ar Tryz.prog 81 [.agg h.row] (.one (.agg h.res)):=by
 refine pci aw Tryz.func81 (λw0 base=>?_);obtain⟨sh,docs,subs,last⟩:=h;unfold dk at hl;simp only at hl;have hle:=aS (f:=cN) (B:=2^30) (l:=docs) aa;have hls:=aS (f:=dC) (B:=2^30) (l:=subs) aa;simp[Hub.row];intro b1 b2 b3
 refine aE eok (λx:Nat×Hd=>x.1<=docs.length) (λx=>⟨47,0,[(16,.v (.int .i64 x.1)),(15,.v (.int .i64 docs.length)),(14,.ro (docs.map Doc.row)),(1,.p 16 b1 0),(2,.p 32 b2 0),(3,.p 48 b3 0)],
  [(48, .vars b3 35 [.v (.bool sh), .sl 5000 x.2 5 0 x.1, .nil, .v (.int .i64 last)]),(32, .vars b2 35 [.v (.bool false), .nil, .nil, .v (.int .i64 0)]),
   (16,.vars b1 35 [.v (.bool sh),.ro (docs.map Doc.row),.ro (subs.map Sub.row),.v (.int .i64 last)]),(5000,.rows x.2 5 ((docs.take x.1).map Doc.row) true)]⟩) (λx=>docs.length-x.1) (0,none) ab ab (λx hi=>Ent.refl ?_)
 obtain⟨i,H⟩:=x;simp only at hi⊢;by_cases hlt:i<docs.length
 ·have hm:=gA (f:=cN) (B:=2^30) (l:=docs) aa (ak hlt)
  have e1:min i docs.length=i:=aa;simp[hlt,Doc.row];intro b5;refine drw eok mix [0,1,2,6] [3,4,5,7] (.c 4 3 2 13 (.c 4 4 0 13 (.c 4 5 4 9 (.c 4 7 9 0 (.l 4 0) .s) .s) .s) .s) ?_;simp
  try intros
  refine ag.pure (xb docs[i] hm) bB ?_;exact Nz
 have hm:i=docs.length:=aa;subst hm;simp
 refine aE eok (λx:Nat×Hd=>x.1<=subs.length) (λx=>⟨47,0,[(31,.v (.int .i64 x.1)),(30,.v (.int .i64 subs.length)),(29,.ro (subs.map Sub.row)),(2,.p 32 b2 0),(3,.p 48 b3 0)],
  [(48, .vars b3 35 [.v (.bool sh), .sl 5000 H 5 0 docs.length, .sl 5001 x.2 6 0 x.1, .v (.int .i64 last)]),(32, .vars b2 35 [.v (.bool false), .nil, .nil, .v (.int .i64 0)]),
   (5000,.rows H 5 (docs.map Doc.row) true),(5001,.rows x.2 6 ((subs.take x.1).map Sub.row) true)]⟩) (λx=>subs.length-x.1) (0,none) ab ab (λx hi=>Ent.refl ?_)
 obtain⟨i,H'⟩:=x;simp only at hi⊢;by_cases hlt:i<subs.length
 ·have hm:=gA (f:=dC) (B:=2^30) (l:=subs) aa (ak hlt)
  unfold dC at hm;have e1:min i subs.length=i:=aa;simp[hlt,Sub.row];intro b7;refine ag.pure (nI subs[i].r aa) dQ ?_;simp[Ring.res];intro H7;simp[e1];intro b8;exact Nj
 have hm:i=subs.length:=aa;subst hm;simp[Hub.res]
theorem gD(h:Hub)(hl:dk h<=2^30):ar Tryz.prog 64 [.agg h.row] (.one (.agg h.res)):=by
 refine pci aw Tryz.func64 (λw0 base=>?_);obtain⟨sh,docs,subs,last⟩:=h;unfold dk at hl;simp only at hl;have hle:=aS (f:=cN) (B:=2^30) (l:=docs) aa;have hls:=aS (f:=dC) (B:=2^30) (l:=subs) aa;simp[Hub.row];intro b1 b2 b3
 refine aE eok (λx:Nat×Hd=>x.1<=docs.length) (λx=>⟨44,0,[(16,.v (.int .i64 x.1)),(15,.v (.int .i64 docs.length)),(14,.ro (docs.map Doc.row)),(1,.p 16 b1 0),(2,.p 32 b2 0),(3,.p 48 b3 0)],
  [(48, .vars b3 35 [.v (.bool sh), .sl 5000 x.2 5 0 x.1, .nil, .v (.int .i64 last)]),(32, .vars b2 35 [.v (.bool false), .nil, .nil, .v (.int .i64 0)]),
   (16,.vars b1 35 [.v (.bool sh),.ro (docs.map Doc.row),.ro (subs.map Sub.row),.v (.int .i64 last)]),(5000,.rows x.2 5 ((docs.take x.1).map Doc.row) true)]⟩) (λx=>docs.length-x.1) (0,none) ab ab (λx hi=>Ent.refl ?_)
 obtain⟨i,H⟩:=x;simp only at hi⊢;by_cases hlt:i<docs.length
 ·have hm:=gA (f:=cN) (B:=2^30) (l:=docs) aa (ak hlt)
  have e1:min i docs.length=i:=aa;simp[hlt,Doc.row];intro b5;refine drw eok mix [0,1,2,6] [3,4,5,7] (.c 4 3 2 13 (.c 4 4 0 13 (.c 4 5 4 9 (.c 4 7 9 0 (.l 4 0) .s) .s) .s) .s) ?_;simp
  try intros
  refine ag.pure (wK docs[i] hm) bB ?_;exact Nz
 have hm:i=docs.length:=aa;subst hm;simp
 refine aE eok (λx:Nat×Hd=>x.1<=subs.length) (λx=>⟨44,0,[(31,.v (.int .i64 x.1)),(30,.v (.int .i64 subs.length)),(29,.ro (subs.map Sub.row)),(2,.p 32 b2 0),(3,.p 48 b3 0)],
  [(48, .vars b3 35 [.v (.bool sh), .sl 5000 H 5 0 docs.length, .sl 5001 x.2 6 0 x.1, .v (.int .i64 last)]),(32, .vars b2 35 [.v (.bool false), .nil, .nil, .v (.int .i64 0)]),
   (5000,.rows H 5 (docs.map Doc.row) true),(5001,.rows x.2 6 ((subs.take x.1).map Sub.row) true)]⟩) (λx=>subs.length-x.1) (0,none) ab ab (λx hi=>Ent.refl ?_)
 obtain⟨i,H'⟩:=x;simp only at hi⊢;by_cases hlt:i<subs.length
 ·have hm:=gA (f:=dC) (B:=2^30) (l:=subs) aa (ak hlt)
  have e1:min i subs.length=i:=aa;simp[hlt,Sub.row];intro b7;refine drw eok mix [0,1,2,6] [3,4,5,7] (.c 4 3 2 13 (.c 4 4 0 13 (.c 4 5 4 9 (.c 4 7 9 0 (.l 4 0) .s) .s) .s) .s) ?_;simp
  try intros
  refine ag.pure (TG subs[i] hm) (by simp[Sub.row]) ?_;simp[Sub.res]
  try intros
  simp[e1];exact Nj
 have hm:i=subs.length:=aa;subst hm;simp[Hub.res]
theorem xa{l:List Entry}{k:Nat}(_h:k<=l.length):cut (l.map Entry.row) 0 k=(l.take k).map Entry.row:=by
 rw[fu,jA,dU]
theorem UG{l:List Entry}{row:List CD}(h:row∈l.map Entry.row):row.length=3:=by
 exact ED
theorem tO(room rev:Int)(hr : -4611686018427387904<=rev/\rev<=4611686018427387904):ar Tryz.prog 175 [.c (vi room),.c (vi rev)] (.tup [.agg (fU room rev).1.res,.c (.v (.bool (fU room rev).2)) 1]):=by
 refine pci aw Tryz.func175 (λw0 base=>?_);simp;intro b4;by_cases c1:1000000000<rev
 ·have h:¬cF (eT room rev):=λh=>by have:=h.2.2.1;simp[eT]at this;omega
  simp[c1,xP h,Ring.res,Ring.zero]
 have ew:Go.IntKind.i64.wrap (rev+1)=rev+1:=ae _ aa;simp[c1,ew];intro b6;refine ag.pure (k9 (eT room rev) (by rw[rm];omega)) (by simp[eT,Ring.row]) ?_;exact NP
theorem zR(r:Ring)(hl:dh r<=2^30)(e:Entry)(he:aZ e<=2^30):ar Tryz.prog 172 [.agg r.row,.agg e.row] (.one (.agg (eF r e).res)):=by
 refine pci aw Tryz.func172 (λw0 base=>?_);have hno:=@vQ r e;have hfull:=@rR r e;have hroom:=@rQ r e;have hle:=aS (f:=aZ) (B:=2^30) (l:=r.list) uX;simp[Ring.row,Entry.row];intro b2 b3 b4;refine ag.pure (wJ r hl) dQ ?_;simp[Ring.res];intro H b5;refine ag.pure (k9 r aa) dQ ?_;by_cases c1:cF r
 rotate_left
 ·exact sK
 simp[c1];refine ag.pure (oQ e aa) fB ?_;by_cases c2:dm e
 rotate_left
 ·simp[az c2,hno (λh=>c2 h.2.1)]
 simp[c2]
 cases c3:r.out with
 |true=>simp[hno (λh=>by rw[c3]at h;exact absurd h.2.2 ab),c3]
 |false=>
 simp;by_cases c4:(r.list.length:Int)=r.cap
 ·have e1:=hfull ⟨c1,c2,c3⟩ c4
  simp[c4,e1]
 have e1:=hroom ⟨c1,c2,c3⟩ c4;simp[c4];refine drw eok mix [0,1,2,6] [3,4,5,7] (.c 4 3 2 13 (.c 4 4 0 13 (.c 4 5 4 9 (.c 4 7 9 0 (.l 4 0) .s) .s) .s) .s) ?_;simp
 try intros
 refine ag.pure (AB e he) fB ?_;simp[Entry.res];exact MK
theorem zS(r:Ring)(hl:dh r<=2^30)(n:Int):ar Tryz.prog 177 [.agg r.row,.c (vi n)] (.tup [.agg (cG r n).1.res,.c (.s ((cG r n).2.1.map Entry.row)) 3,.c (vi (cG r n).2.2) 1]):=by
 refine pci aw Tryz.func177 (λw0 base=>?_);have hno:=@vR r n;have hout:=@o7 r n;have hyes:=@l9 r n;have hnl:nL aZ r.list<=2^30:=uX;have hle:=aS hnl;simp[Ring.row];intro b2 b4;refine ag.pure (wJ r hl) dQ ?_;simp[Ring.res];intro H b7;refine ag.pure (k9 r aa) dQ ?_;by_cases c1:cF r
 rotate_left
 ·exact sK
 simp[c1];by_cases c2:1<=n
 rotate_left
 ·have c2':n<1:=by omega
  simp[c2',hno (λh=>c2 h.2)]
 have c2':¬n<1:=aa;simp[c2'];have hnx:=c1.2.2.1
 cases c3:r.out with
 |true=>simp[hout ⟨c1,c2⟩ c3,c3]
 |false=>
 simp
 have hdrop:∀k,nL aZ (r.list.drop k)<=2^30:=λk=>by
  have h:=iS (f:=aZ) (r.list.take k) (r.list.drop k);rw[dV]at h;omega
 by_cases c4:(r.list.length:Int)<n
 ·have e1:=hyes ⟨c1,c2⟩ c3 (k:=r.list.length) aa
  have ew:Go.IntKind.i64.wrap (r.next+(r.list.length:Int))=r.next+r.list.length:=ae _ aa;have cd:=lR (l:=r.list) (k:=r.list.length) (aH _);have ct:=xa (l:=r.list) (k:=r.list.length) (aH _);rw[bm (aH _)]at cd e1;simp at cd;simp[c4];refine ag.pure (gM [] (by simp[nL,cK])) (by simp[cd]) ?_;simp[ew];intro H2;refine drw eok mix [0,1,2,3,4,8] [5,6,7] (.c 6 5 2 61 (.c 6 6 32 29 (.c 6 7 28 1 (.l 6 1) .s) .s) .s) ?_;simp
  try intros
  refine ag.pure (gM r.list hnl) ab ?_;simp
  try intros
  rw[e1];simp[c3]
 obtain⟨k,rfl⟩:∃k:Nat,n=k:=⟨n.toNat,aa⟩;have hk:k<=r.list.length:=aa;have e1:=hyes ⟨c1,c2⟩ c3 (k:=k) aN;have ew:Go.IntKind.i64.wrap (r.next+(k:Int))=r.next+k:=ae _ aa;have cd:=lR hk;have ct:=xa hk;simp[c4,hk];refine ag.pure (gM (r.list.drop k) (hdrop k)) (by simp[cd]) ?_;simp[ew];intro H2;refine drw eok mix [0,1,2,3,4,8] [5,6,7] (.c 6 5 2 61 (.c 6 6 32 29 (.c 6 7 28 1 (.l 6 1) .s) .s) .s) ?_;simp[hk]
 try intros
 refine ag.pure (gM (r.list.take k) (FD hnl)) (by simp[ct]) ?_;simp[hk]
 try intros
 rw[e1];simp[c3];exact⟨λrow h=>UG (a8 h),λrow h=>UG (br h)⟩
theorem wx(r:Ring)(hl:dh r<=2^30)(rev:Int)(hr : -4611686018427387904<=rev/\rev<=4611686018427387904):ar Tryz.prog 178 [.agg r.row,.c (vi rev)] (.tup [.agg (di r rev).1.res,.c (.v (.bool (di r rev).2)) 1]):=by
 refine pci aw Tryz.func178 (λw0 base=>?_);have hno:=@rP r rev;have hyes:=@qO r rev;simp[Ring.row];intro b2 b4;refine ag.pure (k9 r aa) dQ ?_;by_cases c1:cF r
 rotate_left
 ·simp[az c1,hno c1,Ring.res,Ring.zero]
 simp[c1];have hc:=tO r.cap rev hr;exact Nc
set_option maxHeartbeats 1600000
theorem F5(name:ByteArray)(t:List Int)(h1:name.size<=2^28)(h2:t.length<=2^28):ar Tryz.prog 196 [.c (.v (.string name)),.c (.s (t.map aG))] (.tup [.agg (mb name t).1.res,.c (.v (.bool (mb name t).2)) 1]):=by
 refine pci aw Tryz.func196 (λw0 base=>?_);have hn:=UH name t;simp;intro b4;refine ag.pure (jy t aa) ab ?_;simp;intro H9 b6;refine ag.pure (jq (ib name t) aa) (by simp[Doc.row,ib]) ?_;exact N0
theorem Fo(name:ByteArray)(t:List Int)(h1:name.size<=2^28)(h2:t.length<=2^28):ar Tryz.prog 170 [.c (.v (.string name)),.c (.s (t.map aG))] (.tup [.agg (mb name t).1.res,.c (.v (.bool (mb name t).2)) 1]):=by
 refine pci aw Tryz.func170 (λw0 base=>?_);have hn:=UH name t;simp;intro b4 b8;refine⟨aa,λH9 b6=>?_⟩;refine ag.pure (ji (ib name t) aa) (by simp[Doc.row,ib]) ?_;exact N0
set_option maxHeartbeats 6400000
theorem iJ{h:Hub}{B:Nat}(hl:dk h<=B):nL cN h.docs<=B/\nL dC h.subs<=B:=by unfold dk at hl;omega
theorem ta{l:List Sub}{k:Nat}(hk:k<l.length)(r:Ring):(l.map Sub.row).modify k (λrow=>iW row 2 [.v (.int .i64 r.cap),.v (.int .i64 r.next),.v (.bool r.out),.s (r.list.map Entry.row)])=(l.set k ⟨l[k].id,l[k].doc,r⟩).map Sub.row:=by
 rw[yj];refine eA ab (λj h1 h2=>?_);rw[List.getElem_modify,jz]
 split
 ·rename_i e
  subst e;simp[Sub.row]
 ·simp
theorem vp(h:Hub)(hl:dk h<=2^40)(id:Int):ar Tryz.prog 176 [.agg h.row,.c (vi id)] (.one (.c (vi (fJ h.subs id)) 1)):=by
 refine pci aw Tryz.func176 (λw0 base=>?_);obtain⟨sh,docs,l,last⟩:=h;have hle:=aS (iJ hl).2;simp only at hle;simp[Hub.row];intro b2;refine aV.intro eok (λi:Nat=>i<=l.length/\∀j,j<i->∀hj:j<l.length,¬l[j].id=id) (λi=>⟨21,0,[(10,.v (.int .i64 i)),(9,.v (.int .i64 l.length)),(8,.ro (l.map Sub.row)),(1,.v (.int .i64 id))],[]⟩) (λi=>l.length-i) 0 ab ab (λi hi=>?_);by_cases hlt:i<l.length
 ·simp[hlt,Sub.row]
  exact Lk
 ·exact L1
theorem BK(h:Hub)(hl:dk h<=2^30):ar Tryz.prog 125 [.agg h.row] (.tup [.agg (eG h).1.res,.c (vi (eG h).2) 1]):=by
 refine pci aw Tryz.func125 (λw0 base=>?_);simp[Hub.row];intro b1 b2;refine ag.pure (gd h hl) bp ?_;by_cases c1:bJ h
 rotate_left
 ·simp[az c1,xR c1,Hub.res,Hub.zero]
 simp[c1]
 cases c2:h.shut with
 |true=>simp[tZ c1 c2,Hub.res,Hub.zero]
 |false=>
 have e:=vU c1 su;simp;refine ag.pure (gD h hl) n8 ?_;simp[Hub.res,e]
theorem uw(h:Hub)(hl:dk h<=2^28)(name:ByteArray)(room:Int):ar Tryz.prog 122 [.agg h.row,.c (.v (.string name)),.c (vi room)]
 (.tup [.agg (bC h name room).1.res,.c (vi (bC h name room).2.1) 1,.c (vi (bC h name room).2.2) 1]):=by
 refine pci aw Tryz.func122 (λw0 base=>?_);have hls:=aS (iJ hl).2;simp[Hub.row];intro b3 b6;refine ag.pure (fY h aa name) bp ?_;simp;refine ag.pure (gd h aa) bp ?_;by_cases c1:bJ h
 rotate_left
 ·simp[az c1,jK (λh=>c1 h.1),Hub.res,Hub.zero]
 simp[c1];refine ag.pure (cS room 1 6) ab ?_;by_cases c2:1<=room/\room<=6
 rotate_left
 ·simp[az c2,jK (λh=>c2 h.2),Hub.res,Hub.zero]
 simp[c2]
 cases c3:h.shut with
 |true=>simp[nF ⟨c1,c2⟩ c3,Hub.res,Hub.zero]
 |false=>
 simp;rcases fo h.docs name with⟨k,hk,e,-⟩|e;rotate_left
 ·simp[e,nG ⟨c1,c2⟩ n7 e,Hub.res,Hub.zero]
 have hk0:¬(k:Int)<0:=aa;have hat:=pH ⟨c1,c2⟩ n7 hk e;simp[e,hk0];have hlast:=c1.2.2.1;by_cases c4:h.subs.length=6
 ·have c4':(h.subs.length:Int)=6:=by omega
  rw[an (.inl c4)]at hat;simp[c4',hat,Hub.res,Hub.zero]
 have c4':¬(h.subs.length:Int)=6:=aa;simp[c4'];by_cases c5:h.last=1000000000
 ·rw[an (.inr c5)]at hat
  simp[c5,hat,Hub.res,Hub.zero]
 rw[aq (λh=>h.elim c4 c5)]at hat;have ew:Go.IntKind.i64.wrap (h.last+1)=h.last+1:=ae _ aa;have hh:=dt (jd c1 hk);obtain⟨d,hd⟩:∃d,h.docs[k]=d:=⟨_,rfl⟩;rw[hd]at hat hh;simp[c5,hk,hd,Doc.row];refine ag.pure (cO d) bB ?_;simp;have hc:=tO room (aD d) aa;generalize fU room (aD d)=R at hc hat;obtain⟨⟨cp,nx,ot,ls⟩,ok⟩:=R;refine ag.pure hc ab ?_;simp[Ring.res];intro H10 b10;refine ag.pure (gD h aa) (by simp[Hub.row,c3]) ?_;simp[Hub.res,ew,c3];intro H1 H2 b12 b13;refine⟨aa,λH=>?_⟩;refine drw eok mix [0,1,2,4,5] [3] (.c 5 3 16 15 (.l 5 15) .s) ?_;simp
 try intros
 rw[hat];simp[c3,Sub.row]
 try (rintro row (⟨a,-,rfl⟩|rfl)<;>rfl)
theorem BM(h:Hub)(hl:dk h<=2^28)(id n:Int):ar Tryz.prog 123 [.agg h.row,.c (vi id),.c (vi n)]
 (.tup [.agg (dr h id n).1.res,.c (.s ((dr h id n).2.1.map Entry.row)) 3,.c (vi (dr h id n).2.2) 1]):=by
 refine pci aw Tryz.func123 (λw0 base=>?_);have hls:=aS (iJ hl).2;simp[Hub.row];intro b3 b6;refine ag.pure (vp h aa id) bp ?_;simp;refine ag.pure (gd h aa) bp ?_;by_cases c1:bJ h
 rotate_left
 ·simp[az c1,mr (λh=>c1 h.1),Hub.res,Hub.zero]
 simp[c1];by_cases c2:1<=n
 rotate_left
 ·have c2':n<1:=by omega
  simp[c2',mr (λh=>c2 h.2),Hub.res,Hub.zero]
 have c2':¬n<1:=aa;simp[c2'];rcases kY h.subs id with⟨k,hk,e,-⟩|e;rotate_left
 ·simp[e,o8 ⟨c1,c2⟩ e,Hub.res,Hub.zero]
 have hk0:¬(k:Int)<0:=aa;have hat:=oJ ⟨c1,c2⟩ hk e;have hm:=cT (f:=dC) (iJ hl).2 hk;unfold dC at hm;have hmod:=ta hk;obtain⟨s,hs⟩:∃s,h.subs[k]=s:=⟨_,rfl⟩;rw[hs]at hat hm hmod;have hc:=zS s.r aa n;generalize cG s.r n=R at hc hat;obtain⟨r,list,code⟩:=R;simp only at hat hc;simp[e,hk0,hk,hs,Sub.row];refine ag.pure hc dQ ?_;simp[Ring.res];intro H10 H11 b10;by_cases c3:code=0
 rotate_left
 ·rw[aq c3]at hat
  simp[c3,hat,Hub.res,Hub.zero]
 rw[an c3]at hat;simp[c3];refine ag.pure (gD h aa) bp ?_;simp[Hub.res,hk]
 try intros
 rw[hat];simp[hmod r];exact wB
theorem yp(h:Hub)(hl:dk h<=2^28)(id:Int):ar Tryz.prog 124 [.agg h.row,.c (vi id)]
 (.tup [.agg (bU h id).1.res,.c (.s ((bU h id).2.1.map aG)) 1,.c (vi (bU h id).2.2.1) 1,.c (vi (bU h id).2.2.2) 1]):=by
 refine pci aw Tryz.func124 (λw0 base=>?_);have hls:=aS (iJ hl).2;simp[Hub.row];intro b2 b4;refine ag.pure (vp h aa id) bp ?_;simp;refine ag.pure (gd h aa) bp ?_;by_cases c1:bJ h
 rotate_left
 ·simp[az c1,ua c1,Hub.res,Hub.zero]
 simp[c1];rcases kY h.subs id with⟨k,hk,e,-⟩|e;rotate_left
 ·simp[e,qR c1 e,Hub.res,Hub.zero]
 have hk0:¬(k:Int)<0:=aa;obtain⟨hro,j,hj,ej⟩:=td c1 hk;have hat:=ub c1 hk e hj ej;have hm:=cT (f:=dC) (iJ hl).2 hk;have hdn:=cT (f:=cN) (iJ hl).1 hj;have hh:=dt (jd c1 hj);unfold dC at hm;have hmod:=ta hk;obtain⟨s,hs⟩:∃s,h.subs[k]=s:=⟨_,rfl⟩;obtain⟨d,hd⟩:∃d,h.docs[j]=d:=⟨_,rfl⟩;rw[hs]at hat hm hmod ej;rw[hd]at hat hdn hh;have hc:=wx s.r aa (aD d) aa;generalize di s.r (aD d)=R at hc hat;obtain⟨r,ok⟩:=R;simp only at hat hc;simp[e,hk0];refine dS (λx:Nat=>[(9,.p 144 x 0)]) (λx=>[(144,.vars x 119 [.v (.string d.name),.v (.int .i64 d.fr),.ro (d.text.map aG),.ro (d.list.map Entry.row),.ro (d.seen.map Seen.row)])]) [1,2,4,5,6,7,8] ?_ ?_
 ·refine drw eok mix [0,1,2,3,4,5,6,7,8] [9,10,11,12,13] (.c 9 9 65 446 (.c 9 10 128 318 (.c 9 11 0 318 (.c 9 12 0 318 (.c 9 13 318 0 (.l 9 0) .s) .s) (.c 9 12 0 318 (.c 9 11 0 318 (.c 9 13 318 0 (.l 9 0) .s) .s) .s)) (.c 9 12 0 446 (.c 9 10 128 318 (.c 9 11 0 318 (.c 9 13 318 0 (.l 9 0) .s) .s) .s) .s)) (.c 9 12 0 511 (.c 9 9 65 446 (.c 9 10 128 318 (.c 9 11 0 318 (.c 9 13 318 0 (.l 9 0) .s) .s) .s) .s) .s)) ?_
  simp[hk,hs,Sub.row]
  try intros
  repeat' first
   |(refine ag.pure (fY h aa s.doc) bp ?_;simp[hj,hd,Doc.row,ej];try intros)
   |(rw[Trc];refine⟨?_,?_⟩<;>(try simp[hk,hs,hj,hd,Sub.row,Doc.row])<;>try intros)
 rintro b9
 simp;refine ag.pure (gD h aa) bp ?_;simp[Hub.res];intro H1 H2 b10;refine drw eok mix [0,1,2,3,4,5,6,7,8,9,15,16] [10,11,12,13,14,17] (.c 12 10 4 4091 (.c 12 11 8 4083 (.c 12 12 0 4083 (.c 12 13 0 4083 (.c 12 14 0 4083 (.c 12 17 4081 2 (.l 12 2) .s) .s) .s) .s) .s) .s) ?_;simp[hk,hs,Sub.row]
 try intros
 refine ag.pure (cO d) bB ?_;simp
 try intros
 refine ag.pure (hc) dQ ?_;simp[Ring.res,hk]
 try intros
 refine drw eok mix [0,1,3,8] [2,4,5,6,7] (.c 4 2 4 11 (.c 4 4 2 9 (.c 4 5 8 1 (.c 4 6 0 1 (.c 4 7 0 1 (.l 4 1) .s) .s) .s) .s) .s) ?_;simp
 try intros
 refine ag.pure (nu d aa) bB ?_;simp
 try intros
 refine ag.pure (cO d) bB ?_;simp
 try intros
 rw[hat];simp[hmod r];exact wB
theorem Jn(h:Hub)(hl:dk h<=2^28)(_c1:bJ h)(c:Call):ar Tryz.prog 121 [.agg h.row,.agg c.row] (.one (.agg (oH h c).res)):=by
 refine pci aw Tryz.func121 (λw0 base=>?_);simp[Hub.row,Call.row];intro b2 b3 b4;refine ag.pure (fY h aa c.doc) bp ?_;simp
 cases c3:h.shut with
 |true=>simp[AX c3,Answer.res,eV]
 |false=>
 simp;rcases fo h.docs c.doc with⟨k,hk,e,-⟩|e;rotate_left
 ·simp[e,AY n7 e,Answer.res,eV]
 have hk0:¬(k:Int)<0:=aa;have hat:=IG (c:=c) n7 hk e;have hdn:=cT (f:=cN) (iJ hl).1 hk;obtain⟨d,hd⟩:∃d,h.docs[k]=d:=⟨_,rfl⟩;rw[hd]at hat hdn;simp[e,hk0];by_cases c4:c.kind=4
 ·rw[an c4]at hat
  simp[c4];refine drw eok mix [0,1,2,3,4,6,7,8,9,10] [5,11,12,13] (.c 10 5 32 991 (.c 10 11 1 990 (.c 10 12 0 990 (.c 10 13 990 0 (.l 10 0) .s) .s) .s) .s) ?_;simp[hk,hd,Doc.row]
  try intros
  refine ag.pure (nu d aa) nZ ?_;simp
  try intros
  refine ag.pure (cO d) nZ ?_;simp
  try intros
  rw[hat];simp[Answer.res]
 rw[aq c4]at hat;have hf:=Hf d aa c.n;exact Ob
def chn(L:List Part):Prop:=∀i,∀h:i+1<L.length,L[i].kind≠L[i+1].kind
theorem Pm:chn []:=λi h=>ik
theorem UO{p:Part}{L:List Part}(h:chn (p::L)):chn L/\∀h0:0<L.length,p.kind≠L[0].kind:=by
 refine⟨λi hi=>?_,λh0=>?_⟩
 ·have:=h (i+1) aN
  exact jD
 ·have:=h 0 aN
  exact jD
theorem rV{L:List Part}{p:Part}(h:chn L)(hp:∀h:0<L.length,(L[L.length-1]' aa).kind≠p.kind):chn (L++[p]):=by
 intro i hi;simp at hi;by_cases c:i+1<L.length
 ·rw[uU aa,uU c];exact h i c
 ·have h0:0<L.length:=by omega
  have:=hp h0;rw[uU aa,fX aa];have e:i=L.length-1:=aa;subst e;exact jD
theorem Xo{L:List Part}{i:Nat}{p:Part}(h:chn L)(hi:i<L.length)(hk:p.kind=L[i].kind):chn (L.set i p):=by
 intro j hj;simp at hj;have h1:=h j hj;rw[jz,jz]
 split
 ·rename_i e;subst e
  rw[aq aa,hk];exact h1
 ·split
  ·rename_i e;subst e;rw[hk];exact h1
  ·exact h1
def TF(L:List Part):Prop:=∀h:0<L.length,(L[L.length-1]' aa).kind=1
theorem AA{L:List Part}{p:Part}:(((L++[p])[(L++[p]).length-1]' ab)).kind=p.kind:=ab
theorem C5{L:List Part}{P:List Int}{D:Int}(h:chn L)(hl:TF L):chn (bN L P D):=by
 unfold bN
 split
 ·split
  ·rw[iM]
   exact rV h λh0=>by rw[hl h0];simp
  ·simpa using h
 ·have h1:chn (L++[⟨2,0,P⟩]):=rV h λh0=>by rw[hl h0];simp
  split
  ·rw[<-cj]
   exact rV h1 λh0=>by rw[AA];simp
  ·simpa using h1
theorem TM{L:List Part}{n:Int}(h:chn L):chn (dN L n)/\TF (dN L n):=by
 unfold dN
 split
 ·rename_i h0
  split
  ·rename_i hk
   refine⟨Xo h aa hk.symm,λh1=>?_⟩;simp
  ·rename_i hk
   refine⟨rV h λ_=>hk,λh1=>?_⟩;rw[AA]
 ·exact⟨rV (L:=[]) Pm (λh=>ik),λ_=>rfl⟩
theorem CT(o:List Part):∀(i:Nat),i<=o.length->chn (cr (o.take i)).1/\TF (cr (o.take i)).1
 | 0, _ => by
   simp only[cr,List.take_zero,List.foldl_nil];exact⟨Pm,λh=>ik⟩
 | i + 1, hi => by
   obtain⟨h1,h2⟩:=CT o i aa;rw[kB (show i<o.length from aa)];generalize cr (o.take i)=s at h1 h2;unfold gz
   split
   ·exact⟨h1,h2⟩
   ·split
    ·exact⟨h1,h2⟩
    ·split
     ·exact TM (C5 h1 h2)
     ·exact⟨h1,h2⟩
theorem JN(o:List Part):chn (normal o):=by
 obtain⟨h1,h2⟩:=CT o o.length (aH _);rw[cU]at h1 h2;exact C5 h1 h2
def It:At->List Part->List Part
 | .k,[]=>[⟨1,1,[]⟩]
 | .k,p::l=>if p.kind=1 then⟨1,p.n+1,[]⟩::l else⟨1,1,[]⟩::p::l
 | .d,[]=>[⟨3,1,[]⟩]
 | .d,p::l=>if p.kind=3 then⟨3,p.n+1,[]⟩::l else⟨3,1,[]⟩::p::l
 | .p c,[]=>[⟨2,0,[c]⟩]
 | .p c,p::l=>if p.kind=2 then⟨2,0,c::p.signs⟩::l else⟨2,0,[c]⟩::p::l
def grp(l:List At):List Part:=l.foldr It []
theorem Uc{L:List Part}(h:∀h0:0<L.length,L[0].kind≠1):∀n:Nat,(List.replicate (n+1) At.k).foldr It L=⟨1,(n:Int)+1,[]⟩::L
 | 0 => by
   exact Ev
 | n + 1 => by
   rw[bP,RF,Uc h n];simp[It]
theorem Ud{L:List Part}(h:∀h0:0<L.length,L[0].kind≠3):∀n:Nat,(List.replicate (n+1) At.d).foldr It L=⟨3,(n:Int)+1,[]⟩::L
 | 0 => by
   exact Ev
 | n + 1 => by
   rw[bP,RF,Ud h n];simp[It]
theorem Ub{L:List Part}(h:∀h0:0<L.length,L[0].kind≠2):∀(Q:List Int) (c:Int),((c::Q).map At.p).foldr It L=⟨2,0,c::Q⟩::L
 | [], c => by
   exact Ev
 | d :: Q, c => by
   rw[bL,RF,Ub h Q d];simp[It]
theorem C4:∀{L:List Part},(∀q∈L,Shp q)->chn L->grp (bW L)=L
 | [],_,_=>rfl
 | p :: L, hs, hc => by
   obtain⟨h1,h2⟩:=UO hc;have ih:=C4 (λq hq=>hs q (aC _ hq)) h1;have hp:=hs p (aJ ..);unfold grp at ih⊢;rw[bW,List.foldr_append,ih];have hpos:=hp.pos;have hn:=hp.n;unfold ats;obtain⟨kd,n,sg⟩:=p;by_cases k2:kd=2
   ·subst k2
    obtain⟨e1,-⟩:=hp.put rfl;simp only at e1;subst e1;simp only[du]
    cases sg with
    |nil=>simp[psz]at hpos
    |cons c Q=>exact Ub (λh0=>DH) Q c
   ·have e1:=hp.run k2
    simp only at e1 hn;subst e1;have hz:psz ⟨kd,n,[]⟩=n.toNat:=by simp[psz]
    rw[hz]at hpos;obtain⟨m,hm⟩:∃m,n.toNat=m+1:=⟨n.toNat-1,aa⟩;have hnm:n=(m:Int)+1:=aa;rw[hz,hm,aq k2];by_cases k3:kd=3
    ·subst k3
     simp only[du];rw[Ud (λh0=>DH),hnm]
    ·have k1:kd=1:=by rcases hp.k with h|h|h<;>simp only at h<;>omega
     subst k1;rw[aq ab,Uc (λh0=>DH),hnm]
theorem HL:∀(l:List At) (P:List Int) (n:Nat),nA [] 0 (nA P n l)=nA P n l
 | [], P, n => by
   have h2:=O0 n P 0 [];rw[bO,cQ]at h2;rw[nA,OY,iM,h2,nA]
 | .k :: l, P, n => by
   rw[nA,OY,O0,iM,cQ,nA,HL l]
 | .p c::l,P,n=>by rw[nA,HL l]
 | .d::l,P,n=>by rw[nA,HL l]
theorem qa{o:List Part}(h:∀p∈o,bb p):normal o=grp (qK (bW o)):=by
 rw[<-lL h,C4 (Ao h) (JN o)]
theorem BR{o:List Part}(h:dH o):normal (normal o)=normal o:=by
 have h2:=(wH h).1;rw[qa h2.1.1,lL h.1.1,qa h.1.1];unfold qK;rw[HL]
theorem BV{o:List Part}(h:dH o):lq (normal o):=by
 have h2:=(wH h).1;refine⟨h2,?_⟩;unfold dJ;rw[an h2,BR h]
theorem BU{o:List Part}(h:dH o):lq (dJ o):=by
 have e:dJ o=normal o:=by unfold dJ;rw[an h]
 rw[e];exact BV h
theorem Al:∀(l:List (List Part)) (v v':List Part),lq v->mG l v=some v'->lq v'
 | [],v,v',h,e=>by simp only[mG,eP]at e;exact e ▸ h
 | a :: l, v, v', h, e => by
   rw[mG]at e
   split at e
   ·rename_i ht
    refine Al l _ v' ?_ e;unfold bu at ht⊢
    split at ht
    ·rename_i h1
     split at ht
     ·rename_i h2
      rw[an h1,an h2];have hi:=yB h1.1 h1.2.1 h1.2.2;have hk:=Yc hi;simp only;refine⟨h2.2,?_⟩;unfold dJ;rw[an h2.2,qa h2.2.1.1,lL hk.2];unfold qK;rw[HL];exact(qa hk.2).symm
     ·simp at ht
    ·simp at ht
   ·cases e
theorem Kj{l:List (List Part)}{b:List Part}(h:(kK l b).2=true):lq (kK l b).1:=by
 unfold kK at h⊢
 split at h
 ·rename_i hb
  rw[an hb]
  cases e:mG l (dJ b)with
  |none=>rw[e]at h;simp at h
  |some v=>exact Al l _ v (BU hb) e
 ·simp at h
theorem vY{d:Doc}(h:bV d)(e:Entry):aD (cX d e)=aD d+1/\(cX d e).list.getLast? = some e:=by
 obtain⟨h1,h2,h3,h4⟩:=dt h;unfold cX
 split
 ·refine⟨?_,ab⟩
  unfold aD;simp only[fb,cI,iN];rw[ae _ aa,ae _ aa];omega
 ·refine⟨?_,?_⟩
  ·unfold aD
   simp only[fb,cI,iN,iq];rw[ae _ aa,ae _ aa];omega
  ·have hl:d.list.length=8:=by omega
   rw[List.getLast?_drop];rw[aq (by rw[fb,List.length_singleton];omega)];simp
theorem wD{α:Type}{R:α->α->Prop}(tr:∀a b c,R a b->R b c->R a c):∀{l:List α},(∀i,∀h:i<l.length,∀h0:0<i,R (l[i-1]' aa) l[i])->l.Pairwise R
 | [],_=>.nil
 | [a],_=>ab
 | a :: b :: l, h => by
   have ih:=wD tr (l:=b::l) (λi hi h0=>by
    have:=h (i+1) (by simp at hi⊢;omega) aa;obtain⟨j,rfl⟩:∃j,i=j+1:=⟨i-1,aa⟩
    simpa using this)
   have hab:R a b:=by have:=h 1 ab aa;simpa using this
   refine gi.2 ⟨λc hc=>?_,ih⟩;rcases aX.1 hc with rfl|hc
   ·exact hab
   ·exact tr _ _ _ hab ((gi.1 ih).1 c hc)
theorem Dk{α:Type}{R:α->α->Prop}{l:List α}(h:l.Pairwise R):∀i,∀h:i<l.length,∀h0:0<i,R (l[i-1]' aa) l[i]:=
 λi hi h0=>(uj.1 h) (i-1) i aa hi aa
def adl(R:Int)(s:Seen):Prop:=(1<=s.client/\s.client<=8)/\(1<=s.seq/\s.seq<=1000000000)/\(1<=s.rev/\s.rev<=R)
theorem xx{d:Doc}:vu d↔(∀s∈d.seen,adl (aD d) s)/\d.seen.Pairwise λa b=>a.client<b.client:=by
 constructor
 ·intro h
  refine⟨λs hs=>?_,wD (R:=λa b:Seen=>a.client<b.client) (λ_ _ _=>Int.lt_trans) λi hi h0=>(h i hi).2.2.2 h0⟩;obtain⟨i,hi,rfl⟩:=eO hs;obtain⟨h1,h2,h3,-⟩:=h i hi;exact⟨h1,h2,h3⟩
 ·rintro⟨h1,h2⟩ i hi
  obtain⟨a,b,c⟩:=h1 _ (ak hi);exact⟨a,b,c,λh0=>Dk h2 i hi h0⟩
theorem rj{c s r:Int}:∀{l:List Seen}{x:Seen},x∈df c s r l->x=⟨c,s,r⟩\/x∈l
 | [],x,h=>by simp[df]at h;exact .inl h
 | y :: l, x, h => by
   unfold df at h
   split at h
   ·rcases aX.1 h with h|h
    ·exact .inr (by simp[h])
    ·rcases rj h with h|h
     ·exact .inl h
     ·exact .inr (aC _ h)
   ·split at h
    ·rcases aX.1 h with h|h
     ·exact .inl h
     ·exact .inr (aC _ h)
    ·rcases aX.1 h with h|h
     ·exact .inl h
     ·exact .inr h
theorem Aa{c s r:Int}:∀{l:List Seen},(l.Pairwise λa b=>a.client<b.client)->(df c s r l).Pairwise λa b=>a.client<b.client
 | [],_=>by simp[df]
 | y :: l, h => by
   obtain⟨h1,h2⟩:=gi.1 h;unfold df
   split
   ·rename_i hc
    refine gi.2 ⟨λx hx=>?_,Aa h2⟩;rcases rj hx with rfl|hx
    ·exact hc
    ·exact h1 x hx
   ·split
    ·rename_i hc
     exact gi.2 ⟨λx hx=>by have:=h1 x hx;simp only;omega,h2⟩
    ·refine gi.2 ⟨λx hx=>?_,h⟩
     rcases aX.1 hx with rfl|hx
     ·simp only;omega
     ·have:=h1 x hx;simp only;omega
theorem Kr{d:Doc}(h:bV d){e:Entry}(he:dm e)(hf:mm e.o (fe d))(hr:aD d<999999000):bV (cX d e):=by
 have hh:=dt h;have hp:=(vY h e).1;obtain⟨t1,t2⟩:=tW h;obtain⟨g1,g2,g3,g4,g5,g6,g7⟩:=h
 have hap:(bq ((d.list++[e]).map Entry.o) d.text).isSome=true:=by
  rw[fR,jM,t1];simp only[gh,bL,jP,bq];rw[an (nm.2 hf)];rfl
 have hse:vu (cX d e):=by
  rw[xx,hp];obtain⟨s1,s2⟩:=xx.1 g7;have e1:(cX d e).seen=df e.client e.seq (aD d+1) d.seen:=by unfold cX;split<;>rfl
  rw[e1];refine⟨λx hx=>?_,Aa s2⟩;rcases rj hx with rfl|hx
  ·exact⟨he.1,he.2.1,gI⟩
  ·obtain⟨a,b,c⟩:=s1 x hx
   exact⟨a,b,aa⟩
 have hen:∀x∈d.list++[e],dm x:=λx hx=>by
  rcases aP.1 hx with hx|hx
  ·exact g5 x hx
  ·simp at hx;subst hx;exact he
 unfold cX at hse⊢
 split
 ·rename_i hl
  rw[an hl]at hse;exact⟨g1,g2,g3,aN,hen,hap,hse⟩
 ·rename_i hl
  rw[aq hl]at hse
  obtain⟨x,l',hx⟩:∃x l',d.list++[e]=x::l':=by
   cases hd:d.list++[e]with
   |nil=>simp at hd
   |cons x l'=>exact⟨x,l',rfl⟩
  have hlen:l'.length=d.list.length:=by have:=nP List.length hx;simp at this;omega
  simp only[hx]at hse hap hen⊢;simp only[List.getElem_cons_zero,Yw,VE]at hse⊢;rw[bL,bq]at hap
  split at hap
  ·rename_i ha
   exact⟨g1,gI,(ng (nm.1 ha)).1,gI,λy hy=>hen y (aC _ hy),hap,hse⟩
  ·simp at hap
theorem Gr(d:Doc)(e:Entry):(cX d e).name=d.name:=by unfold cX;split<;>rfl
theorem B7{d:Doc}{client seq base:Int}{o:List Part}(h:bV d)(hc:(dg d client seq base o).2.2=0) :
 bV (dg d client seq base o).1/\(dg d client seq base o).1.name=d.name/\((dg d client seq base o).1=d\/
  ∃e,dm e/\e.client=client/\e.seq=seq/\(dg d client seq base o).1=cX d e/\mm e.o (fe d)/\aD d<999999000):=by
 unfold dg at hc⊢
 split at hc
 ·rename_i hs
  rw[an hs]
  split at hc
  ·rename_i h1
   rw[an h1];exact⟨h,rfl,.inl rfl⟩
  ·rename_i h1
   rw[aq h1]
   split at hc
   ·rename_i h2
    rw[an h2]
    split at hc
    ·rename_i h3
     rw[an h3]
     split at hc
     ·simp at hc
     ·rename_i h4
      rw[aq h4]
      have key:lq (eY d base o).1/\mm (eY d base o).1 (fe d):=by
       unfold eY at h3⊢
       split at h3
       ·rename_i c1
        rw[an c1]
        split at h3
        ·simp at h3
        ·rename_i c2
         rw[aq c2]
         split at h3
         ·simp at h3
         ·rename_i c3
          rw[aq c3]
          split at h3
          ·rename_i c4
           rw[an c4]
           split at h3
           ·rename_i c5
            rw[an c5];exact⟨Kj c5,vS c1.1 c1.2 aa aa c4 c5⟩
           ·simp at h3
          ·simp at h3
       ·simp at h3
      have he:dm ⟨client,seq,(eY d base o).1⟩:=⟨hs.2.1,hs.2.2.1,key.1⟩;exact⟨Kr h he key.2 aa,Gr _ _,.inr ⟨_,he,rfl,rfl,rfl,key.2,aa⟩⟩
    ·rename_i h3;exact absurd hc h3
   ·simp at hc
 ·simp at hc
theorem AR{d:Doc}{client seq base:Int}{o:List Part}(h:bV d)(hc:(dg d client seq base o).2.2=0) :
 (dg d client seq base o).1=d\/∃e,aD (dg d client seq base o).1=aD d+1/\(dg d client seq base o).1.list.getLast? = some e:=by
 obtain⟨-,-,h1|⟨e,-,-,-,h2,-⟩⟩:=B7 h hc
 ·exact .inl h1
 ·rw[h2];exact .inr ⟨e,vY h e⟩
theorem Qs{l:List Doc}{row:List CD}(h:row∈l.map Doc.row):row.length=5:=by
 exact ED
theorem Re{l:List Doc}{k:Nat}:cut (l.map Doc.row) 0 k=(l.take k).map Doc.row:=by rw[fu,jA,dU]
theorem Rf{l:List Doc}{k:Nat}:cut (l.map Doc.row) k (l.length-k)=(l.drop k).map Doc.row:=by
 rw[fu,mz,aB ab]
noncomputable def jh(name:ByteArray)(e:Entry)(l:List Sub)(i:Nat):List Sub:=(l.take i).map (gH name e)++l.drop i
theorem xo(name:ByteArray)(e:Entry)(l:List Sub):jh name e l 0=l:=by simp[jh]
theorem zH(name:ByteArray)(e:Entry)(l:List Sub):jh name e l l.length=l.map (gH name e):=by simp[jh]
theorem uq(name:ByteArray)(e:Entry)(l:List Sub)(i:Nat):(jh name e l i).length=l.length:=by simp[jh];omega
theorem wt{name:ByteArray}{e:Entry}{l:List Sub}{i:Nat}(h:i<l.length):(jh name e l i)[i]'(by rw[uq];exact h)=l[i]:=by
 unfold jh;rw[fX aN];simp[ep (acl h)]
theorem uo{name:ByteArray}{e:Entry}{l:List Sub}{i:Nat}(h:i<l.length):(jh name e l i).set i (gH name e l[i])=jh name e l (i+1):=by
 unfold jh;rw[dW _ _ aN,dj h];simp only[qX,PB,ep (acl h),Nat.sub_self,GV];rw[<-bd h,fR];simp
theorem xp{name:ByteArray}{e:Entry}{l:List Sub}{i:Nat}(h:i<l.length)(hn:¬l[i].doc=name):jh name e l i=jh name e l (i+1):=by
 rw[<-uo h];have:gH name e l[i]=l[i]:=by unfold gH;rw[aq hn]
 rw[this];refine eA ab (λj h1 h2=>?_);rw[jz]
 split
 ·rename_i ej;subst ej;exact wt h
 ·rfl
theorem BN(h:Hub)(hl:dk h<=2^28)(name:ByteArray)(hs:name.size<=2^28)(t:List Int)(ht:t.length<=2^28):ar Tryz.prog 119 [.agg h.row,.c (.v (.string name)),.c (.s (t.map aG))]
 (.tup [.agg (dM h name t).1.res,.c (vi (dM h name t).2) 1]):=by
 refine pci aw Tryz.func119 (λw0 base=>?_);have hld:=aS (iJ hl).1;have hdn:=Fo name t hs ht;unfold mb at hdn;simp[Hub.row];intro b3 b6;by_cases c0:bV (ib name t)
 rotate_left
 ·rw[aq c0]at hdn
  refine ag.pure hdn ab ?_;simp[Doc.res,Doc.zero];intros;refine ag.pure (gd h aa) bp ?_;by_cases c1:bJ h
  ·simp[c1,kL (λh=>c0 h.2),Hub.res,Hub.zero]
  ·simp[az c1,kL (λh=>c0 h.2),Hub.res,Hub.zero]
 rw[an c0]at hdn;refine ag.pure hdn ab ?_;simp[Doc.res,ib];intro H1 H2 H3 b8;refine ag.pure (gd h aa) bp ?_;by_cases c1:bJ h
 rotate_left
 ·simp[az c1,kL (λh=>c1 h.1),Hub.res,Hub.zero]
 simp[c1]
 cases c2:h.shut with
 |true=>simp[uc ⟨c1,c0⟩ c2,Hub.res,Hub.zero]
 |false=>
 have c2':¬h.shut=true:=su;simp;refine ag.pure (fY h aa name) n8 ?_;simp;by_cases c3:0<=bE h.docs name
 ·simp[c3,ud ⟨c1,c0⟩ c2' c3,Hub.res,Hub.zero]
 simp[c3];by_cases c4:h.docs.length=5
 ·have c4':(h.docs.length:Int)=5:=by omega
  simp[c4',ue ⟨c1,c0⟩ c2' c3 c4,Hub.res,Hub.zero]
 have c4':¬(h.docs.length:Int)=5:=aa;have hat:=vV ⟨c1,c0⟩ c2' c3 c4;rw[tp]at hat;have hal:=rS (ib name t).name h.docs;have hon:=λ{k:Nat} h1 h2=>rT (name:=(ib name t).name) (l:=h.docs) (k:=k) h1 h2
 rw[show(ib name t).name=name from rfl]at hat hal hon;generalize fV name h.docs=a at hat hal hon;simp[c4'];refine ag.pure (gD h aa) n8 ?_;simp[Hub.res,c2];intro K1 K2 b10
 refine aE eok (λk:Nat=>k<=a) (λk=>⟨81,0,[(11,.v (.int .i64 k)),(1,.v (.string name)),(6,.p 96 b6 0),(8,.p 128 b8 0),(10,.p 160 b10 0)],
  [(160, .vars b10 35 [.v (.bool false), .sl 721 K1 5 0 h.docs.length, .sl 722 K2 6 0 h.subs.length, .v (.int .i64 h.last)]),(96, .vars b6 35 [.v (.bool false), .nil, .nil, .v (.int .i64 0)]),
   (128,.vars b8 119 [.v (.string name),.v (.int .i64 0),.sl 258 H1 1 0 t.length,.sl 259 H2 3 0 0,.sl 260 H3 3 0 0]),
   (258,.rows H1 1 (t.map aG) true),(259,.rows H2 3 [] true),(260,.rows H3 3 [] true),
   (721,.rows K1 5 (h.docs.map Doc.row) true),(722,.rows K2 6 (h.subs.map Sub.row) true)]⟩) (λk=>h.docs.length-k) 0 ab ab (λk hk=>Ent.refl ?_)
 by_cases hlt:k<h.docs.length
 ·obtain⟨x,hx⟩:∃x,h.docs[k]=x:=⟨_,rfl⟩
  have hiff:=hon hk hlt;rw[hx]at hiff;simp[hlt,hx,Doc.row];by_cases s:sLt x.name name
  ·simp[s]
   exact Ent.refl ⟨k+1,by have:=hiff.1 s;omega,aa,by simp;exact aR aa⟩
  have hka:k=a:=by
   have:¬k<a:=λh=>s (hiff.2 h)
   omega
  subst hka;have hm:min k h.docs.length=k:=aa;simp[az s,Re,Rf,hat,c2,hm,ib];refine⟨aa,aa,aa,aa,aa,aa,aa,?_,?_⟩
  ·rintro row (h|rfl|h)
   ·exact Qs (br h)
   ·rfl
   ·exact Qs (a8 h)
  ·rw[v3 (by simp[hm];omega)]
   rfl
 have hka:k=h.docs.length:=aa;have hka2:a=h.docs.length:=aa;subst hka2;have hm:min k h.docs.length=k:=aa;subst hka;have hz:cut (h.docs.map Doc.row) h.docs.length 0=[]:=by rw[fu];simp
 simp[hat,c2,ib,hz];refine⟨aa,aa,?_,?_⟩
 ·rintro row (⟨a,-,rfl⟩|rfl)<;>rfl
 ·rfl
theorem yo(h:Hub)(hl:dk h<=2^28)(name:ByteArray)(client seq base:Int)(o:List Part)(ho:nL bc o<=2^40) :
 ar Tryz.prog 120 [.agg h.row,.c (.v (.string name)),.c (vi client),.c (vi seq),.c (vi base),.c (.s (o.map Part.row))]
 (.tup [.agg (cu h name client seq base o).1.res,.c (vi (cu h name client seq base o).2.1) 1,.c (vi (cu h name client seq base o).2.2) 1]):=by
 refine pci aw Tryz.func120 (λw0 bs=>?_);have hls:=aS (iJ hl).2;simp[Hub.row];intro b6 b12;refine ag.pure (fY h aa name) bp ?_;simp;refine ag.pure (gd h aa) bp ?_;by_cases c1:bJ h
 rotate_left
 ·simp[az c1,tX c1,Hub.res,Hub.zero]
 simp[c1]
 cases c2:h.shut with
 |true=>simp[qP c1 c2,Hub.res,Hub.zero]
 |false=>
 have c2':¬h.shut=true:=su;simp;rcases fo h.docs name with⟨k,hk,e,-⟩|e;rotate_left
 ·simp[e,qQ c1 c2' e,Hub.res,Hub.zero]
 have hk0:¬(k:Int)<0:=aa;have hat:=tY (client:=client) (seq:=seq) (base:=base) (o:=o) c1 c2' hk e;have hdn:=cT (f:=cN) (iJ hl).1 hk;have hdo:=jd c1 hk;have hDn:=wZ (client:=client) (seq:=seq) (base:=base) (o:=o) hdo;have hok:=AR (client:=client) (seq:=seq) (base:=base) (o:=o) hdo;obtain⟨d,hd⟩:∃d,h.docs[k]=d:=⟨_,rfl⟩;rw[hd]at hat hdn hDn hok;have hc:=Fb d hdn client seq base o ho;generalize dg d client seq base o=S at hc hat hDn hok;obtain⟨D,rev,code⟩:=S;simp only at hc hat hDn hok;simp[e,hk0,hk,hd,Doc.row];refine ag.pure hc bB ?_;simp[Doc.res];intro H1 H2 H3 b16;by_cases c3:code=0
 rotate_left
 ·rw[aq c3]at hat
  simp[c3,hat,Hub.res,Hub.zero]
 rw[an c3]at hat;have hok:=hok c3;simp[c3];refine ag.pure (gD h aa) n8 ?_;simp[Hub.res,c2,hk];intro K1 K2 b19;refine drw eok mix [0,2,3,4,5,6] [1,7,8] (.c 6 1 32 31 (.c 6 7 1 30 (.c 6 8 0 30 (.l 6 30) .s) .s) .s) ?_;simp[hk,hd,Doc.row]
 try intros
 refine ag.pure (cO D) nZ ?_;simp
 try intros
 refine ag.pure (cO d) nZ ?_;simp
 try intros
 by_cases c5:aD D=aD d
 ·have hcm:gE h name k d D=⟨h.shut,h.docs.set k D,h.subs,h.last⟩:=by unfold gE;rw[aq aa]
  rw[hcm]at hat;simp[c5,hat,c2];exact⟨sZ,rfl⟩
 rcases hok with rfl|⟨e,he1,he2⟩
 ·exact absurd rfl c5
 have hcm:gE h name k d D=⟨h.shut,h.docs.set k D,h.subs.map (gH name e),h.last⟩:=by unfold gE;rw[an aa,he2]
 rw[hcm]at hat;have hmem:e∈D.list:=BF he2;have hpos:0<D.list.length:=nT hmem;obtain⟨m,hm⟩:∃m,D.list.length=m+1:=⟨D.list.length-1,aa⟩;have hml:m<D.list.length:=aa
 have hme:D.list[m]=e:=by
  exact MP
 have hDl:nL aZ D.list<=2^24:=by unfold cN at hDn;omega
 have hen:=gA (f:=aZ) hDl hmem;have hlen24:=aS hDl;have ew:Go.IntKind.i64.wrap ((D.list.length:Int)-1)=(m:Int):=by rw[ae _ aa];omega
 have em:Go.IntKind.i64.wrap (m:Int)=m:=fE aa;simp[c5,hm,em,hme,Entry.row];refine⟨aa,λb20=>?_⟩
 refine aE eok (λi:Nat=>i<=h.subs.length) (λi=>⟨107,0,[(86,.v (.int .i64 i)),(85,.v (.int .i64 h.subs.length)),(84,.sl 930 K2 6 0 h.subs.length),(19,.p 304 b19 0),(20,.p 320 b20 0),(17,.v (.int .i64 rev)),(1,.v (.string name)),(12,.p 192 b12 0)],
  [(304, .vars b19 35 [.v (.bool false), .sl 929 K1 5 0 h.docs.length, .sl 930 K2 6 0 h.subs.length, .v (.int .i64 h.last)]),(192, .vars b12 35 [.v (.bool false), .nil, .nil, .v (.int .i64 0)]),
   (320,.vars b20 183 [.v (.int .i64 e.client),.v (.int .i64 e.seq),.ro (e.o.map Part.row)]),
   (929,.rows K1 5 ((h.docs.set k D).map Doc.row) true),(930,.rows K2 6 ((jh name e h.subs i).map Sub.row) true)]⟩) (λi=>h.subs.length-i) 0 ab (by simp[xo];rfl) (λi hi=>Ent.refl ?_)
 have htl:=uq name e h.subs i;by_cases hlt:i<h.subs.length
 ·have hti:=wt (name:=name) (e:=e) hlt
  have hlt':i<(jh name e h.subs i).length:=aa;have hsk:=xp (name:=name) (e:=e) hlt;have hsu:=uo (name:=name) (e:=e) hlt;have hmd:=ta hlt' (eF h.subs[i].r e);have hmn:=cT (f:=dC) (iJ hl).2 hlt;unfold dC at hmn;rw[hti]at hmd;obtain⟨s,hs⟩:∃s,h.subs[i]=s:=⟨_,rfl⟩;rw[hs]at hti hsk hsu hmd hmn;simp[hlt,htl,hti,Sub.row];intro b22;by_cases c6:s.doc=name
  rotate_left
  ·simp[c6]
   refine Ent.refl ⟨i+1,aa,aa,?_⟩;rw[<-hsk c6];simp;exact aR aa
  have htell:gH name e s=⟨s.id,s.doc,eF s.r e⟩:=by unfold gH;rw[an c6]
  rw[htell]at hsu;rw[hsu]at hmd;have hpc:=zR s.r aa e aa;generalize eF s.r e=R at hpc hmd;simp[c6];refine drw eok mix [0,1,2,3,4,5,7,8] [6,9] (.c 8 6 12 243 (.c 8 9 241 2 (.l 8 2) .s) .s) ?_;simp[hlt]
  try intros
  refine ag.pure (hpc) (by simp[Ring.row,Entry.row]) ?_;simp[Ring.res,hlt,htl]
  try intros
  refine Ent.refl ⟨i+1,aa,aa,?_⟩;rw[<-hmd];simp;exact aR aa
 have hie:i=h.subs.length:=aa;subst hie;rw[zH];simp[hat,c2];exact sZ
theorem eC(k:Int):ar Tryz.prog 35 [.c (vi k)] (.one (.c (vb (cW k)) 1)):=by
 refine pci aw Tryz.func35 (λw0 base=>?_);simp;refine ag.pure (bZ k 1 5) ab ?_;simp[cW]
theorem rf(k:Int):ar Tryz.prog 24 [.c (vi k)] (.one (.c (vb (cW k)) 1)):=by
 refine pci aw Tryz.func24 (λw0 base=>?_);simp;refine ag.pure (cS k 1 5) ab ?_;simp[cW]
theorem Jq(k:Int):ar Tryz.prog 159 [.c (vi k)] (.one (.c (vb (1<=k/\k<=8)) 1)):=by
 refine pci aw Tryz.func159 (λw0 base=>?_);simp;refine ag.pure (cS k 1 8) ab ?_;simp
theorem ft(a b:Call)(ha:dX a<=2^40):ar Tryz.prog 189 [.agg a.row,.agg b.row] (.one (.c (vb (a=b)) 1)):=by
 refine pci aw Tryz.func189 (λw0 base=>?_);obtain⟨a0,a1,a2,a3,a4,a5,a6⟩:=a;obtain⟨c0,c1,c2,c3,c4,c5,c6⟩:=b;unfold dX at ha;simp only at ha;simp[Call.row];intro b1 b2;by_cases h0:a0=c0
 rotate_left
 ·simp[h0]
 subst h0;by_cases h1:a1=c1
 rotate_left
 ·simp[h1]
 subst h1;by_cases h2:a2=c2
 rotate_left
 ·simp[h2]
 subst h2;by_cases h3:a3=c3
 rotate_left
 ·simp[h3]
 subst h3;by_cases h4:a4=c4
 rotate_left
 ·simp[h4]
 subst h4;simp;refine ag.pure (qn a5 c5 aa) ab ?_;by_cases h5:a5=c5
 rotate_left
 ·simp[h5]
 subst h5;simp;refine ag.pure (sY a6 c6 aa) ab ?_;by_cases h6:a6=c6
 ·simp[h6]
 ·simp[h6]
theorem jJ(c:Call)(hl:dX c<=2^36):ar Tryz.prog 133 [.agg c.row] (.one (.c (vb (dx c)) 1)):=by
 refine pci aw Tryz.func133 (λw0 base=>?_);have hu:=@IP c;have hx:∀p:Prop,(dx c->p)->¬p->dc (dx c)=false:=λp h1 h2=>az (λh=>h2 (h1 h))
 have hl0:=hl;unfold dX at hl;simp[Call.row];intro b1;refine drw eok mix [0,1] [2,3,4,5,6,7,8,9,10,11,12,13,14,15,16,17,18,19,20,21,22,23,24,25] (.c 2 2 1 2 (.c 2 3 0 2 (.c 2 4 0 2 (.c 2 5 0 2 (.c 2 6 0 2 (.c 2 7 0 2 (.c 2 8 0 2 (.c 2 9 0 2 (.c 2 10 0 2 (.c 2 11 0 2 (.c 2 12 0 2 (.c 2 13 0 2 (.c 2 14 0 2 (.c 2 15 0 2 (.c 2 16 0 2 (.c 2 17 0 2 (.c 2 18 0 2 (.c 2 19 0 2 (.c 2 20 0 2 (.c 2 21 0 2 (.c 2 22 0 2 (.c 2 23 0 2 (.c 2 24 0 2 (.c 2 25 2 0 (.l 2 0) .s) .s) .s) .s) .s) (.c 2 21 0 2 (.c 2 20 0 2 (.c 2 22 0 2 (.c 2 23 0 2 (.c 2 24 0 2 (.c 2 25 2 0 (.l 2 0) .s) .s) .s) .s) (.c 2 22 0 2 (.c 2 20 0 2 (.c 2 23 0 2 (.c 2 24 0 2 (.c 2 25 2 0 (.l 2 0) .s) .s) .s) .s) .s)) .s)) .s) .s) .s) .s) .s) .s) .s) .s) .s) .s) .s) .s) .s) .s) .s) .s) .s) .s) ?_;simp;refine ag.pure (bZ c.kind 1 8) ab ?_;by_cases s1:1<=c.kind/\c.kind<=8
 rotate_left
 ·simp[az s1]
  rw[Trc];refine⟨?_,?_⟩
  ·simp[hx _ (λh=>h.1) s1]
  ·simp
   rw[Trc];refine⟨?_,?_⟩
   ·simp[hx _ (λh=>h.1) s1]
   ·simp[hx _ (λh=>h.1) s1]
 simp[s1];by_cases s2:c.doc.size<=8
 rotate_left
 ·have s2':¬(c.doc.size:Int)<=8:=by omega
  simp[s2'];rw[Trc];refine⟨?_,?_⟩
  ·simp[hx _ (λh=>h.2.1) s2]
  ·simp
   rw[Trc];refine⟨?_,?_⟩
   ·simp[hx _ (λh=>h.2.1) s2]
   ·simp[hx _ (λh=>h.2.1) s2]
 have s2':(c.doc.size:Int)<=8:=aa;simp[s2'];refine ag.pure (oW c.o aa) ab ?_;by_cases s3:ga c.o
 rotate_left
 ·simp[az s3]
  rw[Trc];refine⟨?_,?_⟩
  ·simp[hx _ (λh=>h.2.2.1) s3]
  ·simp
   rw[Trc];refine⟨?_,?_⟩
   ·simp[hx _ (λh=>h.2.2.1) s3]
   ·simp[hx _ (λh=>h.2.2.1) s3]
 simp[s3];refine ag.pure (lu c.text aa) ab ?_;by_cases s4:eL c.text
 rotate_left
 ·simp[az s4]
  rw[Trc];refine⟨?_,?_⟩
  ·simp[hx _ (λh=>h.2.2.2.1) s4]
  ·simp
   rw[Trc];refine⟨?_,?_⟩
   ·simp[hx _ (λh=>h.2.2.2.1) s4]
   ·simp[hx _ (λh=>h.2.2.2.1) s4]
 have fin:∀u,eR c=u->vb (c=u)=vb (dx c):=λu h=>by
  subst h;unfold vb
  congr 3
  apply propext
  exact⟨λh=>hu.2 ⟨s1,s2,s3,s4,h⟩,λh=>(hu.1 h).2.2.2.2⟩
 simp[s4];rw[Trc];refine⟨?_,?_⟩
 ·exact E8
 ·simp
  rw[Trc];refine⟨?_,?_⟩
  ·exact E8
  ·exact E8
theorem p5(c:Call)(hl:dX c<=2^36):ar Tryz.prog 109 [.agg c.row] (.one (.c (vb (dx c)) 1)):=by
 refine pci aw Tryz.func109 (λw0 base=>?_);have hx:∀p:Prop,(dx c->p)->¬p->dc (dx c)=false:=λp h1 h2=>az (λh=>h2 (h1 h))
 unfold dX at hl;simp[Call.row];intro b1;refine ag.pure (Jq c.kind) ab ?_;by_cases s1:1<=c.kind/\c.kind<=8
 rotate_left
 ·simp[az s1,hx _ (λh=>h.1) s1]
 simp[s1];by_cases s2:c.doc.size<=8
 rotate_left
 ·have s2':8<(c.doc.size:Int):=by omega
  simp[s2',hx _ (λh=>h.2.1) s2]
 have s2':¬8<(c.doc.size:Int):=aa;simp[s2'];refine ag.pure (oP c.o aa) ab ?_;by_cases s3:ga c.o
 rotate_left
 ·simp[az s3,hx _ (λh=>h.2.2.1) s3]
 simp[s3];refine ag.pure (mU c.text aa) ab ?_;by_cases s4:eL c.text
 rotate_left
 ·simp[az s4,hx _ (λh=>h.2.2.2.1) s4]
 simp[s4];refine ag.pure (rf c.kind) ab ?_
 clear hx
 obtain⟨kind,doc,client,seq,n,o,text⟩:=c;simp only at s1 s2 s3 s4 s2'⊢
 have ho:(0<o.length)=¬o=[]:=by
  apply propext
  cases o<;>simp
 have ht:(0<text.length)=¬text=[]:=by
  apply propext
  cases text<;>simp
 have hk:kind=1\/kind=2\/kind=3\/kind=4\/kind=5\/kind=6\/kind=7\/kind=8:=aa;unfold vb;rcases hk with rfl|rfl|rfl|rfl|rfl|rfl|rfl|rfl
 ·have hd:cW 1:=by unfold cW;omega
  have e:dc (dx ⟨1,doc,client,seq,n,o,text⟩)=dc (o=[]/\seq=0/\client=0/\n=0):=by
   exact oq
  rw[e];simp[hd,ho];by_cases e0:o=[]<;>by_cases e1:seq=0<;>by_cases e2:client=0<;>by_cases e3:n=0<;>simp[e0,e1,e2,e3,ho]
 ·have hd:cW 2:=by unfold cW;omega
  have e:dc (dx ⟨2,doc,client,seq,n,o,text⟩)=dc (text=[]):=by
   exact oq
  rw[e];simp[hd,ht];by_cases e0:text=[]<;>simp[e0,ht]
 ·have hd:cW 3:=by unfold cW;omega
  have e:dc (dx ⟨3,doc,client,seq,n,o,text⟩)=dc (text=[]/\o=[]/\seq=0/\client=0):=by
   exact oq
  exact No
 ·have hd:cW 4:=by unfold cW;omega
  have e:dc (dx ⟨4,doc,client,seq,n,o,text⟩)=dc (text=[]/\o=[]/\seq=0/\client=0/\n=0):=by
   exact oq
  rw[e];simp[hd,ht];by_cases e0:text=[]<;>by_cases e1:o=[]<;>by_cases e2:seq=0<;>by_cases e3:client=0<;>by_cases e4:n=0<;>simp[e0,e1,e2,e3,e4,ho,ht]
 ·have hd:cW 5:=by unfold cW;omega
  have e:dc (dx ⟨5,doc,client,seq,n,o,text⟩)=dc (text=[]/\o=[]/\seq=0/\client=0):=by
   exact oq
  exact No
 ·have hd:¬cW 6:=by unfold cW;omega
  have e:dc (dx ⟨6,doc,client,seq,n,o,text⟩)=dc (doc=⟨#[]⟩/\text=[]/\o=[]/\seq=0):=by
   exact oq
  rw[e];simp[az hd];by_cases e0:doc=⟨#[]⟩<;>by_cases e1:text=[]<;>by_cases e2:o=[]<;>by_cases e3:seq=0<;>simp[e0,e1,e2,e3,ho,ht]
 ·have hd:¬cW 7:=by unfold cW;omega
  have e:dc (dx ⟨7,doc,client,seq,n,o,text⟩)=dc (doc=⟨#[]⟩/\text=[]/\o=[]/\seq=0/\n=0):=by
   exact oq
  rw[e];simp[az hd];by_cases e0:doc=⟨#[]⟩<;>by_cases e1:text=[]<;>by_cases e2:o=[]<;>by_cases e3:seq=0<;>by_cases e4:n=0<;>simp[e0,e1,e2,e3,e4,ho,ht]
 ·have hd:¬cW 8:=by unfold cW;omega
  have e:dc (dx ⟨8,doc,client,seq,n,o,text⟩)=dc (doc=⟨#[]⟩/\text=[]/\o=[]/\seq=0/\client=0/\n=0):=by
   exact oq
  rw[e];simp[az hd];by_cases e0:doc=⟨#[]⟩<;>by_cases e1:text=[]<;>by_cases e2:o=[]<;>by_cases e3:seq=0<;>by_cases e4:client=0<;>by_cases e5:n=0<;>simp[e0,e1,e2,e3,e4,e5,ho,ht]
end Go.Proofs.YtklblkobegcljaaGreat
