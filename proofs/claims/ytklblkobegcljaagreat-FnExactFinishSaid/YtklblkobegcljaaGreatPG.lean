import Derived.Test.YtklblkobegcljaaGreatPF
import Derived.Test.YtklblkobegcljaaGreatPA
import Derived.Test.YtklblkobegcljaaGreatNA
import Derived.Test.YtklblkobegcljaaGreatPE
namespace Go.Proofs.YtklblkobegcljaaGreat
open Go.AM
set_option maxRecDepth 20000
set_option maxHeartbeats 6400000
theorem Gl{h:Hub}{c:Call}(n:¬(bJ h/\dx c)):fDo h c=(h,eV 1):=by unfold fDo;rw[aq n]
theorem Ys{h:Hub}{c:Call}(y:bJ h/\dx c)(k:c.kind=1):fDo h c=if(dM h c.doc c.text).2=0 then((dM h c.doc c.text).1,eV 0)else(h,eV (dM h c.doc c.text).2):=by unfold fDo;rw[an y,an k]
theorem Yr{h:Hub}{c:Call}(y:bJ h/\dx c)(k:c.kind=2):fDo h c=if(cu h c.doc c.client c.seq c.n c.o).2.2=0 then((cu h c.doc c.client c.seq c.n c.o).1,⟨0,(cu h c.doc c.client c.seq c.n c.o).2.1,[],[]⟩)else(h,eV (cu h c.doc c.client c.seq c.n c.o).2.2):=by
 unfold fDo;rw[an y,aq aa,an k]
theorem Uw{h:Hub}{c:Call}(y:bJ h/\dx c)(k:c.kind=3\/c.kind=4):fDo h c=(h,oH h c):=by unfold fDo;rw[an y,aq aa,aq aa,an k]
theorem Yq{h:Hub}{c:Call}(y:bJ h/\dx c)(k:c.kind=5):fDo h c=if(bC h c.doc c.n).2.2=0 then((bC h c.doc c.n).1,⟨0,(bC h c.doc c.n).2.1,[],[]⟩)else(h,eV (bC h c.doc c.n).2.2):=by
 unfold fDo;rw[an y,aq aa,aq aa,aq aa,an k]
theorem Pi{h:Hub}{c:Call}(y:bJ h/\dx c)(k:c.kind=6):fDo h c=if(dr h c.client c.n).2.2=0 then((dr h c.client c.n).1,⟨0,0,[],(dr h c.client c.n).2.1⟩)else(h,eV (dr h c.client c.n).2.2):=by
 unfold fDo;rw[an y,aq aa,aq aa,aq aa,aq aa,an k]
theorem Yp{h:Hub}{c:Call}(y:bJ h/\dx c)(k:c.kind=7):fDo h c=if(bU h c.client).2.2.2=0 then((bU h c.client).1,⟨0,(bU h c.client).2.2.1,(bU h c.client).2.1,[]⟩)else(h,eV (bU h c.client).2.2.2):=by
 unfold fDo;rw[an y,aq aa,aq aa,aq aa,aq aa,aq aa,an k]
theorem Yo{h:Hub}{c:Call}(y:bJ h/\dx c)(k:c.kind=8):fDo h c=if(eG h).2=0 then((eG h).1,eV 0)else(h,eV (eG h).2):=by
 unfold fDo;rw[an y,aq aa,aq aa,aq aa,aq aa,aq aa,aq aa]
theorem SO(h:Hub)(hl:dk h<=2^28)(c:Call)(hc:dX c<=2^28):ar Tryz.prog 66 [.agg h.row,.agg c.row] (.tup [.agg (fDo h c).1.res,.agg (fDo h c).2.res]):=by
 refine pci aw Tryz.func66 (λw0 base=>?_);have hcn:c.doc.size<=2^28/\nL bc c.o<=2^28/\c.text.length<=2^28:=sr;simp[Hub.row,Call.row];intro b2 b3 b4 b5;refine ag.pure (gd h aa) bp ?_;by_cases c1:bJ h
 rotate_left
 ·exact Lg
 simp[c1];refine ag.pure (p5 c aa) i4 ?_;by_cases c2:dx c
 rotate_left
 ·exact Lf
 simp[c2];intro b6 b23 b24;have hk:c.kind=1\/c.kind=2\/(c.kind=3\/c.kind=4)\/c.kind=5\/c.kind=6\/c.kind=7\/c.kind=8:=by have:=c2.1;omega
 rcases hk with k|k|k|k|k|k|k
 ·
  have hat:=Ys ⟨c1,c2⟩ k;have hd:=BN h aa c.doc hcn.1 c.text hcn.2.2;generalize dM h c.doc c.text=R at hd hat;exact Lu
 ·
  exact Lx
 ·
  have hat:=Uw ⟨c1,c2⟩ k;have hd:=Jn h aa c1 c;generalize oH h c=A at hd hat;have k1:¬c.kind=1:=aa;have k2:¬c.kind=2:=aa;have fin:∀_:c.kind=3\/(¬c.kind=3/\c.kind=4),True:=λ_=>trivial
  rcases k with k|k
  ·exact Lv
  ·exact Lv
 ·
  have hat:=Yq ⟨c1,c2⟩ k;have hd:=uw h aa c.doc c.n;generalize bC h c.doc c.n=R at hd hat;obtain⟨X,rev,code⟩:=R;exact zq
 ·
  have hat:=Pi ⟨c1,c2⟩ k;have hd:=BM h aa c.client c.n;generalize dr h c.client c.n=R at hd hat;obtain⟨X,list,code⟩:=R;exact zq
 ·
  have hat:=Yp ⟨c1,c2⟩ k;have hd:=yp h aa c.client;generalize bU h c.client=R at hd hat;obtain⟨X,text,rev,code⟩:=R;exact zq
 ·
  have hat:=Yo ⟨c1,c2⟩ k;have hd:=BK h aa;generalize eG h=R at hd hat;exact Lu
set_option maxHeartbeats 1600000
theorem yq(p q:Entry)(hl:aZ p<=2^40):ar Tryz.prog 163 [.agg p.row,.agg q.row] (.one (.c (vb (p=q)) 1)):=by
 refine pci aw Tryz.func163 (λw0 base=>?_);obtain⟨k1,n1,s1⟩:=p;obtain⟨k2,n2,s2⟩:=q;simp[Entry.row];intro b1 b2;by_cases h1:k1=k2
 ·by_cases h2:n1=n2
  ·simp[h1,h2]
   refine ag.pure (tQ s1 s2 hl) ab ?_;simp
  ·simp[h1,h2]
 ·simp[h1]
theorem yx(p q:Entry)(hl:aZ p<=2^40):ar Tryz.prog 192 [.agg p.row,.agg q.row] (.one (.c (vb (p=q)) 1)):=by
 refine pci aw Tryz.func192 (λw0 base=>?_);obtain⟨k1,n1,s1⟩:=p;obtain⟨k2,n2,s2⟩:=q;simp[Entry.row];intro b1 b2;by_cases h1:k1=k2
 ·by_cases h2:n1=n2
  ·simp[h1,h2]
   refine ag.pure (qn s1 s2 hl) ab ?_;simp
  ·simp[h1,h2]
 ·simp[h1]
theorem w5(a b:List Entry)(hs:nL aZ a<=2^40):ar Tryz.prog 191 [.c (.s (a.map Entry.row)),.c (.s (b.map Entry.row)),.c (.v (.func (.func 192) #[] #[]))] (.one (.c (vb (a=b)) 1)):=by
 have hl:=aS hs;refine pci aw Tryz.func191 (λw0 base=>?_);by_cases h:a.length=b.length
 ·simp[h]
  refine aV.intro eok (λi:Nat=>i<=a.length/\a.take i=b.take i) (λi=>⟨32,0,[(17,.v (.int .i64 i)),(16,.v (.int .i64 b.length)),(15,.ro (a.map Entry.row)),(2,.v (.func (.func 192) #[] #[])),(1,.ro (b.map Entry.row))],[]⟩) (λi=>a.length-i) 0 ab ab (λi hi=>?_);by_cases hlt:i<a.length
  ·have hlt':i<b.length:=by omega
   simp[hlt,hlt',Entry.row];intro b1 b2;refine ag.pure (yx a[i] b[i] (gA hs (ak hlt))) fB ?_;exact mR
  ·exact DZ
 ·exact j5
theorem iy(p q:Answer)(hl:cH p<=2^40):ar Tryz.prog 134 [.agg p.row,.agg q.row] (.one (.c (vb (p=q)) 1)):=by
 refine pci aw Tryz.func134 (λw0 base=>?_);obtain⟨n1,f1,t1,l1⟩:=p;obtain⟨n2,f2,t2,l2⟩:=q;unfold cH at hl;simp only at hl;simp[Answer.row];intro b1 b2;by_cases h1:n1=n2
 rotate_left
 ·simp[h1]
 by_cases h2:f1=f2
 rotate_left
 ·simp[h1,h2]
 simp[h1,h2];refine ag.pure (sY t1 t2 aa) ab ?_;by_cases h3:t1=t2
 rotate_left
 ·simp[h3]
 simp[h3];refine ag.pure (w5 l1 l2 aa) ab ?_;simp
theorem iw(p q:Answer)(hl:cH p<=2^40):ar Tryz.prog 110 [.agg p.row,.agg q.row] (.one (.c (vb (p=q)) 1)):=by
 refine pci aw Tryz.func110 (λw0 base=>?_);obtain⟨n1,f1,t1,l1⟩:=p;obtain⟨n2,f2,t2,l2⟩:=q;unfold cH at hl;simp only at hl;simp[Answer.row];intro b1 b2;by_cases h1:n1=n2
 rotate_left
 ·simp[h1]
 by_cases h2:f1=f2
 rotate_left
 ·simp[h1,h2]
 simp[h1,h2];refine ag.pure (xw t1 t2 aa) ab ?_;by_cases h3:t1=t2
 rotate_left
 ·simp[h3]
 subst h3;by_cases h4:l1.length=l2.length
 rotate_left
 ·have h42:¬(l1.length:Int)=l2.length:=by omega
  have h43:¬l1=l2:=λh=>h4 eK
  simp[h42,h43]
 simp[h4]
 refine aV.intro eok (λi:Nat=>i<=l1.length/\l1.take i=l2.take i) (λi=>⟨53,0,[(2,.p 32 b1 0),(3,.p 48 b2 0),(39,.v (.int .i64 i)),(38,.v (.int .i64 l2.length)),(37,.ro (l1.map Entry.row))],
  [(32,.vars b1 64 [.v (.int .i64 n2),.v (.int .i64 f2),.ro (t1.map aG),.ro (l1.map Entry.row)]),(48,.vars b2 64 [.v (.int .i64 n2),.v (.int .i64 f2),.ro (t1.map aG),.ro (l2.map Entry.row)])]⟩) (λi=>l1.length-i) 0 ab ab (λi hi=>?_)
 by_cases hlt:i<l1.length
 ·have hlt':i<l2.length:=by omega
  have hll:=aS (f:=aZ) (B:=2^40) (l:=l1) aa;have hm:=gA (f:=aZ) (B:=2^40) (l:=l1) aa (ak hlt);simp[hlt,hlt',Entry.row];intro b6;refine aY.quiet eok mix al ?_;simp[hlt',Entry.row];refine⟨_,_,yq l1[i] l2[i] hm,fB,?_⟩;simp;by_cases h6:l1[i]=l2[i]
  ·simp[h6]
   exact⟨i+1,⟨aa,sW hlt hlt' hi.2 h6⟩,aa,aR aa⟩
  ·have h7:=CO hlt hlt' h6
   simp[h6,h7]
 have hlt':¬i<l2.length:=aa;have hll:=G4 aa h4 hi.2;subst hll;simp[hlt']
theorem QK(s:ByteArray)(hl:s.size<=2^40):ar Tryz.prog 84 [.c (.v (.string s))] (.one (.c (vi (fnv s)) 1)):=by
 refine pci aw Tryz.func84 (λw0 base=>?_);exact Oq
theorem PP(s:ByteArray)(hl:s.size<=2^40):ar Tryz.prog 67 [.c (.v (.string s))] (.one (.c (vi (fnv s)) 1)):=by
 refine pci aw Tryz.func67 (λw0 base=>?_);exact Oq
theorem lv(s:ByteArray)(hl:s.size<=2^40)(n:Nat)(h1:1<=n)(hn:n<=2^40):ar Tryz.prog 34 [.c (.v (.string s)),.c (vi n)] (.one (.c (vi (bX s n)) 1)):=by
 refine pci aw Tryz.func34 (λw0 base=>?_);have e:=(jF s h1).1;have c1:¬(n:Int)<1:=aa;have c2:¬(n:Int)=0:=aa;have c3:¬n=0:=aa;simp[c1];refine ag.pure (QK s hl) ab ?_;simp[c3,e]
theorem mV(s:ByteArray)(hl:s.size<=2^40)(n:Nat)(h1:1<=n)(hn:n<=2^40):ar Tryz.prog 26 [.c (.v (.string s)),.c (vi n)] (.one (.c (vi (bX s n)) 1)):=by
 refine pci aw Tryz.func26 (λw0 base=>?_);have e:=(jF s h1).1;have c1:¬(n:Int)<1:=aa;have c2:¬(n:Int)=0:=aa;have c3:¬n=0:=aa;simp[c1];refine ag.pure (PP s hl) ab ?_;simp[c3,e]
set_option maxHeartbeats 6400000
theorem um{p q:Prop}(h:p↔q):vb p=vb q:=by unfold vb;rw[propext h]
theorem qb{t:Task}{B:Nat}(h:dq t<=B):dX t.c<=B/\cH t.a<=B:=by unfold dq at h;omega
theorem FP(t:Task)(hl:dq t<=2^36):ar Tryz.prog 77 [.agg t.row] (.one (.c (vb (fI t)) 1)):=by
 refine pci aw Tryz.func77 (λw0 base=>?_);obtain⟨n1,n2⟩:=qb hl;obtain⟨c,pc,inv,lin,rs,a⟩:=t;simp only at n1 n2;have n2':cH a<=2^40:=aa;have hx:∀p:Prop,(fI ⟨c,pc,inv,lin,rs,a⟩->p)->¬p->dc (fI ⟨c,pc,inv,lin,rs,a⟩)=false:=λp h1 h2=>az (λh=>h2 (h1 h))
 simp[Task.row];intro b1;refine ag.pure (jJ c aa) i4 ?_;by_cases c1:dx c
 rotate_left
 ·simp[az c1,hx _ (λh=>h.1) c1]
 simp[c1];refine ag.pure (bZ inv 0 1000000) ab ?_;by_cases c2:0<=inv/\inv<=1000000
 rotate_left
 ·simp[az c2,hx _ (λh=>h.2.1) c2]
 simp[c2];by_cases p0:pc=0
 ·subst p0
  by_cases l1:lin = -1
  rotate_left
  ·exact sN
  subst l1;by_cases l2:rs = -1
  rotate_left
  ·exact sO
  subst l2;simp;refine ag.pure (iy a Answer.zero n2') sq ?_;exact NQ
 by_cases p1:pc=1
 ·subst p1
  simp;refine ag.pure (eC c.kind) ab ?_;by_cases d1:cW c.kind
  rotate_left
  ·simp[az d1,hx _ (λh=>h.2.2.2.1 rfl) d1]
  simp[d1];by_cases l1:lin = -1
  rotate_left
  ·exact sN
  subst l1;by_cases l2:rs = -1
  rotate_left
  ·exact sO
  subst l2;simp;refine ag.pure (iy a Answer.zero n2') sq ?_;exact NS
 by_cases p2:pc=2
 ·subst p2
  by_cases d1:c.kind=2
  rotate_left
  ·simp[d1,hx _ (λh=>h.2.2.2.2.1 rfl) d1]
  simp[d1];by_cases l1:lin = -1
  rotate_left
  ·exact sN
  subst l1;by_cases l2:rs = -1
  rotate_left
  ·exact sO
  subst l2;simp;refine ag.pure (iy a Answer.zero n2') sq ?_;exact NR
 by_cases p34:pc=3\/pc=4
 rotate_left
 ·have h3:¬pc=3:=λh=>p34 (.inl h)
  have h4:¬pc=4:=λh=>p34 (.inr h)
  have h:dc (fI ⟨c,pc,inv,lin,rs,a⟩)=false:=az (λh=>by have:=h.2.2.1;simp only at this;omega);simp[p0,p1,p2,h3,h4,h]
 have hb0:pI ⟨c,pc,inv,lin,rs,a⟩↔(a=⟨11,0,[],[]⟩/\c.kind=2)/\lin = -1:=by unfold pI;simp[and_assoc]
 have fin3:pc=3->(pI ⟨c,pc,inv,lin,rs,a⟩\/(inv<=lin/\lin<=1000000))->(fI ⟨c,pc,inv,lin,rs,a⟩↔rs = -1):=λhp hb=>
  ⟨λh=>h.2.2.2.2.2.2.2.1 hp,λh=>⟨c1,c2,gI,λh=>absurd h p1,λh=>absurd h p2,λh=>yL,λ_=>hb,λ_=>h,λh4=>yK⟩⟩
 have fin4:pc=4->(pI ⟨c,pc,inv,lin,rs,a⟩\/(inv<=lin/\lin<=1000000))->(fI ⟨c,pc,inv,lin,rs,a⟩↔(inv<=rs/\rs<=1000000)/\lin<=rs):=λhp hb=>
  ⟨λh=>h.2.2.2.2.2.2.2.2 hp,λh=>⟨c1,c2,gI,λh=>absurd h p1,λh=>absurd h p2,λh=>yL,λ_=>hb,λh4=>yK,λ_=>h⟩⟩
 have finn:¬(pI ⟨c,pc,inv,lin,rs,a⟩\/(inv<=lin/\lin<=1000000))->dc (fI ⟨c,pc,inv,lin,rs,a⟩)=false:=λhb=>az (λh=>hb (h.2.2.2.2.2.2.1 gI))
 clear hx
 generalize pI ⟨c,pc,inv,lin,rs,a⟩=BZ at fin3 fin4 finn hb0;generalize fI ⟨c,pc,inv,lin,rs,a⟩=TK at fin3 fin4 finn⊢;obtain⟨M,hM⟩:∃M,(if inv<lin then lin else inv)=M:=⟨_,rfl⟩;have hmx:(M<=rs/\rs<=1000000)↔(inv<=rs/\rs<=1000000)/\lin<=rs:=by rw[<-hM];split<;>omega
 rcases p34 with rfl|rfl
 ·simp
  refine ag.pure (iy a ⟨11,0,[],[]⟩ n2') mM ?_;by_cases e1:a=⟨11,0,[],[]⟩
  rotate_left
  ·have hZ:¬BZ:=λh=>e1 (hb0.1 h).1.1
   simp[e1];exact DY
  simp[e1];by_cases e2:c.kind=2
  rotate_left
  ·have hZ:¬BZ:=λh=>e2 (hb0.1 h).1.2
   simp[e2];exact DY
  by_cases e3:lin = -1
  rotate_left
  ·have hZ:¬BZ:=λh=>e3 (hb0.1 h).2
   simp[e2,e3];exact DY
  exact Lr
 ·simp
  refine ag.pure (iy a ⟨11,0,[],[]⟩ n2') mM ?_;by_cases e1:a=⟨11,0,[],[]⟩
  rotate_left
  ·have hZ:¬BZ:=λh=>e1 (hb0.1 h).1.1
   simp[e1];exact EZ
  simp[e1];by_cases e2:c.kind=2
  rotate_left
  ·have hZ:¬BZ:=λh=>e2 (hb0.1 h).1.2
   simp[e2];exact EZ
  by_cases e3:lin = -1
  rotate_left
  ·have hZ:¬BZ:=λh=>e3 (hb0.1 h).2
   simp[e2,e3];exact EZ
  have hZ:BZ:=hb0.2 ⟨⟨e1,e2⟩,e3⟩;simp[e2,Jb e3];have hB:BZ\/(inv<=lin/\lin<=1000000):=.inl hZ;rw[Vc,hM];simp;refine ag.pure (bZ rs M 1000000) ab ?_;have e:vb (M<=rs/\rs<=1000000)=vb TK:=um (hmx.trans (fin4 rfl hB).symm);rw[e];simp
theorem Fa(t:Task)(hl:dq t<=2^36):ar Tryz.prog 59 [.agg t.row] (.one (.c (vb (fI t)) 1)):=by
 refine pci aw Tryz.func59 (λw0 base=>?_);obtain⟨n1,n2⟩:=qb hl;obtain⟨c,pc,inv,lin,rs,a⟩:=t;simp only at n1 n2;have n2':cH a<=2^40:=aa;have hx:∀p:Prop,(fI ⟨c,pc,inv,lin,rs,a⟩->p)->¬p->dc (fI ⟨c,pc,inv,lin,rs,a⟩)=false:=λp h1 h2=>az (λh=>h2 (h1 h))
 simp[Task.row];intro b1;refine ag.pure (p5 c aa) i4 ?_;by_cases c1:dx c
 rotate_left
 ·simp[az c1,hx _ (λh=>h.1) c1]
 simp[c1];refine ag.pure (cS inv 0 1000000) ab ?_;by_cases c2:0<=inv/\inv<=1000000
 rotate_left
 ·simp[az c2,hx _ (λh=>h.2.1) c2]
 simp[c2];refine ag.pure (cS pc 0 4) ab ?_;by_cases c3:0<=pc/\pc<=4
 rotate_left
 ·simp[az c3,hx _ (λh=>h.2.2.1) c3]
 simp[c3];by_cases p0:pc=0
 ·subst p0
  by_cases l1:lin = -1
  rotate_left
  ·exact sN
  subst l1;by_cases l2:rs = -1
  rotate_left
  ·exact sO
  subst l2;simp;refine ag.pure (iw a Answer.zero n2') sq ?_;exact NQ
 by_cases p1:pc=1
 ·subst p1
  simp;refine ag.pure (rf c.kind) ab ?_;by_cases d1:cW c.kind
  rotate_left
  ·simp[az d1,hx _ (λh=>h.2.2.2.1 rfl) d1]
  simp[d1];by_cases l1:lin = -1
  rotate_left
  ·exact sN
  subst l1;by_cases l2:rs = -1
  rotate_left
  ·exact sO
  subst l2;simp;refine ag.pure (iw a Answer.zero n2') sq ?_;exact NS
 by_cases p2:pc=2
 ·subst p2
  by_cases d1:c.kind=2
  rotate_left
  ·simp[d1,hx _ (λh=>h.2.2.2.2.1 rfl) d1]
  simp[d1];by_cases l1:lin = -1
  rotate_left
  ·exact sN
  subst l1;by_cases l2:rs = -1
  rotate_left
  ·exact sO
  subst l2;simp;refine ag.pure (iw a Answer.zero n2') sq ?_;exact NR
 by_cases p34:pc=3\/pc=4
 rotate_left
 ·exfalso;omega
 have hb0:pI ⟨c,pc,inv,lin,rs,a⟩↔(a=⟨11,0,[],[]⟩/\c.kind=2)/\lin = -1:=by unfold pI;simp[and_assoc]
 have fin3:pc=3->(pI ⟨c,pc,inv,lin,rs,a⟩\/(inv<=lin/\lin<=1000000))->(fI ⟨c,pc,inv,lin,rs,a⟩↔rs = -1):=λhp hb=>
  ⟨λh=>h.2.2.2.2.2.2.2.1 hp,λh=>⟨c1,c2,gI,λh=>absurd h p1,λh=>absurd h p2,λh=>yL,λ_=>hb,λ_=>h,λh4=>yK⟩⟩
 have fin4:pc=4->(pI ⟨c,pc,inv,lin,rs,a⟩\/(inv<=lin/\lin<=1000000))->(fI ⟨c,pc,inv,lin,rs,a⟩↔(inv<=rs/\rs<=1000000)/\lin<=rs):=λhp hb=>
  ⟨λh=>h.2.2.2.2.2.2.2.2 hp,λh=>⟨c1,c2,gI,λh=>absurd h p1,λh=>absurd h p2,λh=>yL,λ_=>hb,λh4=>yK,λ_=>h⟩⟩
 have finn:¬(pI ⟨c,pc,inv,lin,rs,a⟩\/(inv<=lin/\lin<=1000000))->dc (fI ⟨c,pc,inv,lin,rs,a⟩)=false:=λhb=>az (λh=>hb (h.2.2.2.2.2.2.1 gI))
 clear hx
 generalize pI ⟨c,pc,inv,lin,rs,a⟩=BZ at fin3 fin4 finn hb0;generalize fI ⟨c,pc,inv,lin,rs,a⟩=TK at fin3 fin4 finn⊢;rcases p34 with rfl|rfl
 ·simp
  refine ag.pure (iw a ⟨11,0,[],[]⟩ n2') mM ?_;by_cases e1:a=⟨11,0,[],[]⟩
  rotate_left
  ·have hZ:¬BZ:=λh=>e1 (hb0.1 h).1.1
   simp[e1];exact DX
  simp[e1];by_cases e2:c.kind=2
  rotate_left
  ·have hZ:¬BZ:=λh=>e2 (hb0.1 h).1.2
   simp[e2];exact DX
  by_cases e3:lin = -1
  rotate_left
  ·have hZ:¬BZ:=λh=>e3 (hb0.1 h).2
   simp[e2,e3];exact DX
  exact Lr
 ·simp
  refine ag.pure (iw a ⟨11,0,[],[]⟩ n2') mM ?_;by_cases e1:a=⟨11,0,[],[]⟩
  rotate_left
  ·have hZ:¬BZ:=λh=>e1 (hb0.1 h).1.1
   simp[e1];exact E3
  simp[e1];by_cases e2:c.kind=2
  rotate_left
  ·have hZ:¬BZ:=λh=>e2 (hb0.1 h).1.2
   simp[e2];exact E3
  by_cases e3:lin = -1
  rotate_left
  ·have hZ:¬BZ:=λh=>e3 (hb0.1 h).2
   simp[e2,e3];exact E3
  have hZ:BZ:=hb0.2 ⟨⟨e1,e2⟩,e3⟩;simp[e2,Jb e3];have hB:BZ\/(inv<=lin/\lin<=1000000):=.inl hZ;refine ag.pure (cS rs inv 1000000) ab ?_;by_cases r1:inv<=rs/\rs<=1000000
  rotate_left
  ·have h:¬TK:=λh=>r1 ((fin4 rfl hB).1 h).1
   simp[az r1,az h]
  simp[r1];by_cases r2:lin<=rs
  ·have h:TK:=(fin4 rfl hB).2 ⟨r1,r2⟩
   simp[r2,h]
  ·have h:¬TK:=λh=>r2 ((fin4 rfl hB).1 h).2
   simp[r2,az h]
theorem vz{l:List Int}{n:Int}{i:Nat}(h:i<l.length)(ha:n∉l.take i)(hi:¬n=l[i]):n∉l.take (i+1):=by
 rw[<-bd h];simp only[aP,List.mem_singleton,not_or];exact⟨ha,hi⟩
theorem qj(l:List Int)(hl:l.length<=2^40)(n:Int):ar Tryz.prog 135 [.c (.s (l.map aG)),.c (vi n)] (.one (.c (vb (n∈l)) 1)):=by
 refine pci aw Tryz.func135 (λw0 base=>?_);simp;refine inl aw Tryz.func193 20000 (λw1 F=>?_);simp;refine aV.intro eok (λi:Nat=>i<=l.length/\n∉l.take i) (λi=>⟨19,20000,[(8,.v (.int .i64 i)),(7,.v (.int .i64 l.length)),(0,.ro (l.map aG)),(1,.v (.int .i64 n))],[]⟩) (λi=>l.length-i) 0 ab ab (λi hi=>?_);by_cases hlt:i<l.length
 ·simp[hlt]
  by_cases c:n=l[i]
  ·have h:n∈l:=by rw[c];exact ak hlt
   have h0:(0:Int)<=i:=aa;simp[c,h0]
  ·simp[c]
   exact⟨i+1,⟨aa,vz hlt hi.2 c⟩,aa,aR aa⟩
 ·exact MB
theorem sX(l:List Int)(hl:l.length<=2^40)(n:Int):ar Tryz.prog 114 [.c (.s (l.map aG)),.c (vi n)] (.one (.c (vb (n∈l)) 1)):=by
 refine pci aw Tryz.func114 (λw0 base=>?_);simp;refine aV.intro eok (λi:Nat=>i<=l.length/\n∉l.take i) (λi=>⟨17,0,[(9,.v (.int .i64 i)),(8,.v (.int .i64 l.length)),(7,.ro (l.map aG)),(1,.v (.int .i64 n))],[]⟩) (λi=>l.length-i) 0 ab ab (λi hi=>?_);by_cases hlt:i<l.length
 ·simp[hlt]
  by_cases c:l[i]=n
  ·have h:n∈l:=by rw[<-c];exact ak hlt
   simp[c,h]
  ·simp[c]
   exact⟨i+1,⟨aa,vz hlt hi.2 (λh=>c h.symm)⟩,aa,aR aa⟩
 ·exact MB
theorem PO{tasks:List Task}{step:Int}{m:List Int}(h:cC step [] (tasks.flatMap gn)=some m):∀h' l q,j6 ⟨h',l,q,tasks,step⟩:=by
 intro h' l q;unfold j6;simp only;rw[h];rfl
theorem B0(w:Wld)(hl:w.tasks.length<=2^30):ar Tryz.prog 79 [.c (.s (w.tasks.map Task.row)),.c (vi w.step)] (.one (.c (vb (j6 w)) 1)):=by
 refine pci aw Tryz.func79 (λw0 base=>?_);obtain⟨hh,lk,qs,tasks,step⟩:=w;simp only at hl;simp
 refine aE eok (λx:Nat×List Int×Hd=>x.1<=tasks.length/\cC step [] ((tasks.take x.1).flatMap gn)=some x.2.1) (λx=>⟨44,0,[(12,.v (.int .i64 x.1)),(11,.v (.int .i64 tasks.length)),(10,.ro (tasks.map Task.row)),(1,.v (.int .i64 step)),(5,.sl 5000 x.2.2 1 0 x.2.1.length)],
  [(5000,.rows x.2.2 1 (x.2.1.map aG) true)]⟩) (λx=>tasks.length-x.1) (0,[],none) uZ ab (λx hi=>Ent.refl ?_)
 obtain⟨i,met,H⟩:=x;obtain⟨hi,hr⟩:=hi;simp only at hi hr⊢
 have hml:met.length<=3*tasks.length:=by
  exact LZ
 by_cases hlt:i<tasks.length
 rotate_left
 ·exact MN
 have hsuc:cC step [] ((tasks.take (i+1)).flatMap gn)=cC step met (gn tasks[i]):=by
  rw[zG hlt,eo,hr];rfl
 have hno:=λhn=>zQ (w:=⟨hh,lk,qs,tasks,step⟩) hlt hr hn
 simp only at hno;obtain⟨t,ht⟩:∃t,tasks[i]=t:=⟨_,rfl⟩;rw[ht]at hsuc hno;obtain⟨told,htold⟩:∃l,gn t=l:=⟨_,rfl⟩;have hrow:[[CD.v (.int .i64 t.inv)],[CD.v (.int .i64 t.lin)],[CD.v (.int .i64 t.rs)]]=told.map aG:=yJ;have htl:told.length=3:=yJ;rw[htold]at hsuc hno;simp[hlt,ht,Task.row];intro b7 b22;rw[hrow]
 refine aE eok (λx:Nat×List Int×Hd=>x.1<=3/\cC step met (told.take x.1)=some x.2.1) (λx=>⟨44,0,[(24,.v (.int .i64 x.1)),(23,.v (.int .i64 3)),(22,.sl 352 (some (b22,0,3)) 1 0 3),(12,.v (.int .i64 i)),(11,.v (.int .i64 tasks.length)),(10,.ro (tasks.map Task.row)),(1,.v (.int .i64 step)),(5,.sl 5000 x.2.2 1 0 x.2.1.length)],
  [(352,.rows (some (b22,0,3)) 1 (told.map aG) true),(5000,.rows x.2.2 1 (x.2.1.map aG) true)]⟩) (λx=>3-x.1) (0,met,H) uZ ab (λx hi=>Ent.refl ?_)
 obtain⟨j,m,G⟩:=x;obtain⟨hj,hm⟩:=hi;simp only at hj hm⊢
 have hmm:m.length<=met.length+3:=by
  have:=kZ _ _ _ hm;simp at this;omega
 by_cases hjt:j<3
 rotate_left
 ·exact Lt
 have hj':(j:Int)<3:=aa;have hjl:j<told.length:=aa;obtain⟨o1,o2,o3⟩:=vl hjl hm;simp[hj',hjl];generalize told[j]=n at o1 o2 o3⊢;by_cases c1:n = -1
 ·exact Lc
 simp[c1];by_cases c2:step<=n
 ·have h:=hno (o3 c1 (.inl c2))
  simp[c2,az h]
 simp[c2];refine ag.pure (qj m aa n) ab ?_;exact LG
theorem bI{w:Wld}{B:Nat}(h:bY w<=B):dk w.h<=B/\w.locks.length<=B/\nL ca w.queues<=B/\nL dq w.tasks<=B:=by unfold bY at h;omega
theorem wI{t:Task}{B:Nat}(h:dq t<=B):t.c.doc.size<=B:=by unfold dq dX at h;omega
theorem G8(w:Wld)(hl:bY w<=2^30):ar Tryz.prog 61 [.agg w.row] (.one (.c (vb (j6 w)) 1)):=by
 refine pci aw Tryz.func61 (λw0 base=>?_);obtain⟨-,-,-,n4⟩:=bI hl;obtain⟨hh,lk,qs,tasks,step⟩:=w;have hl:=aS n4;simp only at hl;simp[Wld.row];intro b1 b8
 refine aE eok (λx:Nat×List Int×Hd=>x.1<=tasks.length/\cC step [] ((tasks.take x.1).flatMap gn)=some x.2.1) (λx=>⟨45,0,[(12,.v (.int .i64 x.1)),(11,.v (.int .i64 tasks.length)),(10,.ro (tasks.map Task.row)),(1,.p 16 b1 0),(3,.sl 128 x.2.2 1 0 x.2.1.length)],
  [(16, .vars b1 39 [.v (.bool hh.shut), .ro (hh.docs.map Doc.row), .ro (hh.subs.map Sub.row), .v (.int .i64 hh.last), .ro (lk.map aG), .ro (qs.map Queue.row), .ro (tasks.map Task.row), .v (.int .i64 step)]),
   (128,.rows x.2.2 1 (x.2.1.map aG) true)]⟩) (λx=>tasks.length-x.1) (0,[],some (b8,0,0)) uZ ab (λx hi=>Ent.refl ?_)
 obtain⟨i,met,H⟩:=x;obtain⟨hi,hr⟩:=hi;simp only at hi hr⊢
 have hml:met.length<=3*tasks.length:=by
  exact LZ
 by_cases hlt:i<tasks.length
 rotate_left
 ·exact MN
 have hsuc:cC step [] ((tasks.take (i+1)).flatMap gn)=cC step met (gn tasks[i]):=by
  rw[zG hlt,eo,hr];rfl
 have hno:=λhn=>zQ (w:=⟨hh,lk,qs,tasks,step⟩) hlt hr hn
 simp only at hno;obtain⟨t,ht⟩:∃t,tasks[i]=t:=⟨_,rfl⟩;rw[ht]at hsuc hno;obtain⟨told,htold⟩:∃l,gn t=l:=⟨_,rfl⟩;have hrow:[[CD.v (.int .i64 t.inv)],[CD.v (.int .i64 t.lin)],[CD.v (.int .i64 t.rs)]]=told.map aG:=yJ;have htl:told.length=3:=yJ;rw[htold]at hsuc hno;simp[hlt,ht,Task.row];intro b5 b22;rw[hrow]
 refine aE eok (λx:Nat×List Int×Hd=>x.1<=3/\cC step met (told.take x.1)=some x.2.1) (λx=>⟨45,0,[(24,.v (.int .i64 x.1)),(23,.v (.int .i64 3)),(22,.sl 352 (some (b22,0,3)) 1 0 3),(12,.v (.int .i64 i)),(11,.v (.int .i64 tasks.length)),(10,.ro (tasks.map Task.row)),(1,.p 16 b1 0),(3,.sl 128 x.2.2 1 0 x.2.1.length)],
  [(16, .vars b1 39 [.v (.bool hh.shut), .ro (hh.docs.map Doc.row), .ro (hh.subs.map Sub.row), .v (.int .i64 hh.last), .ro (lk.map aG), .ro (qs.map Queue.row), .ro (tasks.map Task.row), .v (.int .i64 step)]),
   (352,.rows (some (b22,0,3)) 1 (told.map aG) true),(128,.rows x.2.2 1 (x.2.1.map aG) true)]⟩) (λx=>3-x.1) (0,met,H) uZ ab (λx hi=>Ent.refl ?_)
 obtain⟨j,m,G⟩:=x;obtain⟨hj,hm⟩:=hi;simp only at hj hm⊢
 have hmm:m.length<=met.length+3:=by
  have:=kZ _ _ _ hm;simp at this;omega
 by_cases hjt:j<3
 rotate_left
 ·exact Lt
 have hj':(j:Int)<3:=aa;have hjl:j<told.length:=aa;obtain⟨o1,o2,o3⟩:=vl hjl hm;simp[hj',hjl];generalize told[j]=n at o1 o2 o3⊢;by_cases c1:n = -1
 ·exact Lc
 simp[c1];by_cases c2:step<=n
 ·have h:=hno (o3 c1 (.inl c2))
  simp[c2,az h]
 simp[c2];refine ag.pure (sX m aa n) ab ?_;exact LG
theorem He(w:Wld)(hl:bY w<=2^30)(hn:1<=w.locks.length):ar Tryz.prog 62 [.agg w.row] (.one (.c (vb (qe w)) 1)):=by
 refine pci aw Tryz.func62 (λw0 base=>?_);obtain⟨-,n2,-,n4⟩:=bI hl;obtain⟨hh,lk,qs,tasks,step⟩:=w;have hle:=aS n4;simp only at hle n2 hn n4;simp[Wld.row];intro b1
 refine aE eok (λi:Nat=>i<=lk.length/\∀s,s<i->FI tasks lk s) (λi=>⟨76,0,[(10,.v (.int .i64 i)),(9,.v (.int .i64 lk.length)),(8,.ro (lk.map aG)),(1,.p 16 b1 0)],
  [(16,.vars b1 39 [.v (.bool hh.shut),.ro (hh.docs.map Doc.row),.ro (hh.subs.map Sub.row),.v (.int .i64 hh.last),.ro (lk.map aG),.ro (qs.map Queue.row),.ro (tasks.map Task.row),.v (.int .i64 step)])]⟩) (λi=>lk.length-i) 0 ab ab (λi hi=>Ent.refl ?_)
 by_cases hlt:i<lk.length
 ·obtain⟨x,hx⟩:∃x,lk[i]=x:=⟨_,rfl⟩
  have hno:(¬(lk[i] = -1\/∃k:Nat,∃hk:k<tasks.length,lk[i]=k/\tasks[k].pc=1/\bX tasks[k].c.doc lk.length=i))->dc (qe ⟨hh,lk,qs,tasks,step⟩)=false:=λh=>az (λh'=>h (h'.1 i hlt))
  rw[hx]at hno;have ew:Go.IntKind.i64.wrap ((tasks.length:Int)-1)=(tasks.length:Int)-1:=ae _ aa;simp[hlt,hx];by_cases c0:x = -1
  ·simp[c0]
   exact Ent.refl ⟨i+1,⟨aa,jQ hi.2 (λ_=>.inl (by rw[hx,c0]))⟩,aa,by simp;exact aR aa⟩
  simp[c0];refine aY.quiet eok mix al ?_;simp[ew];refine⟨_,_,cS x 0 ((tasks.length:Int)-1),ab,?_⟩;by_cases c1:0<=x/\x<=(tasks.length:Int)-1
  rotate_left
  ·have h:=hno (λh=>h.elim c0 (λ⟨k,hk,e,_⟩=>c1 aa))
   simp[az c1,h]
  obtain⟨k,rfl⟩:∃k:Nat,x=k:=⟨x.toNat,aa⟩;have hk:k<tasks.length:=aa;obtain⟨t,ht⟩:∃t,tasks[k]=t:=⟨_,rfl⟩;have hm:=wI (cT n4 hk);rw[ht]at hm;simp[c1,hk,ht,Task.row];by_cases c2:t.pc=1
  rotate_left
  ·have h:=hno (λh=>h.elim c0 (λ⟨k',hk',e,h2,_⟩=>c2 (by obtain rfl:k=k':=(by omega);rwa[ht]at h2)))
   simp[c2,h]
  simp[c2,hk,ht,Task.row];refine⟨_,_,mV t.c.doc aa lk.length hn aa,ab,?_⟩;by_cases c3:bX t.c.doc lk.length=i
  rotate_left
  ·have h:=hno (λh=>h.elim c0 (λ⟨k',hk',e,h2,h3⟩=>c3 (by obtain rfl:k=k':=(by omega);rwa[ht]at h3)))
   have c3':¬(bX t.c.doc lk.length:Int)=i:=aa;simp[c3',h]
  have c3':(bX t.c.doc lk.length:Int)=i:=aa;simp[c3'];exact Ent.refl ⟨i+1,⟨aa,jQ hi.2 (λ_=>.inr ⟨k,hk,hx,by rw[ht];exact c2,by rw[ht];exact c3⟩)⟩,aa,by simp;exact aR aa⟩
 have hall:∀s,FI tasks lk s:=λs=>by
  by_cases h:s<lk.length
  ·exact hi.2 s aa
  ·exact λh'=>absurd h' h
 simp[hlt]
 refine aE eok (λi:Nat=>i<=tasks.length/\∀s,s<i->vF tasks lk s) (λi=>⟨76,0,[(52,.v (.int .i64 i)),(51,.v (.int .i64 tasks.length)),(50,.ro (tasks.map Task.row)),(1,.p 16 b1 0)],
  [(16,.vars b1 39 [.v (.bool hh.shut),.ro (hh.docs.map Doc.row),.ro (hh.subs.map Sub.row),.v (.int .i64 hh.last),.ro (lk.map aG),.ro (qs.map Queue.row),.ro (tasks.map Task.row),.v (.int .i64 step)])]⟩) (λi=>tasks.length-i) 0 ab ab (λi hi=>Ent.refl ?_)
 by_cases hlt:i<tasks.length
 ·obtain⟨t,ht⟩:∃t,tasks[i]=t:=⟨_,rfl⟩
  have hm:=wI (cT n4 hlt);rw[ht]at hm;simp[hlt,ht,Task.row];intro b6;refine aY.quiet eok mix al ?_;simp;by_cases c1:t.pc=1
  rotate_left
  ·simp[c1]
   exact Ent.refl ⟨i+1,⟨aa,jQ hi.2 (λ_ h=>absurd h (by rw[ht];exact c1))⟩,aa,by simp;exact aR aa⟩
  simp[c1];refine⟨_,_,mV t.c.doc aa lk.length hn aa,ab,?_⟩;have hs:bX t.c.doc lk.length<lk.length:=(jF t.c.doc hn).2;simp[hs];by_cases c2:lk[bX t.c.doc lk.length]=(i:Int)
  rotate_left
  ·have h:¬qe ⟨hh,lk,qs,tasks,step⟩:=λh=>c2 (by
    have:=h.2 i hlt (by simp only[ht];exact c1);simp only[ht]at this;rw[aj hs]at this;exact fO this)
   simp[c2,az h]
  simp[c2];exact Ent.refl ⟨i+1,⟨aa,jQ hi.2 (λ_ h=>by rw[ht,aj hs,c2])⟩,aa,by simp;exact aR aa⟩
 have h:qe ⟨hh,lk,qs,tasks,step⟩:=⟨hall,λs=>by
  by_cases h:s<tasks.length
  ·exact hi.2 s aa
  ·exact λh'=>absurd h' h⟩
 simp[hlt,h]
theorem FV(w:Wld)(hl:bY w<=2^30):ar Tryz.prog 80 [.agg w.row] (.one (.c (vb (fc w)) 1)):=by
 refine pci aw Tryz.func80 (λw0 base=>?_);obtain⟨nh,n2,n3,n4⟩:=bI hl;obtain⟨hh,lk,qs,tasks,step⟩:=w;have hle:=aS n4;have hlq:=aS n3;simp only at hle hlq n2 n3 n4 nh;have ew:Go.IntKind.i64.wrap ((tasks.length:Int)-1)=(tasks.length:Int)-1:=ae _ aa;simp[Wld.row];intro b1
 refine aE eok (λx:Nat×List Int×Hd=>x.1<=qs.length/\dB ⟨hh,lk,qs,tasks,step⟩ x.1=some x.2.1/\x.2.1.length<=2*x.1) (λx=>⟨111,0,[(13,.v (.int .i64 x.1)),(12,.v (.int .i64 qs.length)),(11,.ro (qs.map Queue.row)),(1,.p 16 b1 0),(3,.sl 5000 x.2.2 1 0 x.2.1.length)],
  [(16, .vars b1 39 [.v (.bool hh.shut), .ro (hh.docs.map Doc.row), .ro (hh.subs.map Sub.row), .v (.int .i64 hh.last), .ro (lk.map aG), .ro (qs.map Queue.row), .ro (tasks.map Task.row), .v (.int .i64 step)]),
   (5000,.rows x.2.2 1 (x.2.1.map aG) true)]⟩) (λx=>qs.length-x.1) (0,[],none) (by simp[dB]) ab (λx hi=>Ent.refl ?_)
 obtain⟨i,all,H⟩:=x;obtain⟨hi,hr,hal⟩:=hi;simp only at hi hr hal⊢;by_cases hlt:i<qs.length
 ·obtain⟨q,hq⟩:∃q,qs[i]=q:=⟨_,rfl⟩
  have hbad:¬il hh qs i->¬fc ⟨hh,lk,qs,tasks,step⟩:=λh=>gf (w:=⟨hh,lk,qs,tasks,step⟩) hlt (gY (w:=⟨hh,lk,qs,tasks,step⟩) hlt h)
  simp[hlt,hq,Queue.row];intro b5;refine aY.quiet eok mix al ?_;simp;have hprev:0=i\/0<i:=aa;obtain⟨prev,hcase⟩:∃prev:Prop,prev=∀h:0<i,sLt qs[i-1].doc q.doc:=⟨_,rfl⟩;have hat:∀(_:1<=q.list.length/\q.list.length<=2) (_:0<=bE hh.docs q.doc) (_:∀h:0<i,sLt qs[i-1].doc q.doc),il hh qs i:=λs2 s3 s1=>λ_=>by rw[hq];exact⟨s1,s2,s3⟩
  cases i with
  |zero=>
  replace hat:=λs2 s3=>hat s2 s3 (λh=>absurd h aa)
  simp;refine⟨_,_,bZ q.list.length 1 2,ab,?_⟩;by_cases s2:1<=q.list.length/\q.list.length<=2
  rotate_left
  ·exact zn
  have s2':1<=(q.list.length:Int)/\(q.list.length:Int)<=2:=aa;simp[s2'];refine⟨_,_,fm hh aa q.doc,bp,?_⟩;by_cases s3:0<=bE hh.docs q.doc
  rotate_left
  ·exact zk
  have s3':¬bE hh.docs q.doc<0:=aa;have hsuc:=iR (w:=⟨hh,lk,qs,tasks,step⟩) hlt hr (hat s2 s3);have hbad2:cR tasks q.doc all q.list=none->¬fc ⟨hh,lk,qs,tasks,step⟩:=λh=>gf (w:=⟨hh,lk,qs,tasks,step⟩) hlt yI
  simp only[hq]at hsuc;simp[s3']
  refine aE eok (λx:Nat×List Int×Hd=>x.1<=q.list.length/\cR tasks q.doc all (q.list.take x.1)=some x.2.1) (λx=>⟨111,0,[(50,.v (.int .i64 x.1)),(49,.v (.int .i64 q.list.length)),(48,.ro (q.list.map aG)),(5,.p 80 b5 0),(13,.v (.int .i64 0)),(12,.v (.int .i64 qs.length)),(11,.ro (qs.map Queue.row)),(1,.p 16 b1 0),(3,.sl 5000 x.2.2 1 0 x.2.1.length)],
   [(16, .vars b1 39 [.v (.bool hh.shut), .ro (hh.docs.map Doc.row), .ro (hh.subs.map Sub.row), .v (.int .i64 hh.last), .ro (lk.map aG), .ro (qs.map Queue.row), .ro (tasks.map Task.row), .v (.int .i64 step)]),(80, .vars b5 104 [.v (.string q.doc), .ro (q.list.map aG)]),
    (5000,.rows x.2.2 1 (x.2.1.map aG) true)]⟩) (λx=>q.list.length-x.1) (0,all,H) uY ab (λx hi=>Ent.refl ?_)
  obtain⟨j,m,G⟩:=x;obtain⟨hj,hm⟩:=hi;simp only at hj hm⊢
  have hml:m.length<=2*qs.length:=by
   exact za
  by_cases hjt:j<q.list.length
  rotate_left
  ·exact NT
  obtain⟨o1,o2⟩:=mX hjt hm;obtain⟨x,hx⟩:∃x,q.list[j]=x:=⟨_,rfl⟩;rw[hx]at o1 o2;simp[hjt,hx];refine aY.quiet eok mix al ?_;simp[ew];refine⟨_,_,bZ x 0 ((tasks.length:Int)-1),ab,?_⟩;by_cases c1:0<=x/\x<=(tasks.length:Int)-1
  rotate_left
  ·exact zj
  obtain⟨k,rfl⟩:∃k:Nat,x=k:=⟨x.toNat,aa⟩;have hk:k<tasks.length:=aa;obtain⟨t,ht⟩:∃t,tasks[k]=t:=⟨_,rfl⟩
  have hmay:jH tasks q.doc k↔t.pc=2/\t.c.doc=q.doc:=by
   exact zo
  simp[c1,hk,ht,Task.row];by_cases c2:t.pc=2
  rotate_left
  ·exact zg
  simp[c2,hk,ht,Task.row];by_cases c3:t.c.doc=q.doc
  rotate_left
  ·exact zf
  simp[c3];refine⟨_,_,qj m aa k,ab,?_⟩;by_cases c4:(k:Int)∈m
  ·exact El
  simp[az c4];intro b40;refine⟨aa,λG'=>Ent.refl ⟨j+1,m++[(k:Int)],⟨aa,o1 ⟨hmay.2 ⟨c2,c3⟩,c4⟩⟩,aa,G',?_⟩⟩;simp;exact aR aa
  |succ p=>
  have hp1:p<qs.length:=aa;have ek:Go.IntKind.i64.wrap (p:Int)=p:=fE aa;have hp0:(0:Int)<(p:Int)+1:=aa;obtain⟨y,hy⟩:∃y,qs[p]=y:=⟨_,rfl⟩;simp[ek,hp0,hp1,hy,Queue.row];by_cases s1:sLt y.doc q.doc
  rotate_left
  ·exact Nr
  replace hat:=λs2 s3=>hat s2 s3 (λ_=>yM)
  simp[s1];refine⟨_,_,bZ q.list.length 1 2,ab,?_⟩;by_cases s2:1<=q.list.length/\q.list.length<=2
  rotate_left
  ·exact zn
  have s2':1<=(q.list.length:Int)/\(q.list.length:Int)<=2:=aa;simp[s2'];refine⟨_,_,fm hh aa q.doc,bp,?_⟩;by_cases s3:0<=bE hh.docs q.doc
  rotate_left
  ·exact zk
  have s3':¬bE hh.docs q.doc<0:=aa;have hsuc:=iR (w:=⟨hh,lk,qs,tasks,step⟩) hlt hr (hat s2 s3);have hbad2:cR tasks q.doc all q.list=none->¬fc ⟨hh,lk,qs,tasks,step⟩:=λh=>gf (w:=⟨hh,lk,qs,tasks,step⟩) hlt yI
  simp only[hq]at hsuc;simp[s3']
  refine aE eok (λx:Nat×List Int×Hd=>x.1<=q.list.length/\cR tasks q.doc all (q.list.take x.1)=some x.2.1) (λx=>⟨111,0,[(50,.v (.int .i64 x.1)),(49,.v (.int .i64 q.list.length)),(48,.ro (q.list.map aG)),(5,.p 80 b5 0),(13,.v (.int .i64 ((p:Int)+1))),(12,.v (.int .i64 qs.length)),(11,.ro (qs.map Queue.row)),(1,.p 16 b1 0),(3,.sl 5000 x.2.2 1 0 x.2.1.length)],
   [(16, .vars b1 39 [.v (.bool hh.shut), .ro (hh.docs.map Doc.row), .ro (hh.subs.map Sub.row), .v (.int .i64 hh.last), .ro (lk.map aG), .ro (qs.map Queue.row), .ro (tasks.map Task.row), .v (.int .i64 step)]),(80, .vars b5 104 [.v (.string q.doc), .ro (q.list.map aG)]),
    (5000,.rows x.2.2 1 (x.2.1.map aG) true)]⟩) (λx=>q.list.length-x.1) (0,all,H) uY ab (λx hi=>Ent.refl ?_)
  obtain⟨j,m,G⟩:=x;obtain⟨hj,hm⟩:=hi;simp only at hj hm⊢
  have hml:m.length<=2*qs.length:=by
   exact za
  by_cases hjt:j<q.list.length
  rotate_left
  ·exact NZ
  obtain⟨o1,o2⟩:=mX hjt hm;obtain⟨x,hx⟩:∃x,q.list[j]=x:=⟨_,rfl⟩;rw[hx]at o1 o2;simp[hjt,hx];refine aY.quiet eok mix al ?_;simp[ew];refine⟨_,_,bZ x 0 ((tasks.length:Int)-1),ab,?_⟩;by_cases c1:0<=x/\x<=(tasks.length:Int)-1
  rotate_left
  ·exact zj
  obtain⟨k,rfl⟩:∃k:Nat,x=k:=⟨x.toNat,aa⟩;have hk:k<tasks.length:=aa;obtain⟨t,ht⟩:∃t,tasks[k]=t:=⟨_,rfl⟩
  have hmay:jH tasks q.doc k↔t.pc=2/\t.c.doc=q.doc:=by
   exact zo
  simp[c1,hk,ht,Task.row];by_cases c2:t.pc=2
  rotate_left
  ·exact zg
  simp[c2,hk,ht,Task.row];by_cases c3:t.c.doc=q.doc
  rotate_left
  ·exact zf
  simp[c3];refine⟨_,_,qj m aa k,ab,?_⟩;exact Lz
 have hie:i=qs.length:=aa;subst hie;simp
 refine aE eok (λk:Nat=>k<=tasks.length/\∀j,j<k->∀hj:j<tasks.length,tasks[j].pc=2->(j:Int)∈all) (λk=>⟨111,0,[(96,.v (.int .i64 k)),(95,.v (.int .i64 tasks.length)),(94,.ro (tasks.map Task.row)),(3,.sl 5000 H 1 0 all.length)],
  [(5000,.rows H 1 (all.map aG) true)]⟩) (λk=>tasks.length-k) 0 ab ab (λk hk=>Ent.refl ?_)
 by_cases hlt:k<tasks.length
 ·obtain⟨t,ht⟩:∃t,tasks[k]=t:=⟨_,rfl⟩
  simp[hlt,ht,Task.row];intro b9;by_cases c1:t.pc=2
  rotate_left
  ·exact NM
  simp[c1];refine ag.pure (qj all aa k) ab ?_;exact Oj
 exact M3
theorem Fg(w:Wld)(hl:bY w<=2^30):ar Tryz.prog 63 [.agg w.row] (.one (.c (vb (fc w)) 1)):=by
 refine pci aw Tryz.func63 (λw0 base=>?_);obtain⟨nh,n2,n3,n4⟩:=bI hl;obtain⟨hh,lk,qs,tasks,step⟩:=w;have hle:=aS n4;have hlq:=aS n3;simp only at hle hlq n2 n3 n4 nh;have ew:Go.IntKind.i64.wrap ((tasks.length:Int)-1)=(tasks.length:Int)-1:=ae _ aa;simp[Wld.row];intro b1 b10
 refine aE eok (λx:Nat×List Int×Hd=>x.1<=qs.length/\dB ⟨hh,lk,qs,tasks,step⟩ x.1=some x.2.1/\x.2.1.length<=2*x.1) (λx=>⟨112,0,[(14,.v (.int .i64 x.1)),(13,.v (.int .i64 qs.length)),(12,.ro (qs.map Queue.row)),(1,.p 16 b1 0),(3,.sl 160 x.2.2 1 0 x.2.1.length)],
  [(16, .vars b1 39 [.v (.bool hh.shut), .ro (hh.docs.map Doc.row), .ro (hh.subs.map Sub.row), .v (.int .i64 hh.last), .ro (lk.map aG), .ro (qs.map Queue.row), .ro (tasks.map Task.row), .v (.int .i64 step)]),
   (160,.rows x.2.2 1 (x.2.1.map aG) true)]⟩) (λx=>qs.length-x.1) (0,[],some (b10,0,0)) (by simp[dB]) ab (λx hi=>Ent.refl ?_)
 obtain⟨i,all,H⟩:=x;obtain⟨hi,hr,hal⟩:=hi;simp only at hi hr hal⊢;by_cases hlt:i<qs.length
 ·obtain⟨q,hq⟩:∃q,qs[i]=q:=⟨_,rfl⟩
  have hbad:¬il hh qs i->¬fc ⟨hh,lk,qs,tasks,step⟩:=λh=>gf (w:=⟨hh,lk,qs,tasks,step⟩) hlt (gY (w:=⟨hh,lk,qs,tasks,step⟩) hlt h)
  simp[hlt,hq,Queue.row];intro b5;refine aY.quiet eok mix al ?_;simp;have hprev:0=i\/0<i:=aa;obtain⟨prev,hcase⟩:∃prev:Prop,prev=∀h:0<i,sLt qs[i-1].doc q.doc:=⟨_,rfl⟩;have hat:∀(_:1<=q.list.length/\q.list.length<=2) (_:0<=bE hh.docs q.doc) (_:∀h:0<i,sLt qs[i-1].doc q.doc),il hh qs i:=λs2 s3 s1=>λ_=>by rw[hq];exact⟨s1,s2,s3⟩
  cases i with
  |zero=>
  replace hat:=λs2 s3=>hat s2 s3 (λh=>absurd h aa)
  simp;refine⟨_,_,cS q.list.length 1 2,ab,?_⟩;by_cases s2:1<=q.list.length/\q.list.length<=2
  rotate_left
  ·exact zn
  have s2':1<=(q.list.length:Int)/\(q.list.length:Int)<=2:=aa;simp[s2'];refine⟨_,_,fY hh aa q.doc,bp,?_⟩;by_cases s3:0<=bE hh.docs q.doc
  rotate_left
  ·exact zk
  have s3':¬bE hh.docs q.doc<0:=aa;have hsuc:=iR (w:=⟨hh,lk,qs,tasks,step⟩) hlt hr (hat s2 s3);have hbad2:cR tasks q.doc all q.list=none->¬fc ⟨hh,lk,qs,tasks,step⟩:=λh=>gf (w:=⟨hh,lk,qs,tasks,step⟩) hlt yI
  simp only[hq]at hsuc;simp[s3']
  refine aE eok (λx:Nat×List Int×Hd=>x.1<=q.list.length/\cR tasks q.doc all (q.list.take x.1)=some x.2.1) (λx=>⟨112,0,[(51,.v (.int .i64 x.1)),(50,.v (.int .i64 q.list.length)),(49,.ro (q.list.map aG)),(5,.p 80 b5 0),(14,.v (.int .i64 0)),(13,.v (.int .i64 qs.length)),(12,.ro (qs.map Queue.row)),(1,.p 16 b1 0),(3,.sl 160 x.2.2 1 0 x.2.1.length)],
   [(16, .vars b1 39 [.v (.bool hh.shut), .ro (hh.docs.map Doc.row), .ro (hh.subs.map Sub.row), .v (.int .i64 hh.last), .ro (lk.map aG), .ro (qs.map Queue.row), .ro (tasks.map Task.row), .v (.int .i64 step)]),(80, .vars b5 104 [.v (.string q.doc), .ro (q.list.map aG)]),
    (160,.rows x.2.2 1 (x.2.1.map aG) true)]⟩) (λx=>q.list.length-x.1) (0,all,H) uY ab (λx hi=>Ent.refl ?_)
  obtain⟨j,m,G⟩:=x;obtain⟨hj,hm⟩:=hi;simp only at hj hm⊢
  have hml:m.length<=2*qs.length:=by
   exact za
  by_cases hjt:j<q.list.length
  rotate_left
  ·exact NT
  obtain⟨o1,o2⟩:=mX hjt hm;obtain⟨x,hx⟩:∃x,q.list[j]=x:=⟨_,rfl⟩;rw[hx]at o1 o2;simp[hjt,hx];refine aY.quiet eok mix al ?_;simp[ew];refine⟨_,_,cS x 0 ((tasks.length:Int)-1),ab,?_⟩;by_cases c1:0<=x/\x<=(tasks.length:Int)-1
  rotate_left
  ·exact zj
  obtain⟨k,rfl⟩:∃k:Nat,x=k:=⟨x.toNat,aa⟩;have hk:k<tasks.length:=aa;obtain⟨t,ht⟩:∃t,tasks[k]=t:=⟨_,rfl⟩
  have hmay:jH tasks q.doc k↔t.pc=2/\t.c.doc=q.doc:=by
   exact zo
  simp[c1,hk,ht,Task.row];by_cases c2:t.pc=2
  rotate_left
  ·exact zg
  simp[c2,hk,ht,Task.row];by_cases c3:t.c.doc=q.doc
  rotate_left
  ·exact zf
  simp[c3];refine⟨_,_,sX m aa k,ab,?_⟩;by_cases c4:(k:Int)∈m
  ·exact El
  simp[az c4];intro b40;refine⟨aa,λG'=>Ent.refl ⟨j+1,m++[(k:Int)],⟨aa,o1 ⟨hmay.2 ⟨c2,c3⟩,c4⟩⟩,aa,G',?_⟩⟩;simp;exact aR aa
  |succ p=>
  have hp1:p<qs.length:=aa;have ek:Go.IntKind.i64.wrap (p:Int)=p:=fE aa;have hp0:(0:Int)<(p:Int)+1:=aa;obtain⟨y,hy⟩:∃y,qs[p]=y:=⟨_,rfl⟩;simp[ek,hp0,hp1,hy,Queue.row];by_cases s1:sLt y.doc q.doc
  rotate_left
  ·exact Nr
  replace hat:=λs2 s3=>hat s2 s3 (λ_=>yM)
  simp[s1];refine⟨_,_,cS q.list.length 1 2,ab,?_⟩;by_cases s2:1<=q.list.length/\q.list.length<=2
  rotate_left
  ·exact zn
  have s2':1<=(q.list.length:Int)/\(q.list.length:Int)<=2:=aa;simp[s2'];refine⟨_,_,fY hh aa q.doc,bp,?_⟩;by_cases s3:0<=bE hh.docs q.doc
  rotate_left
  ·exact zk
  have s3':¬bE hh.docs q.doc<0:=aa;have hsuc:=iR (w:=⟨hh,lk,qs,tasks,step⟩) hlt hr (hat s2 s3);have hbad2:cR tasks q.doc all q.list=none->¬fc ⟨hh,lk,qs,tasks,step⟩:=λh=>gf (w:=⟨hh,lk,qs,tasks,step⟩) hlt yI
  simp only[hq]at hsuc;simp[s3']
  refine aE eok (λx:Nat×List Int×Hd=>x.1<=q.list.length/\cR tasks q.doc all (q.list.take x.1)=some x.2.1) (λx=>⟨112,0,[(51,.v (.int .i64 x.1)),(50,.v (.int .i64 q.list.length)),(49,.ro (q.list.map aG)),(5,.p 80 b5 0),(14,.v (.int .i64 ((p:Int)+1))),(13,.v (.int .i64 qs.length)),(12,.ro (qs.map Queue.row)),(1,.p 16 b1 0),(3,.sl 160 x.2.2 1 0 x.2.1.length)],
   [(16, .vars b1 39 [.v (.bool hh.shut), .ro (hh.docs.map Doc.row), .ro (hh.subs.map Sub.row), .v (.int .i64 hh.last), .ro (lk.map aG), .ro (qs.map Queue.row), .ro (tasks.map Task.row), .v (.int .i64 step)]),(80, .vars b5 104 [.v (.string q.doc), .ro (q.list.map aG)]),
    (160,.rows x.2.2 1 (x.2.1.map aG) true)]⟩) (λx=>q.list.length-x.1) (0,all,H) uY ab (λx hi=>Ent.refl ?_)
  obtain⟨j,m,G⟩:=x;obtain⟨hj,hm⟩:=hi;simp only at hj hm⊢
  have hml:m.length<=2*qs.length:=by
   exact za
  by_cases hjt:j<q.list.length
  rotate_left
  ·exact NZ
  obtain⟨o1,o2⟩:=mX hjt hm;obtain⟨x,hx⟩:∃x,q.list[j]=x:=⟨_,rfl⟩;rw[hx]at o1 o2;simp[hjt,hx];refine aY.quiet eok mix al ?_;simp[ew];refine⟨_,_,cS x 0 ((tasks.length:Int)-1),ab,?_⟩;by_cases c1:0<=x/\x<=(tasks.length:Int)-1
  rotate_left
  ·exact zj
  obtain⟨k,rfl⟩:∃k:Nat,x=k:=⟨x.toNat,aa⟩;have hk:k<tasks.length:=aa;obtain⟨t,ht⟩:∃t,tasks[k]=t:=⟨_,rfl⟩
  have hmay:jH tasks q.doc k↔t.pc=2/\t.c.doc=q.doc:=by
   exact zo
  simp[c1,hk,ht,Task.row];by_cases c2:t.pc=2
  rotate_left
  ·exact zg
  simp[c2,hk,ht,Task.row];by_cases c3:t.c.doc=q.doc
  rotate_left
  ·exact zf
  simp[c3];refine⟨_,_,sX m aa k,ab,?_⟩;exact Lz
 have hie:i=qs.length:=aa;subst hie;simp
 refine aE eok (λk:Nat=>k<=tasks.length/\∀j,j<k->∀hj:j<tasks.length,tasks[j].pc=2->(j:Int)∈all) (λk=>⟨112,0,[(97,.v (.int .i64 k)),(96,.v (.int .i64 tasks.length)),(95,.ro (tasks.map Task.row)),(3,.sl 160 H 1 0 all.length)],
  [(160,.rows H 1 (all.map aG) true)]⟩) (λk=>tasks.length-k) 0 ab ab (λk hk=>Ent.refl ?_)
 by_cases hlt:k<tasks.length
 ·obtain⟨t,ht⟩:∃t,tasks[k]=t:=⟨_,rfl⟩
  simp[hlt,ht,Task.row];intro b9;by_cases c1:t.pc=2
  rotate_left
  ·exact NM
  simp[c1];refine ag.pure (sX all aa k) ab ?_;exact Oj
 exact M3
def rE(n i:Nat):List Int:=List.replicate i (-1)++List.replicate (n-i) 0
theorem J0(n:Nat):List.replicate n [CD.v (.int .i64 0)]=(rE n 0).map aG:=by
 unfold rE;simp[aG]
theorem J1(n:Nat):rE n n=List.replicate n (-1):=by unfold rE;simp
theorem QH{n i:Nat}(h:i<=n):(rE n i).length=n:=by unfold rE;simp;omega
theorem QG{n i:Nat}(h:i<n):(rE n i).set i (-1)=rE n (i+1):=by
 unfold rE;refine eA aN (λj h1 h2=>?_);simp only[jz,List.getElem_append,List.length_replicate,List.getElem_replicate]
 repeat' split
 all_goals omega
theorem V4{l:List Int}{i:Nat}{x:Int}:(l.map aG).set i [.v (.int .i64 x)]=(l.set i x).map aG:=by rw[yj]
theorem BG{w:Wld}(h:¬∀t∈w.tasks,fI t):¬bo w:=λh'=>h h'.1
theorem hQ(w:Wld)(hl:bY w<=2^30):ar Tryz.prog 31 [.agg w.row] (.one (.c (vb (bo w)) 1)):=by
 refine pci aw Tryz.func31 (λw0 base=>?_);have hSt:=B0 w (by have:=aS (bI hl).2.2.2;omega);have hQu:=FV w hl;obtain⟨nh,n2,n3,n4⟩:=bI hl;obtain⟨hh,lk,qs,tasks,step⟩:=w;have hle:=aS n4;simp only at hle n2 n4 nh hSt;simp[Wld.row];intro b1;refine ag.pure (el hh aa) bp ?_;by_cases c1:bJ hh
 rotate_left
 ·exact Le
 simp[c1];refine ag.pure (bZ lk.length 1 4) ab ?_;by_cases c2:1<=lk.length/\lk.length<=4
 rotate_left
 ·exact Nx
 have c2':1<=(lk.length:Int)/\(lk.length:Int)<=4:=aa;simp[c2'];by_cases c3:tasks.length<=10
 rotate_left
 ·have h:¬bo ⟨hh,lk,qs,tasks,step⟩:=λh=>c3 h.2.2.2.1
  have c3':10<(tasks.length:Int):=aa;simp[c3',az h]
 have c3':¬10<(tasks.length:Int):=aa;simp[c3'];refine ag.pure (bZ step 0 1000000) ab ?_;by_cases c4:0<=step/\step<=1000000
 rotate_left
 ·exact Mw
 simp[c4];refine⟨aa,λb=>?_⟩
 refine aE eok (λi:Nat=>i<=lk.length) (λi=>⟨88,0,[(37,.v (.int .i64 i)),(36,.v (.int .i64 lk.length)),(4,.sl 544 (some (b,0,lk.length)) 1 0 lk.length),(3,.v (.int .i64 lk.length)),(1,.p 16 b1 0)],
  [(16, .vars b1 39 [.v (.bool hh.shut), .ro (hh.docs.map Doc.row), .ro (hh.subs.map Sub.row), .v (.int .i64 hh.last), .ro (lk.map aG), .ro (qs.map Queue.row), .ro (tasks.map Task.row), .v (.int .i64 step)]),
   (544,.rows (some (b,0,lk.length)) 1 ((rE lk.length i).map aG) true)]⟩) (λi=>lk.length-i) 0 ab (by simp[J0]) (λi hi=>Ent.refl ?_)
 by_cases hlt:i<lk.length
 ·have hL:=QH (n:=lk.length) (i:=i) aa
  have hli:i<(rE lk.length i).length:=aa;simp[hlt,hL,V4,QG hlt];refine Ent.refl ⟨i+1,aa,aa,?_⟩;exact og
 have hie:i=lk.length:=aa;subst hie;rw[J1];simp[-List.map_replicate]
 refine aE eok (λx:Nat×List Int=>x.1<=tasks.length/\(∀t∈tasks.take x.1,fI t)/\rI tasks lk.length x.1 x.2) (λx=>⟨88,0,[(47,.v (.int .i64 x.1)),(46,.v (.int .i64 tasks.length)),(45,.ro (tasks.map Task.row)),(4,.sl 544 (some (b,0,lk.length)) 1 0 lk.length),(3,.v (.int .i64 lk.length)),(1,.p 16 b1 0)],
  [(16, .vars b1 39 [.v (.bool hh.shut), .ro (hh.docs.map Doc.row), .ro (hh.subs.map Sub.row), .v (.int .i64 hh.last), .ro (lk.map aG), .ro (qs.map Queue.row), .ro (tasks.map Task.row), .v (.int .i64 step)]),
   (544,.rows (some (b,0,lk.length)) 1 (x.2.map aG) true)]⟩) (λx=>tasks.length-x.1) (0,List.replicate lk.length (-1)) ⟨ab,ab,QP _ _⟩ (by simp[-List.map_replicate]) (λx hi=>Ent.refl ?_)
 obtain⟨i,held⟩:=x;obtain⟨hi,htk,hh'⟩:=hi;simp only at hi htk hh'⊢;have hhl:=hh'.1;by_cases hlt:i<tasks.length
 ·obtain⟨t,ht⟩:∃t,tasks[i]=t:=⟨_,rfl⟩
  have hm:=cT n4 hlt;rw[ht]at hm;have hmem:t∈tasks:=by rw[<-ht];exact ak hlt
  simp[hlt,ht,Task.row];intro b7;refine ag.pure (FP t aa) lW ?_;by_cases d1:fI t
  rotate_left
  ·exact MR
  have htk':=v9 hlt htk (by rw[ht];exact d1);simp[d1];by_cases d2:t.pc=1
  rotate_left
  ·simp[d2]
   refine Ent.refl ⟨i+1,held,⟨aa,htk',QQ hh' hlt (by rw[ht];exact d2)⟩,aa,?_⟩;exact og
  simp[d2];refine ag.pure (lv t.c.doc (by have:=wI hm;omega) lk.length c2.1 aa) ab ?_;obtain⟨s,hs⟩:∃s,bX t.c.doc lk.length=s:=⟨_,rfl⟩;have hsl:s<lk.length:=by rw[<-hs];exact(jF t.c.doc c2.1).2
  have hsh:s<held.length:=aa;simp[hs,hsl,hsh];by_cases d3:held[s] = -1
  rotate_left
  ·have h:¬bo ⟨hh,lk,qs,tasks,step⟩:=λh=>by
    refine T4 (locks:=lk) hh' hlt (by rw[ht];exact d2) (by rw[ht,hs];exact hsh) ?_ h.2.2.2.2.2.2.1.2;simp only[ht,hs];exact d3
   simp[d3,az h]
  simp[d3,hsl,hhl];refine Ent.refl ⟨i+1,held.set s i,⟨aa,htk',T5 hh' hlt (by rw[ht];exact d2) (by rw[ht];exact hs) hsh d3⟩,aa,?_⟩;exact og
 have hie:i=tasks.length:=aa;subst hie;rw[cU]at htk;have he:=T6 c2.1 hh';simp;refine ag.pure (sY held lk aa) (by simp[hhl]) ?_;have hW:bo ⟨hh,lk,qs,tasks,step⟩↔j6 ⟨hh,lk,qs,tasks,step⟩/\held=lk/\fc ⟨hh,lk,qs,tasks,step⟩:=⟨λh=>⟨h.2.2.2.2.2.1,he.2 h.2.2.2.2.2.2.1,h.2.2.2.2.2.2.2⟩,λh=>⟨htk,c1,c2,c3,c4,h.1,he.1 h.2.1,h.2.2⟩⟩;by_cases d1:held=lk
 rotate_left
 ·have h:¬bo ⟨hh,lk,qs,tasks,step⟩:=λh=>d1 (hW.1 h).2.1
  simp[d1,az h]
 simp[d1];refine ag.pure hSt ab ?_;by_cases d2:j6 ⟨hh,lk,qs,tasks,step⟩
 rotate_left
 ·have h:¬bo ⟨hh,lk,qs,tasks,step⟩:=λh=>d2 (hW.1 h).1
  simp[az d2,az h]
 simp[d2];refine ag.pure hQu bS ?_;have e:vb (fc ⟨hh,lk,qs,tasks,step⟩)=vb (bo ⟨hh,lk,qs,tasks,step⟩):=um ⟨λh=>hW.2 ⟨d2,d1,h⟩,λh=>(hW.1 h).2.2⟩;rw[e];simp
theorem jT(w:Wld)(hl:bY w<=2^30):ar Tryz.prog 21 [.agg w.row] (.one (.c (vb (bo w)) 1)):=by
 refine pci aw Tryz.func21 (λw0 base=>?_);have hSt:=G8 w hl;have hLo:=He w hl;have hQu:=Fg w hl;obtain⟨nh,n2,n3,n4⟩:=bI hl;obtain⟨hh,lk,qs,tasks,step⟩:=w;have hle:=aS n4;simp only at hle n2 n4 nh hLo;simp[Wld.row];intro b1
 refine aE eok (λi:Nat=>i<=tasks.length/\∀t∈tasks.take i,fI t) (λi=>⟨48,0,[(8,.v (.int .i64 i)),(7,.v (.int .i64 tasks.length)),(6,.ro (tasks.map Task.row)),(1,.p 16 b1 0)],
  [(16,.vars b1 39 [.v (.bool hh.shut),.ro (hh.docs.map Doc.row),.ro (hh.subs.map Sub.row),.v (.int .i64 hh.last),.ro (lk.map aG),.ro (qs.map Queue.row),.ro (tasks.map Task.row),.v (.int .i64 step)])]⟩) (λi=>tasks.length-i) 0 ab ab (λi hi=>Ent.refl ?_)
 obtain⟨hi,htk⟩:=hi;by_cases hlt:i<tasks.length
 ·obtain⟨t,ht⟩:∃t,tasks[i]=t:=⟨_,rfl⟩
  have hm:=cT n4 hlt;rw[ht]at hm;have hmem:t∈tasks:=by rw[<-ht];exact ak hlt
  simp[hlt,ht,Task.row];intro b7;refine ag.pure (Fa t aa) lW ?_;by_cases d1:fI t
  rotate_left
  ·exact MR
  simp[d1];exact Ent.refl ⟨i+1,⟨aa,v9 hlt htk (by rw[ht];exact d1)⟩,aa,by simp;exact aR aa⟩
 have hie:i=tasks.length:=aa;subst hie;rw[cU]at htk;simp;refine ag.pure (gd hh aa) bp ?_;by_cases c1:bJ hh
 rotate_left
 ·exact Le
 simp[c1];refine ag.pure (cS lk.length 1 4) ab ?_;by_cases c2:1<=lk.length/\lk.length<=4
 rotate_left
 ·exact Nx
 have c2':1<=(lk.length:Int)/\(lk.length:Int)<=4:=aa;simp[c2'];by_cases c3:tasks.length<=10
 rotate_left
 ·have h:¬bo ⟨hh,lk,qs,tasks,step⟩:=λh=>c3 h.2.2.2.1
  have c3':¬(tasks.length:Int)<=10:=aa;simp[c3',az h]
 have c3':(tasks.length:Int)<=10:=aa;simp[c3'];refine ag.pure (cS step 0 1000000) ab ?_;by_cases c4:0<=step/\step<=1000000
 rotate_left
 ·exact Mw
 simp[c4];refine ag.pure hSt bS ?_;by_cases d2:j6 ⟨hh,lk,qs,tasks,step⟩
 rotate_left
 ·have h:¬bo ⟨hh,lk,qs,tasks,step⟩:=λh=>d2 h.2.2.2.2.2.1
  simp[az d2,az h]
 simp[d2];refine ag.pure (hLo c2.1) bS ?_;by_cases d3:qe ⟨hh,lk,qs,tasks,step⟩
 rotate_left
 ·have h:¬bo ⟨hh,lk,qs,tasks,step⟩:=λh=>d3 h.2.2.2.2.2.2.1
  simp[az d3,az h]
 simp[d3];refine ag.pure hQu bS ?_;have e:vb (fc ⟨hh,lk,qs,tasks,step⟩)=vb (bo ⟨hh,lk,qs,tasks,step⟩):=um ⟨λh=>⟨htk,c1,c2,c3,c4,d2,d3,h⟩,λh=>h.2.2.2.2.2.2.2⟩;rw[e];simp
theorem Ku(c:Call)(hl:dX c<=2^30):ar Tryz.prog 138 [.agg c.row] (.one (.agg c.res)):=by
 refine pci aw Tryz.func138 (λw0 base=>?_);unfold dX at hl;simp[Call.row];intro b1 b2;refine ag.pure (A7 c.o aa) ab ?_;simp;intro H1;refine ag.pure (jy c.text aa) ab ?_;simp[Call.res]
theorem Gw(a:Answer)(hl:cH a<=2^30):ar Tryz.prog 139 [.agg a.row] (.one (.agg a.res)):=by
 refine pci aw Tryz.func139 (λw0 base=>?_);unfold cH at hl;simp[Answer.row];intro b1 b2;refine ag.pure (jy a.text aa) ab ?_;simp;intro H1;refine ag.pure (jW a.list aa) ab ?_;simp[Answer.res]
theorem QB(c:Call)(hl:dX c<=2^30):ar Tryz.prog 117 [.agg c.row] (.one (.agg c.res)):=by
 refine pci aw Tryz.func117 (λw0 base=>?_);unfold dX at hl;have h8:c.text.length*8<=140737488355328:=aa;simp[Call.row];intro b1 b2;refine ag.pure (wL c.o aa) ab ?_;simp[h8];intros;simp[Call.res]
theorem H8(a:Answer)(hl:cH a<=2^30):ar Tryz.prog 118 [.agg a.row] (.one (.agg a.res)):=by
 refine pci aw Tryz.func118 (λw0 base=>?_);unfold cH at hl;have h8:a.text.length*8<=140737488355328:=aa;simp[Answer.row];intro b1 b2;simp[h8];intros;refine ag.pure (gM a.list aa) ab ?_;simp[Answer.res]
theorem QA(t:Task)(hl:dq t<=2^30):ar Tryz.prog 65 [.agg t.row] (.one (.agg t.res)):=by
 refine pci aw Tryz.func65 (λw0 base=>?_);obtain⟨n1,n2⟩:=qb hl;simp[Task.row];intro b1 b2;refine ag.pure (QB t.c n1) i4 ?_;simp[Call.res];intro H1 H2;refine ag.pure (H8 t.a n2) mM ?_;simp[Answer.res];intros;simp[Task.res]
theorem IL(l:List Task)(hl:nL dq l<=2^30):ar Tryz.prog 83 [.c (.s (l.map Task.row))] (.one (.c (.s (l.map Task.row)) 15)):=by
 refine pci aw Tryz.func83 (λw0 base=>?_);have hle:=aS hl;simp;refine aE eok (λx:Nat×Hd=>x.1<=l.length) (λx=>⟨26,0,[(8,.v (.int .i64 x.1)),(7,.v (.int .i64 l.length)),(6,.ro (l.map Task.row)),(3,.sl 5000 x.2 15 0 x.1)],[(5000,.rows x.2 15 ((l.take x.1).map Task.row) true)]⟩) (λx=>l.length-x.1) (0,none) ab ab (λx hx=>Ent.refl ?_);obtain⟨i,H⟩:=x;simp only at hx⊢;by_cases hlt:i<l.length
 ·obtain⟨n1,n2⟩:=qb (cT hl hlt)
  simp[hlt,Task.row];intro b5;refine ag.pure (Ku l[i].c n1) i4 ?_;simp[Call.res];intro H1 H2;refine ag.pure (Gw l[i].a n2) mM ?_;simp[Answer.res];intro H3 H4;have e1:min i l.length=i:=aa;simp[e1];intro b6;refine⟨aa,λH2=>Ent.refl ⟨i+1,aa,aa,H2,?_⟩⟩;simp;exact⟨aR aa,iO (f:=Task.row) hlt⟩
 ·exact Ey
theorem iA(w:Wld)(hl:bY w<=2^30):ar Tryz.prog 33 [.agg w.row] (.one (.agg w.res)):=by
 refine pci aw Tryz.func33 (λw0 base=>?_);obtain⟨nh,n2,n3,n4⟩:=bI hl;obtain⟨hh,lk,qs,tasks,step⟩:=w;have hle:=aS n4;have hlq:=aS n3;simp only at hle hlq n2 n3 n4 nh;simp[Wld.row];intro b1 b2;refine dS (λx:Hd×Hd×Hd×Hd×Nat=>[(3,.p 48 x.2.2.2.2 0)]) (λx=>[(48,.vars x.2.2.2.2 39 [.v (.bool hh.shut),.sl 129 x.1 5 0 hh.docs.length,.sl 130 x.2.1 6 0 hh.subs.length,.v (.int .i64 hh.last),.sl 176 x.2.2.1 1 0 lk.length,.nil,.sl 224 x.2.2.2.1 15 0 tasks.length,.v (.int .i64 step)]),(129,.rows x.1 5 (hh.docs.map Doc.row) true),(130,.rows x.2.1 6 (hh.subs.map Sub.row) true),(176,.rows x.2.2.1 1 (lk.map aG) true),(224,.rows x.2.2.2.1 15 (tasks.map Task.row) true)]) [1,2] ?_ ?_
 ·refine drw eok mix [0,1,3,4,6,7,9,10] [2,5,8,11,12,13] (.c 8 2 64 191 (.c 8 5 16 175 (.c 8 8 4 171 (.c 8 11 1 170 (.c 8 12 0 170 (.c 8 13 170 0 (.l 8 0) .s) .s) (.c 8 12 0 171 (.c 8 11 1 170 (.c 8 13 170 0 (.l 8 0) .s) .s) .s)) (.c 8 12 0 175 (.c 8 8 4 171 (.c 8 11 1 170 (.c 8 13 170 0 (.l 8 0) .s) .s) .s) .s)) (.c 8 12 0 191 (.c 8 5 16 175 (.c 8 8 4 171 (.c 8 11 1 170 (.c 8 13 170 0 (.l 8 0) .s) .s) .s) .s) .s)) (.c 8 12 0 255 (.c 8 2 64 191 (.c 8 5 16 175 (.c 8 8 4 171 (.c 8 11 1 170 (.c 8 13 170 0 (.l 8 0) .s) .s) .s) .s) .s) .s)) ?_
  simp
  try intros
  repeat' first
   |(refine ag.pure (eI hh nh) bp ?_;simp[Hub.res];try intros)
   |(refine ag.pure (jy lk aa) ab ?_;simp;try intros)
   |(refine ag.pure (IL tasks n4) ab ?_;simp;try intros)
   |(rw[Trc];refine⟨?_,?_⟩<;>(try simp)<;>try intros)
 rintro⟨H1,H2,H3,H4,b3⟩
 simp
 refine aE eok (λx:Nat×Hd=>x.1<=qs.length) (λx=>⟨38,0,[(21,.v (.int .i64 x.1)),(20,.v (.int .i64 qs.length)),(19,.ro (qs.map Queue.row)),(3,.p 48 b3 0),(2,.p 32 b2 0)],
  [(48, .vars b3 39 [.v (.bool hh.shut), .sl 129 H1 5 0 hh.docs.length, .sl 130 H2 6 0 hh.subs.length, .v (.int .i64 hh.last), .sl 176 H3 1 0 lk.length, .sl 5000 x.2 2 0 x.1, .sl 224 H4 15 0 tasks.length, .v (.int .i64 step)]),
   (32,.vars b2 39 [.v (.bool false),.nil,.nil,.v (.int .i64 0),.nil,.nil,.nil,.v (.int .i64 0)]),
   (129,.rows H1 5 (hh.docs.map Doc.row) true),(130,.rows H2 6 (hh.subs.map Sub.row) true),(176,.rows H3 1 (lk.map aG) true),(224,.rows H4 15 (tasks.map Task.row) true),(5000,.rows x.2 2 ((qs.take x.1).map Queue.row) true)]⟩) (λx=>qs.length-x.1) (0,none) ab ab (λx hi=>Ent.refl ?_)
 obtain⟨i,H⟩:=x;simp only at hi⊢;by_cases hlt:i<qs.length
 ·have hm:=cT n3 hlt
  unfold ca at hm;have e1:min i qs.length=i:=aa;simp[hlt,Queue.row];intro b5;refine drw eok mix [0,1,2,3,4,5,10] [6,7,8,9,11] (.c 7 6 2 125 (.c 7 7 8 117 (.c 7 8 0 117 (.c 7 9 32 85 (.c 7 11 85 0 (.l 7 0) .s) .s) .s) .s) .s) ?_;simp
  try intros
  refine ag.pure (jy qs[i].list aa) ab ?_;simp;exact Nu
 have hm:i=qs.length:=aa;subst hm;simp[Wld.res]
theorem tc(w:Wld)(hl:bY w<=2^30):ar Tryz.prog 23 [.agg w.row] (.one (.agg w.res)):=by
 refine pci aw Tryz.func23 (λw0 base=>?_);obtain⟨nh,n2,n3,n4⟩:=bI hl;obtain⟨hh,lk,qs,tasks,step⟩:=w;have hle:=aS n4;have hlq:=aS n3;simp only at hle hlq n2 n3 n4 nh;have h8:lk.length*8<=140737488355328:=aa;simp[Wld.row];intro b1 b2;refine dS (λx:Hd×Hd×Hd×Nat=>[(3,.p 48 x.2.2.2 0)]) (λx=>[(48,.vars x.2.2.2 39 [.v (.bool hh.shut),.sl 161 x.1 5 0 hh.docs.length,.sl 162 x.2.1 6 0 hh.subs.length,.v (.int .i64 hh.last),.sl 176 x.2.2.1 1 0 lk.length,.nil,.nil,.v (.int .i64 step)]),(161,.rows x.1 5 (hh.docs.map Doc.row) true),(162,.rows x.2.1 6 (hh.subs.map Sub.row) true),(176,.rows x.2.2.1 1 (lk.map aG) true)]) [1,2] ?_ ?_
 ·refine drw eok mix [0,1,4,5,7,8] [2,3,6,9,10,11] (.c 6 2 16 47 (.c 6 3 0 47 (.c 6 6 4 43 (.c 6 9 1 42 (.c 6 10 0 42 (.c 6 11 42 0 (.l 6 0) .s) .s) (.c 6 10 0 43 (.c 6 9 1 42 (.c 6 11 42 0 (.l 6 0) .s) .s) .s)) (.c 6 10 0 47 (.c 6 6 4 43 (.c 6 9 1 42 (.c 6 11 42 0 (.l 6 0) .s) .s) .s) .s)) (.c 6 10 0 47 (.c 6 3 0 47 (.c 6 6 4 43 (.c 6 9 1 42 (.c 6 11 42 0 (.l 6 0) .s) .s) .s) .s) .s)) (.c 6 3 0 63 (.c 6 2 16 47 (.c 6 6 4 43 (.c 6 9 1 42 (.c 6 10 0 42 (.c 6 11 42 0 (.l 6 0) .s) .s) (.c 6 10 0 43 (.c 6 9 1 42 (.c 6 11 42 0 (.l 6 0) .s) .s) .s)) (.c 6 10 0 47 (.c 6 6 4 43 (.c 6 9 1 42 (.c 6 11 42 0 (.l 6 0) .s) .s) .s) .s)) (.c 6 10 0 63 (.c 6 2 16 47 (.c 6 6 4 43 (.c 6 9 1 42 (.c 6 11 42 0 (.l 6 0) .s) .s) .s) .s) .s)) (.c 6 10 0 63 (.c 6 2 16 47 (.c 6 3 0 47 (.c 6 6 4 43 (.c 6 9 1 42 (.c 6 11 42 0 (.l 6 0) .s) .s) .s) .s) (.c 6 3 0 63 (.c 6 2 16 47 (.c 6 6 4 43 (.c 6 9 1 42 (.c 6 11 42 0 (.l 6 0) .s) .s) .s) .s) .s)) .s))) ?_
  simp
  try intros
  repeat' first
   |(refine ag.pure (gD hh nh) bp ?_;simp[Hub.res,h8];try intros)
   |(rw[Trc];refine⟨?_,?_⟩<;>(try simp[h8])<;>try intros)
 rintro⟨H1,H2,H3,b3⟩
 simp
 refine aE eok (λx:Nat×Hd=>x.1<=qs.length) (λx=>⟨54,0,[(21,.v (.int .i64 x.1)),(20,.v (.int .i64 qs.length)),(19,.ro (qs.map Queue.row)),(1,.p 16 b1 0),(3,.p 48 b3 0),(2,.p 32 b2 0)],
  [(48, .vars b3 39 [.v (.bool hh.shut), .sl 161 H1 5 0 hh.docs.length, .sl 162 H2 6 0 hh.subs.length, .v (.int .i64 hh.last), .sl 176 H3 1 0 lk.length, .sl 5000 x.2 2 0 x.1, .nil, .v (.int .i64 step)]),
   (32,.vars b2 39 [.v (.bool false),.nil,.nil,.v (.int .i64 0),.nil,.nil,.nil,.v (.int .i64 0)]),
   (16,.vars b1 39 [.v (.bool hh.shut),.ro (hh.docs.map Doc.row),.ro (hh.subs.map Sub.row),.v (.int .i64 hh.last),.ro (lk.map aG),.ro (qs.map Queue.row),.ro (tasks.map Task.row),.v (.int .i64 step)]),
   (161,.rows H1 5 (hh.docs.map Doc.row) true),(162,.rows H2 6 (hh.subs.map Sub.row) true),(176,.rows H3 1 (lk.map aG) true),(5000,.rows x.2 2 ((qs.take x.1).map Queue.row) true)]⟩) (λx=>qs.length-x.1) (0,none) ab ab (λx hi=>Ent.refl ?_)
 obtain⟨i,H⟩:=x;simp only at hi⊢;by_cases hlt:i<qs.length
 ·have hm:=cT n3 hlt
  unfold ca at hm;have e1:min i qs.length=i:=aa;have q8:qs[i].list.length*8<=140737488355328:=aa;simp[hlt,Queue.row];intro b5;refine drw eok mix [0,1,2,3,5,6,11] [4,7,8,9,10,12] (.c 7 4 0 127 (.c 7 7 2 125 (.c 7 8 8 117 (.c 7 9 0 117 (.c 7 10 32 85 (.c 7 12 85 0 (.l 7 0) .s) .s) .s) .s) .s) .s) ?_;simp[q8];exact Nu
 have hm:i=qs.length:=aa;subst hm;simp
 refine aE eok (λx:Nat×Hd=>x.1<=tasks.length) (λx=>⟨54,0,[(41,.v (.int .i64 x.1)),(40,.v (.int .i64 tasks.length)),(39,.ro (tasks.map Task.row)),(3,.p 48 b3 0),(2,.p 32 b2 0)],
  [(48, .vars b3 39 [.v (.bool hh.shut), .sl 161 H1 5 0 hh.docs.length, .sl 162 H2 6 0 hh.subs.length, .v (.int .i64 hh.last), .sl 176 H3 1 0 lk.length, .sl 5000 H 2 0 qs.length, .sl 5001 x.2 15 0 x.1, .v (.int .i64 step)]),
   (32,.vars b2 39 [.v (.bool false),.nil,.nil,.v (.int .i64 0),.nil,.nil,.nil,.v (.int .i64 0)]),
   (161,.rows H1 5 (hh.docs.map Doc.row) true),(162,.rows H2 6 (hh.subs.map Sub.row) true),(176,.rows H3 1 (lk.map aG) true),(5000,.rows H 2 (qs.map Queue.row) true),(5001,.rows x.2 15 ((tasks.take x.1).map Task.row) true)]⟩) (λx=>tasks.length-x.1) (0,none) ab ab (λx hi=>Ent.refl ?_)
 obtain⟨i,H'⟩:=x;simp only at hi⊢;by_cases hlt:i<tasks.length
 ·have hm:=cT n4 hlt
  have e1:min i tasks.length=i:=aa;simp[hlt,Task.row];intro b7;refine drw eok mix [0,1,2,6] [3,4,5,7] (.c 4 3 2 13 (.c 4 4 0 13 (.c 4 5 4 9 (.c 4 7 9 0 (.l 4 0) .s) .s) .s) .s) ?_;simp
  try intros
  refine ag.pure (QA tasks[i] hm) lW ?_;simp[Task.res]
  try intros
  simp[e1];refine⟨aa,λH''=>Ent.refl ⟨i+1,aa,aa,H'',?_⟩⟩;simp;exact⟨aR aa,iO (f:=Task.row) hlt⟩
 have hm:i=tasks.length:=aa;subst hm;simp[Wld.res]
end Go.Proofs.YtklblkobegcljaaGreat
