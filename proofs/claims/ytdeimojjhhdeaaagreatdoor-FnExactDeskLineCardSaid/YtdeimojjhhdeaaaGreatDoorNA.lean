import Derived.Test.YtdeimojjhhdeaaaGreatDoorMH
namespace Go.Proofs.YtdeimojjhhdeaaaGreatDoor
open Go.AM
set_option maxRecDepth 20000
theorem YY(x:Part)(h:aM x<=2^40):ar Tryz.prog 348 [.agg x.row] (.one (.agg x.res)):=by
 refine ar.intro' aq Tryz.func348 ai rfl rfl rfl (aj rfl) (λw0 base=>?_);unfold aM at h;simp[Part.row,Part.res]
 try intros
 refine ae.pure (Ev x.signs aa) ab ?_;simp
 try intros
theorem abq(x y:Part)(h:aM x<=2^40):ar Tryz.prog 371 [.agg x.row,.agg y.row] (.one (.c (vb (x=y)) 1)):=by
 refine ar.intro' aq Tryz.func371 ai rfl rfl rfl (aj rfl) (λw0 base=>?_);unfold aM at h;obtain⟨a0,a1,a2⟩:=x;obtain⟨b0,b1,b2⟩:=y;simp only at h;simp[Part.row]
 try intros
 by_cases h0:a0=b0
 rotate_left
 ·simp[h0]
 subst h0
 try simp
 by_cases h1:a1=b1
 rotate_left
 ·simp[h1]
 subst h1
 try simp
 refine ae.pure (Ge a2 b2 aa) ab ?_;simp;exact DN
theorem ZR(x:Part)(h:x.fits)(left:Nat)(hf:left<=2^20):ar Tryz.prog 342 [.agg x.row,.c (vi left)] (.one (.c (vi (szR (aM x) left)) 1)):=by
 refine ar.intro' aq Tryz.func342 ai rfl rfl rfl (aj rfl) (λw0 base=>?_);obtain⟨f0,f1,f2⟩:=h;obtain⟨r,hr⟩:∃r,szR (aM x) left=r:=⟨_,rfl⟩;rw[hr];have hn:aM x=x.signs.length:=rfl;simp[Part.row]
 try intros
 refine ae.pure (ED x.signs f2.1 left aa) ab ?_;by_cases k0:x.signs.length<=left
 rotate_left
 ·exact sZ
 rw[gm k0];obtain⟨m0,hm0⟩:∃m,left-x.signs.length=m:=⟨_,rfl⟩;exact J8
theorem AK(l:List Part)(hl:nL aM l<=2^40):ar Tryz.prog 303 [.c (.s (l.map Part.row))] (.one (.c (.s (l.map Part.row)) 3)):=by
 refine ar.intro' aq Tryz.func303 ai rfl rfl rfl (aj rfl) (λw0 base=>?_);have hle:=bB hl;simp;refine⟨aa,λb=>?_⟩
 refine aU.intro eok (λi:Nat=>i<=l.length) (λi=>⟨23,0,[(4,.v (.int .i64 i)),(3,.sl 112 (some (b,0,l.length)) 3 0 l.length),(0,.ro (l.map Part.row))],
  [(112,.rows (some (b,0,l.length)) 3 (o9 Part.row [.v (.int .i64 0),.v (.int .i64 0),.s []] l i) true)]⟩) (λi=>l.length-i) 0 ab sN (λi hi=>?_)
 by_cases h:i<l.length
 ·simp[h,Part.row]
  refine ae.pure (YY l[i] (eA hl h)) iP ?_;simp[Part.res,j7 hi,h];exact⟨i+1,aa,aa,aZ aa,nW (f:=Part.row) h⟩
 ·exact wG
theorem Bi(a b:List Part)(hl:nL aM a<=2^40):ar Tryz.prog 341 [.c (.s (a.map Part.row)),.c (.s (b.map Part.row))] (.one (.c (vb (a=b)) 1)):=by
 refine ar.intro' aq Tryz.func341 ai rfl rfl rfl (aj rfl) (λw0 base=>?_);have hle:=bB hl;by_cases h:a.length=b.length
 ·simp[h]
  refine aU.intro eok (λi:Nat=>i<=a.length/\a.take i=b.take i) (λi=>⟨27,0,[(5,.v (.int .i64 i)),(1,.ro (b.map Part.row)),(0,.ro (a.map Part.row))],[]⟩) (λi=>a.length-i) 0 ab ab (λi hi=>?_);by_cases hlt:i<a.length
  ·simp[hlt]
   have hlt':i<b.length:=aa;refine cg.quiet eok mix ai ?_;simp[hlt,hlt',Part.row];refine⟨_,_,abq a[i] b[i] (eA hl hlt),iP,?_⟩;simp;exact qV
  ·exact sV
 ·exact om
theorem AP(l:List Part)(hl:l.length<=9223372036854775807)(hs:∀y∈l,y.fits)(left:Nat)(hf:left<=2^20):ar Tryz.prog 272 [.c (.s (l.map Part.row)),.c (vi left)] (.one (.c (vi (szR (nL aM l) left)) 1)):=by
 refine ar.intro' aq Tryz.func272 ai rfl rfl rfl (aj rfl) (λw0 base=>?_);have hw:IntKind.i64.wrap ((left:Int)-(l.length:Int))=(left:Int)-l.length:=kc _ aa;have hn:nL aM l=l.length+dW aM l:=rfl;by_cases h:l.length<=left
 ·obtain⟨lf,hlf⟩:∃lf:Nat,left-l.length=lf:=⟨_,rfl⟩
  have hlz:(left:Int)-l.length=(lf:Int):=aa;have hw2:IntKind.i64.wrap (lf:Int)=lf:=gb aa;simp[hlz,hw2];obtain⟨r,hr⟩:∃r,szR (nL aM l) left=r:=⟨_,rfl⟩;have hr0:szR (dW aM l) lf=r:=y4;rw[hr];refine aU.intro eok (λx:Nat×Nat=>x.1<=l.length/\x.2<=2^20/\szR (dW aM (l.drop x.1)) x.2=r) (λx=>⟨27,0,[(5,.v (.int .i64 x.1)),(1,.v (.int .i64 x.2)),(0,.ro (l.map Part.row))],[]⟩) (λx=>l.length-x.1) (0,lf) y3 ab ?_
  rintro⟨i,m⟩ ⟨hi,hm,hx⟩
  simp only at hi hm hx⊢;by_cases hlt:i<l.length
  ·rw[pR hlt]at hx
   simp[hlt,Part.row];refine ae.pure (ZR l[i] (hs _ (ao hlt)) m hm) iP ?_;by_cases hk:aM l[i]<=m
   ·rw[gm hk]
    have hz:¬((m-aM l[i]:Nat):Int)<0:=aa;simp[hz];refine⟨i+1,m-aM l[i],⟨aa,aa,?_⟩,aa,aZ aa,rfl⟩;exact zc
   ·rw[iJ (show ¬aM l[i]+dW aM (l.drop (i+1))<=m from aa)]at hx
    exact y8
  ·exact zi
 ·have hz:(left:Int)-l.length<0:=by omega
  simp[hw,hz,iJ (show ¬nL aM l<=left from aa)]
theorem vn(l:List Part)(k:Int)(h0:0<=k)(hk:k+a8 Part.cnt l<=4611686018427387904)(hl:nL aM l<=2^40):jS Tryz.prog 265 (.c (.s (l.map Part.row)) 3) k (k+a8 Part.cnt l) (.c (.s ((bn Part.mark Part.cnt l k).map Part.row)) 3):=by
 refine jS.intro aq Tryz.func265 ai rfl rfl rfl ag (λw0 base=>?_);have hle:=bB hl;simp;intro H;refine aE eok (λi:Nat=>i<=l.length) (λi=>⟨34,0,[(5,.v (.int .i64 i)),(1,.v (.int .i64 (k+a8 Part.cnt (l.take i)))),(0,.ml 0 H 3 l.length)],[(0,.rows H 3 (eN Part.mark Part.cnt Part.row l k i) true)]⟩) (λi=>l.length-i) 0 ab wt (λi hi=>?_);by_cases h:i<l.length
 ·have hc:=fu (cn:=Part.cnt) h
  have hs:=eI (cn:=Part.cnt) h;have hni:=eA hl h;simp only[aM]at hni;obtain⟨q0,hq0⟩:∃q,k+((a8 Part.cnt (l.take i):Nat):Int)=q:=⟨_,rfl⟩;have hpc:l[i].cnt=2+(l[i].signs.length):=rfl;rw[hq0,<-nS h];have e0:Go.IntKind.i64.wrap q0=q0:=ah _ aa;obtain⟨q1,hq1⟩:∃q,q0+1=q:=⟨_,rfl⟩;have e1:Go.IntKind.i64.wrap q1=q1:=ah _ aa;obtain⟨q2,hq2⟩:∃q,q1+1=q:=⟨_,rfl⟩;have e2:Go.IntKind.i64.wrap q2=q2:=ah _ aa;obtain⟨q3,hq3⟩:∃q,q2+((l[i].signs.length:Nat):Int)=q:=⟨_,rfl⟩;have e3:Go.IntKind.i64.wrap q3=q3:=ah _ aa;have e:Go.IntKind.i64.wrap ((i:Int)+1)=((i+1:Nat):Int):=aZ aa
  refine Ent.open (λ_ h=>h) (k:=0) (i:=i) (j:=2) (k':=902) (sz':=1) (sz:=3) (H:=H) (rows:=((eN Part.mark Part.cnt Part.row l k i).set i l[i].row)) (srows:=l[i].signs.map aN) (row:=l[i].row) ab iO rfl ab ag (by simp[aN]) ab (λH2=>?_);refine Ent.refl ?_;simp[h,eH,Part.row,gh,jZ,hq1,e1,hq2,e2];refine ae.mark (tD l[i].signs q2 aa aa) rfl (λ_ h=>h) ab ?_;simp[e,hq3];refine jI (k:=0) (i:=i) (j:=2) (k':=902) (sz':=1) (sz:=3) (H:=H) (rows:=(eN Part.mark Part.cnt Part.row l k i).set i [vi q0,vi q1,.h 902 H2 1 l[i].signs.length]) (row:=[vi q0,vi q1,.h 902 H2 1 l[i].signs.length]) (H':=H2) (srows:=(bn kY one l[i].signs q2).map aN) ab iO pg ab ag ab ?_;exact TO
 ·have:i=l.length:=by omega
  subst this;refine Ent.refl ?_;simp[mq,bg,Part.row]
theorem vB(l:List Part)(k:Int)(h0:0<=k)(hk:k+a8 Part.cnt l<=4611686018427387904)(hl:nL aM l<=2^40):ar Tryz.prog 269 [.c (.s ((bn Part.mark Part.cnt l k).map Part.row)),.c (vi k)] (.one (.c (vi (k+a8 Part.cnt l)) 1)):=by
 refine ar.intro' aq Tryz.func269 ai rfl rfl rfl (aj rfl) (λw0 base=>?_);have hle:=bB hl;simp;refine aU.intro eok (λi:Nat=>i<=l.length) (λi=>⟨40,0,[(5,.v (.int .i64 i)),(1,.v (.int .i64 (k+a8 Part.cnt (l.take i)))),(0,.ro ((bn Part.mark Part.cnt l k).map Part.row))],[]⟩) (λi=>l.length-i) 0 ab oh (λi hi=>?_);by_cases h:i<l.length
 ·have hc:=fu (cn:=Part.cnt) h
  have hs:=eI (cn:=Part.cnt) h;have hni:=eA hl h;simp only[aM]at hni;have hm:=mr (mk:=Part.mark) (cn:=Part.cnt) (k:=k) h;obtain⟨q0,hq0⟩:∃q,k+((a8 Part.cnt (l.take i):Nat):Int)=q:=⟨_,rfl⟩;have hpc:l[i].cnt=2+(l[i].signs.length):=rfl;rw[hq0]at hm;rw[hq0];have z0:¬q0<0:=aa;have e0:Go.IntKind.i64.wrap q0=q0:=ah _ aa;obtain⟨q1,hq1⟩:∃q,q0+1=q:=⟨_,rfl⟩;have e1:Go.IntKind.i64.wrap q1=q1:=ah _ aa;have z1:¬q1<0:=aa;obtain⟨q2,hq2⟩:∃q,q1+1=q:=⟨_,rfl⟩;have e2:Go.IntKind.i64.wrap q2=q2:=ah _ aa;have z2:¬q2<0:=aa;obtain⟨q3,hq3⟩:∃q,q2+((l[i].signs.length:Nat):Int)=q:=⟨_,rfl⟩;have e3:Go.IntKind.i64.wrap q3=q3:=ah _ aa
  have z3:¬q3<0:=aa;have e:Go.IntKind.i64.wrap ((i:Int)+1)=((i+1:Nat):Int):=aZ aa;simp[h,bg,hm,Part.row,Part.mark,hq1,e1,hq2,e2];refine ae.pure (tO l[i].signs q2 aa aa) ab ?_;simp[hq3,z3];exact wB
 ·exact sY
theorem acA(x:Rep)(h:cE x<=2^40):ar Tryz.prog 208 [.agg x.row] (.one (.agg x.res)):=by
 refine ar.intro' aq Tryz.func208 ai rfl rfl rfl (aj rfl) (λw0 base=>?_);unfold cE at h;simp[Rep.row,Rep.res]
 try intros
 refine ae.pure (Ev x.text aa) ab ?_;simp
 try intros
 refine ae.pure (AK x.sent aa) ab ?_;simp
 try intros
 refine ae.pure (AK x.buf aa) ab ?_;simp
 try intros
theorem adV(x y:Rep)(h:cE x<=2^40):ar Tryz.prog 260 [.agg x.row,.agg y.row] (.one (.c (vb (x=y)) 1)):=by
 refine ar.intro' aq Tryz.func260 ai rfl rfl rfl (aj rfl) (λw0 base=>?_);unfold cE at h;obtain⟨a0,a1,a2,a3,a4,a5,a6⟩:=x;obtain⟨b0,b1,b2,b3,b4,b5,b6⟩:=y;simp only at h;simp[Rep.row]
 try intros
 by_cases h0:a0=b0
 rotate_left
 ·simp[h0]
 subst h0
 try simp
 by_cases h1:a1=b1
 rotate_left
 ·simp[h1]
 subst h1
 try simp
 by_cases h2:a2=b2
 rotate_left
 ·simp[h2]
 subst h2
 try simp
 refine ae.pure (Ge a3 b3 aa) ab ?_;simp;by_cases h3:a3=b3
 rotate_left
 ·simp[h3]
 subst h3
 try simp
 by_cases h4:a4=b4
 rotate_left
 ·simp[h4]
 subst h4
 try simp
 refine ae.pure (Bi a5 b5 aa) ab ?_;simp;by_cases h5:a5=b5
 rotate_left
 ·simp[h5]
 subst h5
 try simp
 refine ae.pure (Bi a6 b6 aa) ab ?_;simp;by_cases h6:a6=b6
 rotate_left
 ·simp[h6]
 subst h6
 try simp
theorem acI(x:Rep)(h:x.fits)(left:Nat)(hf:left<=2^20):ar Tryz.prog 162 [.agg x.row,.c (vi left)] (.one (.c (vi (szR (cE x) left)) 1)):=by
 refine ar.intro' aq Tryz.func162 ai rfl rfl rfl (aj rfl) (λw0 base=>?_);obtain⟨f0,f1,f2,f3,f4,f5,f6⟩:=h;obtain⟨r,hr⟩:∃r,szR (cE x) left=r:=⟨_,rfl⟩;rw[hr];have hn:cE x=x.text.length+(nL aM x.sent+(nL aM x.buf)):=rfl;simp[Rep.row]
 try intros
 refine ae.pure (ED x.text f3.1 left aa) ab ?_;by_cases k0:x.text.length<=left
 rotate_left
 ·exact sZ
 rw[gm k0];obtain⟨m0,hm0⟩:∃m,left-x.text.length=m:=⟨_,rfl⟩;rw[hm0];simp;refine ae.pure (AP x.sent f5.1 f5.2 m0 aa) ab ?_;by_cases k1:nL aM x.sent<=m0
 rotate_left
 ·exact wD
 rw[gm k1];obtain⟨m1,hm1⟩:∃m,m0-nL aM x.sent=m:=⟨_,rfl⟩;rw[hm1];simp;refine ae.pure (AP x.buf f6.1 f6.2 m1 aa) ab ?_;by_cases k2:nL aM x.buf<=m1
 rotate_left
 ·exact Ro
 rw[gm k2];obtain⟨m2,hm2⟩:∃m,m1-nL aM x.buf=m:=⟨_,rfl⟩;rw[hm2];have:r=(m2:Int):=by rw[<-hr,gm aa];omega
 simp[this]
theorem YX(l:List Rep)(hl:nL cE l<=2^40):ar Tryz.prog 99 [.c (.s (l.map Rep.row))] (.one (.c (.s (l.map Rep.row)) 7)):=by
 refine ar.intro' aq Tryz.func99 ai rfl rfl rfl (aj rfl) (λw0 base=>?_);have hle:=bB hl;simp;refine⟨aa,λb=>?_⟩
 refine aU.intro eok (λi:Nat=>i<=l.length) (λi=>⟨23,0,[(4,.v (.int .i64 i)),(3,.sl 112 (some (b,0,l.length)) 7 0 l.length),(0,.ro (l.map Rep.row))],
  [(112,.rows (some (b,0,l.length)) 7 (o9 Rep.row [.v (.int .i64 0),.v (.int .i64 0),.v (.int .i64 0),.s [],.v (.bool false),.s [],.s []] l i) true)]⟩) (λi=>l.length-i) 0 ab sN (λi hi=>?_)
 by_cases h:i<l.length
 ·simp[h,Rep.row]
  refine ae.pure (acA l[i] (eA hl h)) dB ?_;simp[Rep.res,j7 hi,h];exact⟨i+1,aa,aa,aZ aa,nW (f:=Rep.row) h⟩
 ·exact wG
theorem abp(a b:List Rep)(hl:nL cE a<=2^40):ar Tryz.prog 149 [.c (.s (a.map Rep.row)),.c (.s (b.map Rep.row))] (.one (.c (vb (a=b)) 1)):=by
 refine ar.intro' aq Tryz.func149 ai rfl rfl rfl (aj rfl) (λw0 base=>?_);have hle:=bB hl;by_cases h:a.length=b.length
 ·simp[h]
  refine aU.intro eok (λi:Nat=>i<=a.length/\a.take i=b.take i) (λi=>⟨27,0,[(5,.v (.int .i64 i)),(1,.ro (b.map Rep.row)),(0,.ro (a.map Rep.row))],[]⟩) (λi=>a.length-i) 0 ab ab (λi hi=>?_);by_cases hlt:i<a.length
  ·simp[hlt]
   have hlt':i<b.length:=aa;refine cg.quiet eok mix ai ?_;simp[hlt,hlt',Rep.row];refine⟨_,_,adV a[i] b[i] (eA hl hlt),dB,?_⟩;simp;exact qV
  ·exact sV
 ·exact om
theorem ZQ(l:List Rep)(hl:l.length<=9223372036854775807)(hs:∀y∈l,y.fits)(left:Nat)(hf:left<=2^20):ar Tryz.prog 51 [.c (.s (l.map Rep.row)),.c (vi left)] (.one (.c (vi (szR (nL cE l) left)) 1)):=by
 refine ar.intro' aq Tryz.func51 ai rfl rfl rfl (aj rfl) (λw0 base=>?_);have hw:IntKind.i64.wrap ((left:Int)-(l.length:Int))=(left:Int)-l.length:=kc _ aa;have hn:nL cE l=l.length+dW cE l:=rfl;by_cases h:l.length<=left
 ·obtain⟨lf,hlf⟩:∃lf:Nat,left-l.length=lf:=⟨_,rfl⟩
  have hlz:(left:Int)-l.length=(lf:Int):=aa;have hw2:IntKind.i64.wrap (lf:Int)=lf:=gb aa;simp[hlz,hw2];obtain⟨r,hr⟩:∃r,szR (nL cE l) left=r:=⟨_,rfl⟩;have hr0:szR (dW cE l) lf=r:=y4;rw[hr];refine aU.intro eok (λx:Nat×Nat=>x.1<=l.length/\x.2<=2^20/\szR (dW cE (l.drop x.1)) x.2=r) (λx=>⟨27,0,[(5,.v (.int .i64 x.1)),(1,.v (.int .i64 x.2)),(0,.ro (l.map Rep.row))],[]⟩) (λx=>l.length-x.1) (0,lf) y3 ab ?_
  rintro⟨i,m⟩ ⟨hi,hm,hx⟩
  simp only at hi hm hx⊢;by_cases hlt:i<l.length
  ·rw[pR hlt]at hx
   simp[hlt,Rep.row];refine ae.pure (acI l[i] (hs _ (ao hlt)) m hm) dB ?_;by_cases hk:cE l[i]<=m
   ·rw[gm hk]
    have hz:¬((m-cE l[i]:Nat):Int)<0:=aa;simp[hz];refine⟨i+1,m-cE l[i],⟨aa,aa,?_⟩,aa,aZ aa,rfl⟩;exact zc
   ·rw[iJ (show ¬cE l[i]+dW cE (l.drop (i+1))<=m from aa)]at hx
    exact y8
  ·exact zi
 ·have hz:(left:Int)-l.length<0:=by omega
  simp[hw,hz,iJ (show ¬nL cE l<=left from aa)]
theorem Pc(l:List Rep)(k:Int)(h0:0<=k)(hk:k+a8 Rep.cnt l<=4611686018427387904)(hl:nL cE l<=2^40):jS Tryz.prog 153 (.c (.s (l.map Rep.row)) 7) k (k+a8 Rep.cnt l) (.c (.s ((bn Rep.mark Rep.cnt l k).map Rep.row)) 7):=by
 refine jS.intro aq Tryz.func153 ai rfl rfl rfl ag (λw0 base=>?_);have hle:=bB hl;simp;intro H;refine aE eok (λi:Nat=>i<=l.length) (λi=>⟨64,0,[(5,.v (.int .i64 i)),(1,.v (.int .i64 (k+a8 Rep.cnt (l.take i)))),(0,.ml 0 H 7 l.length)],[(0,.rows H 7 (eN Rep.mark Rep.cnt Rep.row l k i) true)]⟩) (λi=>l.length-i) 0 ab wt (λi hi=>?_);by_cases h:i<l.length
 ·have hc:=fu (cn:=Rep.cnt) h
  have hs:=eI (cn:=Rep.cnt) h;have hni:=eA hl h;simp only[cE]at hni;obtain⟨q0,hq0⟩:∃q,k+((a8 Rep.cnt (l.take i):Nat):Int)=q:=⟨_,rfl⟩;have hpc:l[i].cnt=4+(l[i].text.length+(a8 Part.cnt l[i].sent+(a8 Part.cnt l[i].buf))):=rfl;rw[hq0,<-nS h];have e0:Go.IntKind.i64.wrap q0=q0:=ah _ aa;obtain⟨q1,hq1⟩:∃q,q0+1=q:=⟨_,rfl⟩;have e1:Go.IntKind.i64.wrap q1=q1:=ah _ aa;obtain⟨q2,hq2⟩:∃q,q1+1=q:=⟨_,rfl⟩;have e2:Go.IntKind.i64.wrap q2=q2:=ah _ aa;obtain⟨q3,hq3⟩:∃q,q2+1=q:=⟨_,rfl⟩;have e3:Go.IntKind.i64.wrap q3=q3:=ah _ aa;obtain⟨q4,hq4⟩:∃q,q3+((l[i].text.length:Nat):Int)=q:=⟨_,rfl⟩;have e4:Go.IntKind.i64.wrap q4=q4:=ah _ aa
  obtain⟨q5,hq5⟩:∃q,q4+1=q:=⟨_,rfl⟩;have e5:Go.IntKind.i64.wrap q5=q5:=ah _ aa;obtain⟨q6,hq6⟩:∃q,q5+((a8 Part.cnt l[i].sent:Nat):Int)=q:=⟨_,rfl⟩;have e6:Go.IntKind.i64.wrap q6=q6:=ah _ aa;obtain⟨q7,hq7⟩:∃q,q6+((a8 Part.cnt l[i].buf:Nat):Int)=q:=⟨_,rfl⟩;have e7:Go.IntKind.i64.wrap q7=q7:=ah _ aa;have e:Go.IntKind.i64.wrap ((i:Int)+1)=((i+1:Nat):Int):=aZ aa;refine Ent.open (λ_ h=>h) (k:=0) (i:=i) (j:=3) (k':=903) (sz':=1) (sz:=7) (H:=H) (rows:=((eN Rep.mark Rep.cnt Rep.row l k i).set i l[i].row)) (srows:=l[i].text.map aN) (row:=l[i].row) ab iO rfl ab ag (by simp[aN]) ab (λH3=>?_)
  refine Ent.open (λ_ h=>h) (k:=0) (i:=i) (j:=5) (k':=905) (sz':=3) (sz:=7) (H:=H) (rows:=((eN Rep.mark Rep.cnt Rep.row l k i).set i [vi l[i].client,vi l[i].seq,vi l[i].rev,.h 903 H3 1 l[i].text.length,.v (.bool l[i].has),.s (l[i].sent.map Part.row),.s (l[i].buf.map Part.row)])) (srows:=l[i].sent.map Part.row) (row:=[vi l[i].client,vi l[i].seq,vi l[i].rev,.h 903 H3 1 l[i].text.length,.v (.bool l[i].has),.s (l[i].sent.map Part.row),.s (l[i].buf.map Part.row)]) (by simp[gh,Rep.row]) iO rfl ab ag iP ab (λH5=>?_)
  refine Ent.open (λ_ h=>h) (k:=0) (i:=i) (j:=6) (k':=906) (sz':=3) (sz:=7) (H:=H) (rows:=((eN Rep.mark Rep.cnt Rep.row l k i).set i [vi l[i].client,vi l[i].seq,vi l[i].rev,.h 903 H3 1 l[i].text.length,.v (.bool l[i].has),.h 905 H5 3 l[i].sent.length,.s (l[i].buf.map Part.row)])) (srows:=l[i].buf.map Part.row) (row:=[vi l[i].client,vi l[i].seq,vi l[i].rev,.h 903 H3 1 l[i].text.length,.v (.bool l[i].has),.h 905 H5 3 l[i].sent.length,.s (l[i].buf.map Part.row)]) (by simp[gh,Rep.row]) iO rfl ab ag iP ab (λH6=>?_);refine Ent.refl ?_;simp[h,eH,Rep.row,gh,jZ,hq1,e1,hq2,e2,hq3,e3];refine ae.mark (tD l[i].text q3 aa aa) rfl (λ_ h=>h) ab ?_;simp[h,eH,jZ,hq4,hq5,e5]
  refine ae.mark (vn l[i].sent q5 aa aa aa) rfl (λ_ h=>h) ab ?_;simp[h,eH,hq6];refine ae.mark (vn l[i].buf q6 aa aa aa) rfl (λ_ h=>h) ab ?_;simp[e,hq7];refine jI (k:=0) (i:=i) (j:=3) (k':=903) (sz':=1) (sz:=7) (H:=H) (rows:=(eN Rep.mark Rep.cnt Rep.row l k i).set i [vi q0,vi q1,vi q2,.h 903 H3 1 l[i].text.length,.v (.bool (lZ q4)),.h 905 H5 3 l[i].sent.length,.h 906 H6 3 l[i].buf.length]) (row:=[vi q0,vi q1,vi q2,.h 903 H3 1 l[i].text.length,.v (.bool (lZ q4)),.h 905 H5 3 l[i].sent.length,.h 906 H6 3 l[i].buf.length]) (H':=H3) (srows:=(bn kY one l[i].text q3).map aN) (by simp[lZ]) iO pg ab ag ab ?_
  refine jI (k:=0) (i:=i) (j:=5) (k':=905) (sz':=3) (sz:=7) (H:=H) (rows:=(eN Rep.mark Rep.cnt Rep.row l k i).set i [vi q0,vi q1,vi q2,.s ((bn kY one l[i].text q3).map aN),.v (.bool (lZ q4)),.h 905 H5 3 l[i].sent.length,.h 906 H6 3 l[i].buf.length]) (row:=[vi q0,vi q1,vi q2,.s ((bn kY one l[i].text q3).map aN),.v (.bool (lZ q4)),.h 905 H5 3 l[i].sent.length,.h 906 H6 3 l[i].buf.length]) (H':=H5) (srows:=(bn Part.mark Part.cnt l[i].sent q5).map Part.row) (by simp[gh,lZ]) iO pg ab ag ab ?_
  refine jI (k:=0) (i:=i) (j:=6) (k':=906) (sz':=3) (sz:=7) (H:=H) (rows:=(eN Rep.mark Rep.cnt Rep.row l k i).set i [vi q0,vi q1,vi q2,.s ((bn kY one l[i].text q3).map aN),.v (.bool (lZ q4)),.s ((bn Part.mark Part.cnt l[i].sent q5).map Part.row),.h 906 H6 3 l[i].buf.length]) (row:=[vi q0,vi q1,vi q2,.s ((bn kY one l[i].text q3).map aN),.v (.bool (lZ q4)),.s ((bn Part.mark Part.cnt l[i].sent q5).map Part.row),.h 906 H6 3 l[i].buf.length]) (H':=H6) (srows:=(bn Part.mark Part.cnt l[i].buf q6).map Part.row) (by simp[gh,lZ]) iO pg ab ag ab ?_;refine Ent.refl ⟨i+1,aa,aa,?_⟩;simp[gh,hs,hpc];refine⟨aa,?_⟩;refine nR h ?_;rw[hq0];subst hq1 hq2 hq3 hq4 hq5 hq6 hq7;rfl
 ·have:i=l.length:=by omega
  subst this;refine Ent.refl ?_;simp[mq,bg,Rep.row]
theorem PB(l:List Rep)(k:Int)(h0:0<=k)(hk:k+a8 Rep.cnt l<=4611686018427387904)(hl:nL cE l<=2^40):ar Tryz.prog 157 [.c (.s ((bn Rep.mark Rep.cnt l k).map Rep.row)),.c (vi k)] (.one (.c (vi (k+a8 Rep.cnt l)) 1)):=by
 refine ar.intro' aq Tryz.func157 ai rfl rfl rfl (aj rfl) (λw0 base=>?_);have hle:=bB hl;simp;refine aU.intro eok (λi:Nat=>i<=l.length) (λi=>⟨78,0,[(5,.v (.int .i64 i)),(1,.v (.int .i64 (k+a8 Rep.cnt (l.take i)))),(0,.ro ((bn Rep.mark Rep.cnt l k).map Rep.row))],[]⟩) (λi=>l.length-i) 0 ab oh (λi hi=>?_);by_cases h:i<l.length
 ·have hc:=fu (cn:=Rep.cnt) h
  have hs:=eI (cn:=Rep.cnt) h;have hni:=eA hl h;simp only[cE]at hni;have hm:=mr (mk:=Rep.mark) (cn:=Rep.cnt) (k:=k) h;obtain⟨q0,hq0⟩:∃q,k+((a8 Rep.cnt (l.take i):Nat):Int)=q:=⟨_,rfl⟩;have hpc:l[i].cnt=4+(l[i].text.length+(a8 Part.cnt l[i].sent+(a8 Part.cnt l[i].buf))):=rfl;rw[hq0]at hm;rw[hq0];have z0:¬q0<0:=aa;have e0:Go.IntKind.i64.wrap q0=q0:=ah _ aa;obtain⟨q1,hq1⟩:∃q,q0+1=q:=⟨_,rfl⟩;have e1:Go.IntKind.i64.wrap q1=q1:=ah _ aa;have z1:¬q1<0:=aa;obtain⟨q2,hq2⟩:∃q,q1+1=q:=⟨_,rfl⟩;have e2:Go.IntKind.i64.wrap q2=q2:=ah _ aa;have z2:¬q2<0:=aa;obtain⟨q3,hq3⟩:∃q,q2+1=q:=⟨_,rfl⟩;have e3:Go.IntKind.i64.wrap q3=q3:=ah _ aa
  have z3:¬q3<0:=aa;obtain⟨q4,hq4⟩:∃q,q3+((l[i].text.length:Nat):Int)=q:=⟨_,rfl⟩;have e4:Go.IntKind.i64.wrap q4=q4:=ah _ aa;have z4:¬q4<0:=aa;obtain⟨q5,hq5⟩:∃q,q4+1=q:=⟨_,rfl⟩;have e5:Go.IntKind.i64.wrap q5=q5:=ah _ aa;have z5:¬q5<0:=aa;obtain⟨q6,hq6⟩:∃q,q5+((a8 Part.cnt l[i].sent:Nat):Int)=q:=⟨_,rfl⟩;have e6:Go.IntKind.i64.wrap q6=q6:=ah _ aa;have z6:¬q6<0:=aa;obtain⟨q7,hq7⟩:∃q,q6+((a8 Part.cnt l[i].buf:Nat):Int)=q:=⟨_,rfl⟩;have e7:Go.IntKind.i64.wrap q7=q7:=ah _ aa;have z7:¬q7<0:=aa;have e:Go.IntKind.i64.wrap ((i:Int)+1)=((i+1:Nat):Int):=aZ aa
  simp[h,bg,hm,Rep.row,Rep.mark,hq1,e1,hq2,e2,hq3,e3,hq4,hq5,hq6,lZ];refine ae.pure (tO l[i].text q3 aa aa) ab ?_;simp[h,bg,hm,Rep.row,Rep.mark,hq1,hq2,hq3,hq4,z4,hq5,e5,hq6,lZ];refine ae.pure (vB l[i].sent q5 aa aa aa) ab ?_;simp[h,bg,hm,Rep.row,Rep.mark,hq1,hq2,hq3,hq4,hq5,hq6,z6,lZ];refine ae.pure (vB l[i].buf q6 aa aa aa) ab ?_;simp[hq7,z7];exact wB
 ·exact sY
theorem Wq(x:Entry)(h:ba x<=2^40):ar Tryz.prog 301 [.agg x.row] (.one (.agg x.res)):=by
 refine ar.intro' aq Tryz.func301 ai rfl rfl rfl (aj rfl) (λw0 base=>?_);unfold ba at h;simp[Entry.row,Entry.res]
 try intros
 refine ae.pure (AK x.o aa) ab ?_;simp
 try intros
theorem XT(x y:Entry)(h:ba x<=2^40):ar Tryz.prog 339 [.agg x.row,.agg y.row] (.one (.c (vb (x=y)) 1)):=by
 refine ar.intro' aq Tryz.func339 ai rfl rfl rfl (aj rfl) (λw0 base=>?_);unfold ba at h;obtain⟨a0,a1,a2⟩:=x;obtain⟨b0,b1,b2⟩:=y;simp only at h;simp[Entry.row]
 try intros
 by_cases h0:a0=b0
 rotate_left
 ·simp[h0]
 subst h0
 try simp
 by_cases h1:a1=b1
 rotate_left
 ·simp[h1]
 subst h1
 try simp
 refine ae.pure (Bi a2 b2 aa) ab ?_;simp;exact DN
theorem Wu(x:Entry)(h:x.fits)(left:Nat)(hf:left<=2^20):ar Tryz.prog 271 [.agg x.row,.c (vi left)] (.one (.c (vi (szR (ba x) left)) 1)):=by
 refine ar.intro' aq Tryz.func271 ai rfl rfl rfl (aj rfl) (λw0 base=>?_);obtain⟨f0,f1,f2⟩:=h;obtain⟨r,hr⟩:∃r,szR (ba x) left=r:=⟨_,rfl⟩;rw[hr];have hn:ba x=nL aM x.o:=rfl;simp[Entry.row]
 try intros
 refine ae.pure (AP x.o f2.1 f2.2 left aa) ab ?_;by_cases k0:nL aM x.o<=left
 rotate_left
 ·exact sZ
 rw[gm k0];obtain⟨m0,hm0⟩:∃m,left-nL aM x.o=m:=⟨_,rfl⟩;exact J8
theorem Ew(l:List Entry)(hl:nL ba l<=2^40):ar Tryz.prog 206 [.c (.s (l.map Entry.row))] (.one (.c (.s (l.map Entry.row)) 3)):=by
 refine ar.intro' aq Tryz.func206 ai rfl rfl rfl (aj rfl) (λw0 base=>?_);have hle:=bB hl;simp;refine⟨aa,λb=>?_⟩
 refine aU.intro eok (λi:Nat=>i<=l.length) (λi=>⟨23,0,[(4,.v (.int .i64 i)),(3,.sl 112 (some (b,0,l.length)) 3 0 l.length),(0,.ro (l.map Entry.row))],
  [(112,.rows (some (b,0,l.length)) 3 (o9 Entry.row [.v (.int .i64 0),.v (.int .i64 0),.s []] l i) true)]⟩) (λi=>l.length-i) 0 ab sN (λi hi=>?_)
 by_cases h:i<l.length
 ·simp[h,Entry.row]
  refine ae.pure (Wq l[i] (eA hl h)) ix ?_;simp[Entry.res,j7 hi,h];exact⟨i+1,aa,aa,aZ aa,nW (f:=Entry.row) h⟩
 ·exact wG
theorem Gf(a b:List Entry)(hl:nL ba a<=2^40):ar Tryz.prog 258 [.c (.s (a.map Entry.row)),.c (.s (b.map Entry.row))] (.one (.c (vb (a=b)) 1)):=by
 refine ar.intro' aq Tryz.func258 ai rfl rfl rfl (aj rfl) (λw0 base=>?_);have hle:=bB hl;by_cases h:a.length=b.length
 ·simp[h]
  refine aU.intro eok (λi:Nat=>i<=a.length/\a.take i=b.take i) (λi=>⟨27,0,[(5,.v (.int .i64 i)),(1,.ro (b.map Entry.row)),(0,.ro (a.map Entry.row))],[]⟩) (λi=>a.length-i) 0 ab ab (λi hi=>?_);by_cases hlt:i<a.length
  ·simp[hlt]
   have hlt':i<b.length:=aa;refine cg.quiet eok mix ai ?_;simp[hlt,hlt',Entry.row];refine⟨_,_,XT a[i] b[i] (eA hl hlt),ix,?_⟩;simp;exact qV
  ·exact sV
 ·exact om
theorem EE(l:List Entry)(hl:l.length<=9223372036854775807)(hs:∀y∈l,y.fits)(left:Nat)(hf:left<=2^20):ar Tryz.prog 160 [.c (.s (l.map Entry.row)),.c (vi left)] (.one (.c (vi (szR (nL ba l) left)) 1)):=by
 refine ar.intro' aq Tryz.func160 ai rfl rfl rfl (aj rfl) (λw0 base=>?_);have hw:IntKind.i64.wrap ((left:Int)-(l.length:Int))=(left:Int)-l.length:=kc _ aa;have hn:nL ba l=l.length+dW ba l:=rfl;by_cases h:l.length<=left
 ·obtain⟨lf,hlf⟩:∃lf:Nat,left-l.length=lf:=⟨_,rfl⟩
  have hlz:(left:Int)-l.length=(lf:Int):=aa;have hw2:IntKind.i64.wrap (lf:Int)=lf:=gb aa;simp[hlz,hw2];obtain⟨r,hr⟩:∃r,szR (nL ba l) left=r:=⟨_,rfl⟩;have hr0:szR (dW ba l) lf=r:=y4;rw[hr];refine aU.intro eok (λx:Nat×Nat=>x.1<=l.length/\x.2<=2^20/\szR (dW ba (l.drop x.1)) x.2=r) (λx=>⟨27,0,[(5,.v (.int .i64 x.1)),(1,.v (.int .i64 x.2)),(0,.ro (l.map Entry.row))],[]⟩) (λx=>l.length-x.1) (0,lf) y3 ab ?_
  rintro⟨i,m⟩ ⟨hi,hm,hx⟩
  simp only at hi hm hx⊢;by_cases hlt:i<l.length
  ·rw[pR hlt]at hx
   simp[hlt,Entry.row];refine ae.pure (Wu l[i] (hs _ (ao hlt)) m hm) ix ?_;by_cases hk:ba l[i]<=m
   ·rw[gm hk]
    have hz:¬((m-ba l[i]:Nat):Int)<0:=aa;simp[hz];refine⟨i+1,m-ba l[i],⟨aa,aa,?_⟩,aa,aZ aa,rfl⟩;exact zc
   ·rw[iJ (show ¬ba l[i]+dW ba (l.drop (i+1))<=m from aa)]at hx
    exact y8
  ·exact zi
 ·have hz:(left:Int)-l.length<0:=by omega
  simp[hw,hz,iJ (show ¬nL ba l<=left from aa)]
theorem tE(l:List Entry)(k:Int)(h0:0<=k)(hk:k+a8 Entry.cnt l<=4611686018427387904)(hl:nL ba l<=2^40):jS Tryz.prog 263 (.c (.s (l.map Entry.row)) 3) k (k+a8 Entry.cnt l) (.c (.s ((bn Entry.mark Entry.cnt l k).map Entry.row)) 3):=by
 refine jS.intro aq Tryz.func263 ai rfl rfl rfl ag (λw0 base=>?_);have hle:=bB hl;simp;intro H;refine aE eok (λi:Nat=>i<=l.length) (λi=>⟨34,0,[(5,.v (.int .i64 i)),(1,.v (.int .i64 (k+a8 Entry.cnt (l.take i)))),(0,.ml 0 H 3 l.length)],[(0,.rows H 3 (eN Entry.mark Entry.cnt Entry.row l k i) true)]⟩) (λi=>l.length-i) 0 ab wt (λi hi=>?_);by_cases h:i<l.length
 ·have hc:=fu (cn:=Entry.cnt) h
  have hs:=eI (cn:=Entry.cnt) h;have hni:=eA hl h;simp only[ba]at hni;obtain⟨q0,hq0⟩:∃q,k+((a8 Entry.cnt (l.take i):Nat):Int)=q:=⟨_,rfl⟩;have hpc:l[i].cnt=2+(a8 Part.cnt l[i].o):=rfl;rw[hq0,<-nS h];have e0:Go.IntKind.i64.wrap q0=q0:=ah _ aa;obtain⟨q1,hq1⟩:∃q,q0+1=q:=⟨_,rfl⟩;have e1:Go.IntKind.i64.wrap q1=q1:=ah _ aa;obtain⟨q2,hq2⟩:∃q,q1+1=q:=⟨_,rfl⟩;have e2:Go.IntKind.i64.wrap q2=q2:=ah _ aa;obtain⟨q3,hq3⟩:∃q,q2+((a8 Part.cnt l[i].o:Nat):Int)=q:=⟨_,rfl⟩;have e3:Go.IntKind.i64.wrap q3=q3:=ah _ aa;have e:Go.IntKind.i64.wrap ((i:Int)+1)=((i+1:Nat):Int):=aZ aa
  refine Ent.open (λ_ h=>h) (k:=0) (i:=i) (j:=2) (k':=902) (sz':=3) (sz:=3) (H:=H) (rows:=((eN Entry.mark Entry.cnt Entry.row l k i).set i l[i].row)) (srows:=l[i].o.map Part.row) (row:=l[i].row) ab iO rfl ab ag iP ab (λH2=>?_);refine Ent.refl ?_;simp[h,eH,Entry.row,gh,jZ,hq1,e1,hq2,e2];refine ae.mark (vn l[i].o q2 aa aa aa) rfl (λ_ h=>h) ab ?_;simp[e,hq3];refine jI (k:=0) (i:=i) (j:=2) (k':=902) (sz':=3) (sz:=3) (H:=H) (rows:=(eN Entry.mark Entry.cnt Entry.row l k i).set i [vi q0,vi q1,.h 902 H2 3 l[i].o.length]) (row:=[vi q0,vi q1,.h 902 H2 3 l[i].o.length]) (H':=H2) (srows:=(bn Part.mark Part.cnt l[i].o q2).map Part.row) ab iO pg ab ag ab ?_;exact TO
 ·have:i=l.length:=by omega
  subst this;refine Ent.refl ?_;simp[mq,bg,Entry.row]
theorem tP(l:List Entry)(k:Int)(h0:0<=k)(hk:k+a8 Entry.cnt l<=4611686018427387904)(hl:nL ba l<=2^40):ar Tryz.prog 267 [.c (.s ((bn Entry.mark Entry.cnt l k).map Entry.row)),.c (vi k)] (.one (.c (vi (k+a8 Entry.cnt l)) 1)):=by
 refine ar.intro' aq Tryz.func267 ai rfl rfl rfl (aj rfl) (λw0 base=>?_);have hle:=bB hl;simp;refine aU.intro eok (λi:Nat=>i<=l.length) (λi=>⟨40,0,[(5,.v (.int .i64 i)),(1,.v (.int .i64 (k+a8 Entry.cnt (l.take i)))),(0,.ro ((bn Entry.mark Entry.cnt l k).map Entry.row))],[]⟩) (λi=>l.length-i) 0 ab oh (λi hi=>?_);by_cases h:i<l.length
 ·have hc:=fu (cn:=Entry.cnt) h
  have hs:=eI (cn:=Entry.cnt) h;have hni:=eA hl h;simp only[ba]at hni;have hm:=mr (mk:=Entry.mark) (cn:=Entry.cnt) (k:=k) h;obtain⟨q0,hq0⟩:∃q,k+((a8 Entry.cnt (l.take i):Nat):Int)=q:=⟨_,rfl⟩;have hpc:l[i].cnt=2+(a8 Part.cnt l[i].o):=rfl;rw[hq0]at hm;rw[hq0];have z0:¬q0<0:=aa;have e0:Go.IntKind.i64.wrap q0=q0:=ah _ aa;obtain⟨q1,hq1⟩:∃q,q0+1=q:=⟨_,rfl⟩;have e1:Go.IntKind.i64.wrap q1=q1:=ah _ aa;have z1:¬q1<0:=aa;obtain⟨q2,hq2⟩:∃q,q1+1=q:=⟨_,rfl⟩;have e2:Go.IntKind.i64.wrap q2=q2:=ah _ aa;have z2:¬q2<0:=aa;obtain⟨q3,hq3⟩:∃q,q2+((a8 Part.cnt l[i].o:Nat):Int)=q:=⟨_,rfl⟩;have e3:Go.IntKind.i64.wrap q3=q3:=ah _ aa
  have z3:¬q3<0:=aa;have e:Go.IntKind.i64.wrap ((i:Int)+1)=((i+1:Nat):Int):=aZ aa;simp[h,bg,hm,Entry.row,Entry.mark,hq1,e1,hq2,e2];refine ae.pure (vB l[i].o q2 aa aa aa) ab ?_;simp[hq3,z3];exact wB
 ·exact sY
def vR(k:Nat)(out:List UInt8):List UInt8:=if h:k=0 then out else vR (k / 10) (UInt8.ofNat (48+k % 10)::out)
termination_by k
decreasing_by omega
theorem Cp{out:List UInt8}:vR 0 out=out:=by rw[vR];simp
theorem Gj{k:Nat}{out:List UInt8}(h:k≠0):vR k out=vR (k / 10) (UInt8.ofNat (48+k % 10)::out):=by rw[vR];simp[h]
theorem abv:∀(k:Nat) (out:List UInt8),0<k->vR k out=XY k++out:=by
 intro k
 induction k using Nat.strongRecOn with
 | _ k ih =>
   intro out hk;rw[Gj aa,XY];by_cases h:k<10
   ·rw[show k / 10=0 from aa,Cp]
    simp[h,Wi h]
   ·rw[ih (k / 10) aa _ aa]
    simp[h]
theorem Ar(a b:List UInt8):(⟨a.toArray⟩++⟨b.toArray⟩:ByteArray)=⟨(a++b).toArray⟩:=by
 apply ByteArray.ext
 rw[ByteArray.data_append];simp
theorem WL{n:Nat}(h:10^n<=4611686018427387904):n<=18:=by
 rcases uK 18 n with hn|hn
 ·have:=Nat.pow_le_pow_right (n:=10) aa (show 19<=n from hn)
  omega
 ·exact hn
theorem tw(k:Int)(h0:0<=k)(hk:k<=4611686018427387904):ar Tryz.prog 261 [.c (vi k)] (.one (.c (.v (.string (markT k))) 1)):=by
 refine pci aq Tryz.func261 (λw0 base=>?_);obtain⟨n,rfl⟩:∃n:Nat,k=n:=⟨k.toNat,aa⟩;by_cases hz:n=0
 ·subst hz
  have e:markT 0=⟨#[109,48]⟩:=by unfold markT;rw[XY];simp
  simp[e]
 have hz':¬(n:Int)<=0:=aa;simp[hz];refine aU.intro eok (λx:Nat×List UInt8=>vR x.1 x.2=XY n/\x.2.length<=19/\x.1*10^x.2.length<=4611686018427387904) (λx=>⟨20,0,[(0,.v (.int .i64 x.1)),(3,.v (.string ⟨x.2.toArray⟩))],[]⟩) (λx=>x.1) (n,[]) ⟨by rw[abv n [] aa];simp,ab,aI⟩ ab (λx hi=>?_);obtain⟨m,out⟩:=x;obtain⟨hi,hl,hp⟩:=hi;simp only at hi hl hp⊢;by_cases hm:m=0
 ·subst hm
  rw[Cp]at hi
  have hs:(⟨#[109]⟩++⟨out.toArray⟩:ByteArray)=markT n:=by
   rw[show(⟨#[109]⟩:ByteArray)=⟨[109].toArray⟩from rfl,Ar,hi];rfl
  have hsz:(⟨out.toArray⟩:ByteArray).size=out.length:=by simp[ByteArray.size]
  have hs1:(⟨#[109]⟩:ByteArray).size=1:=rfl;simp[hs,hsz,hs1];omega
 ·have hm':0<m:=by omega
  have hpow:10^out.length<=4611686018427387904:=cT (Nat.le_mul_of_pos_left _ hm') hp;have hlen:=WL hpow;have hmN:m<=4611686018427387904:=cT (dY _ (Nat.pow_pos aa)) hp;have e2:Go.IntKind.i64.wrap (48+(m:Int) % 10)=48+(m:Int) % 10:=ah _ aa;have e3:Go.IntKind.u8.wrap (48+(m:Int) % 10)=48+(m:Int) % 10:=Go.IntWalk.u8_in _ aa;have e4:Go.IntKind.i64.wrap ((m:Int) / 10)=((m / 10:Nat):Int):=by rw[ah _ aa];omega
  rw[Gj hm]at hi;have hb:((UInt8.ofNat (48+m % 10)).toNat:Int)=48+(m:Int) % 10:=aI;have hsz:(⟨out.toArray⟩:ByteArray).size=out.length:=by simp[ByteArray.size]
  simp[hm',e4];refine⟨[UInt8.ofNat (48+m % 10)],by simp only[bK,jz,fR,hb];rw[nt aa,e2,e3],?_,m / 10,UInt8.ofNat (48+m % 10)::out,⟨hi,aI,?_⟩,aa,by first|exact e4|omega|(rw[nu aa];exact e4),?_⟩
  ·rw[hsz];show 1+out.length<=_;omega
  ·rw[bH,Nat.pow_succ]
   have h1:m / 10*10<=m:=Nat.div_mul_le_self m 10;have h2:=az (10^out.length) h1;have h3:m / 10*(10^out.length*10)=m / 10*10*10^out.length:=by rw[Nat.mul_assoc,CJ 10]
   omega
  ·rw[Ar];rfl
theorem YV(x:Seen):ar Tryz.prog 302 [.agg x.row] (.one (.agg x.res)):=by
 refine ar.intro' aq Tryz.func302 ai rfl rfl rfl (aj rfl) (λw0 base=>?_);simp[Seen.row,Seen.res]
 try intros
theorem abn(x y:Seen):ar Tryz.prog 340 [.agg x.row,.agg y.row] (.one (.c (vb (x=y)) 1)):=by
 refine ar.intro' aq Tryz.func340 ai rfl rfl rfl (aj rfl) (λw0 base=>?_);obtain⟨a0,a1,a2⟩:=x;obtain⟨b0,b1,b2⟩:=y;simp[Seen.row]
 try intros
 by_cases h0:a0=b0
 rotate_left
 ·simp[h0]
 subst h0
 try simp
 by_cases h1:a1=b1
 rotate_left
 ·simp[h1]
 subst h1
 try simp
 exact DN
theorem Wp(l:List Seen)(hl:l.length<=2^40):ar Tryz.prog 207 [.c (.s (l.map Seen.row))] (.one (.c (.s (l.map Seen.row)) 3)):=by
 refine ar.intro' aq Tryz.func207 ai rfl rfl rfl (aj rfl) (λw0 base=>?_);simp;refine⟨aa,λb=>?_⟩
 refine aU.intro eok (λi:Nat=>i<=l.length) (λi=>⟨23,0,[(4,.v (.int .i64 i)),(3,.sl 112 (some (b,0,l.length)) 3 0 l.length),(0,.ro (l.map Seen.row))],
  [(112,.rows (some (b,0,l.length)) 3 (o9 Seen.row [.v (.int .i64 0),.v (.int .i64 0),.v (.int .i64 0)] l i) true)]⟩) (λi=>l.length-i) 0 ab sN (λi hi=>?_)
 by_cases h:i<l.length
 ·simp[h,Seen.row]
  refine ae.pure (YV l[i]) (by simp[Seen.row]) ?_;simp[Seen.res,j7 hi,h];exact⟨i+1,aa,aa,aZ aa,nW (f:=Seen.row) h⟩
 ·exact wG
theorem XS(a b:List Seen)(hl:a.length<=2^40):ar Tryz.prog 259 [.c (.s (a.map Seen.row)),.c (.s (b.map Seen.row))] (.one (.c (vb (a=b)) 1)):=by
 refine ar.intro' aq Tryz.func259 ai rfl rfl rfl (aj rfl) (λw0 base=>?_);by_cases h:a.length=b.length
 ·simp[h]
  refine aU.intro eok (λi:Nat=>i<=a.length/\a.take i=b.take i) (λi=>⟨27,0,[(5,.v (.int .i64 i)),(1,.ro (b.map Seen.row)),(0,.ro (a.map Seen.row))],[]⟩) (λi=>a.length-i) 0 ab ab (λi hi=>?_);by_cases hlt:i<a.length
  ·simp[hlt]
   have hlt':i<b.length:=aa;refine cg.quiet eok mix ai ?_;simp[hlt,hlt',Seen.row];refine⟨_,_,abn a[i] b[i],by simp[Seen.row],?_⟩;simp;exact qV
  ·exact sV
 ·exact om
theorem Wt(l:List Seen)(hl:l.length<=9223372036854775807)(left:Nat)(hf:left<=2^20):ar Tryz.prog 161 [.c (.s (l.map Seen.row)),.c (vi left)] (.one (.c (vi (szR l.length left)) 1)):=by
 refine ar.intro' aq Tryz.func161 ai rfl rfl rfl (aj rfl) (λw0 base=>?_);exact UE
theorem B7(l:List Seen)(k:Int)(h0:0<=k)(hk:k+a8 Seen.cnt l<=4611686018427387904)(hl:l.length<=2^40):jS Tryz.prog 264 (.c (.s (l.map Seen.row)) 3) k (k+a8 Seen.cnt l) (.c (.s ((bn Seen.mark Seen.cnt l k).map Seen.row)) 3):=by
 refine jS.intro aq Tryz.func264 ai rfl rfl rfl ag (λw0 base=>?_);simp;intro H;refine aE eok (λi:Nat=>i<=l.length) (λi=>⟨34,0,[(5,.v (.int .i64 i)),(1,.v (.int .i64 (k+a8 Seen.cnt (l.take i)))),(0,.ml 0 H 3 l.length)],[(0,.rows H 3 (eN Seen.mark Seen.cnt Seen.row l k i) true)]⟩) (λi=>l.length-i) 0 ab wt (λi hi=>?_);by_cases h:i<l.length
 ·have hc:=fu (cn:=Seen.cnt) h
  have hs:=eI (cn:=Seen.cnt) h;obtain⟨q0,hq0⟩:∃q,k+((a8 Seen.cnt (l.take i):Nat):Int)=q:=⟨_,rfl⟩;have hpc:l[i].cnt=3:=rfl;rw[hq0,<-nS h];have e0:Go.IntKind.i64.wrap q0=q0:=ah _ aa;obtain⟨q1,hq1⟩:∃q,q0+1=q:=⟨_,rfl⟩;have e1:Go.IntKind.i64.wrap q1=q1:=ah _ aa;obtain⟨q2,hq2⟩:∃q,q1+1=q:=⟨_,rfl⟩;have e2:Go.IntKind.i64.wrap q2=q2:=ah _ aa;obtain⟨q3,hq3⟩:∃q,q2+1=q:=⟨_,rfl⟩;have e3:Go.IntKind.i64.wrap q3=q3:=ah _ aa;have e:Go.IntKind.i64.wrap ((i:Int)+1)=((i+1:Nat):Int):=aZ aa;refine Ent.refl ?_;simp[h,eH,Seen.row,jZ,hq1,e1,hq2,e2,hq3,e3];refine Ent.refl ⟨i+1,aa,aa,?_⟩;simp[hs,hpc,e];refine⟨aa,?_⟩
  refine nR h ?_;rw[hq0];subst hq1 hq2 hq3;rfl
 ·have:i=l.length:=by omega
  subst this;refine Ent.refl ?_;simp[mq,bg,Seen.row]
theorem Cg(l:List Seen)(k:Int)(h0:0<=k)(hk:k+a8 Seen.cnt l<=4611686018427387904)(hl:l.length<=2^40):ar Tryz.prog 268 [.c (.s ((bn Seen.mark Seen.cnt l k).map Seen.row)),.c (vi k)] (.one (.c (vi (k+a8 Seen.cnt l)) 1)):=by
 refine ar.intro' aq Tryz.func268 ai rfl rfl rfl (aj rfl) (λw0 base=>?_);simp;refine aU.intro eok (λi:Nat=>i<=l.length) (λi=>⟨40,0,[(5,.v (.int .i64 i)),(1,.v (.int .i64 (k+a8 Seen.cnt (l.take i)))),(0,.ro ((bn Seen.mark Seen.cnt l k).map Seen.row))],[]⟩) (λi=>l.length-i) 0 ab oh (λi hi=>?_);by_cases h:i<l.length
 ·have hc:=fu (cn:=Seen.cnt) h
  have hs:=eI (cn:=Seen.cnt) h;have hm:=mr (mk:=Seen.mark) (cn:=Seen.cnt) (k:=k) h;obtain⟨q0,hq0⟩:∃q,k+((a8 Seen.cnt (l.take i):Nat):Int)=q:=⟨_,rfl⟩;have hpc:l[i].cnt=3:=rfl;rw[hq0]at hm;rw[hq0];have z0:¬q0<0:=aa;have e0:Go.IntKind.i64.wrap q0=q0:=ah _ aa;obtain⟨q1,hq1⟩:∃q,q0+1=q:=⟨_,rfl⟩;have e1:Go.IntKind.i64.wrap q1=q1:=ah _ aa;have z1:¬q1<0:=aa;obtain⟨q2,hq2⟩:∃q,q1+1=q:=⟨_,rfl⟩;have e2:Go.IntKind.i64.wrap q2=q2:=ah _ aa;have z2:¬q2<0:=aa;obtain⟨q3,hq3⟩:∃q,q2+1=q:=⟨_,rfl⟩;have e3:Go.IntKind.i64.wrap q3=q3:=ah _ aa;have z3:¬q3<0:=aa;have e:Go.IntKind.i64.wrap ((i:Int)+1)=((i+1:Nat):Int):=aZ aa
  simp[h,bg,hm,Seen.row,Seen.mark,hq1,e1,hq2,e2,hq3,e3];exact wB
 ·exact sY
theorem Qx(x:Doc)(h:cO x<=2^40):ar Tryz.prog 98 [.agg x.row] (.one (.agg x.res)):=by
 refine ar.intro' aq Tryz.func98 ai rfl rfl rfl (aj rfl) (λw0 base=>?_);unfold cO at h;simp[Doc.row,Doc.res]
 try intros
 refine ae.pure (Ev x.text aa) ab ?_;simp
 try intros
 refine ae.pure (Ew x.list aa) ab ?_;simp
 try intros
 refine ae.pure (Wp x.seen aa) ab ?_;simp
 try intros
theorem VR(x y:Doc)(h:cO x<=2^40):ar Tryz.prog 148 [.agg x.row,.agg y.row] (.one (.c (vb (x=y)) 1)):=by
 refine ar.intro' aq Tryz.func148 ai rfl rfl rfl (aj rfl) (λw0 base=>?_);unfold cO at h;obtain⟨a0,a1,a2,a3,a4⟩:=x;obtain⟨b0,b1,b2,b3,b4⟩:=y;simp only at h;simp[Doc.row]
 try intros
 by_cases h0:a0=b0
 rotate_left
 ·simp[h0]
 subst h0
 try simp
 by_cases h1:a1=b1
 rotate_left
 ·simp[h1]
 subst h1
 try simp
 refine ae.pure (Ge a2 b2 aa) ab ?_;simp;by_cases h2:a2=b2
 rotate_left
 ·simp[h2]
 subst h2
 try simp
 refine ae.pure (Gf a3 b3 aa) ab ?_;simp;by_cases h3:a3=b3
 rotate_left
 ·simp[h3]
 subst h3
 try simp
 refine ae.pure (XS a4 b4 aa) ab ?_;simp;by_cases h4:a4=b4
 rotate_left
 ·simp[h4]
 subst h4
 try simp
theorem Vh(x:Doc)(h:x.fits)(left:Nat)(hf:left<=2^20):ar Tryz.prog 50 [.agg x.row,.c (vi left)] (.one (.c (vi (szR (cO x) left)) 1)):=by
 refine ar.intro' aq Tryz.func50 ai rfl rfl rfl (aj rfl) (λw0 base=>?_);obtain⟨f0,f1,f2,f3,f4⟩:=h;obtain⟨r,hr⟩:∃r,szR (cO x) left=r:=⟨_,rfl⟩;rw[hr];have hn:cO x=x.name.size+(x.text.length+(nL ba x.list+(x.seen.length))):=rfl;simp[Doc.row]
 try intros
 by_cases k0:x.name.size<=left
 rotate_left
 ·have hw:IntKind.i64.wrap ((left:Int)-(x.name.size:Int))=(left:Int)-x.name.size:=kc _ aa
  have hz:(left:Int)-x.name.size<0:=aa;have:r = -1:=by rw[<-hr];exact iJ aa
  simp[hw,hz,this]
 obtain⟨m0,hm0⟩:∃m,left-x.name.size=m:=⟨_,rfl⟩;have w0:IntKind.i64.wrap ((left:Int)-(x.name.size:Int))=(m0:Int):=by rw[kc _ aa];omega
 simp[w0];refine ae.pure (ED x.text f2.1 m0 aa) ab ?_;by_cases k1:x.text.length<=m0
 rotate_left
 ·exact wD
 rw[gm k1];obtain⟨m1,hm1⟩:∃m,m0-x.text.length=m:=⟨_,rfl⟩;rw[hm1];simp;refine ae.pure (EE x.list f3.1 f3.2 m1 aa) ab ?_;by_cases k2:nL ba x.list<=m1
 rotate_left
 ·exact Ro
 rw[gm k2];obtain⟨m2,hm2⟩:∃m,m1-nL ba x.list=m:=⟨_,rfl⟩;rw[hm2];simp;refine ae.pure (Wt x.seen f4.1 m2 aa) ab ?_;by_cases k3:x.seen.length<=m2
 rotate_left
 ·have:r = -1:=by rw[<-hr];exact iJ aa
  rw[iJ k3];simp[this]
 rw[gm k3];obtain⟨m3,hm3⟩:∃m,m2-x.seen.length=m:=⟨_,rfl⟩;rw[hm3];have:r=(m3:Int):=by rw[<-hr,gm aa];omega
 simp[this]
theorem Xb(x:Doc)(k:Int)(h0:0<=k)(hk:k+x.cntT<=4611686018427387904)(hl:cO x<=2^40):jS Tryz.prog 152 (.agg x.res) k (k+x.cntT) (.agg (x.markT k).res):=by
 refine jS.intro aq Tryz.func152 ai rfl rfl rfl ag (λw0 base=>?_);simp only[Doc.cntT]at hk;unfold cO at hl;simp[Doc.res]
 try intros
 refine ae.mark (tD x.text (k) aa aa) rfl (λ_ h=>h) ab ?_;simp;refine ae.mark (tE x.list (k+((x.text.length:Nat):Int)) aa aa aa) rfl (λ_ h=>h) ab ?_;simp;refine ae.mark (B7 x.seen (k+((x.text.length:Nat):Int)+((a8 Entry.cnt x.list:Nat):Int)) aa aa aa) rfl (λ_ h=>h) ab ?_;simp;simp[Doc.markT,Doc.cntT,bg]
 try omega
theorem XC(x:Doc)(k:Int)(h0:0<=k)(hk:k+x.cntT<=4611686018427387904)(hl:cO x<=2^40):ar Tryz.prog 156 [.agg (x.markT k).row,.c (vi k)] (.one (.c (vi (k+x.cntT)) 1)):=by
 refine ar.intro' aq Tryz.func156 ai rfl rfl rfl (aj rfl) (λw0 base=>?_);simp only[Doc.cntT]at hk;unfold cO at hl;simp[Doc.row,Doc.markT]
 try intros
 refine ae.pure (tO x.text k aa aa) ab ?_;obtain⟨q2,hq2⟩:∃q,k+((x.text.length:Nat):Int)=q:=⟨_,rfl⟩;rw[hq2];have z2:¬q2<0:=aa;simp[z2];refine ae.pure (tP x.list q2 aa aa aa) ab ?_;obtain⟨q3,hq3⟩:∃q,q2+((a8 Entry.cnt x.list:Nat):Int)=q:=⟨_,rfl⟩;rw[hq3];have z3:¬q3<0:=aa;simp[z3];refine ae.pure (Cg x.seen q3 aa aa aa) ab ?_;obtain⟨q4,hq4⟩:∃q,q3+((a8 Seen.cnt x.seen:Nat):Int)=q:=⟨_,rfl⟩;rw[hq4];have z4:¬q4<0:=aa;simp[z4]
 try (simp only[Doc.cntT];omega)
theorem YZ(l:List Doc)(hl:nL cO l<=2^40):ar Tryz.prog 96 [.c (.s (l.map Doc.row))] (.one (.c (.s (l.map Doc.row)) 5)):=by
 refine ar.intro' aq Tryz.func96 ai rfl rfl rfl (aj rfl) (λw0 base=>?_);have hle:=bB hl;simp;refine⟨aa,λb=>?_⟩
 refine aU.intro eok (λi:Nat=>i<=l.length) (λi=>⟨23,0,[(4,.v (.int .i64 i)),(3,.sl 112 (some (b,0,l.length)) 5 0 l.length),(0,.ro (l.map Doc.row))],
  [(112,.rows (some (b,0,l.length)) 5 (o9 Doc.row [.v (.string ⟨#[]⟩),.v (.int .i64 0),.s [],.s [],.s []] l i) true)]⟩) (λi=>l.length-i) 0 ab sN (λi hi=>?_)
 by_cases h:i<l.length
 ·simp[h,Doc.row]
  refine ae.pure (Qx l[i] (eA hl h)) aS ?_;simp[Doc.res,j7 hi,h];exact⟨i+1,aa,aa,aZ aa,nW (f:=Doc.row) h⟩
 ·exact wG
theorem abr(a b:List Doc)(hl:nL cO a<=2^40):ar Tryz.prog 146 [.c (.s (a.map Doc.row)),.c (.s (b.map Doc.row))] (.one (.c (vb (a=b)) 1)):=by
 refine ar.intro' aq Tryz.func146 ai rfl rfl rfl (aj rfl) (λw0 base=>?_);have hle:=bB hl;by_cases h:a.length=b.length
 ·simp[h]
  refine aU.intro eok (λi:Nat=>i<=a.length/\a.take i=b.take i) (λi=>⟨27,0,[(5,.v (.int .i64 i)),(1,.ro (b.map Doc.row)),(0,.ro (a.map Doc.row))],[]⟩) (λi=>a.length-i) 0 ab ab (λi hi=>?_);by_cases hlt:i<a.length
  ·simp[hlt]
   have hlt':i<b.length:=aa;refine cg.quiet eok mix ai ?_;simp[hlt,hlt',Doc.row];refine⟨_,_,VR a[i] b[i] (eA hl hlt),aS,?_⟩;simp;exact qV
  ·exact sV
 ·exact om
theorem ZS(l:List Doc)(hl:l.length<=9223372036854775807)(hs:∀y∈l,y.fits)(left:Nat)(hf:left<=2^20):ar Tryz.prog 48 [.c (.s (l.map Doc.row)),.c (vi left)] (.one (.c (vi (szR (nL cO l) left)) 1)):=by
 refine ar.intro' aq Tryz.func48 ai rfl rfl rfl (aj rfl) (λw0 base=>?_);have hw:IntKind.i64.wrap ((left:Int)-(l.length:Int))=(left:Int)-l.length:=kc _ aa;have hn:nL cO l=l.length+dW cO l:=rfl;by_cases h:l.length<=left
 ·obtain⟨lf,hlf⟩:∃lf:Nat,left-l.length=lf:=⟨_,rfl⟩
  have hlz:(left:Int)-l.length=(lf:Int):=aa;have hw2:IntKind.i64.wrap (lf:Int)=lf:=gb aa;simp[hlz,hw2];obtain⟨r,hr⟩:∃r,szR (nL cO l) left=r:=⟨_,rfl⟩;have hr0:szR (dW cO l) lf=r:=y4;rw[hr];refine aU.intro eok (λx:Nat×Nat=>x.1<=l.length/\x.2<=2^20/\szR (dW cO (l.drop x.1)) x.2=r) (λx=>⟨27,0,[(5,.v (.int .i64 x.1)),(1,.v (.int .i64 x.2)),(0,.ro (l.map Doc.row))],[]⟩) (λx=>l.length-x.1) (0,lf) y3 ab ?_
  rintro⟨i,m⟩ ⟨hi,hm,hx⟩
  simp only at hi hm hx⊢;by_cases hlt:i<l.length
  ·rw[pR hlt]at hx
   simp[hlt,Doc.row];refine ae.pure (Vh l[i] (hs _ (ao hlt)) m hm) aS ?_;by_cases hk:cO l[i]<=m
   ·rw[gm hk]
    have hz:¬((m-cO l[i]:Nat):Int)<0:=aa;simp[hz];refine⟨i+1,m-cO l[i],⟨aa,aa,?_⟩,aa,aZ aa,rfl⟩;exact zc
   ·rw[iJ (show ¬cO l[i]+dW cO (l.drop (i+1))<=m from aa)]at hx
    exact y8
  ·exact zi
 ·have hz:(left:Int)-l.length<0:=by omega
  simp[hw,hz,iJ (show ¬nL cO l<=left from aa)]
theorem Pd(l:List Doc)(k:Int)(h0:0<=k)(hk:k+a8 Doc.cnt l<=4611686018427387904)(hl:nL cO l<=2^40):jS Tryz.prog 150 (.c (.s (l.map Doc.row)) 5) k (k+a8 Doc.cnt l) (.c (.s ((bn Doc.mark Doc.cnt l k).map Doc.row)) 5):=by
 refine jS.intro aq Tryz.func150 ai rfl rfl rfl ag (λw0 base=>?_);have hle:=bB hl;simp;intro H;refine aE eok (λi:Nat=>i<=l.length) (λi=>⟨49,0,[(5,.v (.int .i64 i)),(1,.v (.int .i64 (k+a8 Doc.cnt (l.take i)))),(0,.ml 0 H 5 l.length)],[(0,.rows H 5 (eN Doc.mark Doc.cnt Doc.row l k i) true)]⟩) (λi=>l.length-i) 0 ab wt (λi hi=>?_);by_cases h:i<l.length
 ·have hc:=fu (cn:=Doc.cnt) h
  have hs:=eI (cn:=Doc.cnt) h;have hni:=eA hl h;simp only[cO]at hni;obtain⟨q0,hq0⟩:∃q,k+((a8 Doc.cnt (l.take i):Nat):Int)=q:=⟨_,rfl⟩;have hpc:l[i].cnt=2+(l[i].text.length+(a8 Entry.cnt l[i].list+(a8 Seen.cnt l[i].seen))):=rfl;rw[hq0,<-nS h];have e0:Go.IntKind.i64.wrap q0=q0:=ah _ aa;obtain⟨q1,hq1⟩:∃q,q0+1=q:=⟨_,rfl⟩;have e1:Go.IntKind.i64.wrap q1=q1:=ah _ aa;obtain⟨q2,hq2⟩:∃q,q1+1=q:=⟨_,rfl⟩;have e2:Go.IntKind.i64.wrap q2=q2:=ah _ aa;obtain⟨q3,hq3⟩:∃q,q2+((l[i].text.length:Nat):Int)=q:=⟨_,rfl⟩;have e3:Go.IntKind.i64.wrap q3=q3:=ah _ aa;obtain⟨q4,hq4⟩:∃q,q3+((a8 Entry.cnt l[i].list:Nat):Int)=q:=⟨_,rfl⟩
  have e4:Go.IntKind.i64.wrap q4=q4:=ah _ aa;obtain⟨q5,hq5⟩:∃q,q4+((a8 Seen.cnt l[i].seen:Nat):Int)=q:=⟨_,rfl⟩;have e5:Go.IntKind.i64.wrap q5=q5:=ah _ aa;have e:Go.IntKind.i64.wrap ((i:Int)+1)=((i+1:Nat):Int):=aZ aa;refine Ent.open (λ_ h=>h) (k:=0) (i:=i) (j:=2) (k':=902) (sz':=1) (sz:=5) (H:=H) (rows:=((eN Doc.mark Doc.cnt Doc.row l k i).set i l[i].row)) (srows:=l[i].text.map aN) (row:=l[i].row) ab iO rfl ab ag (by simp[aN]) ab (λH2=>?_)
  refine Ent.open (λ_ h=>h) (k:=0) (i:=i) (j:=3) (k':=903) (sz':=3) (sz:=5) (H:=H) (rows:=((eN Doc.mark Doc.cnt Doc.row l k i).set i [.v (.string l[i].name),vi l[i].fr,.h 902 H2 1 l[i].text.length,.s (l[i].list.map Entry.row),.s (l[i].seen.map Seen.row)])) (srows:=l[i].list.map Entry.row) (row:=[.v (.string l[i].name),vi l[i].fr,.h 902 H2 1 l[i].text.length,.s (l[i].list.map Entry.row),.s (l[i].seen.map Seen.row)]) (by simp[gh,Doc.row]) iO rfl ab ag ix ab (λH3=>?_)
  refine Ent.open (λ_ h=>h) (k:=0) (i:=i) (j:=4) (k':=904) (sz':=3) (sz:=5) (H:=H) (rows:=((eN Doc.mark Doc.cnt Doc.row l k i).set i [.v (.string l[i].name),vi l[i].fr,.h 902 H2 1 l[i].text.length,.h 903 H3 3 l[i].list.length,.s (l[i].seen.map Seen.row)])) (srows:=l[i].seen.map Seen.row) (row:=[.v (.string l[i].name),vi l[i].fr,.h 902 H2 1 l[i].text.length,.h 903 H3 3 l[i].list.length,.s (l[i].seen.map Seen.row)]) (by simp[gh,Doc.row]) iO rfl ab ag (by simp[Seen.row]) ab (λH4=>?_);refine Ent.refl ?_;simp[h,Doc.row,gh];refine ae.pure (tw q0 aa aa) ab ?_;simp[h,eH,jZ,hq1,e1,hq2,e2];refine ae.mark (tD l[i].text q2 aa aa) rfl (λ_ h=>h) ab ?_;simp[h,eH,hq3]
  refine ae.mark (tE l[i].list q3 aa aa aa) rfl (λ_ h=>h) ab ?_;simp[h,eH,hq4];refine ae.mark (B7 l[i].seen q4 aa aa aa) rfl (λ_ h=>h) ab ?_;simp[e,hq5];refine jI (k:=0) (i:=i) (j:=2) (k':=902) (sz':=1) (sz:=5) (H:=H) (rows:=(eN Doc.mark Doc.cnt Doc.row l k i).set i [.v (.string (markT q0)),vi q1,.h 902 H2 1 l[i].text.length,.h 903 H3 3 l[i].list.length,.h 904 H4 3 l[i].seen.length]) (row:=[.v (.string (markT q0)),vi q1,.h 902 H2 1 l[i].text.length,.h 903 H3 3 l[i].list.length,.h 904 H4 3 l[i].seen.length]) (H':=H2) (srows:=(bn kY one l[i].text q2).map aN) ab iO pg ab ag ab ?_
  refine jI (k:=0) (i:=i) (j:=3) (k':=903) (sz':=3) (sz:=5) (H:=H) (rows:=(eN Doc.mark Doc.cnt Doc.row l k i).set i [.v (.string (markT q0)),vi q1,.s ((bn kY one l[i].text q2).map aN),.h 903 H3 3 l[i].list.length,.h 904 H4 3 l[i].seen.length]) (row:=[.v (.string (markT q0)),vi q1,.s ((bn kY one l[i].text q2).map aN),.h 903 H3 3 l[i].list.length,.h 904 H4 3 l[i].seen.length]) (H':=H3) (srows:=(bn Entry.mark Entry.cnt l[i].list q3).map Entry.row) (by simp[gh]) iO pg ab ag ab ?_
  refine jI (k:=0) (i:=i) (j:=4) (k':=904) (sz':=3) (sz:=5) (H:=H) (rows:=(eN Doc.mark Doc.cnt Doc.row l k i).set i [.v (.string (markT q0)),vi q1,.s ((bn kY one l[i].text q2).map aN),.s ((bn Entry.mark Entry.cnt l[i].list q3).map Entry.row),.h 904 H4 3 l[i].seen.length]) (row:=[.v (.string (markT q0)),vi q1,.s ((bn kY one l[i].text q2).map aN),.s ((bn Entry.mark Entry.cnt l[i].list q3).map Entry.row),.h 904 H4 3 l[i].seen.length]) (H':=H4) (srows:=(bn Seen.mark Seen.cnt l[i].seen q4).map Seen.row) (by simp[gh]) iO pg ab ag ab ?_;refine Ent.refl ⟨i+1,aa,aa,?_⟩;simp[gh,hs,hpc];refine⟨aa,?_⟩;refine nR h ?_;rw[hq0];subst hq1 hq2 hq3 hq4 hq5;rfl
 ·have:i=l.length:=by omega
  subst this;refine Ent.refl ?_;simp[mq,bg,Doc.row]
theorem PC(l:List Doc)(k:Int)(h0:0<=k)(hk:k+a8 Doc.cnt l<=4611686018427387904)(hl:nL cO l<=2^40):ar Tryz.prog 154 [.c (.s ((bn Doc.mark Doc.cnt l k).map Doc.row)),.c (vi k)] (.one (.c (vi (k+a8 Doc.cnt l)) 1)):=by
 refine ar.intro' aq Tryz.func154 ai rfl rfl rfl (aj rfl) (λw0 base=>?_);have hle:=bB hl;simp;refine aU.intro eok (λi:Nat=>i<=l.length) (λi=>⟨59,0,[(5,.v (.int .i64 i)),(1,.v (.int .i64 (k+a8 Doc.cnt (l.take i)))),(0,.ro ((bn Doc.mark Doc.cnt l k).map Doc.row))],[]⟩) (λi=>l.length-i) 0 ab oh (λi hi=>?_);by_cases h:i<l.length
 ·have hc:=fu (cn:=Doc.cnt) h
  have hs:=eI (cn:=Doc.cnt) h;have hni:=eA hl h;simp only[cO]at hni;have hm:=mr (mk:=Doc.mark) (cn:=Doc.cnt) (k:=k) h;obtain⟨q0,hq0⟩:∃q,k+((a8 Doc.cnt (l.take i):Nat):Int)=q:=⟨_,rfl⟩;have hpc:l[i].cnt=2+(l[i].text.length+(a8 Entry.cnt l[i].list+(a8 Seen.cnt l[i].seen))):=rfl;rw[hq0]at hm;rw[hq0];have z0:¬q0<0:=aa;have e0:Go.IntKind.i64.wrap q0=q0:=ah _ aa;obtain⟨q1,hq1⟩:∃q,q0+1=q:=⟨_,rfl⟩;have e1:Go.IntKind.i64.wrap q1=q1:=ah _ aa;have z1:¬q1<0:=aa;obtain⟨q2,hq2⟩:∃q,q1+1=q:=⟨_,rfl⟩;have e2:Go.IntKind.i64.wrap q2=q2:=ah _ aa;have z2:¬q2<0:=aa;obtain⟨q3,hq3⟩:∃q,q2+((l[i].text.length:Nat):Int)=q:=⟨_,rfl⟩
  have e3:Go.IntKind.i64.wrap q3=q3:=ah _ aa;have z3:¬q3<0:=aa;obtain⟨q4,hq4⟩:∃q,q3+((a8 Entry.cnt l[i].list:Nat):Int)=q:=⟨_,rfl⟩;have e4:Go.IntKind.i64.wrap q4=q4:=ah _ aa;have z4:¬q4<0:=aa;obtain⟨q5,hq5⟩:∃q,q4+((a8 Seen.cnt l[i].seen:Nat):Int)=q:=⟨_,rfl⟩;have e5:Go.IntKind.i64.wrap q5=q5:=ah _ aa;have z5:¬q5<0:=aa;have e:Go.IntKind.i64.wrap ((i:Int)+1)=((i+1:Nat):Int):=aZ aa;simp[h,bg];refine cg.quiet eok mix ai ?_;simp[h,bg,hm,Doc.row,Doc.mark,hq1,hq2,hq3,hq4];refine⟨_,_,tw q0 aa aa,ab,?_⟩;simp[h,bg,hm,Doc.row,Doc.mark,hq1,e1,hq2,e2,hq3,hq4]
  refine ae.pure (tO l[i].text q2 aa aa) ab ?_;simp[h,bg,hm,Doc.row,Doc.mark,hq1,hq2,hq3,z3,hq4];refine ae.pure (tP l[i].list q3 aa aa aa) ab ?_;simp[h,bg,hm,Doc.row,Doc.mark,hq1,hq2,hq3,hq4,z4];refine ae.pure (Cg l[i].seen q4 aa aa aa) ab ?_;simp[hq5,z5];exact wB
 ·exact sY
theorem acB(x:Net)(h:fj x<=2^40):ar Tryz.prog 26 [.agg x.row] (.one (.agg x.res)):=by
 refine ar.intro' aq Tryz.func26 ai rfl rfl rfl (aj rfl) (λw0 base=>?_);unfold fj at h;simp[Net.row,Net.res]
 try intros
 refine ae.pure (Qx x.d aa) aS ?_;simp[Doc.res]
 try intros
 refine ae.pure (YX x.reps aa) ab ?_;simp
 try intros
theorem adW(x y:Net)(h:fj x<=2^40):ar Tryz.prog 43 [.agg x.row,.agg y.row] (.one (.c (vb (x=y)) 1)):=by
 refine ar.intro' aq Tryz.func43 ai rfl rfl rfl (aj rfl) (λw0 base=>?_);unfold fj at h;obtain⟨a0,a1⟩:=x;obtain⟨b0,b1⟩:=y;simp only at h;simp[Net.row]
 try intros
 refine ae.pure (VR a0 b0 aa) aS ?_;simp;by_cases h0:a0=b0
 rotate_left
 ·simp[h0]
 subst h0
 try simp
 refine ae.pure (abp a1 b1 aa) ab ?_;simp;by_cases h1:a1=b1
 rotate_left
 ·simp[h1]
 subst h1
 try simp
theorem acJ(x:Net)(h:x.fits)(left:Nat)(hf:left<=2^20):ar Tryz.prog 12 [.agg x.row,.c (vi left)] (.one (.c (vi (szR (fj x) left)) 1)):=by
 refine ar.intro' aq Tryz.func12 ai rfl rfl rfl (aj rfl) (λw0 base=>?_);obtain⟨f0,f1⟩:=h;obtain⟨r,hr⟩:∃r,szR (fj x) left=r:=⟨_,rfl⟩;rw[hr];have hn:fj x=cO x.d+(nL cE x.reps):=rfl;simp[Net.row]
 try intros
 refine ae.pure (Vh x.d f0 left aa) aS ?_;by_cases k0:cO x.d<=left
 rotate_left
 ·exact sZ
 rw[gm k0];obtain⟨m0,hm0⟩:∃m,left-cO x.d=m:=⟨_,rfl⟩;rw[hm0];simp;refine ae.pure (ZQ x.reps f1.1 f1.2 m0 aa) ab ?_;by_cases k1:nL cE x.reps<=m0
 rotate_left
 ·exact wD
 rw[gm k1];obtain⟨m1,hm1⟩:∃m,m0-nL cE x.reps=m:=⟨_,rfl⟩;exact DU
theorem W8(x:Net)(k:Int)(h0:0<=k)(hk:k+x.cntT<=4611686018427387904)(hl:fj x<=2^40):jS Tryz.prog 45 (.agg x.res) k (k+x.cntT) (.agg (x.markT k).res):=by
 refine jS.intro aq Tryz.func45 ai rfl rfl rfl ag (λw0 base=>?_);simp only[Net.cntT]at hk;unfold fj at hl;have hs_d:x.d.cntT=x.d.text.length+(a8 Entry.cnt x.d.list+(a8 Seen.cnt x.d.seen)):=rfl;simp[Net.res]
 try intros
 refine ae.mark (Xb x.d (k) aa aa aa) rfl (λ_ h=>h) ab ?_;simp[Doc.res,Doc.markT];refine ae.mark (Pc x.reps (k+((x.d.cntT:Nat):Int)) aa aa aa) rfl (λ_ h=>h) ab ?_;simp;simp[Net.markT,Net.cntT,bg,Doc.cntT,Mf]
 try omega
theorem XA(x:Net)(k:Int)(h0:0<=k)(hk:k+x.cntT<=4611686018427387904)(hl:fj x<=2^40):ar Tryz.prog 47 [.agg (x.markT k).row,.c (vi k)] (.one (.c (vi (k+x.cntT)) 1)):=by
 refine ar.intro' aq Tryz.func47 ai rfl rfl rfl (aj rfl) (λw0 base=>?_);simp only[Net.cntT]at hk;unfold fj at hl;have hs_d:x.d.cntT=x.d.text.length+(a8 Entry.cnt x.d.list+(a8 Seen.cnt x.d.seen)):=rfl;simp[Net.row,Net.markT]
 try intros
 refine ae.pure (XC x.d k aa aa aa) (by simp[Doc.row,Doc.markT]) ?_;obtain⟨q0,hq0⟩:∃q,k+((x.d.cntT:Nat):Int)=q:=⟨_,rfl⟩;rw[hq0];have z0:¬q0<0:=aa;simp[z0];refine ae.pure (PB x.reps q0 aa aa aa) (by simp[<-hq0,hs_d,Mf]) ?_;obtain⟨q1,hq1⟩:∃q,q0+((a8 Rep.cnt x.reps:Nat):Int)=q:=⟨_,rfl⟩;rw[hq1];have z1:¬q1<0:=aa;simp[z1]
 try (simp only[Net.cntT];omega)
theorem YW(x:Ring)(h:eJ x<=2^40):ar Tryz.prog 300 [.agg x.row] (.one (.agg x.res)):=by
 refine ar.intro' aq Tryz.func300 ai rfl rfl rfl (aj rfl) (λw0 base=>?_);unfold eJ at h;simp[Ring.row,Ring.res]
 try intros
 refine ae.pure (Ew x.list aa) ab ?_;simp
 try intros
theorem abo(x y:Ring)(h:eJ x<=2^40):ar Tryz.prog 338 [.agg x.row,.agg y.row] (.one (.c (vb (x=y)) 1)):=by
 refine ar.intro' aq Tryz.func338 ai rfl rfl rfl (aj rfl) (λw0 base=>?_);unfold eJ at h;obtain⟨a0,a1,a2,a3⟩:=x;obtain⟨b0,b1,b2,b3⟩:=y;simp only at h;simp[Ring.row]
 try intros
 by_cases h0:a0=b0
 rotate_left
 ·simp[h0]
 subst h0
 try simp
 by_cases h1:a1=b1
 rotate_left
 ·simp[h1]
 subst h1
 try simp
 by_cases h2:a2=b2
 rotate_left
 ·simp[h2]
 subst h2
 try simp
 refine ae.pure (Gf a3 b3 aa) ab ?_;simp;by_cases h3:a3=b3
 rotate_left
 ·simp[h3]
 subst h3
 try simp
theorem ZP(x:Ring)(h:x.fits)(left:Nat)(hf:left<=2^20):ar Tryz.prog 270 [.agg x.row,.c (vi left)] (.one (.c (vi (szR (eJ x) left)) 1)):=by
 refine ar.intro' aq Tryz.func270 ai rfl rfl rfl (aj rfl) (λw0 base=>?_);obtain⟨f0,f1,f2,f3⟩:=h;obtain⟨r,hr⟩:∃r,szR (eJ x) left=r:=⟨_,rfl⟩;rw[hr];have hn:eJ x=nL ba x.list:=rfl;simp[Ring.row]
 try intros
 refine ae.pure (EE x.list f3.1 f3.2 left aa) ab ?_;by_cases k0:nL ba x.list<=left
 rotate_left
 ·exact sZ
 rw[gm k0];obtain⟨m0,hm0⟩:∃m,left-nL ba x.list=m:=⟨_,rfl⟩;exact J8
theorem acz(x:Sub)(h:eM x<=2^40):ar Tryz.prog 204 [.agg x.row] (.one (.agg x.res)):=by
 refine ar.intro' aq Tryz.func204 ai rfl rfl rfl (aj rfl) (λw0 base=>?_);unfold eM at h;simp[Sub.row,Sub.res]
 try intros
 refine ae.pure (YW x.r aa) eS ?_;simp[Ring.res]
 try intros
theorem adU(x y:Sub)(h:eM x<=2^40):ar Tryz.prog 256 [.agg x.row,.agg y.row] (.one (.c (vb (x=y)) 1)):=by
 refine ar.intro' aq Tryz.func256 ai rfl rfl rfl (aj rfl) (λw0 base=>?_);unfold eM at h;obtain⟨a0,a1,a2⟩:=x;obtain⟨b0,b1,b2⟩:=y;simp only at h;simp[Sub.row]
 try intros
 by_cases h0:a0=b0
 rotate_left
 ·simp[h0]
 subst h0
 try simp
 by_cases h1:a1=b1
 rotate_left
 ·simp[h1]
 subst h1
 try simp
 refine ae.pure (abo a2 b2 aa) eS ?_;simp;exact DN
theorem acH(x:Sub)(h:x.fits)(left:Nat)(hf:left<=2^20):ar Tryz.prog 158 [.agg x.row,.c (vi left)] (.one (.c (vi (szR (eM x) left)) 1)):=by
 refine ar.intro' aq Tryz.func158 ai rfl rfl rfl (aj rfl) (λw0 base=>?_);obtain⟨f0,f1,f2⟩:=h;obtain⟨r,hr⟩:∃r,szR (eM x) left=r:=⟨_,rfl⟩;rw[hr];have hn:eM x=x.doc.size+(eJ x.r):=rfl;simp[Sub.row]
 try intros
 by_cases k0:x.doc.size<=left
 rotate_left
 ·have hw:IntKind.i64.wrap ((left:Int)-(x.doc.size:Int))=(left:Int)-x.doc.size:=kc _ aa
  have hz:(left:Int)-x.doc.size<0:=aa;have:r = -1:=by rw[<-hr];exact iJ aa
  simp[hw,hz,this]
 obtain⟨m0,hm0⟩:∃m,left-x.doc.size=m:=⟨_,rfl⟩;have w0:IntKind.i64.wrap ((left:Int)-(x.doc.size:Int))=(m0:Int):=by rw[kc _ aa];omega
 simp[w0];refine ae.pure (ZP x.r f2 m0 aa) eS ?_;by_cases k1:eJ x.r<=m0
 rotate_left
 ·exact wD
 rw[gm k1];obtain⟨m1,hm1⟩:∃m,m0-eJ x.r=m:=⟨_,rfl⟩;exact DU
theorem YU(l:List Sub)(hl:nL eM l<=2^40):ar Tryz.prog 97 [.c (.s (l.map Sub.row))] (.one (.c (.s (l.map Sub.row)) 6)):=by
 refine ar.intro' aq Tryz.func97 ai rfl rfl rfl (aj rfl) (λw0 base=>?_);have hle:=bB hl;simp;refine⟨aa,λb=>?_⟩
 refine aU.intro eok (λi:Nat=>i<=l.length) (λi=>⟨23,0,[(4,.v (.int .i64 i)),(3,.sl 112 (some (b,0,l.length)) 6 0 l.length),(0,.ro (l.map Sub.row))],
  [(112,.rows (some (b,0,l.length)) 6 (o9 Sub.row [.v (.int .i64 0),.v (.string ⟨#[]⟩),.v (.int .i64 0),.v (.int .i64 0),.v (.bool false),.s []] l i) true)]⟩) (λi=>l.length-i) 0 ab sN (λi hi=>?_)
 by_cases h:i<l.length
 ·simp[h,Sub.row]
  refine ae.pure (acz l[i] (eA hl h)) (by simp[Sub.row]) ?_;simp[Sub.res,j7 hi,h];exact⟨i+1,aa,aa,aZ aa,nW (f:=Sub.row) h⟩
 ·exact wG
theorem abm(a b:List Sub)(hl:nL eM a<=2^40):ar Tryz.prog 147 [.c (.s (a.map Sub.row)),.c (.s (b.map Sub.row))] (.one (.c (vb (a=b)) 1)):=by
 refine ar.intro' aq Tryz.func147 ai rfl rfl rfl (aj rfl) (λw0 base=>?_);have hle:=bB hl;by_cases h:a.length=b.length
 ·simp[h]
  refine aU.intro eok (λi:Nat=>i<=a.length/\a.take i=b.take i) (λi=>⟨27,0,[(5,.v (.int .i64 i)),(1,.ro (b.map Sub.row)),(0,.ro (a.map Sub.row))],[]⟩) (λi=>a.length-i) 0 ab ab (λi hi=>?_);by_cases hlt:i<a.length
  ·simp[hlt]
   have hlt':i<b.length:=aa;refine cg.quiet eok mix ai ?_;simp[hlt,hlt',Sub.row];refine⟨_,_,adU a[i] b[i] (eA hl hlt),by simp[Sub.row],?_⟩;simp;exact qV
  ·exact sV
 ·exact om
theorem ZO(l:List Sub)(hl:l.length<=9223372036854775807)(hs:∀y∈l,y.fits)(left:Nat)(hf:left<=2^20):ar Tryz.prog 49 [.c (.s (l.map Sub.row)),.c (vi left)] (.one (.c (vi (szR (nL eM l) left)) 1)):=by
 refine ar.intro' aq Tryz.func49 ai rfl rfl rfl (aj rfl) (λw0 base=>?_);have hw:IntKind.i64.wrap ((left:Int)-(l.length:Int))=(left:Int)-l.length:=kc _ aa;have hn:nL eM l=l.length+dW eM l:=rfl;by_cases h:l.length<=left
 ·obtain⟨lf,hlf⟩:∃lf:Nat,left-l.length=lf:=⟨_,rfl⟩
  have hlz:(left:Int)-l.length=(lf:Int):=aa;have hw2:IntKind.i64.wrap (lf:Int)=lf:=gb aa;simp[hlz,hw2];obtain⟨r,hr⟩:∃r,szR (nL eM l) left=r:=⟨_,rfl⟩;have hr0:szR (dW eM l) lf=r:=y4;rw[hr];refine aU.intro eok (λx:Nat×Nat=>x.1<=l.length/\x.2<=2^20/\szR (dW eM (l.drop x.1)) x.2=r) (λx=>⟨27,0,[(5,.v (.int .i64 x.1)),(1,.v (.int .i64 x.2)),(0,.ro (l.map Sub.row))],[]⟩) (λx=>l.length-x.1) (0,lf) y3 ab ?_
  rintro⟨i,m⟩ ⟨hi,hm,hx⟩
  simp only at hi hm hx⊢;by_cases hlt:i<l.length
  ·rw[pR hlt]at hx
   simp[hlt,Sub.row];refine ae.pure (acH l[i] (hs _ (ao hlt)) m hm) (by simp[Sub.row]) ?_;by_cases hk:eM l[i]<=m
   ·rw[gm hk]
    have hz:¬((m-eM l[i]:Nat):Int)<0:=aa;simp[hz];refine⟨i+1,m-eM l[i],⟨aa,aa,?_⟩,aa,aZ aa,rfl⟩;exact zc
   ·rw[iJ (show ¬eM l[i]+dW eM (l.drop (i+1))<=m from aa)]at hx
    exact y8
  ·exact zi
 ·have hz:(left:Int)-l.length<0:=by omega
  simp[hw,hz,iJ (show ¬nL eM l<=left from aa)]
theorem Pb(l:List Sub)(k:Int)(h0:0<=k)(hk:k+a8 Sub.cnt l<=4611686018427387904)(hl:nL eM l<=2^40):jS Tryz.prog 151 (.c (.s (l.map Sub.row)) 6) k (k+a8 Sub.cnt l) (.c (.s ((bn Sub.mark Sub.cnt l k).map Sub.row)) 6):=by
 refine jS.intro aq Tryz.func151 ai rfl rfl rfl ag (λw0 base=>?_);have hle:=bB hl;simp;intro H;refine aE eok (λi:Nat=>i<=l.length) (λi=>⟨62,0,[(5,.v (.int .i64 i)),(1,.v (.int .i64 (k+a8 Sub.cnt (l.take i)))),(0,.ml 0 H 6 l.length)],[(0,.rows H 6 (eN Sub.mark Sub.cnt Sub.row l k i) true)]⟩) (λi=>l.length-i) 0 ab wt (λi hi=>?_);by_cases h:i<l.length
 ·have hc:=fu (cn:=Sub.cnt) h
  have hs:=eI (cn:=Sub.cnt) h;have hni:=eA hl h;simp only[eM,eJ]at hni;obtain⟨q0,hq0⟩:∃q,k+((a8 Sub.cnt (l.take i):Nat):Int)=q:=⟨_,rfl⟩;have hpc:l[i].cnt=5+(a8 Entry.cnt l[i].r.list):=rfl;rw[hq0,<-nS h];have e0:Go.IntKind.i64.wrap q0=q0:=ah _ aa;obtain⟨q1,hq1⟩:∃q,q0+1=q:=⟨_,rfl⟩;have e1:Go.IntKind.i64.wrap q1=q1:=ah _ aa;obtain⟨q2,hq2⟩:∃q,q1+1=q:=⟨_,rfl⟩;have e2:Go.IntKind.i64.wrap q2=q2:=ah _ aa;obtain⟨q3,hq3⟩:∃q,q2+1=q:=⟨_,rfl⟩;have e3:Go.IntKind.i64.wrap q3=q3:=ah _ aa;obtain⟨q4,hq4⟩:∃q,q3+1=q:=⟨_,rfl⟩;have e4:Go.IntKind.i64.wrap q4=q4:=ah _ aa;obtain⟨q5,hq5⟩:∃q,q4+1=q:=⟨_,rfl⟩
  have e5:Go.IntKind.i64.wrap q5=q5:=ah _ aa;obtain⟨q6,hq6⟩:∃q,q5+((a8 Entry.cnt l[i].r.list:Nat):Int)=q:=⟨_,rfl⟩;have e6:Go.IntKind.i64.wrap q6=q6:=ah _ aa;have e:Go.IntKind.i64.wrap ((i:Int)+1)=((i+1:Nat):Int):=aZ aa;refine Ent.open (λ_ h=>h) (k:=0) (i:=i) (j:=5) (k':=905) (sz':=3) (sz:=6) (H:=H) (rows:=((eN Sub.mark Sub.cnt Sub.row l k i).set i l[i].row)) (srows:=l[i].r.list.map Entry.row) (row:=l[i].row) ab iO rfl ab ag ix ab (λH5=>?_);refine Ent.refl ?_;simp[h,eH,Sub.row,gh,jZ,hq1,e1];refine ae.pure (tw q1 aa aa) ab ?_;simp[h,eH,jZ,hq2,e2,hq3,e3,hq4,e4,hq5,e5]
  refine ae.mark (tE l[i].r.list q5 aa aa aa) rfl (λ_ h=>h) ab ?_;simp[e,hq6];refine jI (k:=0) (i:=i) (j:=5) (k':=905) (sz':=3) (sz:=6) (H:=H) (rows:=(eN Sub.mark Sub.cnt Sub.row l k i).set i [vi q0,.v (.string (markT q1)),vi q2,vi q3,.v (.bool (lZ q4)),.h 905 H5 3 l[i].r.list.length]) (row:=[vi q0,.v (.string (markT q1)),vi q2,vi q3,.v (.bool (lZ q4)),.h 905 H5 3 l[i].r.list.length]) (H':=H5) (srows:=(bn Entry.mark Entry.cnt l[i].r.list q5).map Entry.row) (by simp[lZ]) iO pg ab ag ab ?_;refine Ent.refl ⟨i+1,aa,aa,?_⟩;simp[gh,hs,hpc];refine⟨aa,?_⟩;refine nR h ?_;rw[hq0];subst hq1 hq2 hq3 hq4 hq5 hq6;rfl
 ·have:i=l.length:=by omega
  subst this;refine Ent.refl ?_;simp[mq,bg,Sub.row]
theorem PA(l:List Sub)(k:Int)(h0:0<=k)(hk:k+a8 Sub.cnt l<=4611686018427387904)(hl:nL eM l<=2^40):ar Tryz.prog 155 [.c (.s ((bn Sub.mark Sub.cnt l k).map Sub.row)),.c (vi k)] (.one (.c (vi (k+a8 Sub.cnt l)) 1)):=by
 refine ar.intro' aq Tryz.func155 ai rfl rfl rfl (aj rfl) (λw0 base=>?_);have hle:=bB hl;simp;refine aU.intro eok (λi:Nat=>i<=l.length) (λi=>⟨74,0,[(5,.v (.int .i64 i)),(1,.v (.int .i64 (k+a8 Sub.cnt (l.take i)))),(0,.ro ((bn Sub.mark Sub.cnt l k).map Sub.row))],[]⟩) (λi=>l.length-i) 0 ab oh (λi hi=>?_);by_cases h:i<l.length
 ·have hc:=fu (cn:=Sub.cnt) h
  have hs:=eI (cn:=Sub.cnt) h;have hni:=eA hl h;simp only[eM,eJ]at hni;have hm:=mr (mk:=Sub.mark) (cn:=Sub.cnt) (k:=k) h;obtain⟨q0,hq0⟩:∃q,k+((a8 Sub.cnt (l.take i):Nat):Int)=q:=⟨_,rfl⟩;have hpc:l[i].cnt=5+(a8 Entry.cnt l[i].r.list):=rfl;rw[hq0]at hm;rw[hq0];have z0:¬q0<0:=aa;have e0:Go.IntKind.i64.wrap q0=q0:=ah _ aa;obtain⟨q1,hq1⟩:∃q,q0+1=q:=⟨_,rfl⟩;have e1:Go.IntKind.i64.wrap q1=q1:=ah _ aa;have z1:¬q1<0:=aa;obtain⟨q2,hq2⟩:∃q,q1+1=q:=⟨_,rfl⟩;have e2:Go.IntKind.i64.wrap q2=q2:=ah _ aa;have z2:¬q2<0:=aa;obtain⟨q3,hq3⟩:∃q,q2+1=q:=⟨_,rfl⟩;have e3:Go.IntKind.i64.wrap q3=q3:=ah _ aa;have z3:¬q3<0:=aa
  obtain⟨q4,hq4⟩:∃q,q3+1=q:=⟨_,rfl⟩;have e4:Go.IntKind.i64.wrap q4=q4:=ah _ aa;have z4:¬q4<0:=aa;obtain⟨q5,hq5⟩:∃q,q4+1=q:=⟨_,rfl⟩;have e5:Go.IntKind.i64.wrap q5=q5:=ah _ aa;have z5:¬q5<0:=aa;obtain⟨q6,hq6⟩:∃q,q5+((a8 Entry.cnt l[i].r.list:Nat):Int)=q:=⟨_,rfl⟩;have e6:Go.IntKind.i64.wrap q6=q6:=ah _ aa;have z6:¬q6<0:=aa;have e:Go.IntKind.i64.wrap ((i:Int)+1)=((i+1:Nat):Int):=aZ aa;simp[h,bg,hm,Sub.row,Sub.mark,hq1,e1,hq2,hq3,hq4,hq5,lZ];refine cg.quiet eok mix ai ?_;simp[h,bg,hm,Sub.row,Sub.mark,hq1,hq2,hq3,hq4,hq5,lZ];refine⟨_,_,tw q1 aa aa,ab,?_⟩
  simp[h,bg,hm,Sub.row,Sub.mark,hq1,hq2,e2,hq3,e3,hq4,e4,hq5,e5,lZ];refine ae.pure (tP l[i].r.list q5 aa aa aa) ab ?_;simp[hq6,z6];exact wB
 ·exact sY
theorem acC(x:Hub)(h:eG x<=2^40):ar Tryz.prog 25 [.agg x.row] (.one (.agg x.res)):=by
 refine ar.intro' aq Tryz.func25 ai rfl rfl rfl (aj rfl) (λw0 base=>?_);unfold eG at h;simp[Hub.row,Hub.res]
 try intros
 refine ae.pure (YZ x.docs aa) ab ?_;simp
 try intros
 refine ae.pure (YU x.subs aa) ab ?_;simp
 try intros
theorem adX(x y:Hub)(h:eG x<=2^40):ar Tryz.prog 42 [.agg x.row,.agg y.row] (.one (.c (vb (x=y)) 1)):=by
 refine ar.intro' aq Tryz.func42 ai rfl rfl rfl (aj rfl) (λw0 base=>?_);unfold eG at h;obtain⟨a0,a1,a2,a3⟩:=x;obtain⟨b0,b1,b2,b3⟩:=y;simp only at h;simp[Hub.row]
 try intros
 by_cases h0:a0=b0
 rotate_left
 ·simp[h0]
 subst h0
 try simp
 refine ae.pure (abr a1 b1 aa) ab ?_;simp;by_cases h1:a1=b1
 rotate_left
 ·simp[h1]
 subst h1
 try simp
 refine ae.pure (abm a2 b2 aa) ab ?_;simp;by_cases h2:a2=b2
 rotate_left
 ·simp[h2]
 subst h2
 try simp
 by_cases h3:a3=b3
 rotate_left
 ·simp[h3]
 subst h3
 try simp
theorem acK(x:Hub)(h:x.fits)(left:Nat)(hf:left<=2^20):ar Tryz.prog 11 [.agg x.row,.c (vi left)] (.one (.c (vi (szR (eG x) left)) 1)):=by
 refine ar.intro' aq Tryz.func11 ai rfl rfl rfl (aj rfl) (λw0 base=>?_);obtain⟨f0,f1,f2,f3⟩:=h;obtain⟨r,hr⟩:∃r,szR (eG x) left=r:=⟨_,rfl⟩;rw[hr];have hn:eG x=nL cO x.docs+(nL eM x.subs):=rfl;simp[Hub.row]
 try intros
 refine ae.pure (ZS x.docs f1.1 f1.2 left aa) ab ?_;by_cases k0:nL cO x.docs<=left
 rotate_left
 ·exact sZ
 rw[gm k0];obtain⟨m0,hm0⟩:∃m,left-nL cO x.docs=m:=⟨_,rfl⟩;rw[hm0];simp;refine ae.pure (ZO x.subs f2.1 f2.2 m0 aa) ab ?_;by_cases k1:nL eM x.subs<=m0
 rotate_left
 ·exact wD
 rw[gm k1];obtain⟨m1,hm1⟩:∃m,m0-nL eM x.subs=m:=⟨_,rfl⟩;exact DU
theorem Xa(x:Hub)(k:Int)(h0:0<=k)(hk:k+x.cntT<=4611686018427387904)(hl:eG x<=2^40):jS Tryz.prog 44 (.agg x.res) k (k+x.cntT) (.agg (x.markT k).res):=by
 refine jS.intro aq Tryz.func44 ai rfl rfl rfl ag (λw0 base=>?_);simp only[Hub.cntT]at hk;unfold eG at hl;simp[Hub.res]
 try intros
 refine ae.mark (Pd x.docs (k) aa aa aa) rfl (λ_ h=>h) ab ?_;simp;refine ae.mark (Pb x.subs (k+((a8 Doc.cnt x.docs:Nat):Int)) aa aa aa) rfl (λ_ h=>h) ab ?_;simp;simp[Hub.markT,Hub.cntT,bg]
 try omega
theorem XB(x:Hub)(k:Int)(h0:0<=k)(hk:k+x.cntT<=4611686018427387904)(hl:eG x<=2^40):ar Tryz.prog 46 [.agg (x.markT k).row,.c (vi k)] (.one (.c (vi (k+x.cntT)) 1)):=by
 refine ar.intro' aq Tryz.func46 ai rfl rfl rfl (aj rfl) (λw0 base=>?_);simp only[Hub.cntT]at hk;unfold eG at hl;simp[Hub.row,Hub.markT]
 try intros
 refine ae.pure (PC x.docs k aa aa aa) ab ?_;obtain⟨q1,hq1⟩:∃q,k+((a8 Doc.cnt x.docs:Nat):Int)=q:=⟨_,rfl⟩;rw[hq1];have z1:¬q1<0:=aa;simp[z1];refine ae.pure (PA x.subs q1 aa aa aa) ab ?_;obtain⟨q2,hq2⟩:∃q,q1+((a8 Sub.cnt x.subs:Nat):Int)=q:=⟨_,rfl⟩;rw[hq2];have z2:¬q2<0:=aa;simp[z2]
 try (simp only[Hub.cntT];omega)
theorem yR(x:Desk)(h:gW x<=2^40):ar Tryz.prog 6 [.agg x.row] (.one (.agg x.res)):=by
 refine ar.intro' aq Tryz.func6 ai rfl rfl rfl (aj rfl) (λw0 base=>?_);unfold gW at h;simp[Desk.row,Desk.res]
 try intros
 refine ae.pure (acC x.h aa) bV ?_;simp[Hub.res]
 try intros
 refine ae.pure (acB x.n aa) iN ?_;simp[Net.res]
 try intros
theorem Ak(x y:Desk)(h:gW x<=2^40):ar Tryz.prog 8 [.agg x.row,.agg y.row] (.one (.c (vb (x=y)) 1)):=by
 refine ar.intro' aq Tryz.func8 ai rfl rfl rfl (aj rfl) (λw0 base=>?_);unfold gW at h;obtain⟨a0,a1⟩:=x;obtain⟨b0,b1⟩:=y;simp only at h;simp[Desk.row]
 try intros
 refine ae.pure (adX a0 b0 aa) bV ?_;simp;by_cases h0:a0=b0
 rotate_left
 ·simp[h0]
 subst h0
 try simp
 refine ae.pure (adW a1 b1 aa) iN ?_;simp;by_cases h1:a1=b1
 rotate_left
 ·simp[h1]
 subst h1
 try simp
theorem ZT(x:Desk)(h:x.fits)(left:Nat)(hf:left<=2^20):ar Tryz.prog 4 [.agg x.row,.c (vi left)] (.one (.c (vi (szR (gW x) left)) 1)):=by
 refine ar.intro' aq Tryz.func4 ai rfl rfl rfl (aj rfl) (λw0 base=>?_);obtain⟨f0,f1⟩:=h;obtain⟨r,hr⟩:∃r,szR (gW x) left=r:=⟨_,rfl⟩;rw[hr];have hn:gW x=eG x.h+(fj x.n):=rfl;simp[Desk.row]
 try intros
 refine ae.pure (acK x.h f0 left aa) bV ?_;by_cases k0:eG x.h<=left
 rotate_left
 ·exact sZ
 rw[gm k0];obtain⟨m0,hm0⟩:∃m,left-eG x.h=m:=⟨_,rfl⟩;rw[hm0];simp;refine ae.pure (acJ x.n f1 m0 aa) iN ?_;by_cases k1:fj x.n<=m0
 rotate_left
 ·exact wD
 rw[gm k1];obtain⟨m1,hm1⟩:∃m,m0-fj x.n=m:=⟨_,rfl⟩;exact DU
theorem Fx(x:Desk)(k:Int)(h0:0<=k)(hk:k+x.cntT<=4611686018427387904)(hl:gW x<=2^40):jS Tryz.prog 9 (.agg x.res) k (k+x.cntT) (.agg (x.markT k).res):=by
 refine jS.intro aq Tryz.func9 ai rfl rfl rfl ag (λw0 base=>?_);simp only[Desk.cntT]at hk;unfold gW at hl;have hs_h:x.h.cntT=a8 Doc.cnt x.h.docs+(a8 Sub.cnt x.h.subs):=rfl;have hs_n:x.n.cntT=x.n.d.text.length+(a8 Entry.cnt x.n.d.list+(a8 Seen.cnt x.n.d.seen+(a8 Rep.cnt x.n.reps))):=rfl;simp[Desk.res]
 try intros
 refine ae.mark (Xa x.h (k) aa aa aa) rfl (λ_ h=>h) ab ?_;simp[Hub.res,Hub.markT];refine ae.mark (W8 x.n (k+((x.h.cntT:Nat):Int)) aa aa aa) rfl (λ_ h=>h) ab ?_;simp[Net.res,Net.markT];simp[Desk.markT,Desk.cntT,bg,Hub.cntT,Net.cntT,Mf]
 try omega
theorem FW(x:Desk)(k:Int)(h0:0<=k)(hk:k+x.cntT<=4611686018427387904)(hl:gW x<=2^40):ar Tryz.prog 10 [.agg (x.markT k).row,.c (vi k)] (.one (.c (vi (k+x.cntT)) 1)):=by
 refine ar.intro' aq Tryz.func10 ai rfl rfl rfl (aj rfl) (λw0 base=>?_);simp only[Desk.cntT]at hk;unfold gW at hl;have hs_h:x.h.cntT=a8 Doc.cnt x.h.docs+(a8 Sub.cnt x.h.subs):=rfl;have hs_n:x.n.cntT=x.n.d.text.length+(a8 Entry.cnt x.n.d.list+(a8 Seen.cnt x.n.d.seen+(a8 Rep.cnt x.n.reps))):=rfl;simp[Desk.row,Desk.markT]
 try intros
 refine ae.pure (XB x.h k aa aa aa) (by simp[Hub.row,Hub.markT]) ?_;obtain⟨q0,hq0⟩:∃q,k+((x.h.cntT:Nat):Int)=q:=⟨_,rfl⟩;rw[hq0];have z0:¬q0<0:=aa;simp[z0];refine ae.pure (XA x.n q0 aa aa aa) (by simp[Net.row,Net.markT,<-hq0,hs_h,Mf]) ?_;obtain⟨q1,hq1⟩:∃q,q0+((x.n.cntT:Nat):Int)=q:=⟨_,rfl⟩;rw[hq1];have z1:¬q1<0:=aa;simp[z1]
 try (simp only[Desk.cntT];omega)
open Go.AM Go.ChangeShapes Go.WideShapes Go.ChangeAt Go.RowKit
theorem own:ownKnob Tryz.prog.godebug=none:=ai
theorem laid:laidOutB Tryz.prog=true:=ai
theorem im{D:Nat}{ds:List CD}(h:jn Tryz.prog D 3 ds):∃n:Int,ds=[vi n]/\gR n:=by
 obtain⟨n,h1,h2⟩:=aa8 Tryz.underlying3 h;exact⟨n,h1,ae6 h2⟩
theorem mL:maxLen=9223372036854775807:=rfl
theorem Bc{D:Nat}{ds:List CD}(h:jn Tryz.prog D 26 ds):∃l:List Int,ds=[.s (l.map aN)]/\l.length<=9223372036854775807/\∀n∈l,gR n:=by
 obtain⟨rows,rfl,h1,D',h2⟩:=mw Tryz.underlying26 h;obtain⟨l,rfl,hl⟩:=oK (f:=aN) (ok:=gR) rows (λrow hrow=>im (h2 row hrow).2);exact sW
theorem abH:Tryz.prog.cellsOf 310=3:=ai
theorem aaE{α:Type}{l:List α}(h:l.length=3):∃x0 x1 x2,l=[x0,x1,x2]:=by
 match l,h with
 | [x0,x1,x2],_=>exact⟨x0,x1,x2,rfl⟩
theorem vW:Tryz.prog.cellsOf 3=1:=ai
theorem LL:Tryz.prog.cellsOf 26=1:=ai
theorem XI{D:Nat}{ds:List CD}(h:jn Tryz.prog D 310 ds):∃x:Part,ds=x.row/\x.fits:=by
 obtain⟨hl,D',hf⟩:=gK Tryz.underlying310 h;rw[abH]at hl;obtain⟨d0,d1,d2,rfl⟩:=aaE hl;simp[vW,LL]at hf;obtain⟨h0,h1,h2⟩:=hf;obtain⟨n0,e0,k0⟩:=im h0;simp at e0;subst e0;obtain⟨n1,e1,k1⟩:=im h1;simp at e1;subst e1;obtain⟨n2,e2,k2⟩:=Bc h2;exact J3
theorem yD{D:Nat}{ds:List CD}(h:jn Tryz.prog D 189 ds):∃l:List Part,ds=[.s (l.map Part.row)]/\l.length<=9223372036854775807/\∀y∈l,y.fits:=by
 obtain⟨rows,rfl,h1,D',h2⟩:=mw Tryz.underlying189 h;obtain⟨l,rfl,hl⟩:=oK (f:=Part.row) (ok:=Part.fits) rows (λrow hrow=>XI (h2 row hrow).2);exact sW
theorem abJ:Tryz.prog.cellsOf 253=3:=ai
theorem NZ:Tryz.prog.cellsOf 189=1:=ai
theorem PG{D:Nat}{ds:List CD}(h:jn Tryz.prog D 253 ds):∃x:Entry,ds=x.row/\x.fits:=by
 obtain⟨hl,D',hf⟩:=gK Tryz.underlying253 h;rw[abJ]at hl;obtain⟨d0,d1,d2,rfl⟩:=aaE hl;simp[vW,NZ]at hf;obtain⟨h0,h1,h2⟩:=hf;obtain⟨n0,e0,k0⟩:=im h0;simp at e0;subst e0;obtain⟨n1,e1,k1⟩:=im h1;simp at e1;subst e1;obtain⟨n2,e2,k2⟩:=yD h2;exact J3
theorem Ci{D:Nat}{ds:List CD}(h:jn Tryz.prog D 27 ds):∃l:List Entry,ds=[.s (l.map Entry.row)]/\l.length<=9223372036854775807/\∀y∈l,y.fits:=by
 obtain⟨rows,rfl,h1,D',h2⟩:=mw Tryz.underlying27 h;obtain⟨l,rfl,hl⟩:=oK (f:=Entry.row) (ok:=Entry.fits) rows (λrow hrow=>PG (h2 row hrow).2);exact sW
theorem abI:Tryz.prog.cellsOf 286=3:=ai
theorem XF{D:Nat}{ds:List CD}(h:jn Tryz.prog D 286 ds):∃x:Seen,ds=x.row/\x.fits:=by
 obtain⟨hl,D',hf⟩:=gK Tryz.underlying286 h;rw[abI]at hl;obtain⟨d0,d1,d2,rfl⟩:=aaE hl;simp[vW]at hf;obtain⟨h0,h1,h2⟩:=hf;obtain⟨n0,e0,k0⟩:=im h0;simp at e0;subst e0;obtain⟨n1,e1,k1⟩:=im h1;simp at e1;subst e1;obtain⟨n2,e2,k2⟩:=im h2;exact J3
theorem PF{D:Nat}{ds:List CD}(h:jn Tryz.prog D 28 ds):∃l:List Seen,ds=[.s (l.map Seen.row)]/\l.length<=9223372036854775807/\∀y∈l,y.fits:=by
 obtain⟨rows,rfl,h1,D',h2⟩:=mw Tryz.underlying28 h;obtain⟨l,rfl,hl⟩:=oK (f:=Seen.row) (ok:=Seen.fits) rows (λrow hrow=>XF (h2 row hrow).2);exact sW
theorem V0:Tryz.prog.cellsOf 30=5:=ai
theorem aka{α:Type}{l:List α}(h:l.length=5):∃x0 x1 x2 x3 x4,l=[x0,x1,x2,x3,x4]:=by
 match l,h with
 | [x0,x1,x2,x3,x4],_=>exact⟨x0,x1,x2,x3,x4,rfl⟩
theorem abG:Tryz.prog.cellsOf 9=1:=ai
theorem V7:Tryz.prog.cellsOf 27=1:=ai
theorem ad8:Tryz.prog.cellsOf 28=1:=ai
theorem Nz{D:Nat}{ds:List CD}(h:jn Tryz.prog D 30 ds):∃x:Doc,ds=x.row/\x.fits:=by
 obtain⟨hl,D',hf⟩:=gK Tryz.underlying30 h;rw[V0]at hl;obtain⟨d0,d1,d2,d3,d4,rfl⟩:=aka hl;simp[vW,abG,LL,V7,ad8]at hf;obtain⟨h0,h1,h2,h3,h4⟩:=hf;obtain⟨n0,e0,k0⟩:=vD Tryz.underlying9 h0;simp at e0;subst e0;obtain⟨n1,e1,k1⟩:=im h1;simp at e1;subst e1;obtain⟨n2,e2,k2⟩:=Bc h2;simp at e2;subst e2;obtain⟨n3,e3,k3⟩:=Ci h3;simp at e3;subst e3;obtain⟨n4,e4,k4⟩:=PF h4;simp at e4;subst e4;exact⟨⟨n0,n1,n2,n3,n4⟩,rfl,(by rw[mL]at k0;exact k0),k1,k2,k3,k4⟩
theorem XJ{D:Nat}{ds:List CD}(h:jn Tryz.prog D 22 ds):∃l:List Doc,ds=[.s (l.map Doc.row)]/\l.length<=9223372036854775807/\∀y∈l,y.fits:=by
 obtain⟨rows,rfl,h1,D',h2⟩:=mw Tryz.underlying22 h;obtain⟨l,rfl,hl⟩:=oK (f:=Doc.row) (ok:=Doc.fits) rows (λrow hrow=>Nz (h2 row hrow).2);exact sW
theorem N0:Tryz.prog.cellsOf 182=4:=ai
theorem aeX{α:Type}{l:List α}(h:l.length=4):∃x0 x1 x2 x3,l=[x0,x1,x2,x3]:=by
 match l,h with
 | [x0,x1,x2,x3],_=>exact⟨x0,x1,x2,x3,rfl⟩
theorem PX:Tryz.prog.cellsOf 4=1:=ai
theorem XG{D:Nat}{ds:List CD}(h:jn Tryz.prog D 182 ds):∃x:Ring,ds=x.row/\x.fits:=by
 obtain⟨hl,D',hf⟩:=gK Tryz.underlying182 h;rw[N0]at hl;obtain⟨d0,d1,d2,d3,rfl⟩:=aeX hl;simp[vW,PX,V7]at hf;obtain⟨h0,h1,h2,h3⟩:=hf;obtain⟨n0,e0,k0⟩:=im h0;simp at e0;subst e0;obtain⟨n1,e1,k1⟩:=im h1;simp at e1;subst e1;obtain⟨n2,e2⟩:=Bd Tryz.underlying4 h2;simp at e2;subst e2;obtain⟨n3,e3,k3⟩:=Ci h3;simp at e3;subst e3;exact⟨⟨n0,n1,n2,n3⟩,rfl,k0,k1,trivial,k3⟩
theorem abL:Tryz.prog.cellsOf 184=6:=ai
theorem aeW{α:Type}{l:List α}(h:l.length=6):∃x0 x1 x2 x3 x4 x5,l=[x0,x1,x2,x3,x4,x5]:=by
 match l,h with
 | [x0,x1,x2,x3,x4,x5],_=>exact⟨x0,x1,x2,x3,x4,x5,rfl⟩
theorem aa9{D:Nat}{ds:List CD}(h:jn Tryz.prog D 184 ds):∃x:Sub,ds=x.row/\x.fits:=by
 obtain⟨hl,D',hf⟩:=gK Tryz.underlying184 h;rw[abL]at hl;obtain⟨d0,d1,d2,d3,d4,d5,rfl⟩:=aeW hl;simp[vW,abG,N0]at hf;obtain⟨h0,h1,h2⟩:=hf;obtain⟨n0,e0,k0⟩:=im h0;simp at e0;subst e0;obtain⟨n1,e1,k1⟩:=vD Tryz.underlying9 h1;simp at e1;subst e1;obtain⟨n2,e2,k2⟩:=XG h2;simp[Ring.row]at e2;obtain⟨e2_0,e2_1,e2_2,e2_3⟩:=e2;subst e2_0 e2_1 e2_2 e2_3;exact⟨⟨n0,n1,n2⟩,rfl,k0,(by rw[mL]at k1;exact k1),k2⟩
theorem XE{D:Nat}{ds:List CD}(h:jn Tryz.prog D 23 ds):∃l:List Sub,ds=[.s (l.map Sub.row)]/\l.length<=9223372036854775807/\∀y∈l,y.fits:=by
 obtain⟨rows,rfl,h1,D',h2⟩:=mw Tryz.underlying23 h;obtain⟨l,rfl,hl⟩:=oK (f:=Sub.row) (ok:=Sub.fits) rows (λrow hrow=>aa9 (h2 row hrow).2);exact sW
theorem V8:Tryz.prog.cellsOf 25=4:=ai
theorem aea:Tryz.prog.cellsOf 22=1:=ai
theorem ad9:Tryz.prog.cellsOf 23=1:=ai
theorem abc{D:Nat}{ds:List CD}(h:jn Tryz.prog D 25 ds):∃x:Hub,ds=x.row/\x.fits:=by
 obtain⟨hl,D',hf⟩:=gK Tryz.underlying25 h;rw[V8]at hl;obtain⟨d0,d1,d2,d3,rfl⟩:=aeX hl;simp[vW,PX,aea,ad9]at hf;obtain⟨h0,h1,h2,h3⟩:=hf;obtain⟨n0,e0⟩:=Bd Tryz.underlying4 h0;simp at e0;subst e0;obtain⟨n1,e1,k1⟩:=XJ h1;simp at e1;subst e1;obtain⟨n2,e2,k2⟩:=XE h2;simp at e2;subst e2;obtain⟨n3,e3,k3⟩:=im h3;simp at e3;subst e3;exact⟨⟨n0,n1,n2,n3⟩,rfl,trivial,k1,k2,k3⟩
theorem abK:Tryz.prog.cellsOf 191=7:=ai
theorem aj9{α:Type}{l:List α}(h:l.length=7):∃x0 x1 x2 x3 x4 x5 x6,l=[x0,x1,x2,x3,x4,x5,x6]:=by
 match l,h with
 | [x0,x1,x2,x3,x4,x5,x6],_=>exact⟨x0,x1,x2,x3,x4,x5,x6,rfl⟩
theorem aba{D:Nat}{ds:List CD}(h:jn Tryz.prog D 191 ds):∃x:Rep,ds=x.row/\x.fits:=by
 obtain⟨hl,D',hf⟩:=gK Tryz.underlying191 h;rw[abK]at hl;obtain⟨d0,d1,d2,d3,d4,d5,d6,rfl⟩:=aj9 hl;simp[vW,PX,LL,NZ]at hf;obtain⟨h0,h1,h2,h3,h4,h5,h6⟩:=hf;obtain⟨n0,e0,k0⟩:=im h0;simp at e0;subst e0;obtain⟨n1,e1,k1⟩:=im h1;simp at e1;subst e1;obtain⟨n2,e2,k2⟩:=im h2;simp at e2;subst e2;obtain⟨n3,e3,k3⟩:=Bc h3;simp at e3;subst e3;obtain⟨n4,e4⟩:=Bd Tryz.underlying4 h4;simp at e4;subst e4;obtain⟨n5,e5,k5⟩:=yD h5;simp at e5;subst e5;obtain⟨n6,e6,k6⟩:=yD h6;simp at e6;subst e6;exact⟨⟨n0,n1,n2,n3,n4,n5,n6⟩,rfl,k0,k1,k2,k3,trivial,k5,k6⟩
theorem XH{D:Nat}{ds:List CD}(h:jn Tryz.prog D 31 ds):∃l:List Rep,ds=[.s (l.map Rep.row)]/\l.length<=9223372036854775807/\∀y∈l,y.fits:=by
 obtain⟨rows,rfl,h1,D',h2⟩:=mw Tryz.underlying31 h;obtain⟨l,rfl,hl⟩:=oK (f:=Rep.row) (ok:=Rep.fits) rows (λrow hrow=>aba (h2 row hrow).2);exact sW
theorem VZ:Tryz.prog.cellsOf 33=6:=ai
theorem ad7:Tryz.prog.cellsOf 31=1:=ai
theorem abb{D:Nat}{ds:List CD}(h:jn Tryz.prog D 33 ds):∃x:Net,ds=x.row/\x.fits:=by
 obtain⟨hl,D',hf⟩:=gK Tryz.underlying33 h;rw[VZ]at hl;obtain⟨d0,d1,d2,d3,d4,d5,rfl⟩:=aeW hl;simp[V0,ad7]at hf;obtain⟨h0,h1⟩:=hf;obtain⟨n0,e0,k0⟩:=Nz h0;simp[Doc.row]at e0;obtain⟨e0_0,e0_1,e0_2,e0_3,e0_4⟩:=e0;subst e0_0 e0_1 e0_2 e0_3 e0_4;obtain⟨n1,e1,k1⟩:=XH h1;simp at e1;subst e1;exact⟨⟨n0,n1⟩,rfl,k0,k1⟩
theorem VY:Tryz.prog.cellsOf 35=10:=ai
theorem ahf{α:Type}{l:List α}(h:l.length=10):∃x0 x1 x2 x3 x4 x5 x6 x7 x8 x9,l=[x0,x1,x2,x3,x4,x5,x6,x7,x8,x9]:=by
 match l,h with
 | [x0,x1,x2,x3,x4,x5,x6,x7,x8,x9],_=>exact⟨x0,x1,x2,x3,x4,x5,x6,x7,x8,x9,rfl⟩
theorem XK{D:Nat}{ds:List CD}(h:jn Tryz.prog D 35 ds):∃x:Desk,ds=x.row/\x.fits:=by
 obtain⟨hl,D',hf⟩:=gK Tryz.underlying35 h;rw[VY]at hl;obtain⟨d0,d1,d2,d3,d4,d5,d6,d7,d8,d9,rfl⟩:=ahf hl;simp[V8,VZ]at hf;obtain⟨h0,h1⟩:=hf;obtain⟨n0,e0,k0⟩:=abc h0;simp[Hub.row]at e0;obtain⟨e0_0,e0_1,e0_2,e0_3⟩:=e0;subst e0_0 e0_1 e0_2 e0_3;obtain⟨n1,e1,k1⟩:=abb h1;simp[Net.row]at e1;obtain⟨e1_0,e1_1,e1_2,e1_3,e1_4,e1_5⟩:=e1;subst e1_0 e1_1 e1_2 e1_3 e1_4 e1_5;exact⟨⟨n0,n1⟩,rfl,k0,k1⟩
theorem Lp{D:Nat}{t:TypeId}{vd:VD}{fs:Array Field}(hu:Tryz.prog.underlying t=some (.struct fs))(hc:Tryz.prog.cellsOf t≠1)(h:Ju Tryz.prog D t vd):∃ds,vd=.agg ds/\jn Tryz.prog D t ds:=by
 cases vd with
 | c d =>
   have:=(gK hu h).1;exact absurd this.symm hc
 |agg ds=>exact⟨ds,rfl,h.2⟩
end Go.Proofs.YtdeimojjhhdeaaaGreatDoor
