import Derived.Test.YtklblkobegcljaaGreatMH
namespace Go.Proofs.YtklblkobegcljaaGreat
open Go.AM
set_option maxRecDepth 20000
theorem RU(x:Part)(h:bc x<=2^40):ar Tryz.prog 225 [.agg x.row] (.one (.agg x.res)):=by
 refine aF aw Tryz.func225 al rfl rfl rfl (ai rfl) (λw0 base=>?_);unfold bc at h;simp[Part.row,Part.res]
 try intros
 refine ag.pure (gG x.signs aa) ab ?_;simp
 try intros
theorem UD(x y:Part)(h:bc x<=2^40):ar Tryz.prog 244 [.agg x.row,.agg y.row] (.one (.c (vb (x=y)) 1)):=by
 refine aF aw Tryz.func244 al rfl rfl rfl (ai rfl) (λw0 base=>?_);unfold bc at h;obtain⟨a0,a1,a2⟩:=x;obtain⟨b0,b1,b2⟩:=y;simp only at h;simp[Part.row]
 try intros
 by_cases h0:a0=b0
 rotate_left
 ·simp[h0]
 subst h0
 try simp
 by_cases h1:a1=b1
 rotate_left
 ·simp[h1]
 subst h1
 try simp
 refine ag.pure (mu a2 b2 aa) ab ?_;simp;exact ze
theorem SJ(x:Part)(h:x.fits)(left:Nat)(hf:left<=2^20):ar Tryz.prog 212 [.agg x.row,.c (vi left)] (.one (.c (vi (szR (bc x) left)) 1)):=by
 refine aF aw Tryz.func212 al rfl rfl rfl (ai rfl) (λw0 base=>?_);obtain⟨f0,f1,f2⟩:=h;obtain⟨r,hr⟩:∃r,szR (bc x) left=r:=⟨_,rfl⟩;rw[hr];have hn:bc x=x.signs.length:=rfl;simp[Part.row]
 try intros
 refine ag.pure (po x.signs f2.1 left aa) ab ?_;by_cases k0:x.signs.length<=left
 rotate_left
 ·exact pX
 rw[dY k0];obtain⟨m0,hm0⟩:∃m,left-x.signs.length=m:=⟨_,rfl⟩;exact Eo
theorem Cl(l:List Part)(hl:nL bc l<=2^40):ar Tryz.prog 182 [.c (.s (l.map Part.row))] (.one (.c (.s (l.map Part.row)) 3)):=by
 refine aF aw Tryz.func182 al rfl rfl rfl (ai rfl) (λw0 base=>?_);have hle:=aS hl;simp;refine⟨aa,λb=>?_⟩
 refine aV.intro eok (λi:Nat=>i<=l.length) (λi=>⟨23,0,[(4,.v (.int .i64 i)),(3,.sl 112 (some (b,0,l.length)) 3 0 l.length),(0,.ro (l.map Part.row))],
  [(112,.rows (some (b,0,l.length)) 3 (mo Part.row [.v (.int .i64 0),.v (.int .i64 0),.s []] l i) true)]⟩) (λi=>l.length-i) 0 ab n9 (λi hi=>?_)
 by_cases h:i<l.length
 ·simp[h,Part.row]
  refine ag.pure (RU l[i] (cT hl h)) gw ?_;simp[Part.res,gO hi,h];exact⟨i+1,aa,aa,aR aa,kH (f:=Part.row) h⟩
 ·exact pY
theorem Df(a b:List Part)(hl:nL bc a<=2^40):ar Tryz.prog 210 [.c (.s (a.map Part.row)),.c (.s (b.map Part.row))] (.one (.c (vb (a=b)) 1)):=by
 refine aF aw Tryz.func210 al rfl rfl rfl (ai rfl) (λw0 base=>?_);have hle:=aS hl;by_cases h:a.length=b.length
 ·simp[h]
  refine aV.intro eok (λi:Nat=>i<=a.length/\a.take i=b.take i) (λi=>⟨27,0,[(5,.v (.int .i64 i)),(1,.ro (b.map Part.row)),(0,.ro (a.map Part.row))],[]⟩) (λi=>a.length-i) 0 ab ab (λi hi=>?_);by_cases hlt:i<a.length
  ·simp[hlt]
   have hlt':i<b.length:=aa;refine aY.quiet eok mix al ?_;simp[hlt,hlt',Part.row];refine⟨_,_,UD a[i] b[i] (cT hl hlt),gw,?_⟩;exact mR
  ·exact oh
 ·exact j5
theorem Cp(l:List Part)(hl:l.length<=9223372036854775807)(hs:∀y∈l,y.fits)(left:Nat)(hf:left<=2^20):ar Tryz.prog 158 [.c (.s (l.map Part.row)),.c (vi left)] (.one (.c (vi (szR (nL bc l) left)) 1)):=by
 refine aF aw Tryz.func158 al rfl rfl rfl (ai rfl) (λw0 base=>?_);have hw:IntKind.i64.wrap ((left:Int)-(l.length:Int))=(left:Int)-l.length:=fS _ aa;have hn:nL bc l=l.length+cK bc l:=rfl;by_cases h:l.length<=left
 ·obtain⟨lf,hlf⟩:∃lf:Nat,left-l.length=lf:=⟨_,rfl⟩
  have hlz:(left:Int)-l.length=(lf:Int):=aa;have hw2:IntKind.i64.wrap (lf:Int)=lf:=fE aa;simp[hlz,hw2];obtain⟨r,hr⟩:∃r,szR (nL bc l) left=r:=⟨_,rfl⟩;have hr0:szR (cK bc l) lf=r:=sE;rw[hr];refine aV.intro eok (λx:Nat×Nat=>x.1<=l.length/\x.2<=2^20/\szR (cK bc (l.drop x.1)) x.2=r) (λx=>⟨27,0,[(5,.v (.int .i64 x.1)),(1,.v (.int .i64 x.2)),(0,.ro (l.map Part.row))],[]⟩) (λx=>l.length-x.1) (0,lf) sD ab ?_
  rintro⟨i,m⟩ ⟨hi,hm,hx⟩
  simp only at hi hm hx⊢;by_cases hlt:i<l.length
  ·rw[lJ hlt]at hx
   simp[hlt,Part.row];refine ag.pure (SJ l[i] (hs _ (ak hlt)) m hm) gw ?_;by_cases hk:bc l[i]<=m
   ·rw[dY hk]
    have hz:¬((m-bc l[i]:Nat):Int)<0:=aa;simp[hz];refine⟨i+1,m-bc l[i],⟨aa,aa,?_⟩,aa,aR aa,rfl⟩;exact sM
   ·rw[fq (show ¬bc l[i]+cK bc (l.drop (i+1))<=m from aa)]at hx
    exact sI
  ·exact sR
 ·have hz:(left:Int)-l.length<0:=by omega
  simp[hw,hz,fq (show ¬nL bc l<=left from aa)]
theorem mj(l:List Part)(k:Int)(h0:0<=k)(hk:k+aQ Part.cnt l<=4611686018427387904)(hl:nL bc l<=2^40):je Tryz.prog 96 (.c (.s (l.map Part.row)) 3) k (k+aQ Part.cnt l) (.c (.s ((aM Part.mark Part.cnt l k).map Part.row)) 3):=by
 refine je.intro aw Tryz.func96 al rfl rfl rfl ah (λw0 base=>?_);have hle:=aS hl;simp;intro H;refine aE eok (λi:Nat=>i<=l.length) (λi=>⟨34,0,[(5,.v (.int .i64 i)),(1,.v (.int .i64 (k+aQ Part.cnt (l.take i)))),(0,.ml 0 H 3 l.length)],[(0,.rows H 3 (bT Part.mark Part.cnt Part.row l k i) true)]⟩) (λi=>l.length-i) 0 ab pP (λi hi=>?_);by_cases h:i<l.length
 ·have hc:=cY (cn:=Part.cnt) h
  have hs:=cD (cn:=Part.cnt) h;have hni:=cT hl h;simp only[bc]at hni;obtain⟨q0,hq0⟩:∃q,k+((aQ Part.cnt (l.take i):Nat):Int)=q:=⟨_,rfl⟩;have hpc:l[i].cnt=2+(l[i].signs.length):=rfl;rw[hq0,<-hI h];have e0:Go.IntKind.i64.wrap q0=q0:=ae _ aa;obtain⟨q1,hq1⟩:∃q,q0+1=q:=⟨_,rfl⟩;have e1:Go.IntKind.i64.wrap q1=q1:=ae _ aa;obtain⟨q2,hq2⟩:∃q,q1+1=q:=⟨_,rfl⟩;have e2:Go.IntKind.i64.wrap q2=q2:=ae _ aa;obtain⟨q3,hq3⟩:∃q,q2+((l[i].signs.length:Nat):Int)=q:=⟨_,rfl⟩;have e3:Go.IntKind.i64.wrap q3=q3:=ae _ aa;have e:Go.IntKind.i64.wrap ((i:Int)+1)=((i+1:Nat):Int):=aR aa
  refine Ent.open (λ_ h=>h) (k:=0) (i:=i) (j:=2) (k':=902) (sz':=1) (sz:=3) (H:=H) (rows:=((bT Part.mark Part.cnt Part.row l k i).set i l[i].row)) (srows:=l[i].signs.map aG) (row:=l[i].row) ab eX rfl ab ah i5 ab (λH2=>?_);refine Ent.refl ?_;simp[h,bR,Part.row,dK,bf,hq1,e1,hq2,e2];refine ag.mark (fh l[i].signs q2 aa aa) rfl (λ_ h=>h) ab ?_;simp[e,hq3];refine dO (k:=0) (i:=i) (j:=2) (k':=902) (sz':=1) (sz:=3) (H:=H) (rows:=(bT Part.mark Part.cnt Part.row l k i).set i [vi q0,vi q1,.h 902 H2 1 l[i].signs.length]) (row:=[vi q0,vi q1,.h 902 H2 1 l[i].signs.length]) (H':=H2) (srows:=(aM fk one l[i].signs q2).map aG) ab eX fC ab ah ab ?_;exact Nn
 ·have:i=l.length:=by omega
  subst this;refine Ent.refl ?_;simp[hJ,aK,Part.row]
theorem xM(l:List Part)(k:Int)(h0:0<=k)(hk:k+aQ Part.cnt l<=4611686018427387904)(hl:nL bc l<=2^40):ar Tryz.prog 100 [.c (.s ((aM Part.mark Part.cnt l k).map Part.row)),.c (vi k)] (.one (.c (vi (k+aQ Part.cnt l)) 1)):=by
 refine aF aw Tryz.func100 al rfl rfl rfl (ai rfl) (λw0 base=>?_);have hle:=aS hl;simp;refine aV.intro eok (λi:Nat=>i<=l.length) (λi=>⟨40,0,[(5,.v (.int .i64 i)),(1,.v (.int .i64 (k+aQ Part.cnt (l.take i)))),(0,.ro ((aM Part.mark Part.cnt l k).map Part.row))],[]⟩) (λi=>l.length-i) 0 ab jZ (λi hi=>?_);by_cases h:i<l.length
 ·have hc:=cY (cn:=Part.cnt) h
  have hs:=cD (cn:=Part.cnt) h;have hni:=cT hl h;simp only[bc]at hni;have hm:=jo (mk:=Part.mark) (cn:=Part.cnt) (k:=k) h;obtain⟨q0,hq0⟩:∃q,k+((aQ Part.cnt (l.take i):Nat):Int)=q:=⟨_,rfl⟩;have hpc:l[i].cnt=2+(l[i].signs.length):=rfl;rw[hq0]at hm;rw[hq0];have z0:¬q0<0:=aa;have e0:Go.IntKind.i64.wrap q0=q0:=ae _ aa;obtain⟨q1,hq1⟩:∃q,q0+1=q:=⟨_,rfl⟩;have e1:Go.IntKind.i64.wrap q1=q1:=ae _ aa;have z1:¬q1<0:=aa;obtain⟨q2,hq2⟩:∃q,q1+1=q:=⟨_,rfl⟩;have e2:Go.IntKind.i64.wrap q2=q2:=ae _ aa;have z2:¬q2<0:=aa;obtain⟨q3,hq3⟩:∃q,q2+((l[i].signs.length:Nat):Int)=q:=⟨_,rfl⟩;have e3:Go.IntKind.i64.wrap q3=q3:=ae _ aa
  have z3:¬q3<0:=aa;have e:Go.IntKind.i64.wrap ((i:Int)+1)=((i+1:Nat):Int):=aR aa;simp[h,aK,hm,Part.row,Part.mark,hq1,e1,hq2,e2];refine ag.pure (lO l[i].signs q2 aa aa) ab ?_;simp[hq3,z3];exact pW
 ·exact oj
theorem PG(x:Entry)(h:aZ x<=2^40):ar Tryz.prog 223 [.agg x.row] (.one (.agg x.res)):=by
 refine aF aw Tryz.func223 al rfl rfl rfl (ai rfl) (λw0 base=>?_);unfold aZ at h;simp[Entry.row,Entry.res]
 try intros
 refine ag.pure (Cl x.o aa) ab ?_;simp
 try intros
theorem Q7(x y:Entry)(h:aZ x<=2^40):ar Tryz.prog 242 [.agg x.row,.agg y.row] (.one (.c (vb (x=y)) 1)):=by
 refine aF aw Tryz.func242 al rfl rfl rfl (ai rfl) (λw0 base=>?_);unfold aZ at h;obtain⟨a0,a1,a2⟩:=x;obtain⟨b0,b1,b2⟩:=y;simp only at h;simp[Entry.row]
 try intros
 by_cases h0:a0=b0
 rotate_left
 ·simp[h0]
 subst h0
 try simp
 by_cases h1:a1=b1
 rotate_left
 ·simp[h1]
 subst h1
 try simp
 refine ag.pure (Df a2 b2 aa) ab ?_;simp;exact ze
theorem PM(x:Entry)(h:x.fits)(left:Nat)(hf:left<=2^20):ar Tryz.prog 211 [.agg x.row,.c (vi left)] (.one (.c (vi (szR (aZ x) left)) 1)):=by
 refine aF aw Tryz.func211 al rfl rfl rfl (ai rfl) (λw0 base=>?_);obtain⟨f0,f1,f2⟩:=h;obtain⟨r,hr⟩:∃r,szR (aZ x) left=r:=⟨_,rfl⟩;rw[hr];have hn:aZ x=nL bc x.o:=rfl;simp[Entry.row]
 try intros
 refine ag.pure (Cp x.o f2.1 f2.2 left aa) ab ?_;by_cases k0:nL bc x.o<=left
 rotate_left
 ·exact pX
 rw[dY k0];obtain⟨m0,hm0⟩:∃m,left-nL bc x.o=m:=⟨_,rfl⟩;exact Eo
theorem zI(l:List Entry)(hl:nL aZ l<=2^40):ar Tryz.prog 179 [.c (.s (l.map Entry.row))] (.one (.c (.s (l.map Entry.row)) 3)):=by
 refine aF aw Tryz.func179 al rfl rfl rfl (ai rfl) (λw0 base=>?_);have hle:=aS hl;simp;refine⟨aa,λb=>?_⟩
 refine aV.intro eok (λi:Nat=>i<=l.length) (λi=>⟨23,0,[(4,.v (.int .i64 i)),(3,.sl 112 (some (b,0,l.length)) 3 0 l.length),(0,.ro (l.map Entry.row))],
  [(112,.rows (some (b,0,l.length)) 3 (mo Entry.row [.v (.int .i64 0),.v (.int .i64 0),.s []] l i) true)]⟩) (λi=>l.length-i) 0 ab n9 (λi hi=>?_)
 by_cases h:i<l.length
 ·simp[h,Entry.row]
  refine ag.pure (PG l[i] (cT hl h)) fB ?_;simp[Entry.res,gO hi,h];exact⟨i+1,aa,aa,aR aa,kH (f:=Entry.row) h⟩
 ·exact pY
theorem A0(a b:List Entry)(hl:nL aZ a<=2^40):ar Tryz.prog 207 [.c (.s (a.map Entry.row)),.c (.s (b.map Entry.row))] (.one (.c (vb (a=b)) 1)):=by
 refine aF aw Tryz.func207 al rfl rfl rfl (ai rfl) (λw0 base=>?_);have hle:=aS hl;by_cases h:a.length=b.length
 ·simp[h]
  refine aV.intro eok (λi:Nat=>i<=a.length/\a.take i=b.take i) (λi=>⟨27,0,[(5,.v (.int .i64 i)),(1,.ro (b.map Entry.row)),(0,.ro (a.map Entry.row))],[]⟩) (λi=>a.length-i) 0 ab ab (λi hi=>?_);by_cases hlt:i<a.length
  ·simp[hlt]
   have hlt':i<b.length:=aa;refine aY.quiet eok mix al ?_;simp[hlt,hlt',Entry.row];refine⟨_,_,Q7 a[i] b[i] (cT hl hlt),fB,?_⟩;exact mR
  ·exact oh
 ·exact j5
theorem uu(l:List Entry)(hl:l.length<=9223372036854775807)(hs:∀y∈l,y.fits)(left:Nat)(hf:left<=2^20):ar Tryz.prog 155 [.c (.s (l.map Entry.row)),.c (vi left)] (.one (.c (vi (szR (nL aZ l) left)) 1)):=by
 refine aF aw Tryz.func155 al rfl rfl rfl (ai rfl) (λw0 base=>?_);have hw:IntKind.i64.wrap ((left:Int)-(l.length:Int))=(left:Int)-l.length:=fS _ aa;have hn:nL aZ l=l.length+cK aZ l:=rfl;by_cases h:l.length<=left
 ·obtain⟨lf,hlf⟩:∃lf:Nat,left-l.length=lf:=⟨_,rfl⟩
  have hlz:(left:Int)-l.length=(lf:Int):=aa;have hw2:IntKind.i64.wrap (lf:Int)=lf:=fE aa;simp[hlz,hw2];obtain⟨r,hr⟩:∃r,szR (nL aZ l) left=r:=⟨_,rfl⟩;have hr0:szR (cK aZ l) lf=r:=sE;rw[hr];refine aV.intro eok (λx:Nat×Nat=>x.1<=l.length/\x.2<=2^20/\szR (cK aZ (l.drop x.1)) x.2=r) (λx=>⟨27,0,[(5,.v (.int .i64 x.1)),(1,.v (.int .i64 x.2)),(0,.ro (l.map Entry.row))],[]⟩) (λx=>l.length-x.1) (0,lf) sD ab ?_
  rintro⟨i,m⟩ ⟨hi,hm,hx⟩
  simp only at hi hm hx⊢;by_cases hlt:i<l.length
  ·rw[lJ hlt]at hx
   simp[hlt,Entry.row];refine ag.pure (PM l[i] (hs _ (ak hlt)) m hm) fB ?_;by_cases hk:aZ l[i]<=m
   ·rw[dY hk]
    have hz:¬((m-aZ l[i]:Nat):Int)<0:=aa;simp[hz];refine⟨i+1,m-aZ l[i],⟨aa,aa,?_⟩,aa,aR aa,rfl⟩;exact sM
   ·rw[fq (show ¬aZ l[i]+cK aZ (l.drop (i+1))<=m from aa)]at hx
    exact sI
  ·exact sR
 ·have hz:(left:Int)-l.length<0:=by omega
  simp[hw,hz,fq (show ¬nL aZ l<=left from aa)]
theorem jI(l:List Entry)(k:Int)(h0:0<=k)(hk:k+aQ Entry.cnt l<=4611686018427387904)(hl:nL aZ l<=2^40):je Tryz.prog 97 (.c (.s (l.map Entry.row)) 3) k (k+aQ Entry.cnt l) (.c (.s ((aM Entry.mark Entry.cnt l k).map Entry.row)) 3):=by
 refine je.intro aw Tryz.func97 al rfl rfl rfl ah (λw0 base=>?_);have hle:=aS hl;simp;intro H;refine aE eok (λi:Nat=>i<=l.length) (λi=>⟨34,0,[(5,.v (.int .i64 i)),(1,.v (.int .i64 (k+aQ Entry.cnt (l.take i)))),(0,.ml 0 H 3 l.length)],[(0,.rows H 3 (bT Entry.mark Entry.cnt Entry.row l k i) true)]⟩) (λi=>l.length-i) 0 ab pP (λi hi=>?_);by_cases h:i<l.length
 ·have hc:=cY (cn:=Entry.cnt) h
  have hs:=cD (cn:=Entry.cnt) h;have hni:=cT hl h;simp only[aZ]at hni;obtain⟨q0,hq0⟩:∃q,k+((aQ Entry.cnt (l.take i):Nat):Int)=q:=⟨_,rfl⟩;have hpc:l[i].cnt=2+(aQ Part.cnt l[i].o):=rfl;rw[hq0,<-hI h];have e0:Go.IntKind.i64.wrap q0=q0:=ae _ aa;obtain⟨q1,hq1⟩:∃q,q0+1=q:=⟨_,rfl⟩;have e1:Go.IntKind.i64.wrap q1=q1:=ae _ aa;obtain⟨q2,hq2⟩:∃q,q1+1=q:=⟨_,rfl⟩;have e2:Go.IntKind.i64.wrap q2=q2:=ae _ aa;obtain⟨q3,hq3⟩:∃q,q2+((aQ Part.cnt l[i].o:Nat):Int)=q:=⟨_,rfl⟩;have e3:Go.IntKind.i64.wrap q3=q3:=ae _ aa;have e:Go.IntKind.i64.wrap ((i:Int)+1)=((i+1:Nat):Int):=aR aa
  refine Ent.open (λ_ h=>h) (k:=0) (i:=i) (j:=2) (k':=902) (sz':=3) (sz:=3) (H:=H) (rows:=((bT Entry.mark Entry.cnt Entry.row l k i).set i l[i].row)) (srows:=l[i].o.map Part.row) (row:=l[i].row) ab eX rfl ab ah gw ab (λH2=>?_);refine Ent.refl ?_;simp[h,bR,Entry.row,dK,bf,hq1,e1,hq2,e2];refine ag.mark (mj l[i].o q2 aa aa aa) rfl (λ_ h=>h) ab ?_;simp[e,hq3];refine dO (k:=0) (i:=i) (j:=2) (k':=902) (sz':=3) (sz:=3) (H:=H) (rows:=(bT Entry.mark Entry.cnt Entry.row l k i).set i [vi q0,vi q1,.h 902 H2 3 l[i].o.length]) (row:=[vi q0,vi q1,.h 902 H2 3 l[i].o.length]) (H':=H2) (srows:=(aM Part.mark Part.cnt l[i].o q2).map Part.row) ab eX fC ab ah ab ?_;exact Nn
 ·have:i=l.length:=by omega
  subst this;refine Ent.refl ?_;simp[hJ,aK,Entry.row]
theorem qq(l:List Entry)(k:Int)(h0:0<=k)(hk:k+aQ Entry.cnt l<=4611686018427387904)(hl:nL aZ l<=2^40):ar Tryz.prog 101 [.c (.s ((aM Entry.mark Entry.cnt l k).map Entry.row)),.c (vi k)] (.one (.c (vi (k+aQ Entry.cnt l)) 1)):=by
 refine aF aw Tryz.func101 al rfl rfl rfl (ai rfl) (λw0 base=>?_);have hle:=aS hl;simp;refine aV.intro eok (λi:Nat=>i<=l.length) (λi=>⟨40,0,[(5,.v (.int .i64 i)),(1,.v (.int .i64 (k+aQ Entry.cnt (l.take i)))),(0,.ro ((aM Entry.mark Entry.cnt l k).map Entry.row))],[]⟩) (λi=>l.length-i) 0 ab jZ (λi hi=>?_);by_cases h:i<l.length
 ·have hc:=cY (cn:=Entry.cnt) h
  have hs:=cD (cn:=Entry.cnt) h;have hni:=cT hl h;simp only[aZ]at hni;have hm:=jo (mk:=Entry.mark) (cn:=Entry.cnt) (k:=k) h;obtain⟨q0,hq0⟩:∃q,k+((aQ Entry.cnt (l.take i):Nat):Int)=q:=⟨_,rfl⟩;have hpc:l[i].cnt=2+(aQ Part.cnt l[i].o):=rfl;rw[hq0]at hm;rw[hq0];have z0:¬q0<0:=aa;have e0:Go.IntKind.i64.wrap q0=q0:=ae _ aa;obtain⟨q1,hq1⟩:∃q,q0+1=q:=⟨_,rfl⟩;have e1:Go.IntKind.i64.wrap q1=q1:=ae _ aa;have z1:¬q1<0:=aa;obtain⟨q2,hq2⟩:∃q,q1+1=q:=⟨_,rfl⟩;have e2:Go.IntKind.i64.wrap q2=q2:=ae _ aa;have z2:¬q2<0:=aa;obtain⟨q3,hq3⟩:∃q,q2+((aQ Part.cnt l[i].o:Nat):Int)=q:=⟨_,rfl⟩;have e3:Go.IntKind.i64.wrap q3=q3:=ae _ aa
  have z3:¬q3<0:=aa;have e:Go.IntKind.i64.wrap ((i:Int)+1)=((i+1:Nat):Int):=aR aa;simp[h,aK,hm,Entry.row,Entry.mark,hq1,e1,hq2,e2];refine ag.pure (xM l[i].o q2 aa aa aa) ab ?_;simp[hq3,z3];exact pW
 ·exact oj
def rU(k:Nat)(out:List UInt8):List UInt8:=if h:k=0 then out else rU (k / 10) (UInt8.ofNat (48+k % 10)::out)
termination_by k
decreasing_by omega
theorem xS{out:List UInt8}:rU 0 out=out:=by rw[rU];simp
theorem A4{k:Nat}{out:List UInt8}(h:k≠0):rU k out=rU (k / 10) (UInt8.ofNat (48+k % 10)::out):=by rw[rU];simp[h]
theorem UI:∀(k:Nat) (out:List UInt8),0<k->rU k out=Rb k++out:=by
 intro k
 induction k using Nat.strongRecOn with
 | _ k ih =>
   intro out hk;rw[A4 aa,Rb];by_cases h:k<10
   ·rw[show k / 10=0 from aa,xS]
    simp[h,pe h]
   ·rw[ih (k / 10) aa _ aa]
    simp[h]
theorem v8(a b:List UInt8):(⟨a.toArray⟩++⟨b.toArray⟩:ByteArray)=⟨(a++b).toArray⟩:=by
 apply ByteArray.ext
 rw[ByteArray.data_append];simp
theorem P8{n:Nat}(h:10^n<=4611686018427387904):n<=18:=by
 rcases ig 18 n with hn|hn
 ·have:=Nat.pow_le_pow_right (n:=10) aa (show 19<=n from hn)
  omega
 ·exact hn
theorem fL(k:Int)(h0:0<=k)(hk:k<=4611686018427387904):ar Tryz.prog 95 [.c (vi k)] (.one (.c (.v (.string (markT k))) 1)):=by
 refine pci aw Tryz.func95 (λw0 base=>?_);obtain⟨n,rfl⟩:∃n:Nat,k=n:=⟨k.toNat,aa⟩;by_cases hz:n=0
 ·subst hz
  have e:markT 0=⟨#[109,48]⟩:=by unfold markT;rw[Rb];simp
  simp[e]
 have hz':¬(n:Int)<=0:=aa;simp[hz];refine aV.intro eok (λx:Nat×List UInt8=>rU x.1 x.2=Rb n/\x.2.length<=19/\x.1*10^x.2.length<=4611686018427387904) (λx=>⟨20,0,[(0,.v (.int .i64 x.1)),(3,.v (.string ⟨x.2.toArray⟩))],[]⟩) (λx=>x.1) (n,[]) ⟨by rw[UI n [] aa];simp,ab,aN⟩ ab (λx hi=>?_);obtain⟨m,out⟩:=x;obtain⟨hi,hl,hp⟩:=hi;simp only at hi hl hp⊢;by_cases hm:m=0
 ·subst hm
  rw[xS]at hi
  have hs:(⟨#[109]⟩++⟨out.toArray⟩:ByteArray)=markT n:=by
   rw[show(⟨#[109]⟩:ByteArray)=⟨[109].toArray⟩from rfl,v8,hi];rfl
  have hsz:(⟨out.toArray⟩:ByteArray).size=out.length:=by simp[ByteArray.size]
  have hs1:(⟨#[109]⟩:ByteArray).size=1:=rfl;simp[hs,hsz,hs1];omega
 ·have hm':0<m:=by omega
  have hpow:10^out.length<=4611686018427387904:=dP (Nat.le_mul_of_pos_left _ hm') hp;have hlen:=P8 hpow;have hmN:m<=4611686018427387904:=dP (cm _ (Nat.pow_pos aa)) hp;have e2:Go.IntKind.i64.wrap (48+(m:Int) % 10)=48+(m:Int) % 10:=ae _ aa;have e3:Go.IntKind.u8.wrap (48+(m:Int) % 10)=48+(m:Int) % 10:=Go.IntWalk.u8_in _ aa;have e4:Go.IntKind.i64.wrap ((m:Int) / 10)=((m / 10:Nat):Int):=by rw[ae _ aa];omega
  rw[A4 hm]at hi;have hb:((UInt8.ofNat (48+m % 10)).toNat:Int)=48+(m:Int) % 10:=aN;have hsz:(⟨out.toArray⟩:ByteArray).size=out.length:=by simp[ByteArray.size]
  simp[hm',e4];refine⟨[UInt8.ofNat (48+m % 10)],by simp only[bL,jP,iE,hb];rw[fA aa,e2,e3],?_,m / 10,UInt8.ofNat (48+m % 10)::out,⟨hi,aN,?_⟩,aa,by first|exact e4|omega|(rw[Int.tdiv_eq_ediv_of_nonneg aa];exact e4),?_⟩
  ·rw[hsz];show 1+out.length<=_;omega
  ·rw[cI,Nat.pow_succ]
   have h1:m / 10*10<=m:=Nat.div_mul_le_self m 10;have h2:=ao (10^out.length) h1;have h3:m / 10*(10^out.length*10)=m / 10*10*10^out.length:=by rw[Nat.mul_assoc,Jc 10]
   omega
  ·rw[v8];rfl
theorem RQ(x:Seen):ar Tryz.prog 224 [.agg x.row] (.one (.agg x.res)):=by
 refine aF aw Tryz.func224 al rfl rfl rfl (ai rfl) (λw0 base=>?_);simp[Seen.row,Seen.res]
 try intros
theorem UB(x y:Seen):ar Tryz.prog 243 [.agg x.row,.agg y.row] (.one (.c (vb (x=y)) 1)):=by
 refine aF aw Tryz.func243 al rfl rfl rfl (ai rfl) (λw0 base=>?_);obtain⟨a0,a1,a2⟩:=x;obtain⟨b0,b1,b2⟩:=y;simp[Seen.row]
 try intros
 by_cases h0:a0=b0
 rotate_left
 ·simp[h0]
 subst h0
 try simp
 by_cases h1:a1=b1
 rotate_left
 ·simp[h1]
 subst h1
 try simp
 exact ze
theorem PE(l:List Seen)(hl:l.length<=2^40):ar Tryz.prog 180 [.c (.s (l.map Seen.row))] (.one (.c (.s (l.map Seen.row)) 3)):=by
 refine aF aw Tryz.func180 al rfl rfl rfl (ai rfl) (λw0 base=>?_);simp;refine⟨aa,λb=>?_⟩
 refine aV.intro eok (λi:Nat=>i<=l.length) (λi=>⟨23,0,[(4,.v (.int .i64 i)),(3,.sl 112 (some (b,0,l.length)) 3 0 l.length),(0,.ro (l.map Seen.row))],
  [(112,.rows (some (b,0,l.length)) 3 (mo Seen.row [.v (.int .i64 0),.v (.int .i64 0),.v (.int .i64 0)] l i) true)]⟩) (λi=>l.length-i) 0 ab n9 (λi hi=>?_)
 by_cases h:i<l.length
 ·simp[h,Seen.row]
  refine ag.pure (RQ l[i]) (by simp[Seen.row]) ?_;simp[Seen.res,gO hi,h];exact⟨i+1,aa,aa,aR aa,kH (f:=Seen.row) h⟩
 ·exact pY
theorem Q5(a b:List Seen)(hl:a.length<=2^40):ar Tryz.prog 208 [.c (.s (a.map Seen.row)),.c (.s (b.map Seen.row))] (.one (.c (vb (a=b)) 1)):=by
 refine aF aw Tryz.func208 al rfl rfl rfl (ai rfl) (λw0 base=>?_);by_cases h:a.length=b.length
 ·simp[h]
  refine aV.intro eok (λi:Nat=>i<=a.length/\a.take i=b.take i) (λi=>⟨27,0,[(5,.v (.int .i64 i)),(1,.ro (b.map Seen.row)),(0,.ro (a.map Seen.row))],[]⟩) (λi=>a.length-i) 0 ab ab (λi hi=>?_);by_cases hlt:i<a.length
  ·simp[hlt]
   have hlt':i<b.length:=aa;refine aY.quiet eok mix al ?_;simp[hlt,hlt',Seen.row];refine⟨_,_,UB a[i] b[i],by simp[Seen.row],?_⟩;exact mR
  ·exact oh
 ·exact j5
theorem PK(l:List Seen)(hl:l.length<=9223372036854775807)(left:Nat)(hf:left<=2^20):ar Tryz.prog 156 [.c (.s (l.map Seen.row)),.c (vi left)] (.one (.c (vi (szR l.length left)) 1)):=by
 refine aF aw Tryz.func156 al rfl rfl rfl (ai rfl) (λw0 base=>?_);exact N4
theorem HP(l:List Seen)(k:Int)(h0:0<=k)(hk:k+aQ Seen.cnt l<=4611686018427387904)(hl:l.length<=2^40):je Tryz.prog 153 (.c (.s (l.map Seen.row)) 3) k (k+aQ Seen.cnt l) (.c (.s ((aM Seen.mark Seen.cnt l k).map Seen.row)) 3):=by
 refine je.intro aw Tryz.func153 al rfl rfl rfl ah (λw0 base=>?_);simp;intro H;refine aE eok (λi:Nat=>i<=l.length) (λi=>⟨34,0,[(5,.v (.int .i64 i)),(1,.v (.int .i64 (k+aQ Seen.cnt (l.take i)))),(0,.ml 0 H 3 l.length)],[(0,.rows H 3 (bT Seen.mark Seen.cnt Seen.row l k i) true)]⟩) (λi=>l.length-i) 0 ab pP (λi hi=>?_);by_cases h:i<l.length
 ·have hc:=cY (cn:=Seen.cnt) h
  have hs:=cD (cn:=Seen.cnt) h;obtain⟨q0,hq0⟩:∃q,k+((aQ Seen.cnt (l.take i):Nat):Int)=q:=⟨_,rfl⟩;have hpc:l[i].cnt=3:=rfl;rw[hq0,<-hI h];have e0:Go.IntKind.i64.wrap q0=q0:=ae _ aa;obtain⟨q1,hq1⟩:∃q,q0+1=q:=⟨_,rfl⟩;have e1:Go.IntKind.i64.wrap q1=q1:=ae _ aa;obtain⟨q2,hq2⟩:∃q,q1+1=q:=⟨_,rfl⟩;have e2:Go.IntKind.i64.wrap q2=q2:=ae _ aa;obtain⟨q3,hq3⟩:∃q,q2+1=q:=⟨_,rfl⟩;have e3:Go.IntKind.i64.wrap q3=q3:=ae _ aa;have e:Go.IntKind.i64.wrap ((i:Int)+1)=((i+1:Nat):Int):=aR aa;refine Ent.refl ?_;simp[h,bR,Seen.row,bf,hq1,e1,hq2,e2,hq3,e3];refine Ent.refl ⟨i+1,aa,aa,?_⟩;simp[hs,hpc,e];refine⟨aa,?_⟩
  refine gZ h ?_;rw[hq0];subst hq1 hq2 hq3;rfl
 ·have:i=l.length:=by omega
  subst this;refine Ent.refl ?_;simp[hJ,aK,Seen.row]
theorem Ir(l:List Seen)(k:Int)(h0:0<=k)(hk:k+aQ Seen.cnt l<=4611686018427387904)(hl:l.length<=2^40):ar Tryz.prog 154 [.c (.s ((aM Seen.mark Seen.cnt l k).map Seen.row)),.c (vi k)] (.one (.c (vi (k+aQ Seen.cnt l)) 1)):=by
 refine aF aw Tryz.func154 al rfl rfl rfl (ai rfl) (λw0 base=>?_);simp;refine aV.intro eok (λi:Nat=>i<=l.length) (λi=>⟨40,0,[(5,.v (.int .i64 i)),(1,.v (.int .i64 (k+aQ Seen.cnt (l.take i)))),(0,.ro ((aM Seen.mark Seen.cnt l k).map Seen.row))],[]⟩) (λi=>l.length-i) 0 ab jZ (λi hi=>?_);by_cases h:i<l.length
 ·have hc:=cY (cn:=Seen.cnt) h
  have hs:=cD (cn:=Seen.cnt) h;have hm:=jo (mk:=Seen.mark) (cn:=Seen.cnt) (k:=k) h;obtain⟨q0,hq0⟩:∃q,k+((aQ Seen.cnt (l.take i):Nat):Int)=q:=⟨_,rfl⟩;have hpc:l[i].cnt=3:=rfl;rw[hq0]at hm;rw[hq0];have z0:¬q0<0:=aa;have e0:Go.IntKind.i64.wrap q0=q0:=ae _ aa;obtain⟨q1,hq1⟩:∃q,q0+1=q:=⟨_,rfl⟩;have e1:Go.IntKind.i64.wrap q1=q1:=ae _ aa;have z1:¬q1<0:=aa;obtain⟨q2,hq2⟩:∃q,q1+1=q:=⟨_,rfl⟩;have e2:Go.IntKind.i64.wrap q2=q2:=ae _ aa;have z2:¬q2<0:=aa;obtain⟨q3,hq3⟩:∃q,q2+1=q:=⟨_,rfl⟩;have e3:Go.IntKind.i64.wrap q3=q3:=ae _ aa;have z3:¬q3<0:=aa;have e:Go.IntKind.i64.wrap ((i:Int)+1)=((i+1:Nat):Int):=aR aa
  simp[h,aK,hm,Seen.row,Seen.mark,hq1,e1,hq2,e2,hq3,e3];exact pW
 ·exact oj
theorem VU(x:Doc)(h:cN x<=2^40):ar Tryz.prog 126 [.agg x.row] (.one (.agg x.res)):=by
 refine aF aw Tryz.func126 al rfl rfl rfl (ai rfl) (λw0 base=>?_);unfold cN at h;simp[Doc.row,Doc.res]
 try intros
 refine ag.pure (gG x.text aa) ab ?_;simp
 try intros
 refine ag.pure (zI x.list aa) ab ?_;simp
 try intros
 refine ag.pure (PE x.seen aa) ab ?_;simp
 try intros
theorem Xl(x y:Doc)(h:cN x<=2^40):ar Tryz.prog 149 [.agg x.row,.agg y.row] (.one (.c (vb (x=y)) 1)):=by
 refine aF aw Tryz.func149 al rfl rfl rfl (ai rfl) (λw0 base=>?_);unfold cN at h;obtain⟨a0,a1,a2,a3,a4⟩:=x;obtain⟨b0,b1,b2,b3,b4⟩:=y;simp only at h;simp[Doc.row]
 try intros
 by_cases h0:a0=b0
 rotate_left
 ·simp[h0]
 subst h0
 try simp
 by_cases h1:a1=b1
 rotate_left
 ·simp[h1]
 subst h1
 try simp
 refine ag.pure (mu a2 b2 aa) ab ?_;simp;by_cases h2:a2=b2
 rotate_left
 ·simp[h2]
 subst h2
 try simp
 refine ag.pure (A0 a3 b3 aa) ab ?_;simp;by_cases h3:a3=b3
 rotate_left
 ·simp[h3]
 subst h3
 try simp
 refine ag.pure (Q5 a4 b4 aa) ab ?_;simp;by_cases h4:a4=b4
 rotate_left
 ·simp[h4]
 subst h4
 try simp
theorem V1(x:Doc)(h:x.fits)(left:Nat)(hf:left<=2^20):ar Tryz.prog 105 [.agg x.row,.c (vi left)] (.one (.c (vi (szR (cN x) left)) 1)):=by
 refine aF aw Tryz.func105 al rfl rfl rfl (ai rfl) (λw0 base=>?_);obtain⟨f0,f1,f2,f3,f4⟩:=h;obtain⟨r,hr⟩:∃r,szR (cN x) left=r:=⟨_,rfl⟩;rw[hr];have hn:cN x=x.name.size+(x.text.length+(nL aZ x.list+(x.seen.length))):=rfl;simp[Doc.row]
 try intros
 by_cases k0:x.name.size<=left
 rotate_left
 ·have hw:IntKind.i64.wrap ((left:Int)-(x.name.size:Int))=(left:Int)-x.name.size:=fS _ aa
  have hz:(left:Int)-x.name.size<0:=aa;have:r = -1:=by rw[<-hr];exact fq aa
  simp[hw,hz,this]
 obtain⟨m0,hm0⟩:∃m,left-x.name.size=m:=⟨_,rfl⟩;have w0:IntKind.i64.wrap ((left:Int)-(x.name.size:Int))=(m0:Int):=by rw[fS _ aa];omega
 simp[w0];refine ag.pure (po x.text f2.1 m0 aa) ab ?_;by_cases k1:x.text.length<=m0
 rotate_left
 ·exact om
 rw[dY k1];obtain⟨m1,hm1⟩:∃m,m0-x.text.length=m:=⟨_,rfl⟩;rw[hm1];simp;refine ag.pure (uu x.list f3.1 f3.2 m1 aa) ab ?_;by_cases k2:nL aZ x.list<=m1
 rotate_left
 ·exact Em
 rw[dY k2];obtain⟨m2,hm2⟩:∃m,m1-nL aZ x.list=m:=⟨_,rfl⟩;rw[hm2];simp;refine ag.pure (PK x.seen f4.1 m2 aa) ab ?_;by_cases k3:x.seen.length<=m2
 rotate_left
 ·exact LV
 rw[dY k3];obtain⟨m3,hm3⟩:∃m,m2-x.seen.length=m:=⟨_,rfl⟩;exact LY
theorem RW(l:List Doc)(hl:nL cN l<=2^40):ar Tryz.prog 71 [.c (.s (l.map Doc.row))] (.one (.c (.s (l.map Doc.row)) 5)):=by
 refine aF aw Tryz.func71 al rfl rfl rfl (ai rfl) (λw0 base=>?_);have hle:=aS hl;simp;refine⟨aa,λb=>?_⟩
 refine aV.intro eok (λi:Nat=>i<=l.length) (λi=>⟨23,0,[(4,.v (.int .i64 i)),(3,.sl 112 (some (b,0,l.length)) 5 0 l.length),(0,.ro (l.map Doc.row))],
  [(112,.rows (some (b,0,l.length)) 5 (mo Doc.row [.v (.string ⟨#[]⟩),.v (.int .i64 0),.s [],.s [],.s []] l i) true)]⟩) (λi=>l.length-i) 0 ab n9 (λi hi=>?_)
 by_cases h:i<l.length
 ·simp[h,Doc.row]
  refine ag.pure (VU l[i] (cT hl h)) bB ?_;simp[Doc.res,gO hi,h];exact⟨i+1,aa,aa,aR aa,kH (f:=Doc.row) h⟩
 ·exact pY
theorem UE(a b:List Doc)(hl:nL cN a<=2^40):ar Tryz.prog 89 [.c (.s (a.map Doc.row)),.c (.s (b.map Doc.row))] (.one (.c (vb (a=b)) 1)):=by
 refine aF aw Tryz.func89 al rfl rfl rfl (ai rfl) (λw0 base=>?_);have hle:=aS hl;by_cases h:a.length=b.length
 ·simp[h]
  refine aV.intro eok (λi:Nat=>i<=a.length/\a.take i=b.take i) (λi=>⟨27,0,[(5,.v (.int .i64 i)),(1,.ro (b.map Doc.row)),(0,.ro (a.map Doc.row))],[]⟩) (λi=>a.length-i) 0 ab ab (λi hi=>?_);by_cases hlt:i<a.length
  ·simp[hlt]
   have hlt':i<b.length:=aa;refine aY.quiet eok mix al ?_;simp[hlt,hlt',Doc.row];refine⟨_,_,Xl a[i] b[i] (cT hl hlt),bB,?_⟩;exact mR
  ·exact oh
 ·exact j5
theorem SK(l:List Doc)(hl:l.length<=9223372036854775807)(hs:∀y∈l,y.fits)(left:Nat)(hf:left<=2^20):ar Tryz.prog 55 [.c (.s (l.map Doc.row)),.c (vi left)] (.one (.c (vi (szR (nL cN l) left)) 1)):=by
 refine aF aw Tryz.func55 al rfl rfl rfl (ai rfl) (λw0 base=>?_);have hw:IntKind.i64.wrap ((left:Int)-(l.length:Int))=(left:Int)-l.length:=fS _ aa;have hn:nL cN l=l.length+cK cN l:=rfl;by_cases h:l.length<=left
 ·obtain⟨lf,hlf⟩:∃lf:Nat,left-l.length=lf:=⟨_,rfl⟩
  have hlz:(left:Int)-l.length=(lf:Int):=aa;have hw2:IntKind.i64.wrap (lf:Int)=lf:=fE aa;simp[hlz,hw2];obtain⟨r,hr⟩:∃r,szR (nL cN l) left=r:=⟨_,rfl⟩;have hr0:szR (cK cN l) lf=r:=sE;rw[hr];refine aV.intro eok (λx:Nat×Nat=>x.1<=l.length/\x.2<=2^20/\szR (cK cN (l.drop x.1)) x.2=r) (λx=>⟨27,0,[(5,.v (.int .i64 x.1)),(1,.v (.int .i64 x.2)),(0,.ro (l.map Doc.row))],[]⟩) (λx=>l.length-x.1) (0,lf) sD ab ?_
  rintro⟨i,m⟩ ⟨hi,hm,hx⟩
  simp only at hi hm hx⊢;by_cases hlt:i<l.length
  ·rw[lJ hlt]at hx
   simp[hlt,Doc.row];refine ag.pure (V1 l[i] (hs _ (ak hlt)) m hm) bB ?_;by_cases hk:cN l[i]<=m
   ·rw[dY hk]
    have hz:¬((m-cN l[i]:Nat):Int)<0:=aa;simp[hz];refine⟨i+1,m-cN l[i],⟨aa,aa,?_⟩,aa,aR aa,rfl⟩;exact sM
   ·rw[fq (show ¬cN l[i]+cK cN (l.drop (i+1))<=m from aa)]at hx
    exact sI
  ·exact sR
 ·have hz:(left:Int)-l.length<0:=by omega
  simp[hw,hz,fq (show ¬nL cN l<=left from aa)]
theorem Ay(l:List Doc)(k:Int)(h0:0<=k)(hk:k+aQ Doc.cnt l<=4611686018427387904)(hl:nL cN l<=2^40):je Tryz.prog 93 (.c (.s (l.map Doc.row)) 5) k (k+aQ Doc.cnt l) (.c (.s ((aM Doc.mark Doc.cnt l k).map Doc.row)) 5):=by
 refine je.intro aw Tryz.func93 al rfl rfl rfl ah (λw0 base=>?_);have hle:=aS hl;simp;intro H;refine aE eok (λi:Nat=>i<=l.length) (λi=>⟨49,0,[(5,.v (.int .i64 i)),(1,.v (.int .i64 (k+aQ Doc.cnt (l.take i)))),(0,.ml 0 H 5 l.length)],[(0,.rows H 5 (bT Doc.mark Doc.cnt Doc.row l k i) true)]⟩) (λi=>l.length-i) 0 ab pP (λi hi=>?_);by_cases h:i<l.length
 ·have hc:=cY (cn:=Doc.cnt) h
  have hs:=cD (cn:=Doc.cnt) h;have hni:=cT hl h;simp only[cN]at hni;obtain⟨q0,hq0⟩:∃q,k+((aQ Doc.cnt (l.take i):Nat):Int)=q:=⟨_,rfl⟩;have hpc:l[i].cnt=2+(l[i].text.length+(aQ Entry.cnt l[i].list+(aQ Seen.cnt l[i].seen))):=rfl;rw[hq0,<-hI h];have e0:Go.IntKind.i64.wrap q0=q0:=ae _ aa;obtain⟨q1,hq1⟩:∃q,q0+1=q:=⟨_,rfl⟩;have e1:Go.IntKind.i64.wrap q1=q1:=ae _ aa;obtain⟨q2,hq2⟩:∃q,q1+1=q:=⟨_,rfl⟩;have e2:Go.IntKind.i64.wrap q2=q2:=ae _ aa;obtain⟨q3,hq3⟩:∃q,q2+((l[i].text.length:Nat):Int)=q:=⟨_,rfl⟩;have e3:Go.IntKind.i64.wrap q3=q3:=ae _ aa;obtain⟨q4,hq4⟩:∃q,q3+((aQ Entry.cnt l[i].list:Nat):Int)=q:=⟨_,rfl⟩
  have e4:Go.IntKind.i64.wrap q4=q4:=ae _ aa;obtain⟨q5,hq5⟩:∃q,q4+((aQ Seen.cnt l[i].seen:Nat):Int)=q:=⟨_,rfl⟩;have e5:Go.IntKind.i64.wrap q5=q5:=ae _ aa;have e:Go.IntKind.i64.wrap ((i:Int)+1)=((i+1:Nat):Int):=aR aa;refine Ent.open (λ_ h=>h) (k:=0) (i:=i) (j:=2) (k':=902) (sz':=1) (sz:=5) (H:=H) (rows:=((bT Doc.mark Doc.cnt Doc.row l k i).set i l[i].row)) (srows:=l[i].text.map aG) (row:=l[i].row) ab eX rfl ab ah i5 ab (λH2=>?_)
  refine Ent.open (λ_ h=>h) (k:=0) (i:=i) (j:=3) (k':=903) (sz':=3) (sz:=5) (H:=H) (rows:=((bT Doc.mark Doc.cnt Doc.row l k i).set i [.v (.string l[i].name),vi l[i].fr,.h 902 H2 1 l[i].text.length,.s (l[i].list.map Entry.row),.s (l[i].seen.map Seen.row)])) (srows:=l[i].list.map Entry.row) (row:=[.v (.string l[i].name),vi l[i].fr,.h 902 H2 1 l[i].text.length,.s (l[i].list.map Entry.row),.s (l[i].seen.map Seen.row)]) (by simp[dK,Doc.row]) eX rfl ab ah fB ab (λH3=>?_)
  refine Ent.open (λ_ h=>h) (k:=0) (i:=i) (j:=4) (k':=904) (sz':=3) (sz:=5) (H:=H) (rows:=((bT Doc.mark Doc.cnt Doc.row l k i).set i [.v (.string l[i].name),vi l[i].fr,.h 902 H2 1 l[i].text.length,.h 903 H3 3 l[i].list.length,.s (l[i].seen.map Seen.row)])) (srows:=l[i].seen.map Seen.row) (row:=[.v (.string l[i].name),vi l[i].fr,.h 902 H2 1 l[i].text.length,.h 903 H3 3 l[i].list.length,.s (l[i].seen.map Seen.row)]) (by simp[dK,Doc.row]) eX rfl ab ah (by simp[Seen.row]) ab (λH4=>?_);refine Ent.refl ?_;simp[h,Doc.row,dK];refine ag.pure (fL q0 aa aa) ab ?_;simp[h,bR,bf,hq1,e1,hq2,e2];refine ag.mark (fh l[i].text q2 aa aa) rfl (λ_ h=>h) ab ?_;simp[h,bR,hq3]
  refine ag.mark (jI l[i].list q3 aa aa aa) rfl (λ_ h=>h) ab ?_;simp[h,bR,hq4];refine ag.mark (HP l[i].seen q4 aa aa aa) rfl (λ_ h=>h) ab ?_;simp[e,hq5];refine dO (k:=0) (i:=i) (j:=2) (k':=902) (sz':=1) (sz:=5) (H:=H) (rows:=(bT Doc.mark Doc.cnt Doc.row l k i).set i [.v (.string (markT q0)),vi q1,.h 902 H2 1 l[i].text.length,.h 903 H3 3 l[i].list.length,.h 904 H4 3 l[i].seen.length]) (row:=[.v (.string (markT q0)),vi q1,.h 902 H2 1 l[i].text.length,.h 903 H3 3 l[i].list.length,.h 904 H4 3 l[i].seen.length]) (H':=H2) (srows:=(aM fk one l[i].text q2).map aG) ab eX fC ab ah ab ?_
  refine dO (k:=0) (i:=i) (j:=3) (k':=903) (sz':=3) (sz:=5) (H:=H) (rows:=(bT Doc.mark Doc.cnt Doc.row l k i).set i [.v (.string (markT q0)),vi q1,.s ((aM fk one l[i].text q2).map aG),.h 903 H3 3 l[i].list.length,.h 904 H4 3 l[i].seen.length]) (row:=[.v (.string (markT q0)),vi q1,.s ((aM fk one l[i].text q2).map aG),.h 903 H3 3 l[i].list.length,.h 904 H4 3 l[i].seen.length]) (H':=H3) (srows:=(aM Entry.mark Entry.cnt l[i].list q3).map Entry.row) kU eX fC ab ah ab ?_
  refine dO (k:=0) (i:=i) (j:=4) (k':=904) (sz':=3) (sz:=5) (H:=H) (rows:=(bT Doc.mark Doc.cnt Doc.row l k i).set i [.v (.string (markT q0)),vi q1,.s ((aM fk one l[i].text q2).map aG),.s ((aM Entry.mark Entry.cnt l[i].list q3).map Entry.row),.h 904 H4 3 l[i].seen.length]) (row:=[.v (.string (markT q0)),vi q1,.s ((aM fk one l[i].text q2).map aG),.s ((aM Entry.mark Entry.cnt l[i].list q3).map Entry.row),.h 904 H4 3 l[i].seen.length]) (H':=H4) (srows:=(aM Seen.mark Seen.cnt l[i].seen q4).map Seen.row) kU eX fC ab ah ab ?_;refine Ent.refl ⟨i+1,aa,aa,?_⟩;simp[dK,hs,hpc];refine⟨aa,?_⟩;refine gZ h ?_;rw[hq0];subst hq1 hq2 hq3 hq4 hq5;rfl
 ·have:i=l.length:=by omega
  subst this;refine Ent.refl ?_;simp[hJ,aK,Doc.row]
theorem J8(l:List Doc)(k:Int)(h0:0<=k)(hk:k+aQ Doc.cnt l<=4611686018427387904)(hl:nL cN l<=2^40):ar Tryz.prog 98 [.c (.s ((aM Doc.mark Doc.cnt l k).map Doc.row)),.c (vi k)] (.one (.c (vi (k+aQ Doc.cnt l)) 1)):=by
 refine aF aw Tryz.func98 al rfl rfl rfl (ai rfl) (λw0 base=>?_);have hle:=aS hl;simp;refine aV.intro eok (λi:Nat=>i<=l.length) (λi=>⟨59,0,[(5,.v (.int .i64 i)),(1,.v (.int .i64 (k+aQ Doc.cnt (l.take i)))),(0,.ro ((aM Doc.mark Doc.cnt l k).map Doc.row))],[]⟩) (λi=>l.length-i) 0 ab jZ (λi hi=>?_);by_cases h:i<l.length
 ·have hc:=cY (cn:=Doc.cnt) h
  have hs:=cD (cn:=Doc.cnt) h;have hni:=cT hl h;simp only[cN]at hni;have hm:=jo (mk:=Doc.mark) (cn:=Doc.cnt) (k:=k) h;obtain⟨q0,hq0⟩:∃q,k+((aQ Doc.cnt (l.take i):Nat):Int)=q:=⟨_,rfl⟩;have hpc:l[i].cnt=2+(l[i].text.length+(aQ Entry.cnt l[i].list+(aQ Seen.cnt l[i].seen))):=rfl;rw[hq0]at hm;rw[hq0];have z0:¬q0<0:=aa;have e0:Go.IntKind.i64.wrap q0=q0:=ae _ aa;obtain⟨q1,hq1⟩:∃q,q0+1=q:=⟨_,rfl⟩;have e1:Go.IntKind.i64.wrap q1=q1:=ae _ aa;have z1:¬q1<0:=aa;obtain⟨q2,hq2⟩:∃q,q1+1=q:=⟨_,rfl⟩;have e2:Go.IntKind.i64.wrap q2=q2:=ae _ aa;have z2:¬q2<0:=aa;obtain⟨q3,hq3⟩:∃q,q2+((l[i].text.length:Nat):Int)=q:=⟨_,rfl⟩
  have e3:Go.IntKind.i64.wrap q3=q3:=ae _ aa;have z3:¬q3<0:=aa;obtain⟨q4,hq4⟩:∃q,q3+((aQ Entry.cnt l[i].list:Nat):Int)=q:=⟨_,rfl⟩;have e4:Go.IntKind.i64.wrap q4=q4:=ae _ aa;have z4:¬q4<0:=aa;obtain⟨q5,hq5⟩:∃q,q4+((aQ Seen.cnt l[i].seen:Nat):Int)=q:=⟨_,rfl⟩;have e5:Go.IntKind.i64.wrap q5=q5:=ae _ aa;have z5:¬q5<0:=aa;have e:Go.IntKind.i64.wrap ((i:Int)+1)=((i+1:Nat):Int):=aR aa;simp[h,aK];refine aY.quiet eok mix al ?_;simp[h,aK,hm,Doc.row,Doc.mark,hq1,hq2,hq3,hq4];refine⟨_,_,fL q0 aa aa,ab,?_⟩;simp[h,aK,hm,Doc.row,Doc.mark,hq1,e1,hq2,e2,hq3,hq4]
  refine ag.pure (lO l[i].text q2 aa aa) ab ?_;simp[h,aK,hm,Doc.row,Doc.mark,hq1,hq2,hq3,z3,hq4];refine ag.pure (qq l[i].list q3 aa aa aa) ab ?_;simp[h,aK,hm,Doc.row,Doc.mark,hq1,hq2,hq3,hq4,z4];refine ag.pure (Ir l[i].seen q4 aa aa aa) ab ?_;simp[hq5,z5];exact pW
 ·exact oj
theorem RT(x:Ring)(h:dh x<=2^40):ar Tryz.prog 181 [.agg x.row] (.one (.agg x.res)):=by
 refine aF aw Tryz.func181 al rfl rfl rfl (ai rfl) (λw0 base=>?_);unfold dh at h;simp[Ring.row,Ring.res];exact L5
theorem UC(x y:Ring)(h:dh x<=2^40):ar Tryz.prog 209 [.agg x.row,.agg y.row] (.one (.c (vb (x=y)) 1)):=by
 refine aF aw Tryz.func209 al rfl rfl rfl (ai rfl) (λw0 base=>?_);unfold dh at h;obtain⟨a0,a1,a2,a3⟩:=x;obtain⟨b0,b1,b2,b3⟩:=y;simp only at h;simp[Ring.row]
 try intros
 by_cases h0:a0=b0
 rotate_left
 ·simp[h0]
 subst h0
 try simp
 by_cases h1:a1=b1
 rotate_left
 ·simp[h1]
 subst h1
 try simp
 exact ND
theorem SI(x:Ring)(h:x.fits)(left:Nat)(hf:left<=2^20):ar Tryz.prog 157 [.agg x.row,.c (vi left)] (.one (.c (vi (szR (dh x) left)) 1)):=by
 refine aF aw Tryz.func157 al rfl rfl rfl (ai rfl) (λw0 base=>?_);obtain⟨f0,f1,f2,f3⟩:=h;obtain⟨r,hr⟩:∃r,szR (dh x) left=r:=⟨_,rfl⟩;rw[hr];have hn:dh x=nL aZ x.list:=rfl;simp[Ring.row]
 try intros
 refine ag.pure (uu x.list f3.1 f3.2 left aa) ab ?_;by_cases k0:nL aZ x.list<=left
 rotate_left
 ·exact pX
 rw[dY k0];obtain⟨m0,hm0⟩:∃m,left-nL aZ x.list=m:=⟨_,rfl⟩;exact Eo
theorem VS(x:Sub)(h:dC x<=2^40):ar Tryz.prog 127 [.agg x.row] (.one (.agg x.res)):=by
 refine aF aw Tryz.func127 al rfl rfl rfl (ai rfl) (λw0 base=>?_);unfold dC at h;simp[Sub.row,Sub.res]
 try intros
 refine ag.pure (RT x.r aa) dQ ?_;simp[Ring.res]
 try intros
theorem Xj(x y:Sub)(h:dC x<=2^40):ar Tryz.prog 150 [.agg x.row,.agg y.row] (.one (.c (vb (x=y)) 1)):=by
 refine aF aw Tryz.func150 al rfl rfl rfl (ai rfl) (λw0 base=>?_);unfold dC at h;obtain⟨a0,a1,a2⟩:=x;obtain⟨b0,b1,b2⟩:=y;simp only at h;simp[Sub.row]
 try intros
 by_cases h0:a0=b0
 rotate_left
 ·simp[h0]
 subst h0
 try simp
 by_cases h1:a1=b1
 rotate_left
 ·simp[h1]
 subst h1
 try simp
 refine ag.pure (UC a2 b2 aa) dQ ?_;simp;exact ze
theorem VZ(x:Sub)(h:x.fits)(left:Nat)(hf:left<=2^20):ar Tryz.prog 106 [.agg x.row,.c (vi left)] (.one (.c (vi (szR (dC x) left)) 1)):=by
 refine aF aw Tryz.func106 al rfl rfl rfl (ai rfl) (λw0 base=>?_);obtain⟨f0,f1,f2⟩:=h;obtain⟨r,hr⟩:∃r,szR (dC x) left=r:=⟨_,rfl⟩;rw[hr];have hn:dC x=x.doc.size+(dh x.r):=rfl;simp[Sub.row]
 try intros
 by_cases k0:x.doc.size<=left
 rotate_left
 ·exact EU
 obtain⟨m0,hm0⟩:∃m,left-x.doc.size=m:=⟨_,rfl⟩;have w0:IntKind.i64.wrap ((left:Int)-(x.doc.size:Int))=(m0:Int):=by rw[fS _ aa];omega
 simp[w0];refine ag.pure (SI x.r f2 m0 aa) dQ ?_;by_cases k1:dh x.r<=m0
 rotate_left
 ·exact om
 rw[dY k1];obtain⟨m1,hm1⟩:∃m,m0-dh x.r=m:=⟨_,rfl⟩;exact vh
theorem RP(l:List Sub)(hl:nL dC l<=2^40):ar Tryz.prog 72 [.c (.s (l.map Sub.row))] (.one (.c (.s (l.map Sub.row)) 6)):=by
 refine aF aw Tryz.func72 al rfl rfl rfl (ai rfl) (λw0 base=>?_);have hle:=aS hl;simp;refine⟨aa,λb=>?_⟩
 refine aV.intro eok (λi:Nat=>i<=l.length) (λi=>⟨23,0,[(4,.v (.int .i64 i)),(3,.sl 112 (some (b,0,l.length)) 6 0 l.length),(0,.ro (l.map Sub.row))],
  [(112,.rows (some (b,0,l.length)) 6 (mo Sub.row [.v (.int .i64 0),.v (.string ⟨#[]⟩),.v (.int .i64 0),.v (.int .i64 0),.v (.bool false),.s []] l i) true)]⟩) (λi=>l.length-i) 0 ab n9 (λi hi=>?_)
 by_cases h:i<l.length
 ·simp[h,Sub.row]
  refine ag.pure (VS l[i] (cT hl h)) (by simp[Sub.row]) ?_;simp[Sub.res,gO hi,h];exact⟨i+1,aa,aa,aR aa,kH (f:=Sub.row) h⟩
 ·exact pY
theorem UA(a b:List Sub)(hl:nL dC a<=2^40):ar Tryz.prog 90 [.c (.s (a.map Sub.row)),.c (.s (b.map Sub.row))] (.one (.c (vb (a=b)) 1)):=by
 refine aF aw Tryz.func90 al rfl rfl rfl (ai rfl) (λw0 base=>?_);have hle:=aS hl;by_cases h:a.length=b.length
 ·simp[h]
  refine aV.intro eok (λi:Nat=>i<=a.length/\a.take i=b.take i) (λi=>⟨27,0,[(5,.v (.int .i64 i)),(1,.ro (b.map Sub.row)),(0,.ro (a.map Sub.row))],[]⟩) (λi=>a.length-i) 0 ab ab (λi hi=>?_);by_cases hlt:i<a.length
  ·simp[hlt]
   have hlt':i<b.length:=aa;refine aY.quiet eok mix al ?_;simp[hlt,hlt',Sub.row];refine⟨_,_,Xj a[i] b[i] (cT hl hlt),by simp[Sub.row],?_⟩;exact mR
  ·exact oh
 ·exact j5
theorem SH(l:List Sub)(hl:l.length<=9223372036854775807)(hs:∀y∈l,y.fits)(left:Nat)(hf:left<=2^20):ar Tryz.prog 56 [.c (.s (l.map Sub.row)),.c (vi left)] (.one (.c (vi (szR (nL dC l) left)) 1)):=by
 refine aF aw Tryz.func56 al rfl rfl rfl (ai rfl) (λw0 base=>?_);have hw:IntKind.i64.wrap ((left:Int)-(l.length:Int))=(left:Int)-l.length:=fS _ aa;have hn:nL dC l=l.length+cK dC l:=rfl;by_cases h:l.length<=left
 ·obtain⟨lf,hlf⟩:∃lf:Nat,left-l.length=lf:=⟨_,rfl⟩
  have hlz:(left:Int)-l.length=(lf:Int):=aa;have hw2:IntKind.i64.wrap (lf:Int)=lf:=fE aa;simp[hlz,hw2];obtain⟨r,hr⟩:∃r,szR (nL dC l) left=r:=⟨_,rfl⟩;have hr0:szR (cK dC l) lf=r:=sE;rw[hr];refine aV.intro eok (λx:Nat×Nat=>x.1<=l.length/\x.2<=2^20/\szR (cK dC (l.drop x.1)) x.2=r) (λx=>⟨27,0,[(5,.v (.int .i64 x.1)),(1,.v (.int .i64 x.2)),(0,.ro (l.map Sub.row))],[]⟩) (λx=>l.length-x.1) (0,lf) sD ab ?_
  rintro⟨i,m⟩ ⟨hi,hm,hx⟩
  simp only at hi hm hx⊢;by_cases hlt:i<l.length
  ·rw[lJ hlt]at hx
   simp[hlt,Sub.row];refine ag.pure (VZ l[i] (hs _ (ak hlt)) m hm) (by simp[Sub.row]) ?_;by_cases hk:dC l[i]<=m
   ·rw[dY hk]
    have hz:¬((m-dC l[i]:Nat):Int)<0:=aa;simp[hz];refine⟨i+1,m-dC l[i],⟨aa,aa,?_⟩,aa,aR aa,rfl⟩;exact sM
   ·rw[fq (show ¬dC l[i]+cK dC (l.drop (i+1))<=m from aa)]at hx
    exact sI
  ·exact sR
 ·have hz:(left:Int)-l.length<0:=by omega
  simp[hw,hz,fq (show ¬nL dC l<=left from aa)]
theorem JQ(l:List Sub)(k:Int)(h0:0<=k)(hk:k+aQ Sub.cnt l<=4611686018427387904)(hl:nL dC l<=2^40):je Tryz.prog 94 (.c (.s (l.map Sub.row)) 6) k (k+aQ Sub.cnt l) (.c (.s ((aM Sub.mark Sub.cnt l k).map Sub.row)) 6):=by
 refine je.intro aw Tryz.func94 al rfl rfl rfl ah (λw0 base=>?_);have hle:=aS hl;simp;intro H;refine aE eok (λi:Nat=>i<=l.length) (λi=>⟨62,0,[(5,.v (.int .i64 i)),(1,.v (.int .i64 (k+aQ Sub.cnt (l.take i)))),(0,.ml 0 H 6 l.length)],[(0,.rows H 6 (bT Sub.mark Sub.cnt Sub.row l k i) true)]⟩) (λi=>l.length-i) 0 ab pP (λi hi=>?_);by_cases h:i<l.length
 ·have hc:=cY (cn:=Sub.cnt) h
  have hs:=cD (cn:=Sub.cnt) h;have hni:=cT hl h;simp only[dC,dh]at hni;obtain⟨q0,hq0⟩:∃q,k+((aQ Sub.cnt (l.take i):Nat):Int)=q:=⟨_,rfl⟩;have hpc:l[i].cnt=5+(aQ Entry.cnt l[i].r.list):=rfl;rw[hq0,<-hI h];have e0:Go.IntKind.i64.wrap q0=q0:=ae _ aa;obtain⟨q1,hq1⟩:∃q,q0+1=q:=⟨_,rfl⟩;have e1:Go.IntKind.i64.wrap q1=q1:=ae _ aa;obtain⟨q2,hq2⟩:∃q,q1+1=q:=⟨_,rfl⟩;have e2:Go.IntKind.i64.wrap q2=q2:=ae _ aa;obtain⟨q3,hq3⟩:∃q,q2+1=q:=⟨_,rfl⟩;have e3:Go.IntKind.i64.wrap q3=q3:=ae _ aa;obtain⟨q4,hq4⟩:∃q,q3+1=q:=⟨_,rfl⟩;have e4:Go.IntKind.i64.wrap q4=q4:=ae _ aa;obtain⟨q5,hq5⟩:∃q,q4+1=q:=⟨_,rfl⟩
  have e5:Go.IntKind.i64.wrap q5=q5:=ae _ aa;obtain⟨q6,hq6⟩:∃q,q5+((aQ Entry.cnt l[i].r.list:Nat):Int)=q:=⟨_,rfl⟩;have e6:Go.IntKind.i64.wrap q6=q6:=ae _ aa;have e:Go.IntKind.i64.wrap ((i:Int)+1)=((i+1:Nat):Int):=aR aa;refine Ent.open (λ_ h=>h) (k:=0) (i:=i) (j:=5) (k':=905) (sz':=3) (sz:=6) (H:=H) (rows:=((bT Sub.mark Sub.cnt Sub.row l k i).set i l[i].row)) (srows:=l[i].r.list.map Entry.row) (row:=l[i].row) ab eX rfl ab ah fB ab (λH5=>?_);refine Ent.refl ?_;simp[h,bR,Sub.row,dK,bf,hq1,e1];refine ag.pure (fL q1 aa aa) ab ?_;simp[h,bR,bf,hq2,e2,hq3,e3,hq4,e4,hq5,e5]
  refine ag.mark (jI l[i].r.list q5 aa aa aa) rfl (λ_ h=>h) ab ?_;simp[e,hq6];refine dO (k:=0) (i:=i) (j:=5) (k':=905) (sz':=3) (sz:=6) (H:=H) (rows:=(bT Sub.mark Sub.cnt Sub.row l k i).set i [vi q0,.v (.string (markT q1)),vi q2,vi q3,.v (.bool (oz q4)),.h 905 H5 3 l[i].r.list.length]) (row:=[vi q0,.v (.string (markT q1)),vi q2,vi q3,.v (.bool (oz q4)),.h 905 H5 3 l[i].r.list.length]) (H':=H5) (srows:=(aM Entry.mark Entry.cnt l[i].r.list q5).map Entry.row) (by simp[oz]) eX fC ab ah ab ?_;refine Ent.refl ⟨i+1,aa,aa,?_⟩;simp[dK,hs,hpc];refine⟨aa,?_⟩;refine gZ h ?_;rw[hq0];subst hq1 hq2 hq3 hq4 hq5 hq6;rfl
 ·have:i=l.length:=by omega
  subst this;refine Ent.refl ?_;simp[hJ,aK,Sub.row]
theorem J7(l:List Sub)(k:Int)(h0:0<=k)(hk:k+aQ Sub.cnt l<=4611686018427387904)(hl:nL dC l<=2^40):ar Tryz.prog 99 [.c (.s ((aM Sub.mark Sub.cnt l k).map Sub.row)),.c (vi k)] (.one (.c (vi (k+aQ Sub.cnt l)) 1)):=by
 refine aF aw Tryz.func99 al rfl rfl rfl (ai rfl) (λw0 base=>?_);have hle:=aS hl;simp;refine aV.intro eok (λi:Nat=>i<=l.length) (λi=>⟨74,0,[(5,.v (.int .i64 i)),(1,.v (.int .i64 (k+aQ Sub.cnt (l.take i)))),(0,.ro ((aM Sub.mark Sub.cnt l k).map Sub.row))],[]⟩) (λi=>l.length-i) 0 ab jZ (λi hi=>?_);by_cases h:i<l.length
 ·have hc:=cY (cn:=Sub.cnt) h
  have hs:=cD (cn:=Sub.cnt) h;have hni:=cT hl h;simp only[dC,dh]at hni;have hm:=jo (mk:=Sub.mark) (cn:=Sub.cnt) (k:=k) h;obtain⟨q0,hq0⟩:∃q,k+((aQ Sub.cnt (l.take i):Nat):Int)=q:=⟨_,rfl⟩;have hpc:l[i].cnt=5+(aQ Entry.cnt l[i].r.list):=rfl;rw[hq0]at hm;rw[hq0];have z0:¬q0<0:=aa;have e0:Go.IntKind.i64.wrap q0=q0:=ae _ aa;obtain⟨q1,hq1⟩:∃q,q0+1=q:=⟨_,rfl⟩;have e1:Go.IntKind.i64.wrap q1=q1:=ae _ aa;have z1:¬q1<0:=aa;obtain⟨q2,hq2⟩:∃q,q1+1=q:=⟨_,rfl⟩;have e2:Go.IntKind.i64.wrap q2=q2:=ae _ aa;have z2:¬q2<0:=aa;obtain⟨q3,hq3⟩:∃q,q2+1=q:=⟨_,rfl⟩;have e3:Go.IntKind.i64.wrap q3=q3:=ae _ aa;have z3:¬q3<0:=aa
  obtain⟨q4,hq4⟩:∃q,q3+1=q:=⟨_,rfl⟩;have e4:Go.IntKind.i64.wrap q4=q4:=ae _ aa;have z4:¬q4<0:=aa;obtain⟨q5,hq5⟩:∃q,q4+1=q:=⟨_,rfl⟩;have e5:Go.IntKind.i64.wrap q5=q5:=ae _ aa;have z5:¬q5<0:=aa;obtain⟨q6,hq6⟩:∃q,q5+((aQ Entry.cnt l[i].r.list:Nat):Int)=q:=⟨_,rfl⟩;have e6:Go.IntKind.i64.wrap q6=q6:=ae _ aa;have z6:¬q6<0:=aa;have e:Go.IntKind.i64.wrap ((i:Int)+1)=((i+1:Nat):Int):=aR aa;simp[h,aK,hm,Sub.row,Sub.mark,hq1,e1,hq2,hq3,hq4,hq5,oz];refine aY.quiet eok mix al ?_;simp[h,aK,hm,Sub.row,Sub.mark,hq1,hq2,hq3,hq4,hq5,oz];refine⟨_,_,fL q1 aa aa,ab,?_⟩
  simp[h,aK,hm,Sub.row,Sub.mark,hq1,hq2,e2,hq3,e3,hq4,e4,hq5,e5,oz];refine ag.pure (qq l[i].r.list q5 aa aa aa) ab ?_;simp[hq6,z6];exact pW
 ·exact oj
theorem VT(x:Hub)(h:dk x<=2^40):ar Tryz.prog 28 [.agg x.row] (.one (.agg x.res)):=by
 refine aF aw Tryz.func28 al rfl rfl rfl (ai rfl) (λw0 base=>?_);unfold dk at h;simp[Hub.row,Hub.res]
 try intros
 refine ag.pure (RW x.docs aa) ab ?_;simp
 try intros
 refine ag.pure (RP x.subs aa) ab ?_;simp
 try intros
theorem Xk(x y:Hub)(h:dk x<=2^40):ar Tryz.prog 39 [.agg x.row,.agg y.row] (.one (.c (vb (x=y)) 1)):=by
 refine aF aw Tryz.func39 al rfl rfl rfl (ai rfl) (λw0 base=>?_);unfold dk at h;obtain⟨a0,a1,a2,a3⟩:=x;obtain⟨b0,b1,b2,b3⟩:=y;simp only at h;simp[Hub.row]
 try intros
 by_cases h0:a0=b0
 rotate_left
 ·simp[h0]
 subst h0
 try simp
 refine ag.pure (UE a1 b1 aa) ab ?_;simp;by_cases h1:a1=b1
 rotate_left
 ·simp[h1]
 subst h1
 try simp
 refine ag.pure (UA a2 b2 aa) ab ?_;simp;by_cases h2:a2=b2
 rotate_left
 ·simp[h2]
 subst h2
 try simp
 by_cases h3:a3=b3
 rotate_left
 ·simp[h3]
 subst h3
 try simp
theorem V0(x:Hub)(h:x.fits)(left:Nat)(hf:left<=2^20):ar Tryz.prog 17 [.agg x.row,.c (vi left)] (.one (.c (vi (szR (dk x) left)) 1)):=by
 refine aF aw Tryz.func17 al rfl rfl rfl (ai rfl) (λw0 base=>?_);obtain⟨f0,f1,f2,f3⟩:=h;obtain⟨r,hr⟩:∃r,szR (dk x) left=r:=⟨_,rfl⟩;rw[hr];have hn:dk x=nL cN x.docs+(nL dC x.subs):=rfl;simp[Hub.row]
 try intros
 refine ag.pure (SK x.docs f1.1 f1.2 left aa) ab ?_;by_cases k0:nL cN x.docs<=left
 rotate_left
 ·exact pX
 rw[dY k0];obtain⟨m0,hm0⟩:∃m,left-nL cN x.docs=m:=⟨_,rfl⟩;rw[hm0];simp;refine ag.pure (SH x.subs f2.1 f2.2 m0 aa) ab ?_;by_cases k1:nL dC x.subs<=m0
 rotate_left
 ·exact om
 rw[dY k1];obtain⟨m1,hm1⟩:∃m,m0-nL dC x.subs=m:=⟨_,rfl⟩;exact vh
theorem Ql(x:Hub)(k:Int)(h0:0<=k)(hk:k+x.cntT<=4611686018427387904)(hl:dk x<=2^40):je Tryz.prog 42 (.agg x.res) k (k+x.cntT) (.agg (x.markT k).res):=by
 refine je.intro aw Tryz.func42 al rfl rfl rfl ah (λw0 base=>?_);simp only[Hub.cntT]at hk;unfold dk at hl;simp[Hub.res]
 try intros
 refine ag.mark (Ay x.docs (k) aa aa aa) rfl (λ_ h=>h) ab ?_;simp;refine ag.mark (JQ x.subs (k+((aQ Doc.cnt x.docs:Nat):Int)) aa aa aa) rfl (λ_ h=>h) ab ?_;simp;simp[Hub.markT,Hub.cntT,aK]
 try omega
theorem QR(x:Hub)(k:Int)(h0:0<=k)(hk:k+x.cntT<=4611686018427387904)(hl:dk x<=2^40):ar Tryz.prog 45 [.agg (x.markT k).row,.c (vi k)] (.one (.c (vi (k+x.cntT)) 1)):=by
 refine aF aw Tryz.func45 al rfl rfl rfl (ai rfl) (λw0 base=>?_);simp only[Hub.cntT]at hk;unfold dk at hl;simp[Hub.row,Hub.markT]
 try intros
 refine ag.pure (J8 x.docs k aa aa aa) ab ?_;obtain⟨q1,hq1⟩:∃q,k+((aQ Doc.cnt x.docs:Nat):Int)=q:=⟨_,rfl⟩;rw[hq1];have z1:¬q1<0:=aa;simp[z1];refine ag.pure (J7 x.subs q1 aa aa aa) ab ?_;obtain⟨q2,hq2⟩:∃q,q1+((aQ Sub.cnt x.subs:Nat):Int)=q:=⟨_,rfl⟩;rw[hq2];have z2:¬q2<0:=aa;simp[z2]
 try (simp only[Hub.cntT];omega)
theorem PF(x:Queue)(h:ca x<=2^40):ar Tryz.prog 73 [.agg x.row] (.one (.agg x.res)):=by
 refine aF aw Tryz.func73 al rfl rfl rfl (ai rfl) (λw0 base=>?_);unfold ca at h;simp[Queue.row,Queue.res]
 try intros
 refine ag.pure (gG x.list aa) ab ?_;simp
 try intros
theorem Q6(x y:Queue)(h:ca x<=2^40):ar Tryz.prog 91 [.agg x.row,.agg y.row] (.one (.c (vb (x=y)) 1)):=by
 refine aF aw Tryz.func91 al rfl rfl rfl (ai rfl) (λw0 base=>?_);unfold ca at h;obtain⟨a0,a1⟩:=x;obtain⟨b0,b1⟩:=y;simp only at h;simp[Queue.row]
 try intros
 by_cases h0:a0=b0
 rotate_left
 ·simp[h0]
 subst h0
 try simp
 refine ag.pure (mu a1 b1 aa) ab ?_;simp;by_cases h1:a1=b1
 rotate_left
 ·simp[h1]
 subst h1
 try simp
theorem PL(x:Queue)(h:x.fits)(left:Nat)(hf:left<=2^20):ar Tryz.prog 57 [.agg x.row,.c (vi left)] (.one (.c (vi (szR (ca x) left)) 1)):=by
 refine aF aw Tryz.func57 al rfl rfl rfl (ai rfl) (λw0 base=>?_);obtain⟨f0,f1⟩:=h;obtain⟨r,hr⟩:∃r,szR (ca x) left=r:=⟨_,rfl⟩;rw[hr];have hn:ca x=x.doc.size+(x.list.length):=rfl;simp[Queue.row]
 try intros
 by_cases k0:x.doc.size<=left
 rotate_left
 ·exact EU
 obtain⟨m0,hm0⟩:∃m,left-x.doc.size=m:=⟨_,rfl⟩;have w0:IntKind.i64.wrap ((left:Int)-(x.doc.size:Int))=(m0:Int):=by rw[fS _ aa];omega
 simp[w0];refine ag.pure (po x.list f1.1 m0 aa) ab ?_;by_cases k1:x.list.length<=m0
 rotate_left
 ·exact om
 rw[dY k1];obtain⟨m1,hm1⟩:∃m,m0-x.list.length=m:=⟨_,rfl⟩;exact vh
theorem Jh(l:List Queue)(hl:nL ca l<=2^40):ar Tryz.prog 29 [.c (.s (l.map Queue.row))] (.one (.c (.s (l.map Queue.row)) 2)):=by
 refine aF aw Tryz.func29 al rfl rfl rfl (ai rfl) (λw0 base=>?_);have hle:=aS hl;simp;refine⟨aa,λb=>?_⟩
 refine aV.intro eok (λi:Nat=>i<=l.length) (λi=>⟨23,0,[(4,.v (.int .i64 i)),(3,.sl 112 (some (b,0,l.length)) 2 0 l.length),(0,.ro (l.map Queue.row))],
  [(112,.rows (some (b,0,l.length)) 2 (mo Queue.row [.v (.string ⟨#[]⟩),.s []] l i) true)]⟩) (λi=>l.length-i) 0 ab n9 (λi hi=>?_)
 by_cases h:i<l.length
 ·simp[h,Queue.row]
  refine ag.pure (PF l[i] (cT hl h)) (by simp[Queue.row]) ?_;simp[Queue.res,gO hi,h];exact⟨i+1,aa,aa,aR aa,kH (f:=Queue.row) h⟩
 ·exact pY
theorem Kn(a b:List Queue)(hl:nL ca a<=2^40):ar Tryz.prog 40 [.c (.s (a.map Queue.row)),.c (.s (b.map Queue.row))] (.one (.c (vb (a=b)) 1)):=by
 refine aF aw Tryz.func40 al rfl rfl rfl (ai rfl) (λw0 base=>?_);have hle:=aS hl;by_cases h:a.length=b.length
 ·simp[h]
  refine aV.intro eok (λi:Nat=>i<=a.length/\a.take i=b.take i) (λi=>⟨27,0,[(5,.v (.int .i64 i)),(1,.ro (b.map Queue.row)),(0,.ro (a.map Queue.row))],[]⟩) (λi=>a.length-i) 0 ab ab (λi hi=>?_);by_cases hlt:i<a.length
  ·simp[hlt]
   have hlt':i<b.length:=aa;refine aY.quiet eok mix al ?_;simp[hlt,hlt',Queue.row];refine⟨_,_,Q6 a[i] b[i] (cT hl hlt),by simp[Queue.row],?_⟩;exact mR
  ·exact oh
 ·exact j5
theorem Jl(l:List Queue)(hl:l.length<=9223372036854775807)(hs:∀y∈l,y.fits)(left:Nat)(hf:left<=2^20):ar Tryz.prog 19 [.c (.s (l.map Queue.row)),.c (vi left)] (.one (.c (vi (szR (nL ca l) left)) 1)):=by
 refine aF aw Tryz.func19 al rfl rfl rfl (ai rfl) (λw0 base=>?_);have hw:IntKind.i64.wrap ((left:Int)-(l.length:Int))=(left:Int)-l.length:=fS _ aa;have hn:nL ca l=l.length+cK ca l:=rfl;by_cases h:l.length<=left
 ·obtain⟨lf,hlf⟩:∃lf:Nat,left-l.length=lf:=⟨_,rfl⟩
  have hlz:(left:Int)-l.length=(lf:Int):=aa;have hw2:IntKind.i64.wrap (lf:Int)=lf:=fE aa;simp[hlz,hw2];obtain⟨r,hr⟩:∃r,szR (nL ca l) left=r:=⟨_,rfl⟩;have hr0:szR (cK ca l) lf=r:=sE;rw[hr];refine aV.intro eok (λx:Nat×Nat=>x.1<=l.length/\x.2<=2^20/\szR (cK ca (l.drop x.1)) x.2=r) (λx=>⟨27,0,[(5,.v (.int .i64 x.1)),(1,.v (.int .i64 x.2)),(0,.ro (l.map Queue.row))],[]⟩) (λx=>l.length-x.1) (0,lf) sD ab ?_
  rintro⟨i,m⟩ ⟨hi,hm,hx⟩
  simp only at hi hm hx⊢;by_cases hlt:i<l.length
  ·rw[lJ hlt]at hx
   simp[hlt,Queue.row];refine ag.pure (PL l[i] (hs _ (ak hlt)) m hm) (by simp[Queue.row]) ?_;by_cases hk:ca l[i]<=m
   ·rw[dY hk]
    have hz:¬((m-ca l[i]:Nat):Int)<0:=aa;simp[hz];refine⟨i+1,m-ca l[i],⟨aa,aa,?_⟩,aa,aR aa,rfl⟩;exact sM
   ·rw[fq (show ¬ca l[i]+cK ca (l.drop (i+1))<=m from aa)]at hx
    exact sI
  ·exact sR
 ·have hz:(left:Int)-l.length<0:=by omega
  simp[hw,hz,fq (show ¬nL ca l<=left from aa)]
theorem vD(l:List Queue)(k:Int)(h0:0<=k)(hk:k+aQ Queue.cnt l<=4611686018427387904)(hl:nL ca l<=2^40):je Tryz.prog 43 (.c (.s (l.map Queue.row)) 2) k (k+aQ Queue.cnt l) (.c (.s ((aM Queue.mark Queue.cnt l k).map Queue.row)) 2):=by
 refine je.intro aw Tryz.func43 al rfl rfl rfl ah (λw0 base=>?_);have hle:=aS hl;simp;intro H;refine aE eok (λi:Nat=>i<=l.length) (λi=>⟨28,0,[(5,.v (.int .i64 i)),(1,.v (.int .i64 (k+aQ Queue.cnt (l.take i)))),(0,.ml 0 H 2 l.length)],[(0,.rows H 2 (bT Queue.mark Queue.cnt Queue.row l k i) true)]⟩) (λi=>l.length-i) 0 ab pP (λi hi=>?_);by_cases h:i<l.length
 ·have hc:=cY (cn:=Queue.cnt) h
  have hs:=cD (cn:=Queue.cnt) h;have hni:=cT hl h;simp only[ca]at hni;obtain⟨q0,hq0⟩:∃q,k+((aQ Queue.cnt (l.take i):Nat):Int)=q:=⟨_,rfl⟩;have hpc:l[i].cnt=1+(l[i].list.length):=rfl;rw[hq0,<-hI h];have e0:Go.IntKind.i64.wrap q0=q0:=ae _ aa;obtain⟨q1,hq1⟩:∃q,q0+1=q:=⟨_,rfl⟩;have e1:Go.IntKind.i64.wrap q1=q1:=ae _ aa;obtain⟨q2,hq2⟩:∃q,q1+((l[i].list.length:Nat):Int)=q:=⟨_,rfl⟩;have e2:Go.IntKind.i64.wrap q2=q2:=ae _ aa;have e:Go.IntKind.i64.wrap ((i:Int)+1)=((i+1:Nat):Int):=aR aa
  refine Ent.open (λ_ h=>h) (k:=0) (i:=i) (j:=1) (k':=901) (sz':=1) (sz:=2) (H:=H) (rows:=((bT Queue.mark Queue.cnt Queue.row l k i).set i l[i].row)) (srows:=l[i].list.map aG) (row:=l[i].row) ab eX rfl ab ah i5 ab (λH1=>?_);refine Ent.refl ?_;simp[h,Queue.row,dK];refine ag.pure (fL q0 aa aa) ab ?_;simp[h,bR,bf,hq1,e1];refine ag.mark (fh l[i].list q1 aa aa) rfl (λ_ h=>h) ab ?_;simp[e,hq2]
  refine dO (k:=0) (i:=i) (j:=1) (k':=901) (sz':=1) (sz:=2) (H:=H) (rows:=(bT Queue.mark Queue.cnt Queue.row l k i).set i [.v (.string (markT q0)),.h 901 H1 1 l[i].list.length]) (row:=[.v (.string (markT q0)),.h 901 H1 1 l[i].list.length]) (H':=H1) (srows:=(aM fk one l[i].list q1).map aG) ab eX fC ab ah ab ?_;refine Ent.refl ⟨i+1,aa,aa,?_⟩;simp[dK,hs,hpc];refine⟨aa,?_⟩;refine gZ h ?_;rw[hq0];subst hq1 hq2;rfl
 ·have:i=l.length:=by omega
  subst this;refine Ent.refl ?_;simp[hJ,aK,Queue.row]
theorem F6(l:List Queue)(k:Int)(h0:0<=k)(hk:k+aQ Queue.cnt l<=4611686018427387904)(hl:nL ca l<=2^40):ar Tryz.prog 47 [.c (.s ((aM Queue.mark Queue.cnt l k).map Queue.row)),.c (vi k)] (.one (.c (vi (k+aQ Queue.cnt l)) 1)):=by
 refine aF aw Tryz.func47 al rfl rfl rfl (ai rfl) (λw0 base=>?_);have hle:=aS hl;simp;refine aV.intro eok (λi:Nat=>i<=l.length) (λi=>⟨32,0,[(5,.v (.int .i64 i)),(1,.v (.int .i64 (k+aQ Queue.cnt (l.take i)))),(0,.ro ((aM Queue.mark Queue.cnt l k).map Queue.row))],[]⟩) (λi=>l.length-i) 0 ab jZ (λi hi=>?_);by_cases h:i<l.length
 ·have hc:=cY (cn:=Queue.cnt) h
  have hs:=cD (cn:=Queue.cnt) h;have hni:=cT hl h;simp only[ca]at hni;have hm:=jo (mk:=Queue.mark) (cn:=Queue.cnt) (k:=k) h;obtain⟨q0,hq0⟩:∃q,k+((aQ Queue.cnt (l.take i):Nat):Int)=q:=⟨_,rfl⟩;have hpc:l[i].cnt=1+(l[i].list.length):=rfl;rw[hq0]at hm;rw[hq0];have z0:¬q0<0:=aa;have e0:Go.IntKind.i64.wrap q0=q0:=ae _ aa;obtain⟨q1,hq1⟩:∃q,q0+1=q:=⟨_,rfl⟩;have e1:Go.IntKind.i64.wrap q1=q1:=ae _ aa;have z1:¬q1<0:=aa;obtain⟨q2,hq2⟩:∃q,q1+((l[i].list.length:Nat):Int)=q:=⟨_,rfl⟩;have e2:Go.IntKind.i64.wrap q2=q2:=ae _ aa;have z2:¬q2<0:=aa;have e:Go.IntKind.i64.wrap ((i:Int)+1)=((i+1:Nat):Int):=aR aa;simp[h,aK]
  refine aY.quiet eok mix al ?_;simp[h,aK,hm,Queue.row,Queue.mark,hq1];refine⟨_,_,fL q0 aa aa,ab,?_⟩;simp[h,aK,hm,Queue.row,Queue.mark,hq1,e1];refine ag.pure (lO l[i].list q1 aa aa) ab ?_;simp[hq2,z2];exact pW
 ·exact oj
theorem Jj(x:Answer)(h:cH x<=2^40):ar Tryz.prog 129 [.agg x.row] (.one (.agg x.res)):=by
 refine aF aw Tryz.func129 al rfl rfl rfl (ai rfl) (λw0 base=>?_);unfold cH at h;simp[Answer.row,Answer.res]
 try intros
 refine ag.pure (gG x.text aa) ab ?_;simp;exact L5
theorem Ko(x y:Answer)(h:cH x<=2^40):ar Tryz.prog 152 [.agg x.row,.agg y.row] (.one (.c (vb (x=y)) 1)):=by
 refine aF aw Tryz.func152 al rfl rfl rfl (ai rfl) (λw0 base=>?_);unfold cH at h;obtain⟨a0,a1,a2,a3⟩:=x;obtain⟨b0,b1,b2,b3⟩:=y;simp only at h;simp[Answer.row]
 try intros
 by_cases h0:a0=b0
 rotate_left
 ·simp[h0]
 subst h0
 try simp
 by_cases h1:a1=b1
 rotate_left
 ·simp[h1]
 subst h1
 try simp
 refine ag.pure (mu a2 b2 aa) ab ?_;simp;exact ND
theorem Jm(x:Answer)(h:x.fits)(left:Nat)(hf:left<=2^20):ar Tryz.prog 108 [.agg x.row,.c (vi left)] (.one (.c (vi (szR (cH x) left)) 1)):=by
 refine aF aw Tryz.func108 al rfl rfl rfl (ai rfl) (λw0 base=>?_);obtain⟨f0,f1,f2,f3⟩:=h;obtain⟨r,hr⟩:∃r,szR (cH x) left=r:=⟨_,rfl⟩;rw[hr];have hn:cH x=x.text.length+(nL aZ x.list):=rfl;simp[Answer.row]
 try intros
 refine ag.pure (po x.text f2.1 left aa) ab ?_;by_cases k0:x.text.length<=left
 rotate_left
 ·exact pX
 rw[dY k0];obtain⟨m0,hm0⟩:∃m,left-x.text.length=m:=⟨_,rfl⟩;rw[hm0];simp;refine ag.pure (uu x.list f3.1 f3.2 m0 aa) ab ?_;by_cases k1:nL aZ x.list<=m0
 rotate_left
 ·exact om
 rw[dY k1];obtain⟨m1,hm1⟩:∃m,m0-nL aZ x.list=m:=⟨_,rfl⟩;exact vh
theorem RX(x:Call)(h:dX x<=2^40):ar Tryz.prog 128 [.agg x.row] (.one (.agg x.res)):=by
 refine aF aw Tryz.func128 al rfl rfl rfl (ai rfl) (λw0 base=>?_);unfold dX at h;simp[Call.row,Call.res]
 try intros
 refine ag.pure (Cl x.o aa) ab ?_;simp
 try intros
 refine ag.pure (gG x.text aa) ab ?_;simp
 try intros
theorem UF(x y:Call)(h:dX x<=2^40):ar Tryz.prog 151 [.agg x.row,.agg y.row] (.one (.c (vb (x=y)) 1)):=by
 refine aF aw Tryz.func151 al rfl rfl rfl (ai rfl) (λw0 base=>?_);unfold dX at h;obtain⟨a0,a1,a2,a3,a4,a5,a6⟩:=x;obtain⟨b0,b1,b2,b3,b4,b5,b6⟩:=y;simp only at h;simp[Call.row]
 try intros
 by_cases h0:a0=b0
 rotate_left
 ·simp[h0]
 subst h0
 try simp
 by_cases h1:a1=b1
 rotate_left
 ·simp[h1]
 subst h1
 try simp
 by_cases h2:a2=b2
 rotate_left
 ·simp[h2]
 subst h2
 try simp
 by_cases h3:a3=b3
 rotate_left
 ·simp[h3]
 subst h3
 try simp
 by_cases h4:a4=b4
 rotate_left
 ·simp[h4]
 subst h4
 try simp
 refine ag.pure (Df a5 b5 aa) ab ?_;simp;by_cases h5:a5=b5
 rotate_left
 ·simp[h5]
 subst h5
 try simp
 refine ag.pure (mu a6 b6 aa) ab ?_;simp;by_cases h6:a6=b6
 rotate_left
 ·simp[h6]
 subst h6
 try simp
theorem SL(x:Call)(h:x.fits)(left:Nat)(hf:left<=2^20):ar Tryz.prog 107 [.agg x.row,.c (vi left)] (.one (.c (vi (szR (dX x) left)) 1)):=by
 refine aF aw Tryz.func107 al rfl rfl rfl (ai rfl) (λw0 base=>?_);obtain⟨f0,f1,f2,f3,f4,f5,f6⟩:=h;obtain⟨r,hr⟩:∃r,szR (dX x) left=r:=⟨_,rfl⟩;rw[hr];have hn:dX x=x.doc.size+(nL bc x.o+(x.text.length)):=rfl;simp[Call.row]
 try intros
 by_cases k0:x.doc.size<=left
 rotate_left
 ·exact EU
 obtain⟨m0,hm0⟩:∃m,left-x.doc.size=m:=⟨_,rfl⟩;have w0:IntKind.i64.wrap ((left:Int)-(x.doc.size:Int))=(m0:Int):=by rw[fS _ aa];omega
 simp[w0];refine ag.pure (Cp x.o f5.1 f5.2 m0 aa) ab ?_;by_cases k1:nL bc x.o<=m0
 rotate_left
 ·exact om
 rw[dY k1];obtain⟨m1,hm1⟩:∃m,m0-nL bc x.o=m:=⟨_,rfl⟩;rw[hm1];simp;refine ag.pure (po x.text f6.1 m1 aa) ab ?_;by_cases k2:x.text.length<=m1
 rotate_left
 ·exact Em
 rw[dY k2];obtain⟨m2,hm2⟩:∃m,m1-x.text.length=m:=⟨_,rfl⟩;rw[hm2];have:r=(m2:Int):=by rw[<-hr,dY aa];omega
 simp[this]
theorem RO(x:Task)(h:dq x<=2^36):ar Tryz.prog 74 [.agg x.row] (.one (.agg x.res)):=by
 refine aF aw Tryz.func74 al rfl rfl rfl (ai rfl) (λw0 base=>?_);unfold dq at h;simp[Task.row,Task.res]
 try intros
 refine ag.pure (RX x.c aa) i4 ?_;simp[Call.res]
 try intros
 refine ag.pure (Jj x.a aa) mM ?_;simp[Answer.res]
 try intros
theorem Uz(x y:Task)(h:dq x<=2^36):ar Tryz.prog 92 [.agg x.row,.agg y.row] (.one (.c (vb (x=y)) 1)):=by
 refine aF aw Tryz.func92 al rfl rfl rfl (ai rfl) (λw0 base=>?_);unfold dq at h;obtain⟨a0,a1,a2,a3,a4,a5⟩:=x;obtain⟨b0,b1,b2,b3,b4,b5⟩:=y;simp only at h;simp[Task.row]
 try intros
 refine ag.pure (UF a0 b0 aa) i4 ?_;simp;by_cases h0:a0=b0
 rotate_left
 ·simp[h0]
 subst h0
 try simp
 by_cases h1:a1=b1
 rotate_left
 ·simp[h1]
 subst h1
 try simp
 by_cases h2:a2=b2
 rotate_left
 ·simp[h2]
 subst h2
 try simp
 by_cases h3:a3=b3
 rotate_left
 ·simp[h3]
 subst h3
 try simp
 by_cases h4:a4=b4
 rotate_left
 ·simp[h4]
 subst h4
 try simp
 refine ag.pure (Ko a5 b5 aa) mM ?_;simp;by_cases h5:a5=b5
 rotate_left
 ·simp[h5]
 subst h5
 try simp
theorem SG(x:Task)(h:x.fits)(left:Nat)(hf:left<=2^20):ar Tryz.prog 58 [.agg x.row,.c (vi left)] (.one (.c (vi (szR (dq x) left)) 1)):=by
 refine aF aw Tryz.func58 al rfl rfl rfl (ai rfl) (λw0 base=>?_);obtain⟨f0,f1,f2,f3,f4,f5⟩:=h;obtain⟨r,hr⟩:∃r,szR (dq x) left=r:=⟨_,rfl⟩;rw[hr];have hn:dq x=dX x.c+(cH x.a):=rfl;simp[Task.row]
 try intros
 refine ag.pure (SL x.c f0 left aa) i4 ?_;by_cases k0:dX x.c<=left
 rotate_left
 ·exact pX
 rw[dY k0];obtain⟨m0,hm0⟩:∃m,left-dX x.c=m:=⟨_,rfl⟩;rw[hm0];simp;refine ag.pure (Jm x.a f5 m0 aa) mM ?_;by_cases k1:cH x.a<=m0
 rotate_left
 ·exact om
 rw[dY k1];obtain⟨m1,hm1⟩:∃m,m0-cH x.a=m:=⟨_,rfl⟩;exact vh
theorem PD(l:List Task)(hl:nL dq l<=2^36):ar Tryz.prog 30 [.c (.s (l.map Task.row))] (.one (.c (.s (l.map Task.row)) 15)):=by
 refine aF aw Tryz.func30 al rfl rfl rfl (ai rfl) (λw0 base=>?_);have hle:=aS hl;simp;refine⟨aa,λb=>?_⟩
 refine aV.intro eok (λi:Nat=>i<=l.length) (λi=>⟨23,0,[(4,.v (.int .i64 i)),(3,.sl 112 (some (b,0,l.length)) 15 0 l.length),(0,.ro (l.map Task.row))],
  [(112,.rows (some (b,0,l.length)) 15 (mo Task.row [.v (.int .i64 0),.v (.string ⟨#[]⟩),.v (.int .i64 0),.v (.int .i64 0),.v (.int .i64 0),.s [],.s [],.v (.int .i64 0),.v (.int .i64 0),.v (.int .i64 0),.v (.int .i64 0),.v (.int .i64 0),.v (.int .i64 0),.s [],.s []] l i) true)]⟩) (λi=>l.length-i) 0 ab n9 (λi hi=>?_)
 by_cases h:i<l.length
 ·simp[h,Task.row]
  refine ag.pure (RO l[i] (cT hl h)) lW ?_;simp[Task.res,gO hi,h];exact⟨i+1,aa,aa,aR aa,kH (f:=Task.row) h⟩
 ·exact pY
theorem Q4(a b:List Task)(hl:nL dq a<=2^36):ar Tryz.prog 41 [.c (.s (a.map Task.row)),.c (.s (b.map Task.row))] (.one (.c (vb (a=b)) 1)):=by
 refine aF aw Tryz.func41 al rfl rfl rfl (ai rfl) (λw0 base=>?_);have hle:=aS hl;by_cases h:a.length=b.length
 ·simp[h]
  refine aV.intro eok (λi:Nat=>i<=a.length/\a.take i=b.take i) (λi=>⟨27,0,[(5,.v (.int .i64 i)),(1,.ro (b.map Task.row)),(0,.ro (a.map Task.row))],[]⟩) (λi=>a.length-i) 0 ab ab (λi hi=>?_);by_cases hlt:i<a.length
  ·simp[hlt]
   have hlt':i<b.length:=aa;refine aY.quiet eok mix al ?_;simp[hlt,hlt',Task.row];refine⟨_,_,Uz a[i] b[i] (cT hl hlt),lW,?_⟩;exact mR
  ·exact oh
 ·exact j5
theorem PJ(l:List Task)(hl:l.length<=9223372036854775807)(hs:∀y∈l,y.fits)(left:Nat)(hf:left<=2^20):ar Tryz.prog 20 [.c (.s (l.map Task.row)),.c (vi left)] (.one (.c (vi (szR (nL dq l) left)) 1)):=by
 refine aF aw Tryz.func20 al rfl rfl rfl (ai rfl) (λw0 base=>?_);have hw:IntKind.i64.wrap ((left:Int)-(l.length:Int))=(left:Int)-l.length:=fS _ aa;have hn:nL dq l=l.length+cK dq l:=rfl;by_cases h:l.length<=left
 ·obtain⟨lf,hlf⟩:∃lf:Nat,left-l.length=lf:=⟨_,rfl⟩
  have hlz:(left:Int)-l.length=(lf:Int):=aa;have hw2:IntKind.i64.wrap (lf:Int)=lf:=fE aa;simp[hlz,hw2];obtain⟨r,hr⟩:∃r,szR (nL dq l) left=r:=⟨_,rfl⟩;have hr0:szR (cK dq l) lf=r:=sE;rw[hr];refine aV.intro eok (λx:Nat×Nat=>x.1<=l.length/\x.2<=2^20/\szR (cK dq (l.drop x.1)) x.2=r) (λx=>⟨27,0,[(5,.v (.int .i64 x.1)),(1,.v (.int .i64 x.2)),(0,.ro (l.map Task.row))],[]⟩) (λx=>l.length-x.1) (0,lf) sD ab ?_
  rintro⟨i,m⟩ ⟨hi,hm,hx⟩
  simp only at hi hm hx⊢;by_cases hlt:i<l.length
  ·rw[lJ hlt]at hx
   simp[hlt,Task.row];refine ag.pure (SG l[i] (hs _ (ak hlt)) m hm) lW ?_;by_cases hk:dq l[i]<=m
   ·rw[dY hk]
    have hz:¬((m-dq l[i]:Nat):Int)<0:=aa;simp[hz];refine⟨i+1,m-dq l[i],⟨aa,aa,?_⟩,aa,aR aa,rfl⟩;exact sM
   ·rw[fq (show ¬dq l[i]+cK dq (l.drop (i+1))<=m from aa)]at hx
    exact sI
  ·exact sR
 ·have hz:(left:Int)-l.length<0:=by omega
  simp[hw,hz,fq (show ¬nL dq l<=left from aa)]
theorem HM(l:List Task)(k:Int)(h0:0<=k)(hk:k+aQ Task.cnt l<=4611686018427387904)(hl:nL dq l<=2^36):je Tryz.prog 44 (.c (.s (l.map Task.row)) 15) k (k+aQ Task.cnt l) (.c (.s ((aM Task.mark Task.cnt l k).map Task.row)) 15):=by
 refine je.intro aw Tryz.func44 al rfl rfl rfl ah (λw0 base=>?_);have hle:=aS hl;simp;intro H;refine aE eok (λi:Nat=>i<=l.length) (λi=>⟨130,0,[(5,.v (.int .i64 i)),(1,.v (.int .i64 (k+aQ Task.cnt (l.take i)))),(0,.ml 0 H 15 l.length)],[(0,.rows H 15 (bT Task.mark Task.cnt Task.row l k i) true)]⟩) (λi=>l.length-i) 0 ab pP (λi hi=>?_);by_cases h:i<l.length
 ·have hc:=cY (cn:=Task.cnt) h
  have hs:=cD (cn:=Task.cnt) h;have hni:=cT hl h;simp only[dq,dX,cH]at hni;obtain⟨q0,hq0⟩:∃q,k+((aQ Task.cnt (l.take i):Nat):Int)=q:=⟨_,rfl⟩;have hpc:l[i].cnt=11+(aQ Part.cnt l[i].c.o+(l[i].c.text.length+(l[i].a.text.length+(aQ Entry.cnt l[i].a.list)))):=rfl;rw[hq0,<-hI h];have e0:Go.IntKind.i64.wrap q0=q0:=ae _ aa;obtain⟨q1,hq1⟩:∃q,q0+1=q:=⟨_,rfl⟩;have e1:Go.IntKind.i64.wrap q1=q1:=ae _ aa;obtain⟨q2,hq2⟩:∃q,q1+1=q:=⟨_,rfl⟩;have e2:Go.IntKind.i64.wrap q2=q2:=ae _ aa;obtain⟨q3,hq3⟩:∃q,q2+1=q:=⟨_,rfl⟩;have e3:Go.IntKind.i64.wrap q3=q3:=ae _ aa;obtain⟨q4,hq4⟩:∃q,q3+1=q:=⟨_,rfl⟩
  have e4:Go.IntKind.i64.wrap q4=q4:=ae _ aa;obtain⟨q5,hq5⟩:∃q,q4+1=q:=⟨_,rfl⟩;have e5:Go.IntKind.i64.wrap q5=q5:=ae _ aa;obtain⟨q6,hq6⟩:∃q,q5+((aQ Part.cnt l[i].c.o:Nat):Int)=q:=⟨_,rfl⟩;have e6:Go.IntKind.i64.wrap q6=q6:=ae _ aa;obtain⟨q7,hq7⟩:∃q,q6+((l[i].c.text.length:Nat):Int)=q:=⟨_,rfl⟩;have e7:Go.IntKind.i64.wrap q7=q7:=ae _ aa;obtain⟨q8,hq8⟩:∃q,q7+1=q:=⟨_,rfl⟩;have e8:Go.IntKind.i64.wrap q8=q8:=ae _ aa;obtain⟨q9,hq9⟩:∃q,q8+1=q:=⟨_,rfl⟩;have e9:Go.IntKind.i64.wrap q9=q9:=ae _ aa;obtain⟨q10,hq10⟩:∃q,q9+1=q:=⟨_,rfl⟩;have e10:Go.IntKind.i64.wrap q10=q10:=ae _ aa
  obtain⟨q11,hq11⟩:∃q,q10+1=q:=⟨_,rfl⟩;have e11:Go.IntKind.i64.wrap q11=q11:=ae _ aa;obtain⟨q12,hq12⟩:∃q,q11+1=q:=⟨_,rfl⟩;have e12:Go.IntKind.i64.wrap q12=q12:=ae _ aa;obtain⟨q13,hq13⟩:∃q,q12+1=q:=⟨_,rfl⟩;have e13:Go.IntKind.i64.wrap q13=q13:=ae _ aa;obtain⟨q14,hq14⟩:∃q,q13+((l[i].a.text.length:Nat):Int)=q:=⟨_,rfl⟩;have e14:Go.IntKind.i64.wrap q14=q14:=ae _ aa;obtain⟨q15,hq15⟩:∃q,q14+((aQ Entry.cnt l[i].a.list:Nat):Int)=q:=⟨_,rfl⟩;have e15:Go.IntKind.i64.wrap q15=q15:=ae _ aa;have e:Go.IntKind.i64.wrap ((i:Int)+1)=((i+1:Nat):Int):=aR aa
  refine Ent.open (λ_ h=>h) (k:=0) (i:=i) (j:=5) (k':=905) (sz':=3) (sz:=15) (H:=H) (rows:=((bT Task.mark Task.cnt Task.row l k i).set i l[i].row)) (srows:=l[i].c.o.map Part.row) (row:=l[i].row) ab eX rfl ab ah gw ab (λH5=>?_)
  refine Ent.open (λ_ h=>h) (k:=0) (i:=i) (j:=6) (k':=906) (sz':=1) (sz:=15) (H:=H) (rows:=((bT Task.mark Task.cnt Task.row l k i).set i [vi l[i].c.kind,.v (.string l[i].c.doc),vi l[i].c.client,vi l[i].c.seq,vi l[i].c.n,.h 905 H5 3 l[i].c.o.length,.s (l[i].c.text.map aG),vi l[i].pc,vi l[i].inv,vi l[i].lin,vi l[i].rs,vi l[i].a.code,vi l[i].a.rev,.s (l[i].a.text.map aG),.s (l[i].a.list.map Entry.row)])) (srows:=l[i].c.text.map aG) (row:=[vi l[i].c.kind,.v (.string l[i].c.doc),vi l[i].c.client,vi l[i].c.seq,vi l[i].c.n,.h 905 H5 3 l[i].c.o.length,.s (l[i].c.text.map aG),vi l[i].pc,vi l[i].inv,vi l[i].lin,vi l[i].rs,vi l[i].a.code,vi l[i].a.rev,.s (l[i].a.text.map aG),.s (l[i].a.list.map Entry.row)]) sw eX rfl ab ah i5 ab (λH6=>?_)
  refine Ent.open (λ_ h=>h) (k:=0) (i:=i) (j:=13) (k':=913) (sz':=1) (sz:=15) (H:=H) (rows:=((bT Task.mark Task.cnt Task.row l k i).set i [vi l[i].c.kind,.v (.string l[i].c.doc),vi l[i].c.client,vi l[i].c.seq,vi l[i].c.n,.h 905 H5 3 l[i].c.o.length,.h 906 H6 1 l[i].c.text.length,vi l[i].pc,vi l[i].inv,vi l[i].lin,vi l[i].rs,vi l[i].a.code,vi l[i].a.rev,.s (l[i].a.text.map aG),.s (l[i].a.list.map Entry.row)])) (srows:=l[i].a.text.map aG) (row:=[vi l[i].c.kind,.v (.string l[i].c.doc),vi l[i].c.client,vi l[i].c.seq,vi l[i].c.n,.h 905 H5 3 l[i].c.o.length,.h 906 H6 1 l[i].c.text.length,vi l[i].pc,vi l[i].inv,vi l[i].lin,vi l[i].rs,vi l[i].a.code,vi l[i].a.rev,.s (l[i].a.text.map aG),.s (l[i].a.list.map Entry.row)]) sw eX rfl ab ah i5 ab (λH13=>?_)
  refine Ent.open (λ_ h=>h) (k:=0) (i:=i) (j:=14) (k':=914) (sz':=3) (sz:=15) (H:=H) (rows:=((bT Task.mark Task.cnt Task.row l k i).set i [vi l[i].c.kind,.v (.string l[i].c.doc),vi l[i].c.client,vi l[i].c.seq,vi l[i].c.n,.h 905 H5 3 l[i].c.o.length,.h 906 H6 1 l[i].c.text.length,vi l[i].pc,vi l[i].inv,vi l[i].lin,vi l[i].rs,vi l[i].a.code,vi l[i].a.rev,.h 913 H13 1 l[i].a.text.length,.s (l[i].a.list.map Entry.row)])) (srows:=l[i].a.list.map Entry.row) (row:=[vi l[i].c.kind,.v (.string l[i].c.doc),vi l[i].c.client,vi l[i].c.seq,vi l[i].c.n,.h 905 H5 3 l[i].c.o.length,.h 906 H6 1 l[i].c.text.length,vi l[i].pc,vi l[i].inv,vi l[i].lin,vi l[i].rs,vi l[i].a.code,vi l[i].a.rev,.h 913 H13 1 l[i].a.text.length,.s (l[i].a.list.map Entry.row)]) sw eX rfl ab ah fB ab (λH14=>?_);refine Ent.refl ?_
  simp[h,bR,Task.row,dK,bf,hq1,e1];refine ag.pure (fL q1 aa aa) ab ?_;simp[h,bR,bf,hq2,e2,hq3,e3,hq4,e4,hq5,e5];refine ag.mark (mj l[i].c.o q5 aa aa aa) rfl (λ_ h=>h) ab ?_;simp[h,bR,hq6];refine ag.mark (fh l[i].c.text q6 aa aa) rfl (λ_ h=>h) ab ?_;simp[h,bR,bf,hq7,hq8,e8,hq9,e9,hq10,e10,hq11,e11,hq12,e12,hq13,e13];refine ag.mark (fh l[i].a.text q13 aa aa) rfl (λ_ h=>h) ab ?_;simp[h,bR,hq14];refine ag.mark (jI l[i].a.list q14 aa aa aa) rfl (λ_ h=>h) ab ?_;simp[e,hq15]
  refine dO (k:=0) (i:=i) (j:=5) (k':=905) (sz':=3) (sz:=15) (H:=H) (rows:=(bT Task.mark Task.cnt Task.row l k i).set i [vi q0,.v (.string (markT q1)),vi q2,vi q3,vi q4,.h 905 H5 3 l[i].c.o.length,.h 906 H6 1 l[i].c.text.length,vi q7,vi q8,vi q9,vi q10,vi q11,vi q12,.h 913 H13 1 l[i].a.text.length,.h 914 H14 3 l[i].a.list.length]) (row:=[vi q0,.v (.string (markT q1)),vi q2,vi q3,vi q4,.h 905 H5 3 l[i].c.o.length,.h 906 H6 1 l[i].c.text.length,vi q7,vi q8,vi q9,vi q10,vi q11,vi q12,.h 913 H13 1 l[i].a.text.length,.h 914 H14 3 l[i].a.list.length]) (H':=H5) (srows:=(aM Part.mark Part.cnt l[i].c.o q5).map Part.row) ab eX fC ab ah ab ?_
  refine dO (k:=0) (i:=i) (j:=6) (k':=906) (sz':=1) (sz:=15) (H:=H) (rows:=(bT Task.mark Task.cnt Task.row l k i).set i [vi q0,.v (.string (markT q1)),vi q2,vi q3,vi q4,.s ((aM Part.mark Part.cnt l[i].c.o q5).map Part.row),.h 906 H6 1 l[i].c.text.length,vi q7,vi q8,vi q9,vi q10,vi q11,vi q12,.h 913 H13 1 l[i].a.text.length,.h 914 H14 3 l[i].a.list.length]) (row:=[vi q0,.v (.string (markT q1)),vi q2,vi q3,vi q4,.s ((aM Part.mark Part.cnt l[i].c.o q5).map Part.row),.h 906 H6 1 l[i].c.text.length,vi q7,vi q8,vi q9,vi q10,vi q11,vi q12,.h 913 H13 1 l[i].a.text.length,.h 914 H14 3 l[i].a.list.length]) (H':=H6) (srows:=(aM fk one l[i].c.text q6).map aG) kU eX fC ab ah ab ?_
  refine dO (k:=0) (i:=i) (j:=13) (k':=913) (sz':=1) (sz:=15) (H:=H) (rows:=(bT Task.mark Task.cnt Task.row l k i).set i [vi q0,.v (.string (markT q1)),vi q2,vi q3,vi q4,.s ((aM Part.mark Part.cnt l[i].c.o q5).map Part.row),.s ((aM fk one l[i].c.text q6).map aG),vi q7,vi q8,vi q9,vi q10,vi q11,vi q12,.h 913 H13 1 l[i].a.text.length,.h 914 H14 3 l[i].a.list.length]) (row:=[vi q0,.v (.string (markT q1)),vi q2,vi q3,vi q4,.s ((aM Part.mark Part.cnt l[i].c.o q5).map Part.row),.s ((aM fk one l[i].c.text q6).map aG),vi q7,vi q8,vi q9,vi q10,vi q11,vi q12,.h 913 H13 1 l[i].a.text.length,.h 914 H14 3 l[i].a.list.length]) (H':=H13) (srows:=(aM fk one l[i].a.text q13).map aG) kU eX fC ab ah ab ?_
  refine dO (k:=0) (i:=i) (j:=14) (k':=914) (sz':=3) (sz:=15) (H:=H) (rows:=(bT Task.mark Task.cnt Task.row l k i).set i [vi q0,.v (.string (markT q1)),vi q2,vi q3,vi q4,.s ((aM Part.mark Part.cnt l[i].c.o q5).map Part.row),.s ((aM fk one l[i].c.text q6).map aG),vi q7,vi q8,vi q9,vi q10,vi q11,vi q12,.s ((aM fk one l[i].a.text q13).map aG),.h 914 H14 3 l[i].a.list.length]) (row:=[vi q0,.v (.string (markT q1)),vi q2,vi q3,vi q4,.s ((aM Part.mark Part.cnt l[i].c.o q5).map Part.row),.s ((aM fk one l[i].c.text q6).map aG),vi q7,vi q8,vi q9,vi q10,vi q11,vi q12,.s ((aM fk one l[i].a.text q13).map aG),.h 914 H14 3 l[i].a.list.length]) (H':=H14) (srows:=(aM Entry.mark Entry.cnt l[i].a.list q14).map Entry.row) kU eX fC ab ah ab ?_
  refine Ent.refl ⟨i+1,aa,aa,?_⟩;simp[dK,hs,hpc];refine⟨aa,?_⟩;refine gZ h ?_;rw[hq0];subst hq1 hq2 hq3 hq4 hq5 hq6 hq7 hq8 hq9 hq10 hq11 hq12 hq13 hq14 hq15;rfl
 ·have:i=l.length:=by omega
  subst this;refine Ent.refl ?_;simp[hJ,aK,Task.row]
theorem Iq(l:List Task)(k:Int)(h0:0<=k)(hk:k+aQ Task.cnt l<=4611686018427387904)(hl:nL dq l<=2^36):ar Tryz.prog 48 [.c (.s ((aM Task.mark Task.cnt l k).map Task.row)),.c (vi k)] (.one (.c (vi (k+aQ Task.cnt l)) 1)):=by
 refine aF aw Tryz.func48 al rfl rfl rfl (ai rfl) (λw0 base=>?_);have hle:=aS hl;simp;refine aV.intro eok (λi:Nat=>i<=l.length) (λi=>⟨160,0,[(5,.v (.int .i64 i)),(1,.v (.int .i64 (k+aQ Task.cnt (l.take i)))),(0,.ro ((aM Task.mark Task.cnt l k).map Task.row))],[]⟩) (λi=>l.length-i) 0 ab jZ (λi hi=>?_);by_cases h:i<l.length
 ·have hc:=cY (cn:=Task.cnt) h
  have hs:=cD (cn:=Task.cnt) h;have hni:=cT hl h;simp only[dq,dX,cH]at hni;have hm:=jo (mk:=Task.mark) (cn:=Task.cnt) (k:=k) h;obtain⟨q0,hq0⟩:∃q,k+((aQ Task.cnt (l.take i):Nat):Int)=q:=⟨_,rfl⟩;have hpc:l[i].cnt=11+(aQ Part.cnt l[i].c.o+(l[i].c.text.length+(l[i].a.text.length+(aQ Entry.cnt l[i].a.list)))):=rfl;rw[hq0]at hm;rw[hq0];have z0:¬q0<0:=aa;have e0:Go.IntKind.i64.wrap q0=q0:=ae _ aa;obtain⟨q1,hq1⟩:∃q,q0+1=q:=⟨_,rfl⟩;have e1:Go.IntKind.i64.wrap q1=q1:=ae _ aa;have z1:¬q1<0:=aa;obtain⟨q2,hq2⟩:∃q,q1+1=q:=⟨_,rfl⟩;have e2:Go.IntKind.i64.wrap q2=q2:=ae _ aa;have z2:¬q2<0:=aa;obtain⟨q3,hq3⟩:∃q,q2+1=q:=⟨_,rfl⟩
  have e3:Go.IntKind.i64.wrap q3=q3:=ae _ aa;have z3:¬q3<0:=aa;obtain⟨q4,hq4⟩:∃q,q3+1=q:=⟨_,rfl⟩;have e4:Go.IntKind.i64.wrap q4=q4:=ae _ aa;have z4:¬q4<0:=aa;obtain⟨q5,hq5⟩:∃q,q4+1=q:=⟨_,rfl⟩;have e5:Go.IntKind.i64.wrap q5=q5:=ae _ aa;have z5:¬q5<0:=aa;obtain⟨q6,hq6⟩:∃q,q5+((aQ Part.cnt l[i].c.o:Nat):Int)=q:=⟨_,rfl⟩;have e6:Go.IntKind.i64.wrap q6=q6:=ae _ aa;have z6:¬q6<0:=aa;obtain⟨q7,hq7⟩:∃q,q6+((l[i].c.text.length:Nat):Int)=q:=⟨_,rfl⟩;have e7:Go.IntKind.i64.wrap q7=q7:=ae _ aa;have z7:¬q7<0:=aa;obtain⟨q8,hq8⟩:∃q,q7+1=q:=⟨_,rfl⟩;have e8:Go.IntKind.i64.wrap q8=q8:=ae _ aa
  have z8:¬q8<0:=aa;obtain⟨q9,hq9⟩:∃q,q8+1=q:=⟨_,rfl⟩;have e9:Go.IntKind.i64.wrap q9=q9:=ae _ aa;have z9:¬q9<0:=aa;obtain⟨q10,hq10⟩:∃q,q9+1=q:=⟨_,rfl⟩;have e10:Go.IntKind.i64.wrap q10=q10:=ae _ aa;have z10:¬q10<0:=aa;obtain⟨q11,hq11⟩:∃q,q10+1=q:=⟨_,rfl⟩;have e11:Go.IntKind.i64.wrap q11=q11:=ae _ aa;have z11:¬q11<0:=aa;obtain⟨q12,hq12⟩:∃q,q11+1=q:=⟨_,rfl⟩;have e12:Go.IntKind.i64.wrap q12=q12:=ae _ aa;have z12:¬q12<0:=aa;obtain⟨q13,hq13⟩:∃q,q12+1=q:=⟨_,rfl⟩;have e13:Go.IntKind.i64.wrap q13=q13:=ae _ aa;have z13:¬q13<0:=aa;obtain⟨q14,hq14⟩:∃q,q13+((l[i].a.text.length:Nat):Int)=q:=⟨_,rfl⟩
  have e14:Go.IntKind.i64.wrap q14=q14:=ae _ aa;have z14:¬q14<0:=aa;obtain⟨q15,hq15⟩:∃q,q14+((aQ Entry.cnt l[i].a.list:Nat):Int)=q:=⟨_,rfl⟩;have e15:Go.IntKind.i64.wrap q15=q15:=ae _ aa;have z15:¬q15<0:=aa;have e:Go.IntKind.i64.wrap ((i:Int)+1)=((i+1:Nat):Int):=aR aa;simp[h,aK,hm,Task.row,Task.mark,hq1,e1,hq2,hq3,hq4,hq5,hq6,hq7,hq8,hq9,hq10,hq11,hq12,hq13,hq14];refine aY.quiet eok mix al ?_;simp[h,aK,hm,Task.row,Task.mark,hq1,hq2,hq3,hq4,hq5,hq6,hq7,hq8,hq9,hq10,hq11,hq12,hq13,hq14];refine⟨_,_,fL q1 aa aa,ab,?_⟩;simp[h,aK,hm,Task.row,Task.mark,hq1,hq2,e2,hq3,e3,hq4,e4,hq5,e5,hq6,hq7,hq8,hq9,hq10,hq11,hq12,hq13,hq14]
  refine ag.pure (xM l[i].c.o q5 aa aa aa) ab ?_;simp[h,aK,hm,Task.row,Task.mark,hq1,hq2,hq3,hq4,hq5,hq6,z6,hq7,hq8,hq9,hq10,hq11,hq12,hq13,hq14];refine ag.pure (lO l[i].c.text q6 aa aa) ab ?_;simp[h,aK,hm,Task.row,Task.mark,hq1,hq2,hq3,hq4,hq5,hq6,hq7,z7,hq8,e8,hq9,e9,hq10,e10,hq11,e11,hq12,e12,hq13,e13,hq14];refine ag.pure (lO l[i].a.text q13 aa aa) ab ?_;simp[h,aK,hm,Task.row,Task.mark,hq1,hq2,hq3,hq4,hq5,hq6,hq7,hq8,hq9,hq10,hq11,hq12,hq13,hq14,z14];refine ag.pure (qq l[i].a.list q14 aa aa aa) ab ?_;simp[hq15,z15];exact pW
 ·exact oj
theorem kz(x:Wld)(h:bY x<=2^36):ar Tryz.prog 7 [.agg x.row] (.one (.agg x.res)):=by
 refine aF aw Tryz.func7 al rfl rfl rfl (ai rfl) (λw0 base=>?_);unfold bY at h;simp[Wld.row,Wld.res]
 try intros
 refine ag.pure (VT x.h aa) bp ?_;simp[Hub.res]
 try intros
 refine ag.pure (gG x.locks aa) ab ?_;simp
 try intros
 refine ag.pure (Jh x.queues aa) ab ?_;simp
 try intros
 refine ag.pure (PD x.tasks aa) ab ?_;simp
 try intros
theorem kM(x y:Wld)(h:bY x<=2^36):ar Tryz.prog 9 [.agg x.row,.agg y.row] (.one (.c (vb (x=y)) 1)):=by
 refine aF aw Tryz.func9 al rfl rfl rfl (ai rfl) (λw0 base=>?_);unfold bY at h;obtain⟨a0,a1,a2,a3,a4⟩:=x;obtain⟨b0,b1,b2,b3,b4⟩:=y;simp only at h;simp[Wld.row]
 try intros
 refine ag.pure (Xk a0 b0 aa) bp ?_;simp;by_cases h0:a0=b0
 rotate_left
 ·simp[h0]
 subst h0
 try simp
 refine ag.pure (mu a1 b1 aa) ab ?_;simp;by_cases h1:a1=b1
 rotate_left
 ·simp[h1]
 subst h1
 try simp
 refine ag.pure (Kn a2 b2 aa) ab ?_;simp;by_cases h2:a2=b2
 rotate_left
 ·simp[h2]
 subst h2
 try simp
 refine ag.pure (Q4 a3 b3 aa) ab ?_;simp;by_cases h3:a3=b3
 rotate_left
 ·simp[h3]
 subst h3
 try simp
 by_cases h4:a4=b4
 rotate_left
 ·simp[h4]
 subst h4
 try simp
theorem Co(x:Wld)(h:x.fits)(left:Nat)(hf:left<=2^20):ar Tryz.prog 5 [.agg x.row,.c (vi left)] (.one (.c (vi (szR (bY x) left)) 1)):=by
 refine aF aw Tryz.func5 al rfl rfl rfl (ai rfl) (λw0 base=>?_);obtain⟨f0,f1,f2,f3,f4⟩:=h;obtain⟨r,hr⟩:∃r,szR (bY x) left=r:=⟨_,rfl⟩;rw[hr];have hn:bY x=dk x.h+(x.locks.length+(nL ca x.queues+(nL dq x.tasks))):=rfl;simp[Wld.row]
 try intros
 refine ag.pure (V0 x.h f0 left aa) bp ?_;by_cases k0:dk x.h<=left
 rotate_left
 ·exact pX
 rw[dY k0];obtain⟨m0,hm0⟩:∃m,left-dk x.h=m:=⟨_,rfl⟩;rw[hm0];simp;refine ag.pure (po x.locks f1.1 m0 aa) ab ?_;by_cases k1:x.locks.length<=m0
 rotate_left
 ·exact om
 rw[dY k1];obtain⟨m1,hm1⟩:∃m,m0-x.locks.length=m:=⟨_,rfl⟩;rw[hm1];simp;refine ag.pure (Jl x.queues f2.1 f2.2 m1 aa) ab ?_;by_cases k2:nL ca x.queues<=m1
 rotate_left
 ·exact Em
 rw[dY k2];obtain⟨m2,hm2⟩:∃m,m1-nL ca x.queues=m:=⟨_,rfl⟩;rw[hm2];simp;refine ag.pure (PJ x.tasks f3.1 f3.2 m2 aa) ab ?_;by_cases k3:nL dq x.tasks<=m2
 rotate_left
 ·exact LV
 rw[dY k3];obtain⟨m3,hm3⟩:∃m,m2-nL dq x.tasks=m:=⟨_,rfl⟩;exact LY
theorem rB(x:Wld)(k:Int)(h0:0<=k)(hk:k+x.cntT<=4611686018427387904)(hl:bY x<=2^36):je Tryz.prog 10 (.agg x.res) k (k+x.cntT) (.agg (x.markT k).res):=by
 refine je.intro aw Tryz.func10 al rfl rfl rfl ah (λw0 base=>?_);simp only[Wld.cntT]at hk;unfold bY at hl;have hs_h:x.h.cntT=aQ Doc.cnt x.h.docs+(aQ Sub.cnt x.h.subs):=rfl;simp[Wld.res]
 try intros
 refine ag.mark (Ql x.h (k) aa aa aa) rfl (λ_ h=>h) ab ?_;simp[Hub.res,Hub.markT];refine ag.mark (fh x.locks (k+((x.h.cntT:Nat):Int)) aa aa) rfl (λ_ h=>h) ab ?_;simp;refine ag.mark (vD x.queues (k+((x.h.cntT:Nat):Int)+((x.locks.length:Nat):Int)) aa aa aa) rfl (λ_ h=>h) ab ?_;simp;refine ag.mark (HM x.tasks (k+((x.h.cntT:Nat):Int)+((x.locks.length:Nat):Int)+((aQ Queue.cnt x.queues:Nat):Int)) aa aa aa) rfl (λ_ h=>h) ab ?_;simp;simp[Wld.markT,Wld.cntT,aK,Hub.cntT,GT]
 try omega
theorem oB(x:Wld)(k:Int)(h0:0<=k)(hk:k+x.cntT<=4611686018427387904)(hl:bY x<=2^36):ar Tryz.prog 11 [.agg (x.markT k).row,.c (vi k)] (.one (.c (vi (k+x.cntT)) 1)):=by
 refine aF aw Tryz.func11 al rfl rfl rfl (ai rfl) (λw0 base=>?_);simp only[Wld.cntT]at hk;unfold bY at hl;have hs_h:x.h.cntT=aQ Doc.cnt x.h.docs+(aQ Sub.cnt x.h.subs):=rfl;simp[Wld.row,Wld.markT]
 try intros
 refine ag.pure (QR x.h k aa aa aa) (by simp[Hub.row,Hub.markT]) ?_;obtain⟨q0,hq0⟩:∃q,k+((x.h.cntT:Nat):Int)=q:=⟨_,rfl⟩;rw[hq0];have z0:¬q0<0:=aa;simp[z0];refine ag.pure (lO x.locks q0 aa aa) (by simp[<-hq0,hs_h,GT]) ?_;obtain⟨q1,hq1⟩:∃q,q0+((x.locks.length:Nat):Int)=q:=⟨_,rfl⟩;rw[hq1];have z1:¬q1<0:=aa;simp[z1];refine ag.pure (F6 x.queues q1 aa aa aa) (by simp[<-hq1,<-hq0,hs_h,GT]) ?_;obtain⟨q2,hq2⟩:∃q,q1+((aQ Queue.cnt x.queues:Nat):Int)=q:=⟨_,rfl⟩;rw[hq2];have z2:¬q2<0:=aa;simp[z2];refine ag.pure (Iq x.tasks q2 aa aa aa) (by simp[<-hq2,<-hq1,<-hq0,hs_h,GT]) ?_
 obtain⟨q3,hq3⟩:∃q,q2+((aQ Task.cnt x.tasks:Nat):Int)=q:=⟨_,rfl⟩;rw[hq3];have z3:¬q3<0:=aa;simp[z3]
 try (simp only[Wld.cntT];omega)
set_option maxHeartbeats 1600000
def vk(s:ByteArray):List CD:=[.v (.string s)]
@[simp] theorem adk (s:ByteArray):(vk s).length=1:=rfl
open Go.AM Go.ChangeShapes Go.WideShapes Go.ChangeAt Go.RowKit
theorem own:ownKnob Tryz.prog.godebug=none:=al
theorem ago:laidOutB Tryz.prog=true:=al
theorem dL{D:Nat}{ds:List CD}(h:gm Tryz.prog D 3 ds):∃n:Int,ds=[vi n]/\gl n:=by
 obtain⟨n,h1,h2⟩:=Un Tryz.underlying3 h;exact⟨n,h1,Yy h2⟩
theorem mL:maxLen=9223372036854775807:=rfl
theorem lQ{D:Nat}{ds:List CD}(h:gm Tryz.prog D 26 ds):∃l:List Int,ds=[.s (l.map aG)]/\l.length<=9223372036854775807/\∀n∈l,gl n:=by
 obtain⟨rows,rfl,h1,D',h2⟩:=jr Tryz.underlying26 h;obtain⟨l,rfl,hl⟩:=lg (f:=aG) (ok:=gl) rows (λrow hrow=>dL (h2 row hrow).2);exact oi
theorem UV:Tryz.prog.cellsOf 229=3:=al
theorem TB{α:Type}{l:List α}(h:l.length=3):∃x0 x1 x2,l=[x0,x1,x2]:=by
 match l,h with
 | [x0,x1,x2],_=>exact⟨x0,x1,x2,rfl⟩
theorem nJ:Tryz.prog.cellsOf 3=1:=al
theorem tu:Tryz.prog.cellsOf 26=1:=al
theorem QX{D:Nat}{ds:List CD}(h:gm Tryz.prog D 229 ds):∃x:Part,ds=x.row/\x.fits:=by
 obtain⟨hl,D',hf⟩:=eE Tryz.underlying229 h;rw[UV]at hl;obtain⟨d0,d1,d2,rfl⟩:=TB hl;simp[nJ,tu]at hf;obtain⟨h0,h1,h2⟩:=hf;obtain⟨n0,e0,k0⟩:=dL h0;simp at e0;subst e0;obtain⟨n1,e1,k1⟩:=dL h1;simp at e1;subst e1;obtain⟨n2,e2,k2⟩:=lQ h2;exact Eb
theorem AN{D:Nat}{ds:List CD}(h:gm Tryz.prog D 93 ds):∃l:List Part,ds=[.s (l.map Part.row)]/\l.length<=9223372036854775807/\∀y∈l,y.fits:=by
 obtain⟨rows,rfl,h1,D',h2⟩:=jr Tryz.underlying93 h;obtain⟨l,rfl,hl⟩:=lg (f:=Part.row) (ok:=Part.fits) rows (λrow hrow=>QX (h2 row hrow).2);exact oi
theorem UW:Tryz.prog.cellsOf 227=3:=al
theorem Pp:Tryz.prog.cellsOf 93=1:=al
theorem Kg{D:Nat}{ds:List CD}(h:gm Tryz.prog D 227 ds):∃x:Entry,ds=x.row/\x.fits:=by
 obtain⟨hl,D',hf⟩:=eE Tryz.underlying227 h;rw[UW]at hl;obtain⟨d0,d1,d2,rfl⟩:=TB hl;simp[nJ,Pp]at hf;obtain⟨h0,h1,h2⟩:=hf;obtain⟨n0,e0,k0⟩:=dL h0;simp at e0;subst e0;obtain⟨n1,e1,k1⟩:=dL h1;simp at e1;subst e1;obtain⟨n2,e2,k2⟩:=AN h2;exact Eb
theorem rM{D:Nat}{ds:List CD}(h:gm Tryz.prog D 96 ds):∃l:List Entry,ds=[.s (l.map Entry.row)]/\l.length<=9223372036854775807/\∀y∈l,y.fits:=by
 obtain⟨rows,rfl,h1,D',h2⟩:=jr Tryz.underlying96 h;obtain⟨l,rfl,hl⟩:=lg (f:=Entry.row) (ok:=Entry.fits) rows (λrow hrow=>Kg (h2 row hrow).2);exact oi
theorem UU:Tryz.prog.cellsOf 240=3:=al
theorem QV{D:Nat}{ds:List CD}(h:gm Tryz.prog D 240 ds):∃x:Seen,ds=x.row/\x.fits:=by
 obtain⟨hl,D',hf⟩:=eE Tryz.underlying240 h;rw[UU]at hl;obtain⟨d0,d1,d2,rfl⟩:=TB hl;simp[nJ]at hf;obtain⟨h0,h1,h2⟩:=hf;obtain⟨n0,e0,k0⟩:=dL h0;simp at e0;subst e0;obtain⟨n1,e1,k1⟩:=dL h1;simp at e1;subst e1;obtain⟨n2,e2,k2⟩:=dL h2;exact Eb
theorem Ke{D:Nat}{ds:List CD}(h:gm Tryz.prog D 135 ds):∃l:List Seen,ds=[.s (l.map Seen.row)]/\l.length<=9223372036854775807/\∀y∈l,y.fits:=by
 obtain⟨rows,rfl,h1,D',h2⟩:=jr Tryz.underlying135 h;obtain⟨l,rfl,hl⟩:=lg (f:=Seen.row) (ok:=Seen.fits) rows (λrow hrow=>QV (h2 row hrow).2);exact oi
theorem UY:Tryz.prog.cellsOf 137=5:=al
theorem adE{α:Type}{l:List α}(h:l.length=5):∃x0 x1 x2 x3 x4,l=[x0,x1,x2,x3,x4]:=by
 match l,h with
 | [x0,x1,x2,x3,x4],_=>exact⟨x0,x1,x2,x3,x4,rfl⟩
theorem Gz:Tryz.prog.cellsOf 9=1:=al
theorem Gy:Tryz.prog.cellsOf 96=1:=al
theorem UZ:Tryz.prog.cellsOf 135=1:=al
theorem Uq{D:Nat}{ds:List CD}(h:gm Tryz.prog D 137 ds):∃x:Doc,ds=x.row/\x.fits:=by
 obtain⟨hl,D',hf⟩:=eE Tryz.underlying137 h;rw[UY]at hl;obtain⟨d0,d1,d2,d3,d4,rfl⟩:=adE hl;simp[nJ,Gz,tu,Gy,UZ]at hf;obtain⟨h0,h1,h2,h3,h4⟩:=hf;obtain⟨n0,e0,k0⟩:=oC Tryz.underlying9 h0;simp at e0;subst e0;obtain⟨n1,e1,k1⟩:=dL h1;simp at e1;subst e1;obtain⟨n2,e2,k2⟩:=lQ h2;simp at e2;subst e2;obtain⟨n3,e3,k3⟩:=rM h3;simp at e3;subst e3;obtain⟨n4,e4,k4⟩:=Ke h4;simp at e4;subst e4;exact⟨⟨n0,n1,n2,n3,n4⟩,rfl,(by rw[mL]at k0;exact k0),k1,k2,k3,k4⟩
theorem QY{D:Nat}{ds:List CD}(h:gm Tryz.prog D 22 ds):∃l:List Doc,ds=[.s (l.map Doc.row)]/\l.length<=9223372036854775807/\∀y∈l,y.fits:=by
 obtain⟨rows,rfl,h1,D',h2⟩:=jr Tryz.underlying22 h;obtain⟨l,rfl,hl⟩:=lg (f:=Doc.row) (ok:=Doc.fits) rows (λrow hrow=>Uq (h2 row hrow).2);exact oi
theorem IN:Tryz.prog.cellsOf 140=4:=al
theorem TA{α:Type}{l:List α}(h:l.length=4):∃x0 x1 x2 x3,l=[x0,x1,x2,x3]:=by
 match l,h with
 | [x0,x1,x2,x3],_=>exact⟨x0,x1,x2,x3,rfl⟩
theorem UT:Tryz.prog.cellsOf 4=1:=al
theorem QW{D:Nat}{ds:List CD}(h:gm Tryz.prog D 140 ds):∃x:Ring,ds=x.row/\x.fits:=by
 obtain⟨hl,D',hf⟩:=eE Tryz.underlying140 h;rw[IN]at hl;obtain⟨d0,d1,d2,d3,rfl⟩:=TA hl;simp[nJ,UT,Gy]at hf;obtain⟨h0,h1,h2,h3⟩:=hf;obtain⟨n0,e0,k0⟩:=dL h0;simp at e0;subst e0;obtain⟨n1,e1,k1⟩:=dL h1;simp at e1;subst e1;obtain⟨n2,e2⟩:=C6 Tryz.underlying4 h2;simp at e2;subst e2;obtain⟨n3,e3,k3⟩:=rM h3;simp at e3;subst e3;exact⟨⟨n0,n1,n2,n3⟩,rfl,k0,k1,trivial,k3⟩
theorem UX:Tryz.prog.cellsOf 142=6:=al
theorem adD{α:Type}{l:List α}(h:l.length=6):∃x0 x1 x2 x3 x4 x5,l=[x0,x1,x2,x3,x4,x5]:=by
 match l,h with
 | [x0,x1,x2,x3,x4,x5],_=>exact⟨x0,x1,x2,x3,x4,x5,rfl⟩
theorem Uo{D:Nat}{ds:List CD}(h:gm Tryz.prog D 142 ds):∃x:Sub,ds=x.row/\x.fits:=by
 obtain⟨hl,D',hf⟩:=eE Tryz.underlying142 h;rw[UX]at hl;obtain⟨d0,d1,d2,d3,d4,d5,rfl⟩:=adD hl;simp[nJ,Gz,IN]at hf;obtain⟨h0,h1,h2⟩:=hf;obtain⟨n0,e0,k0⟩:=dL h0;simp at e0;subst e0;obtain⟨n1,e1,k1⟩:=oC Tryz.underlying9 h1;simp at e1;subst e1;obtain⟨n2,e2,k2⟩:=QW h2;simp[Ring.row]at e2;obtain⟨e2_0,e2_1,e2_2,e2_3⟩:=e2;subst e2_0 e2_1 e2_2 e2_3;exact⟨⟨n0,n1,n2⟩,rfl,k0,(by rw[mL]at k1;exact k1),k2⟩
theorem QU{D:Nat}{ds:List CD}(h:gm Tryz.prog D 23 ds):∃l:List Sub,ds=[.s (l.map Sub.row)]/\l.length<=9223372036854775807/\∀y∈l,y.fits:=by
 obtain⟨rows,rfl,h1,D',h2⟩:=jr Tryz.underlying23 h;obtain⟨l,rfl,hl⟩:=lg (f:=Sub.row) (ok:=Sub.fits) rows (λrow hrow=>Uo (h2 row hrow).2);exact oi
theorem Pr:Tryz.prog.cellsOf 25=4:=al
theorem Xv:Tryz.prog.cellsOf 22=1:=al
theorem Xu:Tryz.prog.cellsOf 23=1:=al
theorem Up{D:Nat}{ds:List CD}(h:gm Tryz.prog D 25 ds):∃x:Hub,ds=x.row/\x.fits:=by
 obtain⟨hl,D',hf⟩:=eE Tryz.underlying25 h;rw[Pr]at hl;obtain⟨d0,d1,d2,d3,rfl⟩:=TA hl;simp[nJ,UT,Xv,Xu]at hf;obtain⟨h0,h1,h2,h3⟩:=hf;obtain⟨n0,e0⟩:=C6 Tryz.underlying4 h0;simp at e0;subst e0;obtain⟨n1,e1,k1⟩:=QY h1;simp at e1;subst e1;obtain⟨n2,e2,k2⟩:=QU h2;simp at e2;subst e2;obtain⟨n3,e3,k3⟩:=dL h3;simp at e3;subst e3;exact⟨⟨n0,n1,n2,n3⟩,rfl,trivial,k1,k2,k3⟩
theorem Po:Tryz.prog.cellsOf 95=7:=al
theorem adC{α:Type}{l:List α}(h:l.length=7):∃x0 x1 x2 x3 x4 x5 x6,l=[x0,x1,x2,x3,x4,x5,x6]:=by
 match l,h with
 | [x0,x1,x2,x3,x4,x5,x6],_=>exact⟨x0,x1,x2,x3,x4,x5,x6,rfl⟩
theorem QZ{D:Nat}{ds:List CD}(h:gm Tryz.prog D 95 ds):∃x:Call,ds=x.row/\x.fits:=by
 obtain⟨hl,D',hf⟩:=eE Tryz.underlying95 h;rw[Po]at hl;obtain⟨d0,d1,d2,d3,d4,d5,d6,rfl⟩:=adC hl;simp[nJ,Gz,tu,Pp]at hf;obtain⟨h0,h1,h2,h3,h4,h5,h6⟩:=hf;obtain⟨n0,e0,k0⟩:=dL h0;simp at e0;subst e0;obtain⟨n1,e1,k1⟩:=oC Tryz.underlying9 h1;simp at e1;subst e1;obtain⟨n2,e2,k2⟩:=dL h2;simp at e2;subst e2;obtain⟨n3,e3,k3⟩:=dL h3;simp at e3;subst e3;obtain⟨n4,e4,k4⟩:=dL h4;simp at e4;subst e4;obtain⟨n5,e5,k5⟩:=AN h5;simp at e5;subst e5;obtain⟨n6,e6,k6⟩:=lQ h6;simp at e6;subst e6;exact⟨⟨n0,n1,n2,n3,n4,n5,n6⟩,rfl,k0,(by rw[mL]at k1;exact k1),k2,k3,k4,k5,k6⟩
theorem Pn:Tryz.prog.cellsOf 98=4:=al
theorem Iz{D:Nat}{ds:List CD}(h:gm Tryz.prog D 98 ds):∃x:Answer,ds=x.row/\x.fits:=by
 obtain⟨hl,D',hf⟩:=eE Tryz.underlying98 h;rw[Pn]at hl;obtain⟨d0,d1,d2,d3,rfl⟩:=TA hl;simp[nJ,tu,Gy]at hf;obtain⟨h0,h1,h2,h3⟩:=hf;obtain⟨n0,e0,k0⟩:=dL h0;simp at e0;subst e0;obtain⟨n1,e1,k1⟩:=dL h1;simp at e1;subst e1;obtain⟨n2,e2,k2⟩:=lQ h2;simp at e2;subst e2;obtain⟨n3,e3,k3⟩:=rM h3;simp at e3;subst e3;exact⟨⟨n0,n1,n2,n3⟩,rfl,k0,k1,k2,k3⟩
theorem U0:Tryz.prog.cellsOf 100=15:=al
theorem aaL{α:Type}{l:List α}(h:l.length=15):∃x0 x1 x2 x3 x4 x5 x6 x7 x8 x9 x10 x11 x12 x13 x14,l=[x0,x1,x2,x3,x4,x5,x6,x7,x8,x9,x10,x11,x12,x13,x14]:=by
 match l,h with
 | [x0,x1,x2,x3,x4,x5,x6,x7,x8,x9,x10,x11,x12,x13,x14],_=>exact⟨x0,x1,x2,x3,x4,x5,x6,x7,x8,x9,x10,x11,x12,x13,x14,rfl⟩
theorem QT{D:Nat}{ds:List CD}(h:gm Tryz.prog D 100 ds):∃x:Task,ds=x.row/\x.fits:=by
 obtain⟨hl,D',hf⟩:=eE Tryz.underlying100 h;rw[U0]at hl;obtain⟨d0,d1,d2,d3,d4,d5,d6,d7,d8,d9,d10,d11,d12,d13,d14,rfl⟩:=aaL hl;simp[nJ,Po,Pn]at hf;obtain⟨h0,h1,h2,h3,h4,h5⟩:=hf;obtain⟨n0,e0,k0⟩:=QZ h0;simp[Call.row]at e0;obtain⟨e0_0,e0_1,e0_2,e0_3,e0_4,e0_5,e0_6⟩:=e0;subst e0_0 e0_1 e0_2 e0_3 e0_4 e0_5 e0_6;obtain⟨n1,e1,k1⟩:=dL h1;simp at e1;subst e1;obtain⟨n2,e2,k2⟩:=dL h2;simp at e2;subst e2;obtain⟨n3,e3,k3⟩:=dL h3;simp at e3;subst e3;obtain⟨n4,e4,k4⟩:=dL h4;simp at e4;subst e4;obtain⟨n5,e5,k5⟩:=Iz h5;simp[Answer.row]at e5;obtain⟨e5_0,e5_1,e5_2,e5_3⟩:=e5;subst e5_0 e5_1 e5_2 e5_3;exact⟨⟨n0,n1,n2,n3,n4,n5⟩,rfl,k0,k1,k2,k3,k4,k5⟩
theorem Kd{D:Nat}{ds:List CD}(h:gm Tryz.prog D 28 ds):∃l:List Task,ds=[.s (l.map Task.row)]/\l.length<=9223372036854775807/\∀y∈l,y.fits:=by
 obtain⟨rows,rfl,h1,D',h2⟩:=jr Tryz.underlying28 h;obtain⟨l,rfl,hl⟩:=lg (f:=Task.row) (ok:=Task.fits) rows (λrow hrow=>QT (h2 row hrow).2);exact oi
theorem Xr:Tryz.prog.cellsOf 91=2:=al
theorem adF{α:Type}{l:List α}(h:l.length=2):∃x0 x1,l=[x0,x1]:=by
 match l,h with
 | [x0,x1],_=>exact⟨x0,x1,rfl⟩
theorem Kf{D:Nat}{ds:List CD}(h:gm Tryz.prog D 91 ds):∃x:Queue,ds=x.row/\x.fits:=by
 obtain⟨hl,D',hf⟩:=eE Tryz.underlying91 h;rw[Xr]at hl;obtain⟨d0,d1,rfl⟩:=adF hl;simp[Gz,tu]at hf;obtain⟨h0,h1⟩:=hf;obtain⟨n0,e0,k0⟩:=oC Tryz.underlying9 h0;simp at e0;subst e0;obtain⟨n1,e1,k1⟩:=lQ h1;simp at e1;subst e1;exact⟨⟨n0,n1⟩,rfl,(by rw[mL]at k0;exact k0),k1⟩
theorem Iy{D:Nat}{ds:List CD}(h:gm Tryz.prog D 27 ds):∃l:List Queue,ds=[.s (l.map Queue.row)]/\l.length<=9223372036854775807/\∀y∈l,y.fits:=by
 obtain⟨rows,rfl,h1,D',h2⟩:=jr Tryz.underlying27 h;obtain⟨l,rfl,hl⟩:=lg (f:=Queue.row) (ok:=Queue.fits) rows (λrow hrow=>Kf (h2 row hrow).2);exact oi
theorem Pq:Tryz.prog.cellsOf 30=8:=al
theorem adB{α:Type}{l:List α}(h:l.length=8):∃x0 x1 x2 x3 x4 x5 x6 x7,l=[x0,x1,x2,x3,x4,x5,x6,x7]:=by
 match l,h with
 | [x0,x1,x2,x3,x4,x5,x6,x7],_=>exact⟨x0,x1,x2,x3,x4,x5,x6,x7,rfl⟩
theorem Xt:Tryz.prog.cellsOf 27=1:=al
theorem Xs:Tryz.prog.cellsOf 28=1:=al
theorem Kc{D:Nat}{ds:List CD}(h:gm Tryz.prog D 30 ds):∃x:Wld,ds=x.row/\x.fits:=by
 obtain⟨hl,D',hf⟩:=eE Tryz.underlying30 h;rw[Pq]at hl;obtain⟨d0,d1,d2,d3,d4,d5,d6,d7,rfl⟩:=adB hl;simp[nJ,Pr,tu,Xt,Xs]at hf;obtain⟨h0,h1,h2,h3,h4⟩:=hf;obtain⟨n0,e0,k0⟩:=Up h0;simp[Hub.row]at e0;obtain⟨e0_0,e0_1,e0_2,e0_3⟩:=e0;subst e0_0 e0_1 e0_2 e0_3;obtain⟨n1,e1,k1⟩:=lQ h1;simp at e1;subst e1;obtain⟨n2,e2,k2⟩:=Iy h2;simp at e2;subst e2;obtain⟨n3,e3,k3⟩:=Kd h3;simp at e3;subst e3;obtain⟨n4,e4,k4⟩:=dL h4;simp at e4;subst e4;exact⟨⟨n0,n1,n2,n3,n4⟩,rfl,k0,k1,k2,k3,k4⟩
theorem Ge{D:Nat}{t:TypeId}{vd:VD}{fs:Array Field}(hu:Tryz.prog.underlying t=some (.struct fs))(hc:Tryz.prog.cellsOf t≠1)(h:Bz Tryz.prog D t vd):∃ds,vd=.agg ds/\gm Tryz.prog D t ds:=by
 cases vd with
 | c d =>
   have:=(eE hu h).1;exact absurd this.symm hc
 |agg ds=>exact⟨ds,rfl,h.2⟩
theorem Ur{D:Nat}{t e:TypeId}{vd:VD}(hu:Tryz.prog.underlying t=some (.slice e))(h:Bz Tryz.prog D t vd):∃d,vd=.c d/\gm Tryz.prog D t [d]:=Xd hu ab h
end Go.Proofs.YtklblkobegcljaaGreat
