import Derived.Test.YtklblkobegcljaaGreatMH
namespace Go.Proofs.YtklblkobegcljaaGreat
open Go.AM
set_option maxRecDepth 20000
theorem PI(x:Part)(h:a9 x<=2^40):ar Tryz.prog 225 [.agg x.row] (.one (.agg x.res)):=by
 refine aE aw Tryz.func225 al rfl rfl rfl (ai rfl) (λw0 base=>?_);unfold a9 at h;simp[Part.row,Part.res]
 try intros
 refine ag.pure (oj x.signs aa) ab ?_;simp
 try intros
theorem Sg(x y:Part)(h:a9 x<=2^40):ar Tryz.prog 244 [.agg x.row,.agg y.row] (.one (.c (vb (x=y)) 1)):=by
 refine aE aw Tryz.func244 al rfl rfl rfl (ai rfl) (λw0 base=>?_);unfold a9 at h;obtain⟨a0,a1,a2⟩:=x;obtain⟨b0,b1,b2⟩:=y;simp only at h;simp[Part.row]
 try intros
 by_cases h0:a0=b0
 rotate_left
 ·simp[h0]
 subst h0
 try simp
 by_cases h1:a1=b1
 rotate_left
 ·simp[h1]
 subst h1
 try simp
 refine ag.pure (oD a2 b2 aa) ab ?_;simp;exact xV
theorem Qy(x:Part)(h:x.fits)(left:Nat)(hf:left<=2^20):ar Tryz.prog 212 [.agg x.row,.c (vi left)] (.one (.c (vi (szR (a9 x) left)) 1)):=by
 refine aE aw Tryz.func212 al rfl rfl rfl (ai rfl) (λw0 base=>?_);obtain⟨f0,f1,f2⟩:=h;obtain⟨r,hr⟩:∃r,szR (a9 x) left=r:=⟨_,rfl⟩;rw[hr];have hn:a9 x=x.signs.length:=rfl;simp[Part.row]
 try intros
 refine ag.pure (om x.signs f2.1 left aa) ab ?_;by_cases k0:x.signs.length<=left
 rotate_left
 ·exact oS
 rw[dL k0];obtain⟨m0,hm0⟩:∃m,left-x.signs.length=m:=⟨_,rfl⟩;exact CX
theorem AZ(l:List Part)(hl:nL a9 l<=2^40):ar Tryz.prog 182 [.c (.s (l.map Part.row))] (.one (.c (.s (l.map Part.row)) 3)):=by
 refine aE aw Tryz.func182 al rfl rfl rfl (ai rfl) (λw0 base=>?_);have hle:=aY hl;simp;refine⟨aa,λb=>?_⟩
 refine aU.intro eok (λi:Nat=>i<=l.length) (λi=>⟨23,0,[(4,.v (.int .i64 i)),(3,.sl 112 (some (b,0,l.length)) 3 0 l.length),(0,.ro (l.map Part.row))],
  [(112,.rows (some (b,0,l.length)) 3 (lG Part.row [.v (.int .i64 0),.v (.int .i64 0),.s []] l i) true)]⟩) (λi=>l.length-i) 0 ab m8 (λi hi=>?_)
 by_cases h:i<l.length
 ·simp[h,Part.row]
  refine ag.pure (PI l[i] (cH hl h)) fX ?_;simp[Part.res,gq hi,h];exact⟨i+1,aa,aa,aQ aa,jQ (f:=Part.row) h⟩
 ·exact oT
theorem BH(a b:List Part)(hl:nL a9 a<=2^40):ar Tryz.prog 210 [.c (.s (a.map Part.row)),.c (.s (b.map Part.row))] (.one (.c (vb (a=b)) 1)):=by
 refine aE aw Tryz.func210 al rfl rfl rfl (ai rfl) (λw0 base=>?_);have hle:=aY hl;by_cases h:a.length=b.length
 ·simp[h]
  refine aU.intro eok (λi:Nat=>i<=a.length/\a.take i=b.take i) (λi=>⟨27,0,[(5,.v (.int .i64 i)),(1,.ro (b.map Part.row)),(0,.ro (a.map Part.row))],[]⟩) (λi=>a.length-i) 0 ab ab (λi hi=>?_);by_cases hlt:i<a.length
  ·simp[hlt]
   have hlt':i<b.length:=aa;refine aZ.quiet eok mix al ?_;simp[hlt,hlt',Part.row];refine⟨_,_,Sg a[i] b[i] (cH hl hlt),fX,?_⟩;exact l9
  ·exact ni
 ·exact jw
theorem A3(l:List Part)(hl:l.length<=9223372036854775807)(hs:∀y∈l,y.fits)(left:Nat)(hf:left<=2^20):ar Tryz.prog 158 [.c (.s (l.map Part.row)),.c (vi left)] (.one (.c (vi (szR (nL a9 l) left)) 1)):=by
 refine aE aw Tryz.func158 al rfl rfl rfl (ai rfl) (λw0 base=>?_);have hw:IntKind.i64.wrap ((left:Int)-(l.length:Int))=(left:Int)-l.length:=ft _ aa;have hn:nL a9 l=l.length+cw a9 l:=rfl;by_cases h:l.length<=left
 ·obtain⟨lf,hlf⟩:∃lf:Nat,left-l.length=lf:=⟨_,rfl⟩
  have hlz:(left:Int)-l.length=(lf:Int):=aa;have hw2:IntKind.i64.wrap (lf:Int)=lf:=fh aa;simp[hlz,hw2];obtain⟨r,hr⟩:∃r,szR (nL a9 l) left=r:=⟨_,rfl⟩;have hr0:szR (cw a9 l) lf=r:=rk;rw[hr];refine aU.intro eok (λx:Nat×Nat=>x.1<=l.length/\x.2<=2^20/\szR (cw a9 (l.drop x.1)) x.2=r) (λx=>⟨27,0,[(5,.v (.int .i64 x.1)),(1,.v (.int .i64 x.2)),(0,.ro (l.map Part.row))],[]⟩) (λx=>l.length-x.1) (0,lf) rj ab ?_
  rintro⟨i,m⟩ ⟨hi,hm,hx⟩
  simp only at hi hm hx⊢;by_cases hlt:i<l.length
  ·rw[kO hlt]at hx
   simp[hlt,Part.row];refine ag.pure (Qy l[i] (hs _ (aj hlt)) m hm) fX ?_;by_cases hk:a9 l[i]<=m
   ·rw[dL hk]
    have hz:¬((m-a9 l[i]:Nat):Int)<0:=aa;simp[hz];refine⟨i+1,m-a9 l[i],⟨aa,aa,?_⟩,aa,aQ aa,rfl⟩;exact rz
   ·rw[eU (show ¬a9 l[i]+cw a9 (l.drop (i+1))<=m from aa)]at hx
    exact ru
  ·exact rD
 ·have hz:(left:Int)-l.length<0:=by omega
  simp[hw,hz,eU (show ¬nL a9 l<=left from aa)]
theorem lD(l:List Part)(k:Int)(h0:0<=k)(hk:k+aN Part.cnt l<=4611686018427387904)(hl:nL a9 l<=2^40):iH Tryz.prog 96 (.c (.s (l.map Part.row)) 3) k (k+aN Part.cnt l) (.c (.s ((aL Part.mark Part.cnt l k).map Part.row)) 3):=by
 refine iH.intro aw Tryz.func96 al rfl rfl rfl ah (λw0 base=>?_);have hle:=aY hl;simp;intro H;refine aH eok (λi:Nat=>i<=l.length) (λi=>⟨34,0,[(5,.v (.int .i64 i)),(1,.v (.int .i64 (k+aN Part.cnt (l.take i)))),(0,.ml 0 H 3 l.length)],[(0,.rows H 3 (bO Part.mark Part.cnt Part.row l k i) true)]⟩) (λi=>l.length-i) 0 ab oK (λi hi=>?_);by_cases h:i<l.length
 ·have hc:=cL (cn:=Part.cnt) h
  have hs:=ch (cn:=Part.cnt) h;have hni:=cH hl h;simp only[a9]at hni;obtain⟨q0,hq0⟩:∃q,k+((aN Part.cnt (l.take i):Nat):Int)=q:=⟨_,rfl⟩;have hpc:l[i].cnt=2+(l[i].signs.length):=rfl;rw[hq0,<-gH h];have e0:Go.IntKind.i64.wrap q0=q0:=ae _ aa;obtain⟨q1,hq1⟩:∃q,q0+1=q:=⟨_,rfl⟩;have e1:Go.IntKind.i64.wrap q1=q1:=ae _ aa;obtain⟨q2,hq2⟩:∃q,q1+1=q:=⟨_,rfl⟩;have e2:Go.IntKind.i64.wrap q2=q2:=ae _ aa;obtain⟨q3,hq3⟩:∃q,q2+((l[i].signs.length:Nat):Int)=q:=⟨_,rfl⟩;have e3:Go.IntKind.i64.wrap q3=q3:=ae _ aa;have e:Go.IntKind.i64.wrap ((i:Int)+1)=((i+1:Nat):Int):=aQ aa
  refine Ent.open (λ_ h=>h) (k:=0) (i:=i) (j:=2) (k':=902) (sz':=1) (sz:=3) (H:=H) (rows:=((bO Part.mark Part.cnt Part.row l k i).set i l[i].row)) (srows:=l[i].signs.map aI) (row:=l[i].row) ab eI rfl ab ah ju ab (λH2=>?_);refine Ent.refl ?_;simp[h,bN,Part.row,dB,bm,hq1,e1,hq2,e2];refine ag.mark (fS l[i].signs q2 aa aa) rfl (λ_ h=>h) ab ?_;simp[e,hq3];refine dG (k:=0) (i:=i) (j:=2) (k':=902) (sz':=1) (sz:=3) (H:=H) (rows:=(bO Part.mark Part.cnt Part.row l k i).set i [vi q0,vi q1,.h 902 H2 1 l[i].signs.length]) (row:=[vi q0,vi q1,.h 902 H2 1 l[i].signs.length]) (H':=H2) (srows:=(aL eR one l[i].signs q2).map aI) ab eI ff ab ah ab ?_;exact Ld
 ·have:i=l.length:=by omega
  subst this;refine Ent.refl ?_;simp[gI,aJ,Part.row]
theorem wm(l:List Part)(k:Int)(h0:0<=k)(hk:k+aN Part.cnt l<=4611686018427387904)(hl:nL a9 l<=2^40):ar Tryz.prog 100 [.c (.s ((aL Part.mark Part.cnt l k).map Part.row)),.c (vi k)] (.one (.c (vi (k+aN Part.cnt l)) 1)):=by
 refine aE aw Tryz.func100 al rfl rfl rfl (ai rfl) (λw0 base=>?_);have hle:=aY hl;simp;refine aU.intro eok (λi:Nat=>i<=l.length) (λi=>⟨40,0,[(5,.v (.int .i64 i)),(1,.v (.int .i64 (k+aN Part.cnt (l.take i)))),(0,.ro ((aL Part.mark Part.cnt l k).map Part.row))],[]⟩) (λi=>l.length-i) 0 ab jv (λi hi=>?_);by_cases h:i<l.length
 ·have hc:=cL (cn:=Part.cnt) h
  have hs:=ch (cn:=Part.cnt) h;have hni:=cH hl h;simp only[a9]at hni;have hm:=iQ (mk:=Part.mark) (cn:=Part.cnt) (k:=k) h;obtain⟨q0,hq0⟩:∃q,k+((aN Part.cnt (l.take i):Nat):Int)=q:=⟨_,rfl⟩;have hpc:l[i].cnt=2+(l[i].signs.length):=rfl;rw[hq0]at hm;rw[hq0];have z0:¬q0<0:=aa;have e0:Go.IntKind.i64.wrap q0=q0:=ae _ aa;obtain⟨q1,hq1⟩:∃q,q0+1=q:=⟨_,rfl⟩;have e1:Go.IntKind.i64.wrap q1=q1:=ae _ aa;have z1:¬q1<0:=aa;obtain⟨q2,hq2⟩:∃q,q1+1=q:=⟨_,rfl⟩;have e2:Go.IntKind.i64.wrap q2=q2:=ae _ aa;have z2:¬q2<0:=aa;obtain⟨q3,hq3⟩:∃q,q2+((l[i].signs.length:Nat):Int)=q:=⟨_,rfl⟩;have e3:Go.IntKind.i64.wrap q3=q3:=ae _ aa
  have z3:¬q3<0:=aa;have e:Go.IntKind.i64.wrap ((i:Int)+1)=((i+1:Nat):Int):=aQ aa;simp[h,aJ,hm,Part.row,Part.mark,hq1,e1,hq2,e2];refine ag.pure (kR l[i].signs q2 aa aa) ab ?_;simp[hq3,z3];exact oR
 ·exact nk
theorem Np(x:Entry)(h:aX x<=2^40):ar Tryz.prog 223 [.agg x.row] (.one (.agg x.res)):=by
 refine aE aw Tryz.func223 al rfl rfl rfl (ai rfl) (λw0 base=>?_);unfold aX at h;simp[Entry.row,Entry.res]
 try intros
 refine ag.pure (AZ x.o aa) ab ?_;simp
 try intros
theorem OR(x y:Entry)(h:aX x<=2^40):ar Tryz.prog 242 [.agg x.row,.agg y.row] (.one (.c (vb (x=y)) 1)):=by
 refine aE aw Tryz.func242 al rfl rfl rfl (ai rfl) (λw0 base=>?_);unfold aX at h;obtain⟨a0,a1,a2⟩:=x;obtain⟨b0,b1,b2⟩:=y;simp only at h;simp[Entry.row]
 try intros
 by_cases h0:a0=b0
 rotate_left
 ·simp[h0]
 subst h0
 try simp
 by_cases h1:a1=b1
 rotate_left
 ·simp[h1]
 subst h1
 try simp
 refine ag.pure (BH a2 b2 aa) ab ?_;simp;exact xV
theorem Nv(x:Entry)(h:x.fits)(left:Nat)(hf:left<=2^20):ar Tryz.prog 211 [.agg x.row,.c (vi left)] (.one (.c (vi (szR (aX x) left)) 1)):=by
 refine aE aw Tryz.func211 al rfl rfl rfl (ai rfl) (λw0 base=>?_);obtain⟨f0,f1,f2⟩:=h;obtain⟨r,hr⟩:∃r,szR (aX x) left=r:=⟨_,rfl⟩;rw[hr];have hn:aX x=nL a9 x.o:=rfl;simp[Entry.row]
 try intros
 refine ag.pure (A3 x.o f2.1 f2.2 left aa) ab ?_;by_cases k0:nL a9 x.o<=left
 rotate_left
 ·exact oS
 rw[dL k0];obtain⟨m0,hm0⟩:∃m,left-nL a9 x.o=m:=⟨_,rfl⟩;exact CX
theorem yx(l:List Entry)(hl:nL aX l<=2^40):ar Tryz.prog 179 [.c (.s (l.map Entry.row))] (.one (.c (.s (l.map Entry.row)) 3)):=by
 refine aE aw Tryz.func179 al rfl rfl rfl (ai rfl) (λw0 base=>?_);have hle:=aY hl;simp;refine⟨aa,λb=>?_⟩
 refine aU.intro eok (λi:Nat=>i<=l.length) (λi=>⟨23,0,[(4,.v (.int .i64 i)),(3,.sl 112 (some (b,0,l.length)) 3 0 l.length),(0,.ro (l.map Entry.row))],
  [(112,.rows (some (b,0,l.length)) 3 (lG Entry.row [.v (.int .i64 0),.v (.int .i64 0),.s []] l i) true)]⟩) (λi=>l.length-i) 0 ab m8 (λi hi=>?_)
 by_cases h:i<l.length
 ·simp[h,Entry.row]
  refine ag.pure (Np l[i] (cH hl h)) fe ?_;simp[Entry.res,gq hi,h];exact⟨i+1,aa,aa,aQ aa,jQ (f:=Entry.row) h⟩
 ·exact oT
theorem zu(a b:List Entry)(hl:nL aX a<=2^40):ar Tryz.prog 207 [.c (.s (a.map Entry.row)),.c (.s (b.map Entry.row))] (.one (.c (vb (a=b)) 1)):=by
 refine aE aw Tryz.func207 al rfl rfl rfl (ai rfl) (λw0 base=>?_);have hle:=aY hl;by_cases h:a.length=b.length
 ·simp[h]
  refine aU.intro eok (λi:Nat=>i<=a.length/\a.take i=b.take i) (λi=>⟨27,0,[(5,.v (.int .i64 i)),(1,.ro (b.map Entry.row)),(0,.ro (a.map Entry.row))],[]⟩) (λi=>a.length-i) 0 ab ab (λi hi=>?_);by_cases hlt:i<a.length
  ·simp[hlt]
   have hlt':i<b.length:=aa;refine aZ.quiet eok mix al ?_;simp[hlt,hlt',Entry.row];refine⟨_,_,OR a[i] b[i] (cH hl hlt),fe,?_⟩;exact l9
  ·exact ni
 ·exact jw
theorem sW(l:List Entry)(hl:l.length<=9223372036854775807)(hs:∀y∈l,y.fits)(left:Nat)(hf:left<=2^20):ar Tryz.prog 155 [.c (.s (l.map Entry.row)),.c (vi left)] (.one (.c (vi (szR (nL aX l) left)) 1)):=by
 refine aE aw Tryz.func155 al rfl rfl rfl (ai rfl) (λw0 base=>?_);have hw:IntKind.i64.wrap ((left:Int)-(l.length:Int))=(left:Int)-l.length:=ft _ aa;have hn:nL aX l=l.length+cw aX l:=rfl;by_cases h:l.length<=left
 ·obtain⟨lf,hlf⟩:∃lf:Nat,left-l.length=lf:=⟨_,rfl⟩
  have hlz:(left:Int)-l.length=(lf:Int):=aa;have hw2:IntKind.i64.wrap (lf:Int)=lf:=fh aa;simp[hlz,hw2];obtain⟨r,hr⟩:∃r,szR (nL aX l) left=r:=⟨_,rfl⟩;have hr0:szR (cw aX l) lf=r:=rk;rw[hr];refine aU.intro eok (λx:Nat×Nat=>x.1<=l.length/\x.2<=2^20/\szR (cw aX (l.drop x.1)) x.2=r) (λx=>⟨27,0,[(5,.v (.int .i64 x.1)),(1,.v (.int .i64 x.2)),(0,.ro (l.map Entry.row))],[]⟩) (λx=>l.length-x.1) (0,lf) rj ab ?_
  rintro⟨i,m⟩ ⟨hi,hm,hx⟩
  simp only at hi hm hx⊢;by_cases hlt:i<l.length
  ·rw[kO hlt]at hx
   simp[hlt,Entry.row];refine ag.pure (Nv l[i] (hs _ (aj hlt)) m hm) fe ?_;by_cases hk:aX l[i]<=m
   ·rw[dL hk]
    have hz:¬((m-aX l[i]:Nat):Int)<0:=aa;simp[hz];refine⟨i+1,m-aX l[i],⟨aa,aa,?_⟩,aa,aQ aa,rfl⟩;exact rz
   ·rw[eU (show ¬aX l[i]+cw aX (l.drop (i+1))<=m from aa)]at hx
    exact ru
  ·exact rD
 ·have hz:(left:Int)-l.length<0:=by omega
  simp[hw,hz,eU (show ¬nL aX l<=left from aa)]
theorem i9(l:List Entry)(k:Int)(h0:0<=k)(hk:k+aN Entry.cnt l<=4611686018427387904)(hl:nL aX l<=2^40):iH Tryz.prog 97 (.c (.s (l.map Entry.row)) 3) k (k+aN Entry.cnt l) (.c (.s ((aL Entry.mark Entry.cnt l k).map Entry.row)) 3):=by
 refine iH.intro aw Tryz.func97 al rfl rfl rfl ah (λw0 base=>?_);have hle:=aY hl;simp;intro H;refine aH eok (λi:Nat=>i<=l.length) (λi=>⟨34,0,[(5,.v (.int .i64 i)),(1,.v (.int .i64 (k+aN Entry.cnt (l.take i)))),(0,.ml 0 H 3 l.length)],[(0,.rows H 3 (bO Entry.mark Entry.cnt Entry.row l k i) true)]⟩) (λi=>l.length-i) 0 ab oK (λi hi=>?_);by_cases h:i<l.length
 ·have hc:=cL (cn:=Entry.cnt) h
  have hs:=ch (cn:=Entry.cnt) h;have hni:=cH hl h;simp only[aX]at hni;obtain⟨q0,hq0⟩:∃q,k+((aN Entry.cnt (l.take i):Nat):Int)=q:=⟨_,rfl⟩;have hpc:l[i].cnt=2+(aN Part.cnt l[i].o):=rfl;rw[hq0,<-gH h];have e0:Go.IntKind.i64.wrap q0=q0:=ae _ aa;obtain⟨q1,hq1⟩:∃q,q0+1=q:=⟨_,rfl⟩;have e1:Go.IntKind.i64.wrap q1=q1:=ae _ aa;obtain⟨q2,hq2⟩:∃q,q1+1=q:=⟨_,rfl⟩;have e2:Go.IntKind.i64.wrap q2=q2:=ae _ aa;obtain⟨q3,hq3⟩:∃q,q2+((aN Part.cnt l[i].o:Nat):Int)=q:=⟨_,rfl⟩;have e3:Go.IntKind.i64.wrap q3=q3:=ae _ aa;have e:Go.IntKind.i64.wrap ((i:Int)+1)=((i+1:Nat):Int):=aQ aa
  refine Ent.open (λ_ h=>h) (k:=0) (i:=i) (j:=2) (k':=902) (sz':=3) (sz:=3) (H:=H) (rows:=((bO Entry.mark Entry.cnt Entry.row l k i).set i l[i].row)) (srows:=l[i].o.map Part.row) (row:=l[i].row) ab eI rfl ab ah fX ab (λH2=>?_);refine Ent.refl ?_;simp[h,bN,Entry.row,dB,bm,hq1,e1,hq2,e2];refine ag.mark (lD l[i].o q2 aa aa aa) rfl (λ_ h=>h) ab ?_;simp[e,hq3];refine dG (k:=0) (i:=i) (j:=2) (k':=902) (sz':=3) (sz:=3) (H:=H) (rows:=(bO Entry.mark Entry.cnt Entry.row l k i).set i [vi q0,vi q1,.h 902 H2 3 l[i].o.length]) (row:=[vi q0,vi q1,.h 902 H2 3 l[i].o.length]) (H':=H2) (srows:=(aL Part.mark Part.cnt l[i].o q2).map Part.row) ab eI ff ab ah ab ?_;exact Ld
 ·have:i=l.length:=by omega
  subst this;refine Ent.refl ?_;simp[gI,aJ,Entry.row]
theorem pf(l:List Entry)(k:Int)(h0:0<=k)(hk:k+aN Entry.cnt l<=4611686018427387904)(hl:nL aX l<=2^40):ar Tryz.prog 101 [.c (.s ((aL Entry.mark Entry.cnt l k).map Entry.row)),.c (vi k)] (.one (.c (vi (k+aN Entry.cnt l)) 1)):=by
 refine aE aw Tryz.func101 al rfl rfl rfl (ai rfl) (λw0 base=>?_);have hle:=aY hl;simp;refine aU.intro eok (λi:Nat=>i<=l.length) (λi=>⟨40,0,[(5,.v (.int .i64 i)),(1,.v (.int .i64 (k+aN Entry.cnt (l.take i)))),(0,.ro ((aL Entry.mark Entry.cnt l k).map Entry.row))],[]⟩) (λi=>l.length-i) 0 ab jv (λi hi=>?_);by_cases h:i<l.length
 ·have hc:=cL (cn:=Entry.cnt) h
  have hs:=ch (cn:=Entry.cnt) h;have hni:=cH hl h;simp only[aX]at hni;have hm:=iQ (mk:=Entry.mark) (cn:=Entry.cnt) (k:=k) h;obtain⟨q0,hq0⟩:∃q,k+((aN Entry.cnt (l.take i):Nat):Int)=q:=⟨_,rfl⟩;have hpc:l[i].cnt=2+(aN Part.cnt l[i].o):=rfl;rw[hq0]at hm;rw[hq0];have z0:¬q0<0:=aa;have e0:Go.IntKind.i64.wrap q0=q0:=ae _ aa;obtain⟨q1,hq1⟩:∃q,q0+1=q:=⟨_,rfl⟩;have e1:Go.IntKind.i64.wrap q1=q1:=ae _ aa;have z1:¬q1<0:=aa;obtain⟨q2,hq2⟩:∃q,q1+1=q:=⟨_,rfl⟩;have e2:Go.IntKind.i64.wrap q2=q2:=ae _ aa;have z2:¬q2<0:=aa;obtain⟨q3,hq3⟩:∃q,q2+((aN Part.cnt l[i].o:Nat):Int)=q:=⟨_,rfl⟩;have e3:Go.IntKind.i64.wrap q3=q3:=ae _ aa
  have z3:¬q3<0:=aa;have e:Go.IntKind.i64.wrap ((i:Int)+1)=((i+1:Nat):Int):=aQ aa;simp[h,aJ,hm,Entry.row,Entry.mark,hq1,e1,hq2,e2];refine ag.pure (wm l[i].o q2 aa aa aa) ab ?_;simp[hq3,z3];exact oR
 ·exact nk
def qE(k:Nat)(out:List UInt8):List UInt8:=if h:k=0 then out else qE (k / 10) (UInt8.ofNat (48+k % 10)::out)
termination_by k
decreasing_by omega
theorem wx{out:List UInt8}:qE 0 out=out:=by rw[qE];simp
theorem zz{k:Nat}{out:List UInt8}(h:k≠0):qE k out=qE (k / 10) (UInt8.ofNat (48+k % 10)::out):=by rw[qE];simp[h]
theorem Sm:∀(k:Nat) (out:List UInt8),0<k->qE k out=OW k++out:=by
 intro k
 induction k using Nat.strongRecOn with
 | _ k ih =>
   intro out hk;rw[zz aa,OW];by_cases h:k<10
   ·rw[show k / 10=0 from aa,wx]
    simp[h,u6 h]
   ·rw[ih (k / 10) aa _ aa]
    simp[h]
theorem uQ(a b:List UInt8):(⟨a.toArray⟩++⟨b.toArray⟩:ByteArray)=⟨(a++b).toArray⟩:=by
 apply ByteArray.ext
 rw[ByteArray.data_append];simp
theorem NM{n:Nat}(h:10^n<=4611686018427387904):n<=18:=by
 rcases gO 18 n with hn|hn
 ·have:=Nat.pow_le_pow_right (n:=10) aa (show 19<=n from hn)
  omega
 ·exact hn
theorem fm(k:Int)(h0:0<=k)(hk:k<=4611686018427387904):ar Tryz.prog 95 [.c (vi k)] (.one (.c (.v (.string (markT k))) 1)):=by
 refine pci aw Tryz.func95 (λw0 base=>?_);obtain⟨n,rfl⟩:∃n:Nat,k=n:=⟨k.toNat,aa⟩;by_cases hz:n=0
 ·subst hz
  have e:markT 0=⟨#[109,48]⟩:=by unfold markT;rw[OW];simp
  simp[e]
 have hz':¬(n:Int)<=0:=aa;simp[hz];refine aU.intro eok (λx:Nat×List UInt8=>qE x.1 x.2=OW n/\x.2.length<=19/\x.1*10^x.2.length<=4611686018427387904) (λx=>⟨20,0,[(0,.v (.int .i64 x.1)),(3,.v (.string ⟨x.2.toArray⟩))],[]⟩) (λx=>x.1) (n,[]) ⟨by rw[Sm n [] aa];simp,ab,aM⟩ ab (λx hi=>?_);obtain⟨m,out⟩:=x;obtain⟨hi,hl,hp⟩:=hi;simp only at hi hl hp⊢;by_cases hm:m=0
 ·subst hm
  rw[wx]at hi
  have hs:(⟨#[109]⟩++⟨out.toArray⟩:ByteArray)=markT n:=by
   rw[show(⟨#[109]⟩:ByteArray)=⟨[109].toArray⟩from rfl,uQ,hi];rfl
  have hsz:(⟨out.toArray⟩:ByteArray).size=out.length:=by simp[ByteArray.size]
  have hs1:(⟨#[109]⟩:ByteArray).size=1:=rfl;simp[hs,hsz,hs1];omega
 ·have hm':0<m:=by omega
  have hpow:10^out.length<=4611686018427387904:=dW (Nat.le_mul_of_pos_left _ hm') hp;have hlen:=NM hpow;have hmN:m<=4611686018427387904:=dW (bY _ (Nat.pow_pos aa)) hp;have e2:Go.IntKind.i64.wrap (48+(m:Int) % 10)=48+(m:Int) % 10:=ae _ aa;have e3:Go.IntKind.u8.wrap (48+(m:Int) % 10)=48+(m:Int) % 10:=Go.IntWalk.u8_in _ aa;have e4:Go.IntKind.i64.wrap ((m:Int) / 10)=((m / 10:Nat):Int):=by rw[ae _ aa];omega
  rw[zz hm]at hi;have hb:((UInt8.ofNat (48+m % 10)).toNat:Int)=48+(m:Int) % 10:=aM;have hsz:(⟨out.toArray⟩:ByteArray).size=out.length:=by simp[ByteArray.size]
  simp[hm',e4];refine⟨[UInt8.ofNat (48+m % 10)],by simp only[bK,jg,hU,hb];rw[sd aa,e2,e3],?_,m / 10,UInt8.ofNat (48+m % 10)::out,⟨hi,aM,?_⟩,aa,by first|exact e4|omega|(rw[Int.tdiv_eq_ediv_of_nonneg aa];exact e4),?_⟩
  ·rw[hsz];show 1+out.length<=_;omega
  ·rw[cr,Nat.pow_succ]
   have h1:m / 10*10<=m:=Nat.div_mul_le_self m 10;have h2:=aq (10^out.length) h1;have h3:m / 10*(10^out.length*10)=m / 10*10*10^out.length:=by rw[Nat.mul_assoc,GR 10]
   omega
  ·rw[uQ];rfl
theorem PG(x:Seen):ar Tryz.prog 224 [.agg x.row] (.one (.agg x.res)):=by
 refine aE aw Tryz.func224 al rfl rfl rfl (ai rfl) (λw0 base=>?_);simp[Seen.row,Seen.res]
 try intros
theorem Se(x y:Seen):ar Tryz.prog 243 [.agg x.row,.agg y.row] (.one (.c (vb (x=y)) 1)):=by
 refine aE aw Tryz.func243 al rfl rfl rfl (ai rfl) (λw0 base=>?_);obtain⟨a0,a1,a2⟩:=x;obtain⟨b0,b1,b2⟩:=y;simp[Seen.row]
 try intros
 by_cases h0:a0=b0
 rotate_left
 ·simp[h0]
 subst h0
 try simp
 by_cases h1:a1=b1
 rotate_left
 ·simp[h1]
 subst h1
 try simp
 exact xV
theorem Nn(l:List Seen)(hl:l.length<=2^40):ar Tryz.prog 180 [.c (.s (l.map Seen.row))] (.one (.c (.s (l.map Seen.row)) 3)):=by
 refine aE aw Tryz.func180 al rfl rfl rfl (ai rfl) (λw0 base=>?_);simp;refine⟨aa,λb=>?_⟩
 refine aU.intro eok (λi:Nat=>i<=l.length) (λi=>⟨23,0,[(4,.v (.int .i64 i)),(3,.sl 112 (some (b,0,l.length)) 3 0 l.length),(0,.ro (l.map Seen.row))],
  [(112,.rows (some (b,0,l.length)) 3 (lG Seen.row [.v (.int .i64 0),.v (.int .i64 0),.v (.int .i64 0)] l i) true)]⟩) (λi=>l.length-i) 0 ab m8 (λi hi=>?_)
 by_cases h:i<l.length
 ·simp[h,Seen.row]
  refine ag.pure (PG l[i]) (by simp[Seen.row]) ?_;simp[Seen.res,gq hi,h];exact⟨i+1,aa,aa,aQ aa,jQ (f:=Seen.row) h⟩
 ·exact oT
theorem OP(a b:List Seen)(hl:a.length<=2^40):ar Tryz.prog 208 [.c (.s (a.map Seen.row)),.c (.s (b.map Seen.row))] (.one (.c (vb (a=b)) 1)):=by
 refine aE aw Tryz.func208 al rfl rfl rfl (ai rfl) (λw0 base=>?_);by_cases h:a.length=b.length
 ·simp[h]
  refine aU.intro eok (λi:Nat=>i<=a.length/\a.take i=b.take i) (λi=>⟨27,0,[(5,.v (.int .i64 i)),(1,.ro (b.map Seen.row)),(0,.ro (a.map Seen.row))],[]⟩) (λi=>a.length-i) 0 ab ab (λi hi=>?_);by_cases hlt:i<a.length
  ·simp[hlt]
   have hlt':i<b.length:=aa;refine aZ.quiet eok mix al ?_;simp[hlt,hlt',Seen.row];refine⟨_,_,Se a[i] b[i],by simp[Seen.row],?_⟩;exact l9
  ·exact ni
 ·exact jw
theorem Nt(l:List Seen)(hl:l.length<=9223372036854775807)(left:Nat)(hf:left<=2^20):ar Tryz.prog 156 [.c (.s (l.map Seen.row)),.c (vi left)] (.one (.c (vi (szR l.length left)) 1)):=by
 refine aE aw Tryz.func156 al rfl rfl rfl (ai rfl) (λw0 base=>?_);exact LU
theorem FJ(l:List Seen)(k:Int)(h0:0<=k)(hk:k+aN Seen.cnt l<=4611686018427387904)(hl:l.length<=2^40):iH Tryz.prog 153 (.c (.s (l.map Seen.row)) 3) k (k+aN Seen.cnt l) (.c (.s ((aL Seen.mark Seen.cnt l k).map Seen.row)) 3):=by
 refine iH.intro aw Tryz.func153 al rfl rfl rfl ah (λw0 base=>?_);simp;intro H;refine aH eok (λi:Nat=>i<=l.length) (λi=>⟨34,0,[(5,.v (.int .i64 i)),(1,.v (.int .i64 (k+aN Seen.cnt (l.take i)))),(0,.ml 0 H 3 l.length)],[(0,.rows H 3 (bO Seen.mark Seen.cnt Seen.row l k i) true)]⟩) (λi=>l.length-i) 0 ab oK (λi hi=>?_);by_cases h:i<l.length
 ·have hc:=cL (cn:=Seen.cnt) h
  have hs:=ch (cn:=Seen.cnt) h;obtain⟨q0,hq0⟩:∃q,k+((aN Seen.cnt (l.take i):Nat):Int)=q:=⟨_,rfl⟩;have hpc:l[i].cnt=3:=rfl;rw[hq0,<-gH h];have e0:Go.IntKind.i64.wrap q0=q0:=ae _ aa;obtain⟨q1,hq1⟩:∃q,q0+1=q:=⟨_,rfl⟩;have e1:Go.IntKind.i64.wrap q1=q1:=ae _ aa;obtain⟨q2,hq2⟩:∃q,q1+1=q:=⟨_,rfl⟩;have e2:Go.IntKind.i64.wrap q2=q2:=ae _ aa;obtain⟨q3,hq3⟩:∃q,q2+1=q:=⟨_,rfl⟩;have e3:Go.IntKind.i64.wrap q3=q3:=ae _ aa;have e:Go.IntKind.i64.wrap ((i:Int)+1)=((i+1:Nat):Int):=aQ aa;refine Ent.refl ?_;simp[h,bN,Seen.row,bm,hq1,e1,hq2,e2,hq3,e3];refine Ent.refl ⟨i+1,aa,aa,?_⟩;simp[hs,hpc,e];refine⟨aa,?_⟩
  refine gG h ?_;rw[hq0];subst hq1 hq2 hq3;rfl
 ·have:i=l.length:=by omega
  subst this;refine Ent.refl ?_;simp[gI,aJ,Seen.row]
theorem F9(l:List Seen)(k:Int)(h0:0<=k)(hk:k+aN Seen.cnt l<=4611686018427387904)(hl:l.length<=2^40):ar Tryz.prog 154 [.c (.s ((aL Seen.mark Seen.cnt l k).map Seen.row)),.c (vi k)] (.one (.c (vi (k+aN Seen.cnt l)) 1)):=by
 refine aE aw Tryz.func154 al rfl rfl rfl (ai rfl) (λw0 base=>?_);simp;refine aU.intro eok (λi:Nat=>i<=l.length) (λi=>⟨40,0,[(5,.v (.int .i64 i)),(1,.v (.int .i64 (k+aN Seen.cnt (l.take i)))),(0,.ro ((aL Seen.mark Seen.cnt l k).map Seen.row))],[]⟩) (λi=>l.length-i) 0 ab jv (λi hi=>?_);by_cases h:i<l.length
 ·have hc:=cL (cn:=Seen.cnt) h
  have hs:=ch (cn:=Seen.cnt) h;have hm:=iQ (mk:=Seen.mark) (cn:=Seen.cnt) (k:=k) h;obtain⟨q0,hq0⟩:∃q,k+((aN Seen.cnt (l.take i):Nat):Int)=q:=⟨_,rfl⟩;have hpc:l[i].cnt=3:=rfl;rw[hq0]at hm;rw[hq0];have z0:¬q0<0:=aa;have e0:Go.IntKind.i64.wrap q0=q0:=ae _ aa;obtain⟨q1,hq1⟩:∃q,q0+1=q:=⟨_,rfl⟩;have e1:Go.IntKind.i64.wrap q1=q1:=ae _ aa;have z1:¬q1<0:=aa;obtain⟨q2,hq2⟩:∃q,q1+1=q:=⟨_,rfl⟩;have e2:Go.IntKind.i64.wrap q2=q2:=ae _ aa;have z2:¬q2<0:=aa;obtain⟨q3,hq3⟩:∃q,q2+1=q:=⟨_,rfl⟩;have e3:Go.IntKind.i64.wrap q3=q3:=ae _ aa;have z3:¬q3<0:=aa;have e:Go.IntKind.i64.wrap ((i:Int)+1)=((i+1:Nat):Int):=aQ aa
  simp[h,aJ,hm,Seen.row,Seen.mark,hq1,e1,hq2,e2,hq3,e3];exact oR
 ·exact nk
theorem TB(x:Doc)(h:cB x<=2^40):ar Tryz.prog 126 [.agg x.row] (.one (.agg x.res)):=by
 refine aE aw Tryz.func126 al rfl rfl rfl (ai rfl) (λw0 base=>?_);unfold cB at h;simp[Doc.row,Doc.res]
 try intros
 refine ag.pure (oj x.text aa) ab ?_;simp
 try intros
 refine ag.pure (yx x.list aa) ab ?_;simp
 try intros
 refine ag.pure (Nn x.seen aa) ab ?_;simp
 try intros
theorem UZ(x y:Doc)(h:cB x<=2^40):ar Tryz.prog 149 [.agg x.row,.agg y.row] (.one (.c (vb (x=y)) 1)):=by
 refine aE aw Tryz.func149 al rfl rfl rfl (ai rfl) (λw0 base=>?_);unfold cB at h;obtain⟨a0,a1,a2,a3,a4⟩:=x;obtain⟨b0,b1,b2,b3,b4⟩:=y;simp only at h;simp[Doc.row]
 try intros
 by_cases h0:a0=b0
 rotate_left
 ·simp[h0]
 subst h0
 try simp
 by_cases h1:a1=b1
 rotate_left
 ·simp[h1]
 subst h1
 try simp
 refine ag.pure (oD a2 b2 aa) ab ?_;simp;by_cases h2:a2=b2
 rotate_left
 ·simp[h2]
 subst h2
 try simp
 refine ag.pure (zu a3 b3 aa) ab ?_;simp;by_cases h3:a3=b3
 rotate_left
 ·simp[h3]
 subst h3
 try simp
 refine ag.pure (OP a4 b4 aa) ab ?_;simp;by_cases h4:a4=b4
 rotate_left
 ·simp[h4]
 subst h4
 try simp
theorem TJ(x:Doc)(h:x.fits)(left:Nat)(hf:left<=2^20):ar Tryz.prog 105 [.agg x.row,.c (vi left)] (.one (.c (vi (szR (cB x) left)) 1)):=by
 refine aE aw Tryz.func105 al rfl rfl rfl (ai rfl) (λw0 base=>?_);obtain⟨f0,f1,f2,f3,f4⟩:=h;obtain⟨r,hr⟩:∃r,szR (cB x) left=r:=⟨_,rfl⟩;rw[hr];have hn:cB x=x.name.size+(x.text.length+(nL aX x.list+(x.seen.length))):=rfl;simp[Doc.row]
 try intros
 by_cases k0:x.name.size<=left
 rotate_left
 ·have hw:IntKind.i64.wrap ((left:Int)-(x.name.size:Int))=(left:Int)-x.name.size:=ft _ aa
  have hz:(left:Int)-x.name.size<0:=aa;have:r = -1:=by rw[<-hr];exact eU aa
  simp[hw,hz,this]
 obtain⟨m0,hm0⟩:∃m,left-x.name.size=m:=⟨_,rfl⟩;have w0:IntKind.i64.wrap ((left:Int)-(x.name.size:Int))=(m0:Int):=by rw[ft _ aa];omega
 simp[w0];refine ag.pure (om x.text f2.1 m0 aa) ab ?_;by_cases k1:x.text.length<=m0
 rotate_left
 ·exact nm
 rw[dL k1];obtain⟨m1,hm1⟩:∃m,m0-x.text.length=m:=⟨_,rfl⟩;rw[hm1];simp;refine ag.pure (sW x.list f3.1 f3.2 m1 aa) ab ?_;by_cases k2:nL aX x.list<=m1
 rotate_left
 ·exact CT
 rw[dL k2];obtain⟨m2,hm2⟩:∃m,m1-nL aX x.list=m:=⟨_,rfl⟩;rw[hm2];simp;refine ag.pure (Nt x.seen f4.1 m2 aa) ab ?_;by_cases k3:x.seen.length<=m2
 rotate_left
 ·exact JO
 rw[dL k3];obtain⟨m3,hm3⟩:∃m,m2-x.seen.length=m:=⟨_,rfl⟩;exact JR
theorem PJ(l:List Doc)(hl:nL cB l<=2^40):ar Tryz.prog 71 [.c (.s (l.map Doc.row))] (.one (.c (.s (l.map Doc.row)) 5)):=by
 refine aE aw Tryz.func71 al rfl rfl rfl (ai rfl) (λw0 base=>?_);have hle:=aY hl;simp;refine⟨aa,λb=>?_⟩
 refine aU.intro eok (λi:Nat=>i<=l.length) (λi=>⟨23,0,[(4,.v (.int .i64 i)),(3,.sl 112 (some (b,0,l.length)) 5 0 l.length),(0,.ro (l.map Doc.row))],
  [(112,.rows (some (b,0,l.length)) 5 (lG Doc.row [.v (.string ⟨#[]⟩),.v (.int .i64 0),.s [],.s [],.s []] l i) true)]⟩) (λi=>l.length-i) 0 ab m8 (λi hi=>?_)
 by_cases h:i<l.length
 ·simp[h,Doc.row]
  refine ag.pure (TB l[i] (cH hl h)) bo ?_;simp[Doc.res,gq hi,h];exact⟨i+1,aa,aa,aQ aa,jQ (f:=Doc.row) h⟩
 ·exact oT
theorem Si(a b:List Doc)(hl:nL cB a<=2^40):ar Tryz.prog 89 [.c (.s (a.map Doc.row)),.c (.s (b.map Doc.row))] (.one (.c (vb (a=b)) 1)):=by
 refine aE aw Tryz.func89 al rfl rfl rfl (ai rfl) (λw0 base=>?_);have hle:=aY hl;by_cases h:a.length=b.length
 ·simp[h]
  refine aU.intro eok (λi:Nat=>i<=a.length/\a.take i=b.take i) (λi=>⟨27,0,[(5,.v (.int .i64 i)),(1,.ro (b.map Doc.row)),(0,.ro (a.map Doc.row))],[]⟩) (λi=>a.length-i) 0 ab ab (λi hi=>?_);by_cases hlt:i<a.length
  ·simp[hlt]
   have hlt':i<b.length:=aa;refine aZ.quiet eok mix al ?_;simp[hlt,hlt',Doc.row];refine⟨_,_,UZ a[i] b[i] (cH hl hlt),bo,?_⟩;exact l9
  ·exact ni
 ·exact jw
theorem Qz(l:List Doc)(hl:l.length<=9223372036854775807)(hs:∀y∈l,y.fits)(left:Nat)(hf:left<=2^20):ar Tryz.prog 55 [.c (.s (l.map Doc.row)),.c (vi left)] (.one (.c (vi (szR (nL cB l) left)) 1)):=by
 refine aE aw Tryz.func55 al rfl rfl rfl (ai rfl) (λw0 base=>?_);have hw:IntKind.i64.wrap ((left:Int)-(l.length:Int))=(left:Int)-l.length:=ft _ aa;have hn:nL cB l=l.length+cw cB l:=rfl;by_cases h:l.length<=left
 ·obtain⟨lf,hlf⟩:∃lf:Nat,left-l.length=lf:=⟨_,rfl⟩
  have hlz:(left:Int)-l.length=(lf:Int):=aa;have hw2:IntKind.i64.wrap (lf:Int)=lf:=fh aa;simp[hlz,hw2];obtain⟨r,hr⟩:∃r,szR (nL cB l) left=r:=⟨_,rfl⟩;have hr0:szR (cw cB l) lf=r:=rk;rw[hr];refine aU.intro eok (λx:Nat×Nat=>x.1<=l.length/\x.2<=2^20/\szR (cw cB (l.drop x.1)) x.2=r) (λx=>⟨27,0,[(5,.v (.int .i64 x.1)),(1,.v (.int .i64 x.2)),(0,.ro (l.map Doc.row))],[]⟩) (λx=>l.length-x.1) (0,lf) rj ab ?_
  rintro⟨i,m⟩ ⟨hi,hm,hx⟩
  simp only at hi hm hx⊢;by_cases hlt:i<l.length
  ·rw[kO hlt]at hx
   simp[hlt,Doc.row];refine ag.pure (TJ l[i] (hs _ (aj hlt)) m hm) bo ?_;by_cases hk:cB l[i]<=m
   ·rw[dL hk]
    have hz:¬((m-cB l[i]:Nat):Int)<0:=aa;simp[hz];refine⟨i+1,m-cB l[i],⟨aa,aa,?_⟩,aa,aQ aa,rfl⟩;exact rz
   ·rw[eU (show ¬cB l[i]+cw cB (l.drop (i+1))<=m from aa)]at hx
    exact ru
  ·exact rD
 ·have hz:(left:Int)-l.length<0:=by omega
  simp[hw,hz,eU (show ¬nL cB l<=left from aa)]
theorem y8(l:List Doc)(k:Int)(h0:0<=k)(hk:k+aN Doc.cnt l<=4611686018427387904)(hl:nL cB l<=2^40):iH Tryz.prog 93 (.c (.s (l.map Doc.row)) 5) k (k+aN Doc.cnt l) (.c (.s ((aL Doc.mark Doc.cnt l k).map Doc.row)) 5):=by
 refine iH.intro aw Tryz.func93 al rfl rfl rfl ah (λw0 base=>?_);have hle:=aY hl;simp;intro H;refine aH eok (λi:Nat=>i<=l.length) (λi=>⟨49,0,[(5,.v (.int .i64 i)),(1,.v (.int .i64 (k+aN Doc.cnt (l.take i)))),(0,.ml 0 H 5 l.length)],[(0,.rows H 5 (bO Doc.mark Doc.cnt Doc.row l k i) true)]⟩) (λi=>l.length-i) 0 ab oK (λi hi=>?_);by_cases h:i<l.length
 ·have hc:=cL (cn:=Doc.cnt) h
  have hs:=ch (cn:=Doc.cnt) h;have hni:=cH hl h;simp only[cB]at hni;obtain⟨q0,hq0⟩:∃q,k+((aN Doc.cnt (l.take i):Nat):Int)=q:=⟨_,rfl⟩;have hpc:l[i].cnt=2+(l[i].text.length+(aN Entry.cnt l[i].list+(aN Seen.cnt l[i].seen))):=rfl;rw[hq0,<-gH h];have e0:Go.IntKind.i64.wrap q0=q0:=ae _ aa;obtain⟨q1,hq1⟩:∃q,q0+1=q:=⟨_,rfl⟩;have e1:Go.IntKind.i64.wrap q1=q1:=ae _ aa;obtain⟨q2,hq2⟩:∃q,q1+1=q:=⟨_,rfl⟩;have e2:Go.IntKind.i64.wrap q2=q2:=ae _ aa;obtain⟨q3,hq3⟩:∃q,q2+((l[i].text.length:Nat):Int)=q:=⟨_,rfl⟩;have e3:Go.IntKind.i64.wrap q3=q3:=ae _ aa;obtain⟨q4,hq4⟩:∃q,q3+((aN Entry.cnt l[i].list:Nat):Int)=q:=⟨_,rfl⟩
  have e4:Go.IntKind.i64.wrap q4=q4:=ae _ aa;obtain⟨q5,hq5⟩:∃q,q4+((aN Seen.cnt l[i].seen:Nat):Int)=q:=⟨_,rfl⟩;have e5:Go.IntKind.i64.wrap q5=q5:=ae _ aa;have e:Go.IntKind.i64.wrap ((i:Int)+1)=((i+1:Nat):Int):=aQ aa;refine Ent.open (λ_ h=>h) (k:=0) (i:=i) (j:=2) (k':=902) (sz':=1) (sz:=5) (H:=H) (rows:=((bO Doc.mark Doc.cnt Doc.row l k i).set i l[i].row)) (srows:=l[i].text.map aI) (row:=l[i].row) ab eI rfl ab ah ju ab (λH2=>?_)
  refine Ent.open (λ_ h=>h) (k:=0) (i:=i) (j:=3) (k':=903) (sz':=3) (sz:=5) (H:=H) (rows:=((bO Doc.mark Doc.cnt Doc.row l k i).set i [.v (.string l[i].name),vi l[i].fr,.h 902 H2 1 l[i].text.length,.s (l[i].list.map Entry.row),.s (l[i].seen.map Seen.row)])) (srows:=l[i].list.map Entry.row) (row:=[.v (.string l[i].name),vi l[i].fr,.h 902 H2 1 l[i].text.length,.s (l[i].list.map Entry.row),.s (l[i].seen.map Seen.row)]) (by simp[dB,Doc.row]) eI rfl ab ah fe ab (λH3=>?_)
  refine Ent.open (λ_ h=>h) (k:=0) (i:=i) (j:=4) (k':=904) (sz':=3) (sz:=5) (H:=H) (rows:=((bO Doc.mark Doc.cnt Doc.row l k i).set i [.v (.string l[i].name),vi l[i].fr,.h 902 H2 1 l[i].text.length,.h 903 H3 3 l[i].list.length,.s (l[i].seen.map Seen.row)])) (srows:=l[i].seen.map Seen.row) (row:=[.v (.string l[i].name),vi l[i].fr,.h 902 H2 1 l[i].text.length,.h 903 H3 3 l[i].list.length,.s (l[i].seen.map Seen.row)]) (by simp[dB,Doc.row]) eI rfl ab ah (by simp[Seen.row]) ab (λH4=>?_);refine Ent.refl ?_;simp[h,Doc.row,dB];refine ag.pure (fm q0 aa aa) ab ?_;simp[h,bN,bm,hq1,e1,hq2,e2];refine ag.mark (fS l[i].text q2 aa aa) rfl (λ_ h=>h) ab ?_;simp[h,bN,hq3]
  refine ag.mark (i9 l[i].list q3 aa aa aa) rfl (λ_ h=>h) ab ?_;simp[h,bN,hq4];refine ag.mark (FJ l[i].seen q4 aa aa aa) rfl (λ_ h=>h) ab ?_;simp[e,hq5];refine dG (k:=0) (i:=i) (j:=2) (k':=902) (sz':=1) (sz:=5) (H:=H) (rows:=(bO Doc.mark Doc.cnt Doc.row l k i).set i [.v (.string (markT q0)),vi q1,.h 902 H2 1 l[i].text.length,.h 903 H3 3 l[i].list.length,.h 904 H4 3 l[i].seen.length]) (row:=[.v (.string (markT q0)),vi q1,.h 902 H2 1 l[i].text.length,.h 903 H3 3 l[i].list.length,.h 904 H4 3 l[i].seen.length]) (H':=H2) (srows:=(aL eR one l[i].text q2).map aI) ab eI ff ab ah ab ?_
  refine dG (k:=0) (i:=i) (j:=3) (k':=903) (sz':=3) (sz:=5) (H:=H) (rows:=(bO Doc.mark Doc.cnt Doc.row l k i).set i [.v (.string (markT q0)),vi q1,.s ((aL eR one l[i].text q2).map aI),.h 903 H3 3 l[i].list.length,.h 904 H4 3 l[i].seen.length]) (row:=[.v (.string (markT q0)),vi q1,.s ((aL eR one l[i].text q2).map aI),.h 903 H3 3 l[i].list.length,.h 904 H4 3 l[i].seen.length]) (H':=H3) (srows:=(aL Entry.mark Entry.cnt l[i].list q3).map Entry.row) j6 eI ff ab ah ab ?_
  refine dG (k:=0) (i:=i) (j:=4) (k':=904) (sz':=3) (sz:=5) (H:=H) (rows:=(bO Doc.mark Doc.cnt Doc.row l k i).set i [.v (.string (markT q0)),vi q1,.s ((aL eR one l[i].text q2).map aI),.s ((aL Entry.mark Entry.cnt l[i].list q3).map Entry.row),.h 904 H4 3 l[i].seen.length]) (row:=[.v (.string (markT q0)),vi q1,.s ((aL eR one l[i].text q2).map aI),.s ((aL Entry.mark Entry.cnt l[i].list q3).map Entry.row),.h 904 H4 3 l[i].seen.length]) (H':=H4) (srows:=(aL Seen.mark Seen.cnt l[i].seen q4).map Seen.row) j6 eI ff ab ah ab ?_;refine Ent.refl ⟨i+1,aa,aa,?_⟩;simp[dB,hs,hpc];refine⟨aa,?_⟩;refine gG h ?_;rw[hq0];subst hq1 hq2 hq3 hq4 hq5;rfl
 ·have:i=l.length:=by omega
  subst this;refine Ent.refl ?_;simp[gI,aJ,Doc.row]
theorem Il(l:List Doc)(k:Int)(h0:0<=k)(hk:k+aN Doc.cnt l<=4611686018427387904)(hl:nL cB l<=2^40):ar Tryz.prog 98 [.c (.s ((aL Doc.mark Doc.cnt l k).map Doc.row)),.c (vi k)] (.one (.c (vi (k+aN Doc.cnt l)) 1)):=by
 refine aE aw Tryz.func98 al rfl rfl rfl (ai rfl) (λw0 base=>?_);have hle:=aY hl;simp;refine aU.intro eok (λi:Nat=>i<=l.length) (λi=>⟨59,0,[(5,.v (.int .i64 i)),(1,.v (.int .i64 (k+aN Doc.cnt (l.take i)))),(0,.ro ((aL Doc.mark Doc.cnt l k).map Doc.row))],[]⟩) (λi=>l.length-i) 0 ab jv (λi hi=>?_);by_cases h:i<l.length
 ·have hc:=cL (cn:=Doc.cnt) h
  have hs:=ch (cn:=Doc.cnt) h;have hni:=cH hl h;simp only[cB]at hni;have hm:=iQ (mk:=Doc.mark) (cn:=Doc.cnt) (k:=k) h;obtain⟨q0,hq0⟩:∃q,k+((aN Doc.cnt (l.take i):Nat):Int)=q:=⟨_,rfl⟩;have hpc:l[i].cnt=2+(l[i].text.length+(aN Entry.cnt l[i].list+(aN Seen.cnt l[i].seen))):=rfl;rw[hq0]at hm;rw[hq0];have z0:¬q0<0:=aa;have e0:Go.IntKind.i64.wrap q0=q0:=ae _ aa;obtain⟨q1,hq1⟩:∃q,q0+1=q:=⟨_,rfl⟩;have e1:Go.IntKind.i64.wrap q1=q1:=ae _ aa;have z1:¬q1<0:=aa;obtain⟨q2,hq2⟩:∃q,q1+1=q:=⟨_,rfl⟩;have e2:Go.IntKind.i64.wrap q2=q2:=ae _ aa;have z2:¬q2<0:=aa;obtain⟨q3,hq3⟩:∃q,q2+((l[i].text.length:Nat):Int)=q:=⟨_,rfl⟩
  have e3:Go.IntKind.i64.wrap q3=q3:=ae _ aa;have z3:¬q3<0:=aa;obtain⟨q4,hq4⟩:∃q,q3+((aN Entry.cnt l[i].list:Nat):Int)=q:=⟨_,rfl⟩;have e4:Go.IntKind.i64.wrap q4=q4:=ae _ aa;have z4:¬q4<0:=aa;obtain⟨q5,hq5⟩:∃q,q4+((aN Seen.cnt l[i].seen:Nat):Int)=q:=⟨_,rfl⟩;have e5:Go.IntKind.i64.wrap q5=q5:=ae _ aa;have z5:¬q5<0:=aa;have e:Go.IntKind.i64.wrap ((i:Int)+1)=((i+1:Nat):Int):=aQ aa;simp[h,aJ];refine aZ.quiet eok mix al ?_;simp[h,aJ,hm,Doc.row,Doc.mark,hq1,hq2,hq3,hq4];refine⟨_,_,fm q0 aa aa,ab,?_⟩;simp[h,aJ,hm,Doc.row,Doc.mark,hq1,e1,hq2,e2,hq3,hq4]
  refine ag.pure (kR l[i].text q2 aa aa) ab ?_;simp[h,aJ,hm,Doc.row,Doc.mark,hq1,hq2,hq3,z3,hq4];refine ag.pure (pf l[i].list q3 aa aa aa) ab ?_;simp[h,aJ,hm,Doc.row,Doc.mark,hq1,hq2,hq3,hq4,z4];refine ag.pure (F9 l[i].seen q4 aa aa aa) ab ?_;simp[hq5,z5];exact oR
 ·exact nk
theorem PH(x:Ring)(h:cV x<=2^40):ar Tryz.prog 181 [.agg x.row] (.one (.agg x.res)):=by
 refine aE aw Tryz.func181 al rfl rfl rfl (ai rfl) (λw0 base=>?_);unfold cV at h;simp[Ring.row,Ring.res];exact JW
theorem Sf(x y:Ring)(h:cV x<=2^40):ar Tryz.prog 209 [.agg x.row,.agg y.row] (.one (.c (vb (x=y)) 1)):=by
 refine aE aw Tryz.func209 al rfl rfl rfl (ai rfl) (λw0 base=>?_);unfold cV at h;obtain⟨a0,a1,a2,a3⟩:=x;obtain⟨b0,b1,b2,b3⟩:=y;simp only at h;simp[Ring.row]
 try intros
 by_cases h0:a0=b0
 rotate_left
 ·simp[h0]
 subst h0
 try simp
 by_cases h1:a1=b1
 rotate_left
 ·simp[h1]
 subst h1
 try simp
 exact Lt
theorem Qx(x:Ring)(h:x.fits)(left:Nat)(hf:left<=2^20):ar Tryz.prog 157 [.agg x.row,.c (vi left)] (.one (.c (vi (szR (cV x) left)) 1)):=by
 refine aE aw Tryz.func157 al rfl rfl rfl (ai rfl) (λw0 base=>?_);obtain⟨f0,f1,f2,f3⟩:=h;obtain⟨r,hr⟩:∃r,szR (cV x) left=r:=⟨_,rfl⟩;rw[hr];have hn:cV x=nL aX x.list:=rfl;simp[Ring.row]
 try intros
 refine ag.pure (sW x.list f3.1 f3.2 left aa) ab ?_;by_cases k0:nL aX x.list<=left
 rotate_left
 ·exact oS
 rw[dL k0];obtain⟨m0,hm0⟩:∃m,left-nL aX x.list=m:=⟨_,rfl⟩;exact CX
theorem Tz(x:Sub)(h:dp x<=2^40):ar Tryz.prog 127 [.agg x.row] (.one (.agg x.res)):=by
 refine aE aw Tryz.func127 al rfl rfl rfl (ai rfl) (λw0 base=>?_);unfold dp at h;simp[Sub.row,Sub.res]
 try intros
 refine ag.pure (PH x.r aa) dH ?_;simp[Ring.res]
 try intros
theorem UX(x y:Sub)(h:dp x<=2^40):ar Tryz.prog 150 [.agg x.row,.agg y.row] (.one (.c (vb (x=y)) 1)):=by
 refine aE aw Tryz.func150 al rfl rfl rfl (ai rfl) (λw0 base=>?_);unfold dp at h;obtain⟨a0,a1,a2⟩:=x;obtain⟨b0,b1,b2⟩:=y;simp only at h;simp[Sub.row]
 try intros
 by_cases h0:a0=b0
 rotate_left
 ·simp[h0]
 subst h0
 try simp
 by_cases h1:a1=b1
 rotate_left
 ·simp[h1]
 subst h1
 try simp
 refine ag.pure (Sf a2 b2 aa) dH ?_;simp;exact xV
theorem TG(x:Sub)(h:x.fits)(left:Nat)(hf:left<=2^20):ar Tryz.prog 106 [.agg x.row,.c (vi left)] (.one (.c (vi (szR (dp x) left)) 1)):=by
 refine aE aw Tryz.func106 al rfl rfl rfl (ai rfl) (λw0 base=>?_);obtain⟨f0,f1,f2⟩:=h;obtain⟨r,hr⟩:∃r,szR (dp x) left=r:=⟨_,rfl⟩;rw[hr];have hn:dp x=x.doc.size+(cV x.r):=rfl;simp[Sub.row]
 try intros
 by_cases k0:x.doc.size<=left
 rotate_left
 ·exact Dp
 obtain⟨m0,hm0⟩:∃m,left-x.doc.size=m:=⟨_,rfl⟩;have w0:IntKind.i64.wrap ((left:Int)-(x.doc.size:Int))=(m0:Int):=by rw[ft _ aa];omega
 simp[w0];refine ag.pure (Qx x.r f2 m0 aa) dH ?_;by_cases k1:cV x.r<=m0
 rotate_left
 ·exact nm
 rw[dL k1];obtain⟨m1,hm1⟩:∃m,m0-cV x.r=m:=⟨_,rfl⟩;exact tU
theorem PF(l:List Sub)(hl:nL dp l<=2^40):ar Tryz.prog 72 [.c (.s (l.map Sub.row))] (.one (.c (.s (l.map Sub.row)) 6)):=by
 refine aE aw Tryz.func72 al rfl rfl rfl (ai rfl) (λw0 base=>?_);have hle:=aY hl;simp;refine⟨aa,λb=>?_⟩
 refine aU.intro eok (λi:Nat=>i<=l.length) (λi=>⟨23,0,[(4,.v (.int .i64 i)),(3,.sl 112 (some (b,0,l.length)) 6 0 l.length),(0,.ro (l.map Sub.row))],
  [(112,.rows (some (b,0,l.length)) 6 (lG Sub.row [.v (.int .i64 0),.v (.string ⟨#[]⟩),.v (.int .i64 0),.v (.int .i64 0),.v (.bool false),.s []] l i) true)]⟩) (λi=>l.length-i) 0 ab m8 (λi hi=>?_)
 by_cases h:i<l.length
 ·simp[h,Sub.row]
  refine ag.pure (Tz l[i] (cH hl h)) (by simp[Sub.row]) ?_;simp[Sub.res,gq hi,h];exact⟨i+1,aa,aa,aQ aa,jQ (f:=Sub.row) h⟩
 ·exact oT
theorem Sd(a b:List Sub)(hl:nL dp a<=2^40):ar Tryz.prog 90 [.c (.s (a.map Sub.row)),.c (.s (b.map Sub.row))] (.one (.c (vb (a=b)) 1)):=by
 refine aE aw Tryz.func90 al rfl rfl rfl (ai rfl) (λw0 base=>?_);have hle:=aY hl;by_cases h:a.length=b.length
 ·simp[h]
  refine aU.intro eok (λi:Nat=>i<=a.length/\a.take i=b.take i) (λi=>⟨27,0,[(5,.v (.int .i64 i)),(1,.ro (b.map Sub.row)),(0,.ro (a.map Sub.row))],[]⟩) (λi=>a.length-i) 0 ab ab (λi hi=>?_);by_cases hlt:i<a.length
  ·simp[hlt]
   have hlt':i<b.length:=aa;refine aZ.quiet eok mix al ?_;simp[hlt,hlt',Sub.row];refine⟨_,_,UX a[i] b[i] (cH hl hlt),by simp[Sub.row],?_⟩;exact l9
  ·exact ni
 ·exact jw
theorem Qw(l:List Sub)(hl:l.length<=9223372036854775807)(hs:∀y∈l,y.fits)(left:Nat)(hf:left<=2^20):ar Tryz.prog 56 [.c (.s (l.map Sub.row)),.c (vi left)] (.one (.c (vi (szR (nL dp l) left)) 1)):=by
 refine aE aw Tryz.func56 al rfl rfl rfl (ai rfl) (λw0 base=>?_);have hw:IntKind.i64.wrap ((left:Int)-(l.length:Int))=(left:Int)-l.length:=ft _ aa;have hn:nL dp l=l.length+cw dp l:=rfl;by_cases h:l.length<=left
 ·obtain⟨lf,hlf⟩:∃lf:Nat,left-l.length=lf:=⟨_,rfl⟩
  have hlz:(left:Int)-l.length=(lf:Int):=aa;have hw2:IntKind.i64.wrap (lf:Int)=lf:=fh aa;simp[hlz,hw2];obtain⟨r,hr⟩:∃r,szR (nL dp l) left=r:=⟨_,rfl⟩;have hr0:szR (cw dp l) lf=r:=rk;rw[hr];refine aU.intro eok (λx:Nat×Nat=>x.1<=l.length/\x.2<=2^20/\szR (cw dp (l.drop x.1)) x.2=r) (λx=>⟨27,0,[(5,.v (.int .i64 x.1)),(1,.v (.int .i64 x.2)),(0,.ro (l.map Sub.row))],[]⟩) (λx=>l.length-x.1) (0,lf) rj ab ?_
  rintro⟨i,m⟩ ⟨hi,hm,hx⟩
  simp only at hi hm hx⊢;by_cases hlt:i<l.length
  ·rw[kO hlt]at hx
   simp[hlt,Sub.row];refine ag.pure (TG l[i] (hs _ (aj hlt)) m hm) (by simp[Sub.row]) ?_;by_cases hk:dp l[i]<=m
   ·rw[dL hk]
    have hz:¬((m-dp l[i]:Nat):Int)<0:=aa;simp[hz];refine⟨i+1,m-dp l[i],⟨aa,aa,?_⟩,aa,aQ aa,rfl⟩;exact rz
   ·rw[eU (show ¬dp l[i]+cw dp (l.drop (i+1))<=m from aa)]at hx
    exact ru
  ·exact rD
 ·have hz:(left:Int)-l.length<0:=by omega
  simp[hw,hz,eU (show ¬nL dp l<=left from aa)]
theorem HM(l:List Sub)(k:Int)(h0:0<=k)(hk:k+aN Sub.cnt l<=4611686018427387904)(hl:nL dp l<=2^40):iH Tryz.prog 94 (.c (.s (l.map Sub.row)) 6) k (k+aN Sub.cnt l) (.c (.s ((aL Sub.mark Sub.cnt l k).map Sub.row)) 6):=by
 refine iH.intro aw Tryz.func94 al rfl rfl rfl ah (λw0 base=>?_);have hle:=aY hl;simp;intro H;refine aH eok (λi:Nat=>i<=l.length) (λi=>⟨62,0,[(5,.v (.int .i64 i)),(1,.v (.int .i64 (k+aN Sub.cnt (l.take i)))),(0,.ml 0 H 6 l.length)],[(0,.rows H 6 (bO Sub.mark Sub.cnt Sub.row l k i) true)]⟩) (λi=>l.length-i) 0 ab oK (λi hi=>?_);by_cases h:i<l.length
 ·have hc:=cL (cn:=Sub.cnt) h
  have hs:=ch (cn:=Sub.cnt) h;have hni:=cH hl h;simp only[dp,cV]at hni;obtain⟨q0,hq0⟩:∃q,k+((aN Sub.cnt (l.take i):Nat):Int)=q:=⟨_,rfl⟩;have hpc:l[i].cnt=5+(aN Entry.cnt l[i].r.list):=rfl;rw[hq0,<-gH h];have e0:Go.IntKind.i64.wrap q0=q0:=ae _ aa;obtain⟨q1,hq1⟩:∃q,q0+1=q:=⟨_,rfl⟩;have e1:Go.IntKind.i64.wrap q1=q1:=ae _ aa;obtain⟨q2,hq2⟩:∃q,q1+1=q:=⟨_,rfl⟩;have e2:Go.IntKind.i64.wrap q2=q2:=ae _ aa;obtain⟨q3,hq3⟩:∃q,q2+1=q:=⟨_,rfl⟩;have e3:Go.IntKind.i64.wrap q3=q3:=ae _ aa;obtain⟨q4,hq4⟩:∃q,q3+1=q:=⟨_,rfl⟩;have e4:Go.IntKind.i64.wrap q4=q4:=ae _ aa;obtain⟨q5,hq5⟩:∃q,q4+1=q:=⟨_,rfl⟩
  have e5:Go.IntKind.i64.wrap q5=q5:=ae _ aa;obtain⟨q6,hq6⟩:∃q,q5+((aN Entry.cnt l[i].r.list:Nat):Int)=q:=⟨_,rfl⟩;have e6:Go.IntKind.i64.wrap q6=q6:=ae _ aa;have e:Go.IntKind.i64.wrap ((i:Int)+1)=((i+1:Nat):Int):=aQ aa;refine Ent.open (λ_ h=>h) (k:=0) (i:=i) (j:=5) (k':=905) (sz':=3) (sz:=6) (H:=H) (rows:=((bO Sub.mark Sub.cnt Sub.row l k i).set i l[i].row)) (srows:=l[i].r.list.map Entry.row) (row:=l[i].row) ab eI rfl ab ah fe ab (λH5=>?_);refine Ent.refl ?_;simp[h,bN,Sub.row,dB,bm,hq1,e1];refine ag.pure (fm q1 aa aa) ab ?_;simp[h,bN,bm,hq2,e2,hq3,e3,hq4,e4,hq5,e5]
  refine ag.mark (i9 l[i].r.list q5 aa aa aa) rfl (λ_ h=>h) ab ?_;simp[e,hq6];refine dG (k:=0) (i:=i) (j:=5) (k':=905) (sz':=3) (sz:=6) (H:=H) (rows:=(bO Sub.mark Sub.cnt Sub.row l k i).set i [vi q0,.v (.string (markT q1)),vi q2,vi q3,.v (.bool (nw q4)),.h 905 H5 3 l[i].r.list.length]) (row:=[vi q0,.v (.string (markT q1)),vi q2,vi q3,.v (.bool (nw q4)),.h 905 H5 3 l[i].r.list.length]) (H':=H5) (srows:=(aL Entry.mark Entry.cnt l[i].r.list q5).map Entry.row) (by simp[nw]) eI ff ab ah ab ?_;refine Ent.refl ⟨i+1,aa,aa,?_⟩;simp[dB,hs,hpc];refine⟨aa,?_⟩;refine gG h ?_;rw[hq0];subst hq1 hq2 hq3 hq4 hq5 hq6;rfl
 ·have:i=l.length:=by omega
  subst this;refine Ent.refl ?_;simp[gI,aJ,Sub.row]
theorem Ik(l:List Sub)(k:Int)(h0:0<=k)(hk:k+aN Sub.cnt l<=4611686018427387904)(hl:nL dp l<=2^40):ar Tryz.prog 99 [.c (.s ((aL Sub.mark Sub.cnt l k).map Sub.row)),.c (vi k)] (.one (.c (vi (k+aN Sub.cnt l)) 1)):=by
 refine aE aw Tryz.func99 al rfl rfl rfl (ai rfl) (λw0 base=>?_);have hle:=aY hl;simp;refine aU.intro eok (λi:Nat=>i<=l.length) (λi=>⟨74,0,[(5,.v (.int .i64 i)),(1,.v (.int .i64 (k+aN Sub.cnt (l.take i)))),(0,.ro ((aL Sub.mark Sub.cnt l k).map Sub.row))],[]⟩) (λi=>l.length-i) 0 ab jv (λi hi=>?_);by_cases h:i<l.length
 ·have hc:=cL (cn:=Sub.cnt) h
  have hs:=ch (cn:=Sub.cnt) h;have hni:=cH hl h;simp only[dp,cV]at hni;have hm:=iQ (mk:=Sub.mark) (cn:=Sub.cnt) (k:=k) h;obtain⟨q0,hq0⟩:∃q,k+((aN Sub.cnt (l.take i):Nat):Int)=q:=⟨_,rfl⟩;have hpc:l[i].cnt=5+(aN Entry.cnt l[i].r.list):=rfl;rw[hq0]at hm;rw[hq0];have z0:¬q0<0:=aa;have e0:Go.IntKind.i64.wrap q0=q0:=ae _ aa;obtain⟨q1,hq1⟩:∃q,q0+1=q:=⟨_,rfl⟩;have e1:Go.IntKind.i64.wrap q1=q1:=ae _ aa;have z1:¬q1<0:=aa;obtain⟨q2,hq2⟩:∃q,q1+1=q:=⟨_,rfl⟩;have e2:Go.IntKind.i64.wrap q2=q2:=ae _ aa;have z2:¬q2<0:=aa;obtain⟨q3,hq3⟩:∃q,q2+1=q:=⟨_,rfl⟩;have e3:Go.IntKind.i64.wrap q3=q3:=ae _ aa;have z3:¬q3<0:=aa
  obtain⟨q4,hq4⟩:∃q,q3+1=q:=⟨_,rfl⟩;have e4:Go.IntKind.i64.wrap q4=q4:=ae _ aa;have z4:¬q4<0:=aa;obtain⟨q5,hq5⟩:∃q,q4+1=q:=⟨_,rfl⟩;have e5:Go.IntKind.i64.wrap q5=q5:=ae _ aa;have z5:¬q5<0:=aa;obtain⟨q6,hq6⟩:∃q,q5+((aN Entry.cnt l[i].r.list:Nat):Int)=q:=⟨_,rfl⟩;have e6:Go.IntKind.i64.wrap q6=q6:=ae _ aa;have z6:¬q6<0:=aa;have e:Go.IntKind.i64.wrap ((i:Int)+1)=((i+1:Nat):Int):=aQ aa;simp[h,aJ,hm,Sub.row,Sub.mark,hq1,e1,hq2,hq3,hq4,hq5,nw];refine aZ.quiet eok mix al ?_;simp[h,aJ,hm,Sub.row,Sub.mark,hq1,hq2,hq3,hq4,hq5,nw];refine⟨_,_,fm q1 aa aa,ab,?_⟩
  simp[h,aJ,hm,Sub.row,Sub.mark,hq1,hq2,e2,hq3,e3,hq4,e4,hq5,e5,nw];refine ag.pure (pf l[i].r.list q5 aa aa aa) ab ?_;simp[hq6,z6];exact oR
 ·exact nk
theorem TA(x:Hub)(h:dh x<=2^40):ar Tryz.prog 28 [.agg x.row] (.one (.agg x.res)):=by
 refine aE aw Tryz.func28 al rfl rfl rfl (ai rfl) (λw0 base=>?_);unfold dh at h;simp[Hub.row,Hub.res]
 try intros
 refine ag.pure (PJ x.docs aa) ab ?_;simp
 try intros
 refine ag.pure (PF x.subs aa) ab ?_;simp
 try intros
theorem UY(x y:Hub)(h:dh x<=2^40):ar Tryz.prog 39 [.agg x.row,.agg y.row] (.one (.c (vb (x=y)) 1)):=by
 refine aE aw Tryz.func39 al rfl rfl rfl (ai rfl) (λw0 base=>?_);unfold dh at h;obtain⟨a0,a1,a2,a3⟩:=x;obtain⟨b0,b1,b2,b3⟩:=y;simp only at h;simp[Hub.row]
 try intros
 by_cases h0:a0=b0
 rotate_left
 ·simp[h0]
 subst h0
 try simp
 refine ag.pure (Si a1 b1 aa) ab ?_;simp;by_cases h1:a1=b1
 rotate_left
 ·simp[h1]
 subst h1
 try simp
 refine ag.pure (Sd a2 b2 aa) ab ?_;simp;by_cases h2:a2=b2
 rotate_left
 ·simp[h2]
 subst h2
 try simp
 by_cases h3:a3=b3
 rotate_left
 ·simp[h3]
 subst h3
 try simp
theorem TH(x:Hub)(h:x.fits)(left:Nat)(hf:left<=2^20):ar Tryz.prog 17 [.agg x.row,.c (vi left)] (.one (.c (vi (szR (dh x) left)) 1)):=by
 refine aE aw Tryz.func17 al rfl rfl rfl (ai rfl) (λw0 base=>?_);obtain⟨f0,f1,f2,f3⟩:=h;obtain⟨r,hr⟩:∃r,szR (dh x) left=r:=⟨_,rfl⟩;rw[hr];have hn:dh x=nL cB x.docs+(nL dp x.subs):=rfl;simp[Hub.row]
 try intros
 refine ag.pure (Qz x.docs f1.1 f1.2 left aa) ab ?_;by_cases k0:nL cB x.docs<=left
 rotate_left
 ·exact oS
 rw[dL k0];obtain⟨m0,hm0⟩:∃m,left-nL cB x.docs=m:=⟨_,rfl⟩;rw[hm0];simp;refine ag.pure (Qw x.subs f2.1 f2.2 m0 aa) ab ?_;by_cases k1:nL dp x.subs<=m0
 rotate_left
 ·exact nm
 rw[dL k1];obtain⟨m1,hm1⟩:∃m,m0-nL dp x.subs=m:=⟨_,rfl⟩;exact tU
theorem NY(x:Hub)(k:Int)(h0:0<=k)(hk:k+x.cntT<=4611686018427387904)(hl:dh x<=2^40):iH Tryz.prog 42 (.agg x.res) k (k+x.cntT) (.agg (x.markT k).res):=by
 refine iH.intro aw Tryz.func42 al rfl rfl rfl ah (λw0 base=>?_);simp only[Hub.cntT]at hk;unfold dh at hl;simp[Hub.res]
 try intros
 refine ag.mark (y8 x.docs (k) aa aa aa) rfl (λ_ h=>h) ab ?_;simp;refine ag.mark (HM x.subs (k+((aN Doc.cnt x.docs:Nat):Int)) aa aa aa) rfl (λ_ h=>h) ab ?_;simp;simp[Hub.markT,Hub.cntT,aJ]
 try omega
theorem OA(x:Hub)(k:Int)(h0:0<=k)(hk:k+x.cntT<=4611686018427387904)(hl:dh x<=2^40):ar Tryz.prog 45 [.agg (x.markT k).row,.c (vi k)] (.one (.c (vi (k+x.cntT)) 1)):=by
 refine aE aw Tryz.func45 al rfl rfl rfl (ai rfl) (λw0 base=>?_);simp only[Hub.cntT]at hk;unfold dh at hl;simp[Hub.row,Hub.markT]
 try intros
 refine ag.pure (Il x.docs k aa aa aa) ab ?_;obtain⟨q1,hq1⟩:∃q,k+((aN Doc.cnt x.docs:Nat):Int)=q:=⟨_,rfl⟩;rw[hq1];have z1:¬q1<0:=aa;simp[z1];refine ag.pure (Ik x.subs q1 aa aa aa) ab ?_;obtain⟨q2,hq2⟩:∃q,q1+((aN Sub.cnt x.subs:Nat):Int)=q:=⟨_,rfl⟩;rw[hq2];have z2:¬q2<0:=aa;simp[z2]
 try (simp only[Hub.cntT];omega)
theorem No(x:Queue)(h:cR x<=2^40):ar Tryz.prog 73 [.agg x.row] (.one (.agg x.res)):=by
 refine aE aw Tryz.func73 al rfl rfl rfl (ai rfl) (λw0 base=>?_);unfold cR at h;simp[Queue.row,Queue.res]
 try intros
 refine ag.pure (oj x.list aa) ab ?_;simp
 try intros
theorem OQ(x y:Queue)(h:cR x<=2^40):ar Tryz.prog 91 [.agg x.row,.agg y.row] (.one (.c (vb (x=y)) 1)):=by
 refine aE aw Tryz.func91 al rfl rfl rfl (ai rfl) (λw0 base=>?_);unfold cR at h;obtain⟨a0,a1⟩:=x;obtain⟨b0,b1⟩:=y;simp only at h;simp[Queue.row]
 try intros
 by_cases h0:a0=b0
 rotate_left
 ·simp[h0]
 subst h0
 try simp
 refine ag.pure (oD a1 b1 aa) ab ?_;simp;by_cases h1:a1=b1
 rotate_left
 ·simp[h1]
 subst h1
 try simp
theorem Nu(x:Queue)(h:x.fits)(left:Nat)(hf:left<=2^20):ar Tryz.prog 57 [.agg x.row,.c (vi left)] (.one (.c (vi (szR (cR x) left)) 1)):=by
 refine aE aw Tryz.func57 al rfl rfl rfl (ai rfl) (λw0 base=>?_);obtain⟨f0,f1⟩:=h;obtain⟨r,hr⟩:∃r,szR (cR x) left=r:=⟨_,rfl⟩;rw[hr];have hn:cR x=x.doc.size+(x.list.length):=rfl;simp[Queue.row]
 try intros
 by_cases k0:x.doc.size<=left
 rotate_left
 ·exact Dp
 obtain⟨m0,hm0⟩:∃m,left-x.doc.size=m:=⟨_,rfl⟩;have w0:IntKind.i64.wrap ((left:Int)-(x.doc.size:Int))=(m0:Int):=by rw[ft _ aa];omega
 simp[w0];refine ag.pure (om x.list f1.1 m0 aa) ab ?_;by_cases k1:x.list.length<=m0
 rotate_left
 ·exact nm
 rw[dL k1];obtain⟨m1,hm1⟩:∃m,m0-x.list.length=m:=⟨_,rfl⟩;exact tU
theorem GW(l:List Queue)(hl:nL cR l<=2^40):ar Tryz.prog 29 [.c (.s (l.map Queue.row))] (.one (.c (.s (l.map Queue.row)) 2)):=by
 refine aE aw Tryz.func29 al rfl rfl rfl (ai rfl) (λw0 base=>?_);have hle:=aY hl;simp;refine⟨aa,λb=>?_⟩
 refine aU.intro eok (λi:Nat=>i<=l.length) (λi=>⟨23,0,[(4,.v (.int .i64 i)),(3,.sl 112 (some (b,0,l.length)) 2 0 l.length),(0,.ro (l.map Queue.row))],
  [(112,.rows (some (b,0,l.length)) 2 (lG Queue.row [.v (.string ⟨#[]⟩),.s []] l i) true)]⟩) (λi=>l.length-i) 0 ab m8 (λi hi=>?_)
 by_cases h:i<l.length
 ·simp[h,Queue.row]
  refine ag.pure (No l[i] (cH hl h)) (by simp[Queue.row]) ?_;simp[Queue.res,gq hi,h];exact⟨i+1,aa,aa,aQ aa,jQ (f:=Queue.row) h⟩
 ·exact oT
theorem IA(a b:List Queue)(hl:nL cR a<=2^40):ar Tryz.prog 40 [.c (.s (a.map Queue.row)),.c (.s (b.map Queue.row))] (.one (.c (vb (a=b)) 1)):=by
 refine aE aw Tryz.func40 al rfl rfl rfl (ai rfl) (λw0 base=>?_);have hle:=aY hl;by_cases h:a.length=b.length
 ·simp[h]
  refine aU.intro eok (λi:Nat=>i<=a.length/\a.take i=b.take i) (λi=>⟨27,0,[(5,.v (.int .i64 i)),(1,.ro (b.map Queue.row)),(0,.ro (a.map Queue.row))],[]⟩) (λi=>a.length-i) 0 ab ab (λi hi=>?_);by_cases hlt:i<a.length
  ·simp[hlt]
   have hlt':i<b.length:=aa;refine aZ.quiet eok mix al ?_;simp[hlt,hlt',Queue.row];refine⟨_,_,OQ a[i] b[i] (cH hl hlt),by simp[Queue.row],?_⟩;exact l9
  ·exact ni
 ·exact jw
theorem G0(l:List Queue)(hl:l.length<=9223372036854775807)(hs:∀y∈l,y.fits)(left:Nat)(hf:left<=2^20):ar Tryz.prog 19 [.c (.s (l.map Queue.row)),.c (vi left)] (.one (.c (vi (szR (nL cR l) left)) 1)):=by
 refine aE aw Tryz.func19 al rfl rfl rfl (ai rfl) (λw0 base=>?_);have hw:IntKind.i64.wrap ((left:Int)-(l.length:Int))=(left:Int)-l.length:=ft _ aa;have hn:nL cR l=l.length+cw cR l:=rfl;by_cases h:l.length<=left
 ·obtain⟨lf,hlf⟩:∃lf:Nat,left-l.length=lf:=⟨_,rfl⟩
  have hlz:(left:Int)-l.length=(lf:Int):=aa;have hw2:IntKind.i64.wrap (lf:Int)=lf:=fh aa;simp[hlz,hw2];obtain⟨r,hr⟩:∃r,szR (nL cR l) left=r:=⟨_,rfl⟩;have hr0:szR (cw cR l) lf=r:=rk;rw[hr];refine aU.intro eok (λx:Nat×Nat=>x.1<=l.length/\x.2<=2^20/\szR (cw cR (l.drop x.1)) x.2=r) (λx=>⟨27,0,[(5,.v (.int .i64 x.1)),(1,.v (.int .i64 x.2)),(0,.ro (l.map Queue.row))],[]⟩) (λx=>l.length-x.1) (0,lf) rj ab ?_
  rintro⟨i,m⟩ ⟨hi,hm,hx⟩
  simp only at hi hm hx⊢;by_cases hlt:i<l.length
  ·rw[kO hlt]at hx
   simp[hlt,Queue.row];refine ag.pure (Nu l[i] (hs _ (aj hlt)) m hm) (by simp[Queue.row]) ?_;by_cases hk:cR l[i]<=m
   ·rw[dL hk]
    have hz:¬((m-cR l[i]:Nat):Int)<0:=aa;simp[hz];refine⟨i+1,m-cR l[i],⟨aa,aa,?_⟩,aa,aQ aa,rfl⟩;exact rz
   ·rw[eU (show ¬cR l[i]+cw cR (l.drop (i+1))<=m from aa)]at hx
    exact ru
  ·exact rD
 ·have hz:(left:Int)-l.length<0:=by omega
  simp[hw,hz,eU (show ¬nL cR l<=left from aa)]
theorem uo(l:List Queue)(k:Int)(h0:0<=k)(hk:k+aN Queue.cnt l<=4611686018427387904)(hl:nL cR l<=2^40):iH Tryz.prog 43 (.c (.s (l.map Queue.row)) 2) k (k+aN Queue.cnt l) (.c (.s ((aL Queue.mark Queue.cnt l k).map Queue.row)) 2):=by
 refine iH.intro aw Tryz.func43 al rfl rfl rfl ah (λw0 base=>?_);have hle:=aY hl;simp;intro H;refine aH eok (λi:Nat=>i<=l.length) (λi=>⟨28,0,[(5,.v (.int .i64 i)),(1,.v (.int .i64 (k+aN Queue.cnt (l.take i)))),(0,.ml 0 H 2 l.length)],[(0,.rows H 2 (bO Queue.mark Queue.cnt Queue.row l k i) true)]⟩) (λi=>l.length-i) 0 ab oK (λi hi=>?_);by_cases h:i<l.length
 ·have hc:=cL (cn:=Queue.cnt) h
  have hs:=ch (cn:=Queue.cnt) h;have hni:=cH hl h;simp only[cR]at hni;obtain⟨q0,hq0⟩:∃q,k+((aN Queue.cnt (l.take i):Nat):Int)=q:=⟨_,rfl⟩;have hpc:l[i].cnt=1+(l[i].list.length):=rfl;rw[hq0,<-gH h];have e0:Go.IntKind.i64.wrap q0=q0:=ae _ aa;obtain⟨q1,hq1⟩:∃q,q0+1=q:=⟨_,rfl⟩;have e1:Go.IntKind.i64.wrap q1=q1:=ae _ aa;obtain⟨q2,hq2⟩:∃q,q1+((l[i].list.length:Nat):Int)=q:=⟨_,rfl⟩;have e2:Go.IntKind.i64.wrap q2=q2:=ae _ aa;have e:Go.IntKind.i64.wrap ((i:Int)+1)=((i+1:Nat):Int):=aQ aa
  refine Ent.open (λ_ h=>h) (k:=0) (i:=i) (j:=1) (k':=901) (sz':=1) (sz:=2) (H:=H) (rows:=((bO Queue.mark Queue.cnt Queue.row l k i).set i l[i].row)) (srows:=l[i].list.map aI) (row:=l[i].row) ab eI rfl ab ah ju ab (λH1=>?_);refine Ent.refl ?_;simp[h,Queue.row,dB];refine ag.pure (fm q0 aa aa) ab ?_;simp[h,bN,bm,hq1,e1];refine ag.mark (fS l[i].list q1 aa aa) rfl (λ_ h=>h) ab ?_;simp[e,hq2]
  refine dG (k:=0) (i:=i) (j:=1) (k':=901) (sz':=1) (sz:=2) (H:=H) (rows:=(bO Queue.mark Queue.cnt Queue.row l k i).set i [.v (.string (markT q0)),.h 901 H1 1 l[i].list.length]) (row:=[.v (.string (markT q0)),.h 901 H1 1 l[i].list.length]) (H':=H1) (srows:=(aL eR one l[i].list q1).map aI) ab eI ff ab ah ab ?_;refine Ent.refl ⟨i+1,aa,aa,?_⟩;simp[dB,hs,hpc];refine⟨aa,?_⟩;refine gG h ?_;rw[hq0];subst hq1 hq2;rfl
 ·have:i=l.length:=by omega
  subst this;refine Ent.refl ?_;simp[gI,aJ,Queue.row]
theorem Ef(l:List Queue)(k:Int)(h0:0<=k)(hk:k+aN Queue.cnt l<=4611686018427387904)(hl:nL cR l<=2^40):ar Tryz.prog 47 [.c (.s ((aL Queue.mark Queue.cnt l k).map Queue.row)),.c (vi k)] (.one (.c (vi (k+aN Queue.cnt l)) 1)):=by
 refine aE aw Tryz.func47 al rfl rfl rfl (ai rfl) (λw0 base=>?_);have hle:=aY hl;simp;refine aU.intro eok (λi:Nat=>i<=l.length) (λi=>⟨32,0,[(5,.v (.int .i64 i)),(1,.v (.int .i64 (k+aN Queue.cnt (l.take i)))),(0,.ro ((aL Queue.mark Queue.cnt l k).map Queue.row))],[]⟩) (λi=>l.length-i) 0 ab jv (λi hi=>?_);by_cases h:i<l.length
 ·have hc:=cL (cn:=Queue.cnt) h
  have hs:=ch (cn:=Queue.cnt) h;have hni:=cH hl h;simp only[cR]at hni;have hm:=iQ (mk:=Queue.mark) (cn:=Queue.cnt) (k:=k) h;obtain⟨q0,hq0⟩:∃q,k+((aN Queue.cnt (l.take i):Nat):Int)=q:=⟨_,rfl⟩;have hpc:l[i].cnt=1+(l[i].list.length):=rfl;rw[hq0]at hm;rw[hq0];have z0:¬q0<0:=aa;have e0:Go.IntKind.i64.wrap q0=q0:=ae _ aa;obtain⟨q1,hq1⟩:∃q,q0+1=q:=⟨_,rfl⟩;have e1:Go.IntKind.i64.wrap q1=q1:=ae _ aa;have z1:¬q1<0:=aa;obtain⟨q2,hq2⟩:∃q,q1+((l[i].list.length:Nat):Int)=q:=⟨_,rfl⟩;have e2:Go.IntKind.i64.wrap q2=q2:=ae _ aa;have z2:¬q2<0:=aa;have e:Go.IntKind.i64.wrap ((i:Int)+1)=((i+1:Nat):Int):=aQ aa;simp[h,aJ]
  refine aZ.quiet eok mix al ?_;simp[h,aJ,hm,Queue.row,Queue.mark,hq1];refine⟨_,_,fm q0 aa aa,ab,?_⟩;simp[h,aJ,hm,Queue.row,Queue.mark,hq1,e1];refine ag.pure (kR l[i].list q1 aa aa) ab ?_;simp[hq2,z2];exact oR
 ·exact nk
theorem GY(x:Answer)(h:cq x<=2^40):ar Tryz.prog 129 [.agg x.row] (.one (.agg x.res)):=by
 refine aE aw Tryz.func129 al rfl rfl rfl (ai rfl) (λw0 base=>?_);unfold cq at h;simp[Answer.row,Answer.res]
 try intros
 refine ag.pure (oj x.text aa) ab ?_;simp;exact JW
theorem IB(x y:Answer)(h:cq x<=2^40):ar Tryz.prog 152 [.agg x.row,.agg y.row] (.one (.c (vb (x=y)) 1)):=by
 refine aE aw Tryz.func152 al rfl rfl rfl (ai rfl) (λw0 base=>?_);unfold cq at h;obtain⟨a0,a1,a2,a3⟩:=x;obtain⟨b0,b1,b2,b3⟩:=y;simp only at h;simp[Answer.row]
 try intros
 by_cases h0:a0=b0
 rotate_left
 ·simp[h0]
 subst h0
 try simp
 by_cases h1:a1=b1
 rotate_left
 ·simp[h1]
 subst h1
 try simp
 refine ag.pure (oD a2 b2 aa) ab ?_;simp;exact Lt
theorem G4(x:Answer)(h:x.fits)(left:Nat)(hf:left<=2^20):ar Tryz.prog 108 [.agg x.row,.c (vi left)] (.one (.c (vi (szR (cq x) left)) 1)):=by
 refine aE aw Tryz.func108 al rfl rfl rfl (ai rfl) (λw0 base=>?_);obtain⟨f0,f1,f2,f3⟩:=h;obtain⟨r,hr⟩:∃r,szR (cq x) left=r:=⟨_,rfl⟩;rw[hr];have hn:cq x=x.text.length+(nL aX x.list):=rfl;simp[Answer.row]
 try intros
 refine ag.pure (om x.text f2.1 left aa) ab ?_;by_cases k0:x.text.length<=left
 rotate_left
 ·exact oS
 rw[dL k0];obtain⟨m0,hm0⟩:∃m,left-x.text.length=m:=⟨_,rfl⟩;rw[hm0];simp;refine ag.pure (sW x.list f3.1 f3.2 m0 aa) ab ?_;by_cases k1:nL aX x.list<=m0
 rotate_left
 ·exact nm
 rw[dL k1];obtain⟨m1,hm1⟩:∃m,m0-nL aX x.list=m:=⟨_,rfl⟩;exact tU
theorem PK(x:Call)(h:dP x<=2^40):ar Tryz.prog 128 [.agg x.row] (.one (.agg x.res)):=by
 refine aE aw Tryz.func128 al rfl rfl rfl (ai rfl) (λw0 base=>?_);unfold dP at h;simp[Call.row,Call.res]
 try intros
 refine ag.pure (AZ x.o aa) ab ?_;simp
 try intros
 refine ag.pure (oj x.text aa) ab ?_;simp
 try intros
theorem Sj(x y:Call)(h:dP x<=2^40):ar Tryz.prog 151 [.agg x.row,.agg y.row] (.one (.c (vb (x=y)) 1)):=by
 refine aE aw Tryz.func151 al rfl rfl rfl (ai rfl) (λw0 base=>?_);unfold dP at h;obtain⟨a0,a1,a2,a3,a4,a5,a6⟩:=x;obtain⟨b0,b1,b2,b3,b4,b5,b6⟩:=y;simp only at h;simp[Call.row]
 try intros
 by_cases h0:a0=b0
 rotate_left
 ·simp[h0]
 subst h0
 try simp
 by_cases h1:a1=b1
 rotate_left
 ·simp[h1]
 subst h1
 try simp
 by_cases h2:a2=b2
 rotate_left
 ·simp[h2]
 subst h2
 try simp
 by_cases h3:a3=b3
 rotate_left
 ·simp[h3]
 subst h3
 try simp
 by_cases h4:a4=b4
 rotate_left
 ·simp[h4]
 subst h4
 try simp
 refine ag.pure (BH a5 b5 aa) ab ?_;simp;by_cases h5:a5=b5
 rotate_left
 ·simp[h5]
 subst h5
 try simp
 refine ag.pure (oD a6 b6 aa) ab ?_;simp;by_cases h6:a6=b6
 rotate_left
 ·simp[h6]
 subst h6
 try simp
theorem QA(x:Call)(h:x.fits)(left:Nat)(hf:left<=2^20):ar Tryz.prog 107 [.agg x.row,.c (vi left)] (.one (.c (vi (szR (dP x) left)) 1)):=by
 refine aE aw Tryz.func107 al rfl rfl rfl (ai rfl) (λw0 base=>?_);obtain⟨f0,f1,f2,f3,f4,f5,f6⟩:=h;obtain⟨r,hr⟩:∃r,szR (dP x) left=r:=⟨_,rfl⟩;rw[hr];have hn:dP x=x.doc.size+(nL a9 x.o+(x.text.length)):=rfl;simp[Call.row]
 try intros
 by_cases k0:x.doc.size<=left
 rotate_left
 ·exact Dp
 obtain⟨m0,hm0⟩:∃m,left-x.doc.size=m:=⟨_,rfl⟩;have w0:IntKind.i64.wrap ((left:Int)-(x.doc.size:Int))=(m0:Int):=by rw[ft _ aa];omega
 simp[w0];refine ag.pure (A3 x.o f5.1 f5.2 m0 aa) ab ?_;by_cases k1:nL a9 x.o<=m0
 rotate_left
 ·exact nm
 rw[dL k1];obtain⟨m1,hm1⟩:∃m,m0-nL a9 x.o=m:=⟨_,rfl⟩;rw[hm1];simp;refine ag.pure (om x.text f6.1 m1 aa) ab ?_;by_cases k2:x.text.length<=m1
 rotate_left
 ·exact CT
 rw[dL k2];obtain⟨m2,hm2⟩:∃m,m1-x.text.length=m:=⟨_,rfl⟩;rw[hm2];have:r=(m2:Int):=by rw[<-hr,dL aa];omega
 simp[this]
theorem PE(x:Task)(h:dj x<=2^36):ar Tryz.prog 74 [.agg x.row] (.one (.agg x.res)):=by
 refine aE aw Tryz.func74 al rfl rfl rfl (ai rfl) (λw0 base=>?_);unfold dj at h;simp[Task.row,Task.res]
 try intros
 refine ag.pure (PK x.c aa) jq ?_;simp[Call.res]
 try intros
 refine ag.pure (GY x.a aa) lZ ?_;simp[Answer.res]
 try intros
theorem Sc(x y:Task)(h:dj x<=2^36):ar Tryz.prog 92 [.agg x.row,.agg y.row] (.one (.c (vb (x=y)) 1)):=by
 refine aE aw Tryz.func92 al rfl rfl rfl (ai rfl) (λw0 base=>?_);unfold dj at h;obtain⟨a0,a1,a2,a3,a4,a5⟩:=x;obtain⟨b0,b1,b2,b3,b4,b5⟩:=y;simp only at h;simp[Task.row]
 try intros
 refine ag.pure (Sj a0 b0 aa) jq ?_;simp;by_cases h0:a0=b0
 rotate_left
 ·simp[h0]
 subst h0
 try simp
 by_cases h1:a1=b1
 rotate_left
 ·simp[h1]
 subst h1
 try simp
 by_cases h2:a2=b2
 rotate_left
 ·simp[h2]
 subst h2
 try simp
 by_cases h3:a3=b3
 rotate_left
 ·simp[h3]
 subst h3
 try simp
 by_cases h4:a4=b4
 rotate_left
 ·simp[h4]
 subst h4
 try simp
 refine ag.pure (IB a5 b5 aa) lZ ?_;simp;by_cases h5:a5=b5
 rotate_left
 ·simp[h5]
 subst h5
 try simp
theorem Qv(x:Task)(h:x.fits)(left:Nat)(hf:left<=2^20):ar Tryz.prog 58 [.agg x.row,.c (vi left)] (.one (.c (vi (szR (dj x) left)) 1)):=by
 refine aE aw Tryz.func58 al rfl rfl rfl (ai rfl) (λw0 base=>?_);obtain⟨f0,f1,f2,f3,f4,f5⟩:=h;obtain⟨r,hr⟩:∃r,szR (dj x) left=r:=⟨_,rfl⟩;rw[hr];have hn:dj x=dP x.c+(cq x.a):=rfl;simp[Task.row]
 try intros
 refine ag.pure (QA x.c f0 left aa) jq ?_;by_cases k0:dP x.c<=left
 rotate_left
 ·exact oS
 rw[dL k0];obtain⟨m0,hm0⟩:∃m,left-dP x.c=m:=⟨_,rfl⟩;rw[hm0];simp;refine ag.pure (G4 x.a f5 m0 aa) lZ ?_;by_cases k1:cq x.a<=m0
 rotate_left
 ·exact nm
 rw[dL k1];obtain⟨m1,hm1⟩:∃m,m0-cq x.a=m:=⟨_,rfl⟩;exact tU
theorem Nm(l:List Task)(hl:nL dj l<=2^36):ar Tryz.prog 30 [.c (.s (l.map Task.row))] (.one (.c (.s (l.map Task.row)) 15)):=by
 refine aE aw Tryz.func30 al rfl rfl rfl (ai rfl) (λw0 base=>?_);have hle:=aY hl;simp;refine⟨aa,λb=>?_⟩
 refine aU.intro eok (λi:Nat=>i<=l.length) (λi=>⟨23,0,[(4,.v (.int .i64 i)),(3,.sl 112 (some (b,0,l.length)) 15 0 l.length),(0,.ro (l.map Task.row))],
  [(112,.rows (some (b,0,l.length)) 15 (lG Task.row [.v (.int .i64 0),.v (.string ⟨#[]⟩),.v (.int .i64 0),.v (.int .i64 0),.v (.int .i64 0),.s [],.s [],.v (.int .i64 0),.v (.int .i64 0),.v (.int .i64 0),.v (.int .i64 0),.v (.int .i64 0),.v (.int .i64 0),.s [],.s []] l i) true)]⟩) (λi=>l.length-i) 0 ab m8 (λi hi=>?_)
 by_cases h:i<l.length
 ·simp[h,Task.row]
  refine ag.pure (PE l[i] (cH hl h)) lY ?_;simp[Task.res,gq hi,h];exact⟨i+1,aa,aa,aQ aa,jQ (f:=Task.row) h⟩
 ·exact oT
theorem OO(a b:List Task)(hl:nL dj a<=2^36):ar Tryz.prog 41 [.c (.s (a.map Task.row)),.c (.s (b.map Task.row))] (.one (.c (vb (a=b)) 1)):=by
 refine aE aw Tryz.func41 al rfl rfl rfl (ai rfl) (λw0 base=>?_);have hle:=aY hl;by_cases h:a.length=b.length
 ·simp[h]
  refine aU.intro eok (λi:Nat=>i<=a.length/\a.take i=b.take i) (λi=>⟨27,0,[(5,.v (.int .i64 i)),(1,.ro (b.map Task.row)),(0,.ro (a.map Task.row))],[]⟩) (λi=>a.length-i) 0 ab ab (λi hi=>?_);by_cases hlt:i<a.length
  ·simp[hlt]
   have hlt':i<b.length:=aa;refine aZ.quiet eok mix al ?_;simp[hlt,hlt',Task.row];refine⟨_,_,Sc a[i] b[i] (cH hl hlt),lY,?_⟩;exact l9
  ·exact ni
 ·exact jw
theorem Ns(l:List Task)(hl:l.length<=9223372036854775807)(hs:∀y∈l,y.fits)(left:Nat)(hf:left<=2^20):ar Tryz.prog 20 [.c (.s (l.map Task.row)),.c (vi left)] (.one (.c (vi (szR (nL dj l) left)) 1)):=by
 refine aE aw Tryz.func20 al rfl rfl rfl (ai rfl) (λw0 base=>?_);have hw:IntKind.i64.wrap ((left:Int)-(l.length:Int))=(left:Int)-l.length:=ft _ aa;have hn:nL dj l=l.length+cw dj l:=rfl;by_cases h:l.length<=left
 ·obtain⟨lf,hlf⟩:∃lf:Nat,left-l.length=lf:=⟨_,rfl⟩
  have hlz:(left:Int)-l.length=(lf:Int):=aa;have hw2:IntKind.i64.wrap (lf:Int)=lf:=fh aa;simp[hlz,hw2];obtain⟨r,hr⟩:∃r,szR (nL dj l) left=r:=⟨_,rfl⟩;have hr0:szR (cw dj l) lf=r:=rk;rw[hr];refine aU.intro eok (λx:Nat×Nat=>x.1<=l.length/\x.2<=2^20/\szR (cw dj (l.drop x.1)) x.2=r) (λx=>⟨27,0,[(5,.v (.int .i64 x.1)),(1,.v (.int .i64 x.2)),(0,.ro (l.map Task.row))],[]⟩) (λx=>l.length-x.1) (0,lf) rj ab ?_
  rintro⟨i,m⟩ ⟨hi,hm,hx⟩
  simp only at hi hm hx⊢;by_cases hlt:i<l.length
  ·rw[kO hlt]at hx
   simp[hlt,Task.row];refine ag.pure (Qv l[i] (hs _ (aj hlt)) m hm) lY ?_;by_cases hk:dj l[i]<=m
   ·rw[dL hk]
    have hz:¬((m-dj l[i]:Nat):Int)<0:=aa;simp[hz];refine⟨i+1,m-dj l[i],⟨aa,aa,?_⟩,aa,aQ aa,rfl⟩;exact rz
   ·rw[eU (show ¬dj l[i]+cw dj (l.drop (i+1))<=m from aa)]at hx
    exact ru
  ·exact rD
 ·have hz:(left:Int)-l.length<0:=by omega
  simp[hw,hz,eU (show ¬nL dj l<=left from aa)]
theorem FH(l:List Task)(k:Int)(h0:0<=k)(hk:k+aN Task.cnt l<=4611686018427387904)(hl:nL dj l<=2^36):iH Tryz.prog 44 (.c (.s (l.map Task.row)) 15) k (k+aN Task.cnt l) (.c (.s ((aL Task.mark Task.cnt l k).map Task.row)) 15):=by
 refine iH.intro aw Tryz.func44 al rfl rfl rfl ah (λw0 base=>?_);have hle:=aY hl;simp;intro H;refine aH eok (λi:Nat=>i<=l.length) (λi=>⟨130,0,[(5,.v (.int .i64 i)),(1,.v (.int .i64 (k+aN Task.cnt (l.take i)))),(0,.ml 0 H 15 l.length)],[(0,.rows H 15 (bO Task.mark Task.cnt Task.row l k i) true)]⟩) (λi=>l.length-i) 0 ab oK (λi hi=>?_);by_cases h:i<l.length
 ·have hc:=cL (cn:=Task.cnt) h
  have hs:=ch (cn:=Task.cnt) h;have hni:=cH hl h;simp only[dj,dP,cq]at hni;obtain⟨q0,hq0⟩:∃q,k+((aN Task.cnt (l.take i):Nat):Int)=q:=⟨_,rfl⟩;have hpc:l[i].cnt=11+(aN Part.cnt l[i].c.o+(l[i].c.text.length+(l[i].a.text.length+(aN Entry.cnt l[i].a.list)))):=rfl;rw[hq0,<-gH h];have e0:Go.IntKind.i64.wrap q0=q0:=ae _ aa;obtain⟨q1,hq1⟩:∃q,q0+1=q:=⟨_,rfl⟩;have e1:Go.IntKind.i64.wrap q1=q1:=ae _ aa;obtain⟨q2,hq2⟩:∃q,q1+1=q:=⟨_,rfl⟩;have e2:Go.IntKind.i64.wrap q2=q2:=ae _ aa;obtain⟨q3,hq3⟩:∃q,q2+1=q:=⟨_,rfl⟩;have e3:Go.IntKind.i64.wrap q3=q3:=ae _ aa;obtain⟨q4,hq4⟩:∃q,q3+1=q:=⟨_,rfl⟩
  have e4:Go.IntKind.i64.wrap q4=q4:=ae _ aa;obtain⟨q5,hq5⟩:∃q,q4+1=q:=⟨_,rfl⟩;have e5:Go.IntKind.i64.wrap q5=q5:=ae _ aa;obtain⟨q6,hq6⟩:∃q,q5+((aN Part.cnt l[i].c.o:Nat):Int)=q:=⟨_,rfl⟩;have e6:Go.IntKind.i64.wrap q6=q6:=ae _ aa;obtain⟨q7,hq7⟩:∃q,q6+((l[i].c.text.length:Nat):Int)=q:=⟨_,rfl⟩;have e7:Go.IntKind.i64.wrap q7=q7:=ae _ aa;obtain⟨q8,hq8⟩:∃q,q7+1=q:=⟨_,rfl⟩;have e8:Go.IntKind.i64.wrap q8=q8:=ae _ aa;obtain⟨q9,hq9⟩:∃q,q8+1=q:=⟨_,rfl⟩;have e9:Go.IntKind.i64.wrap q9=q9:=ae _ aa;obtain⟨q10,hq10⟩:∃q,q9+1=q:=⟨_,rfl⟩;have e10:Go.IntKind.i64.wrap q10=q10:=ae _ aa
  obtain⟨q11,hq11⟩:∃q,q10+1=q:=⟨_,rfl⟩;have e11:Go.IntKind.i64.wrap q11=q11:=ae _ aa;obtain⟨q12,hq12⟩:∃q,q11+1=q:=⟨_,rfl⟩;have e12:Go.IntKind.i64.wrap q12=q12:=ae _ aa;obtain⟨q13,hq13⟩:∃q,q12+1=q:=⟨_,rfl⟩;have e13:Go.IntKind.i64.wrap q13=q13:=ae _ aa;obtain⟨q14,hq14⟩:∃q,q13+((l[i].a.text.length:Nat):Int)=q:=⟨_,rfl⟩;have e14:Go.IntKind.i64.wrap q14=q14:=ae _ aa;obtain⟨q15,hq15⟩:∃q,q14+((aN Entry.cnt l[i].a.list:Nat):Int)=q:=⟨_,rfl⟩;have e15:Go.IntKind.i64.wrap q15=q15:=ae _ aa;have e:Go.IntKind.i64.wrap ((i:Int)+1)=((i+1:Nat):Int):=aQ aa
  refine Ent.open (λ_ h=>h) (k:=0) (i:=i) (j:=5) (k':=905) (sz':=3) (sz:=15) (H:=H) (rows:=((bO Task.mark Task.cnt Task.row l k i).set i l[i].row)) (srows:=l[i].c.o.map Part.row) (row:=l[i].row) ab eI rfl ab ah fX ab (λH5=>?_)
  refine Ent.open (λ_ h=>h) (k:=0) (i:=i) (j:=6) (k':=906) (sz':=1) (sz:=15) (H:=H) (rows:=((bO Task.mark Task.cnt Task.row l k i).set i [vi l[i].c.kind,.v (.string l[i].c.doc),vi l[i].c.client,vi l[i].c.seq,vi l[i].c.n,.h 905 H5 3 l[i].c.o.length,.s (l[i].c.text.map aI),vi l[i].pc,vi l[i].inv,vi l[i].lin,vi l[i].rs,vi l[i].a.code,vi l[i].a.rev,.s (l[i].a.text.map aI),.s (l[i].a.list.map Entry.row)])) (srows:=l[i].c.text.map aI) (row:=[vi l[i].c.kind,.v (.string l[i].c.doc),vi l[i].c.client,vi l[i].c.seq,vi l[i].c.n,.h 905 H5 3 l[i].c.o.length,.s (l[i].c.text.map aI),vi l[i].pc,vi l[i].inv,vi l[i].lin,vi l[i].rs,vi l[i].a.code,vi l[i].a.rev,.s (l[i].a.text.map aI),.s (l[i].a.list.map Entry.row)]) ra eI rfl ab ah ju ab (λH6=>?_)
  refine Ent.open (λ_ h=>h) (k:=0) (i:=i) (j:=13) (k':=913) (sz':=1) (sz:=15) (H:=H) (rows:=((bO Task.mark Task.cnt Task.row l k i).set i [vi l[i].c.kind,.v (.string l[i].c.doc),vi l[i].c.client,vi l[i].c.seq,vi l[i].c.n,.h 905 H5 3 l[i].c.o.length,.h 906 H6 1 l[i].c.text.length,vi l[i].pc,vi l[i].inv,vi l[i].lin,vi l[i].rs,vi l[i].a.code,vi l[i].a.rev,.s (l[i].a.text.map aI),.s (l[i].a.list.map Entry.row)])) (srows:=l[i].a.text.map aI) (row:=[vi l[i].c.kind,.v (.string l[i].c.doc),vi l[i].c.client,vi l[i].c.seq,vi l[i].c.n,.h 905 H5 3 l[i].c.o.length,.h 906 H6 1 l[i].c.text.length,vi l[i].pc,vi l[i].inv,vi l[i].lin,vi l[i].rs,vi l[i].a.code,vi l[i].a.rev,.s (l[i].a.text.map aI),.s (l[i].a.list.map Entry.row)]) ra eI rfl ab ah ju ab (λH13=>?_)
  refine Ent.open (λ_ h=>h) (k:=0) (i:=i) (j:=14) (k':=914) (sz':=3) (sz:=15) (H:=H) (rows:=((bO Task.mark Task.cnt Task.row l k i).set i [vi l[i].c.kind,.v (.string l[i].c.doc),vi l[i].c.client,vi l[i].c.seq,vi l[i].c.n,.h 905 H5 3 l[i].c.o.length,.h 906 H6 1 l[i].c.text.length,vi l[i].pc,vi l[i].inv,vi l[i].lin,vi l[i].rs,vi l[i].a.code,vi l[i].a.rev,.h 913 H13 1 l[i].a.text.length,.s (l[i].a.list.map Entry.row)])) (srows:=l[i].a.list.map Entry.row) (row:=[vi l[i].c.kind,.v (.string l[i].c.doc),vi l[i].c.client,vi l[i].c.seq,vi l[i].c.n,.h 905 H5 3 l[i].c.o.length,.h 906 H6 1 l[i].c.text.length,vi l[i].pc,vi l[i].inv,vi l[i].lin,vi l[i].rs,vi l[i].a.code,vi l[i].a.rev,.h 913 H13 1 l[i].a.text.length,.s (l[i].a.list.map Entry.row)]) ra eI rfl ab ah fe ab (λH14=>?_);refine Ent.refl ?_
  simp[h,bN,Task.row,dB,bm,hq1,e1];refine ag.pure (fm q1 aa aa) ab ?_;simp[h,bN,bm,hq2,e2,hq3,e3,hq4,e4,hq5,e5];refine ag.mark (lD l[i].c.o q5 aa aa aa) rfl (λ_ h=>h) ab ?_;simp[h,bN,hq6];refine ag.mark (fS l[i].c.text q6 aa aa) rfl (λ_ h=>h) ab ?_;simp[h,bN,bm,hq7,hq8,e8,hq9,e9,hq10,e10,hq11,e11,hq12,e12,hq13,e13];refine ag.mark (fS l[i].a.text q13 aa aa) rfl (λ_ h=>h) ab ?_;simp[h,bN,hq14];refine ag.mark (i9 l[i].a.list q14 aa aa aa) rfl (λ_ h=>h) ab ?_;simp[e,hq15]
  refine dG (k:=0) (i:=i) (j:=5) (k':=905) (sz':=3) (sz:=15) (H:=H) (rows:=(bO Task.mark Task.cnt Task.row l k i).set i [vi q0,.v (.string (markT q1)),vi q2,vi q3,vi q4,.h 905 H5 3 l[i].c.o.length,.h 906 H6 1 l[i].c.text.length,vi q7,vi q8,vi q9,vi q10,vi q11,vi q12,.h 913 H13 1 l[i].a.text.length,.h 914 H14 3 l[i].a.list.length]) (row:=[vi q0,.v (.string (markT q1)),vi q2,vi q3,vi q4,.h 905 H5 3 l[i].c.o.length,.h 906 H6 1 l[i].c.text.length,vi q7,vi q8,vi q9,vi q10,vi q11,vi q12,.h 913 H13 1 l[i].a.text.length,.h 914 H14 3 l[i].a.list.length]) (H':=H5) (srows:=(aL Part.mark Part.cnt l[i].c.o q5).map Part.row) ab eI ff ab ah ab ?_
  refine dG (k:=0) (i:=i) (j:=6) (k':=906) (sz':=1) (sz:=15) (H:=H) (rows:=(bO Task.mark Task.cnt Task.row l k i).set i [vi q0,.v (.string (markT q1)),vi q2,vi q3,vi q4,.s ((aL Part.mark Part.cnt l[i].c.o q5).map Part.row),.h 906 H6 1 l[i].c.text.length,vi q7,vi q8,vi q9,vi q10,vi q11,vi q12,.h 913 H13 1 l[i].a.text.length,.h 914 H14 3 l[i].a.list.length]) (row:=[vi q0,.v (.string (markT q1)),vi q2,vi q3,vi q4,.s ((aL Part.mark Part.cnt l[i].c.o q5).map Part.row),.h 906 H6 1 l[i].c.text.length,vi q7,vi q8,vi q9,vi q10,vi q11,vi q12,.h 913 H13 1 l[i].a.text.length,.h 914 H14 3 l[i].a.list.length]) (H':=H6) (srows:=(aL eR one l[i].c.text q6).map aI) j6 eI ff ab ah ab ?_
  refine dG (k:=0) (i:=i) (j:=13) (k':=913) (sz':=1) (sz:=15) (H:=H) (rows:=(bO Task.mark Task.cnt Task.row l k i).set i [vi q0,.v (.string (markT q1)),vi q2,vi q3,vi q4,.s ((aL Part.mark Part.cnt l[i].c.o q5).map Part.row),.s ((aL eR one l[i].c.text q6).map aI),vi q7,vi q8,vi q9,vi q10,vi q11,vi q12,.h 913 H13 1 l[i].a.text.length,.h 914 H14 3 l[i].a.list.length]) (row:=[vi q0,.v (.string (markT q1)),vi q2,vi q3,vi q4,.s ((aL Part.mark Part.cnt l[i].c.o q5).map Part.row),.s ((aL eR one l[i].c.text q6).map aI),vi q7,vi q8,vi q9,vi q10,vi q11,vi q12,.h 913 H13 1 l[i].a.text.length,.h 914 H14 3 l[i].a.list.length]) (H':=H13) (srows:=(aL eR one l[i].a.text q13).map aI) j6 eI ff ab ah ab ?_
  refine dG (k:=0) (i:=i) (j:=14) (k':=914) (sz':=3) (sz:=15) (H:=H) (rows:=(bO Task.mark Task.cnt Task.row l k i).set i [vi q0,.v (.string (markT q1)),vi q2,vi q3,vi q4,.s ((aL Part.mark Part.cnt l[i].c.o q5).map Part.row),.s ((aL eR one l[i].c.text q6).map aI),vi q7,vi q8,vi q9,vi q10,vi q11,vi q12,.s ((aL eR one l[i].a.text q13).map aI),.h 914 H14 3 l[i].a.list.length]) (row:=[vi q0,.v (.string (markT q1)),vi q2,vi q3,vi q4,.s ((aL Part.mark Part.cnt l[i].c.o q5).map Part.row),.s ((aL eR one l[i].c.text q6).map aI),vi q7,vi q8,vi q9,vi q10,vi q11,vi q12,.s ((aL eR one l[i].a.text q13).map aI),.h 914 H14 3 l[i].a.list.length]) (H':=H14) (srows:=(aL Entry.mark Entry.cnt l[i].a.list q14).map Entry.row) j6 eI ff ab ah ab ?_
  refine Ent.refl ⟨i+1,aa,aa,?_⟩;simp[dB,hs,hpc];refine⟨aa,?_⟩;refine gG h ?_;rw[hq0];subst hq1 hq2 hq3 hq4 hq5 hq6 hq7 hq8 hq9 hq10 hq11 hq12 hq13 hq14 hq15;rfl
 ·have:i=l.length:=by omega
  subst this;refine Ent.refl ?_;simp[gI,aJ,Task.row]
theorem F8(l:List Task)(k:Int)(h0:0<=k)(hk:k+aN Task.cnt l<=4611686018427387904)(hl:nL dj l<=2^36):ar Tryz.prog 48 [.c (.s ((aL Task.mark Task.cnt l k).map Task.row)),.c (vi k)] (.one (.c (vi (k+aN Task.cnt l)) 1)):=by
 refine aE aw Tryz.func48 al rfl rfl rfl (ai rfl) (λw0 base=>?_);have hle:=aY hl;simp;refine aU.intro eok (λi:Nat=>i<=l.length) (λi=>⟨160,0,[(5,.v (.int .i64 i)),(1,.v (.int .i64 (k+aN Task.cnt (l.take i)))),(0,.ro ((aL Task.mark Task.cnt l k).map Task.row))],[]⟩) (λi=>l.length-i) 0 ab jv (λi hi=>?_);by_cases h:i<l.length
 ·have hc:=cL (cn:=Task.cnt) h
  have hs:=ch (cn:=Task.cnt) h;have hni:=cH hl h;simp only[dj,dP,cq]at hni;have hm:=iQ (mk:=Task.mark) (cn:=Task.cnt) (k:=k) h;obtain⟨q0,hq0⟩:∃q,k+((aN Task.cnt (l.take i):Nat):Int)=q:=⟨_,rfl⟩;have hpc:l[i].cnt=11+(aN Part.cnt l[i].c.o+(l[i].c.text.length+(l[i].a.text.length+(aN Entry.cnt l[i].a.list)))):=rfl;rw[hq0]at hm;rw[hq0];have z0:¬q0<0:=aa;have e0:Go.IntKind.i64.wrap q0=q0:=ae _ aa;obtain⟨q1,hq1⟩:∃q,q0+1=q:=⟨_,rfl⟩;have e1:Go.IntKind.i64.wrap q1=q1:=ae _ aa;have z1:¬q1<0:=aa;obtain⟨q2,hq2⟩:∃q,q1+1=q:=⟨_,rfl⟩;have e2:Go.IntKind.i64.wrap q2=q2:=ae _ aa;have z2:¬q2<0:=aa;obtain⟨q3,hq3⟩:∃q,q2+1=q:=⟨_,rfl⟩
  have e3:Go.IntKind.i64.wrap q3=q3:=ae _ aa;have z3:¬q3<0:=aa;obtain⟨q4,hq4⟩:∃q,q3+1=q:=⟨_,rfl⟩;have e4:Go.IntKind.i64.wrap q4=q4:=ae _ aa;have z4:¬q4<0:=aa;obtain⟨q5,hq5⟩:∃q,q4+1=q:=⟨_,rfl⟩;have e5:Go.IntKind.i64.wrap q5=q5:=ae _ aa;have z5:¬q5<0:=aa;obtain⟨q6,hq6⟩:∃q,q5+((aN Part.cnt l[i].c.o:Nat):Int)=q:=⟨_,rfl⟩;have e6:Go.IntKind.i64.wrap q6=q6:=ae _ aa;have z6:¬q6<0:=aa;obtain⟨q7,hq7⟩:∃q,q6+((l[i].c.text.length:Nat):Int)=q:=⟨_,rfl⟩;have e7:Go.IntKind.i64.wrap q7=q7:=ae _ aa;have z7:¬q7<0:=aa;obtain⟨q8,hq8⟩:∃q,q7+1=q:=⟨_,rfl⟩;have e8:Go.IntKind.i64.wrap q8=q8:=ae _ aa
  have z8:¬q8<0:=aa;obtain⟨q9,hq9⟩:∃q,q8+1=q:=⟨_,rfl⟩;have e9:Go.IntKind.i64.wrap q9=q9:=ae _ aa;have z9:¬q9<0:=aa;obtain⟨q10,hq10⟩:∃q,q9+1=q:=⟨_,rfl⟩;have e10:Go.IntKind.i64.wrap q10=q10:=ae _ aa;have z10:¬q10<0:=aa;obtain⟨q11,hq11⟩:∃q,q10+1=q:=⟨_,rfl⟩;have e11:Go.IntKind.i64.wrap q11=q11:=ae _ aa;have z11:¬q11<0:=aa;obtain⟨q12,hq12⟩:∃q,q11+1=q:=⟨_,rfl⟩;have e12:Go.IntKind.i64.wrap q12=q12:=ae _ aa;have z12:¬q12<0:=aa;obtain⟨q13,hq13⟩:∃q,q12+1=q:=⟨_,rfl⟩;have e13:Go.IntKind.i64.wrap q13=q13:=ae _ aa;have z13:¬q13<0:=aa;obtain⟨q14,hq14⟩:∃q,q13+((l[i].a.text.length:Nat):Int)=q:=⟨_,rfl⟩
  have e14:Go.IntKind.i64.wrap q14=q14:=ae _ aa;have z14:¬q14<0:=aa;obtain⟨q15,hq15⟩:∃q,q14+((aN Entry.cnt l[i].a.list:Nat):Int)=q:=⟨_,rfl⟩;have e15:Go.IntKind.i64.wrap q15=q15:=ae _ aa;have z15:¬q15<0:=aa;have e:Go.IntKind.i64.wrap ((i:Int)+1)=((i+1:Nat):Int):=aQ aa;simp[h,aJ,hm,Task.row,Task.mark,hq1,e1,hq2,hq3,hq4,hq5,hq6,hq7,hq8,hq9,hq10,hq11,hq12,hq13,hq14];refine aZ.quiet eok mix al ?_;simp[h,aJ,hm,Task.row,Task.mark,hq1,hq2,hq3,hq4,hq5,hq6,hq7,hq8,hq9,hq10,hq11,hq12,hq13,hq14];refine⟨_,_,fm q1 aa aa,ab,?_⟩;simp[h,aJ,hm,Task.row,Task.mark,hq1,hq2,e2,hq3,e3,hq4,e4,hq5,e5,hq6,hq7,hq8,hq9,hq10,hq11,hq12,hq13,hq14]
  refine ag.pure (wm l[i].c.o q5 aa aa aa) ab ?_;simp[h,aJ,hm,Task.row,Task.mark,hq1,hq2,hq3,hq4,hq5,hq6,z6,hq7,hq8,hq9,hq10,hq11,hq12,hq13,hq14];refine ag.pure (kR l[i].c.text q6 aa aa) ab ?_;simp[h,aJ,hm,Task.row,Task.mark,hq1,hq2,hq3,hq4,hq5,hq6,hq7,z7,hq8,e8,hq9,e9,hq10,e10,hq11,e11,hq12,e12,hq13,e13,hq14];refine ag.pure (kR l[i].a.text q13 aa aa) ab ?_;simp[h,aJ,hm,Task.row,Task.mark,hq1,hq2,hq3,hq4,hq5,hq6,hq7,hq8,hq9,hq10,hq11,hq12,hq13,hq14,z14];refine ag.pure (pf l[i].a.list q14 aa aa aa) ab ?_;simp[hq15,z15];exact oR
 ·exact nk
theorem jK(x:Wld)(h:bL x<=2^36):ar Tryz.prog 7 [.agg x.row] (.one (.agg x.res)):=by
 refine aE aw Tryz.func7 al rfl rfl rfl (ai rfl) (λw0 base=>?_);unfold bL at h;simp[Wld.row,Wld.res]
 try intros
 refine ag.pure (TA x.h aa) bj ?_;simp[Hub.res]
 try intros
 refine ag.pure (oj x.locks aa) ab ?_;simp
 try intros
 refine ag.pure (GW x.queues aa) ab ?_;simp
 try intros
 refine ag.pure (Nm x.tasks aa) ab ?_;simp
 try intros
theorem jU(x y:Wld)(h:bL x<=2^36):ar Tryz.prog 9 [.agg x.row,.agg y.row] (.one (.c (vb (x=y)) 1)):=by
 refine aE aw Tryz.func9 al rfl rfl rfl (ai rfl) (λw0 base=>?_);unfold bL at h;obtain⟨a0,a1,a2,a3,a4⟩:=x;obtain⟨b0,b1,b2,b3,b4⟩:=y;simp only at h;simp[Wld.row]
 try intros
 refine ag.pure (UY a0 b0 aa) bj ?_;simp;by_cases h0:a0=b0
 rotate_left
 ·simp[h0]
 subst h0
 try simp
 refine ag.pure (oD a1 b1 aa) ab ?_;simp;by_cases h1:a1=b1
 rotate_left
 ·simp[h1]
 subst h1
 try simp
 refine ag.pure (IA a2 b2 aa) ab ?_;simp;by_cases h2:a2=b2
 rotate_left
 ·simp[h2]
 subst h2
 try simp
 refine ag.pure (OO a3 b3 aa) ab ?_;simp;by_cases h3:a3=b3
 rotate_left
 ·simp[h3]
 subst h3
 try simp
 by_cases h4:a4=b4
 rotate_left
 ·simp[h4]
 subst h4
 try simp
theorem A2(x:Wld)(h:x.fits)(left:Nat)(hf:left<=2^20):ar Tryz.prog 5 [.agg x.row,.c (vi left)] (.one (.c (vi (szR (bL x) left)) 1)):=by
 refine aE aw Tryz.func5 al rfl rfl rfl (ai rfl) (λw0 base=>?_);obtain⟨f0,f1,f2,f3,f4⟩:=h;obtain⟨r,hr⟩:∃r,szR (bL x) left=r:=⟨_,rfl⟩;rw[hr];have hn:bL x=dh x.h+(x.locks.length+(nL cR x.queues+(nL dj x.tasks))):=rfl;simp[Wld.row]
 try intros
 refine ag.pure (TH x.h f0 left aa) bj ?_;by_cases k0:dh x.h<=left
 rotate_left
 ·exact oS
 rw[dL k0];obtain⟨m0,hm0⟩:∃m,left-dh x.h=m:=⟨_,rfl⟩;rw[hm0];simp;refine ag.pure (om x.locks f1.1 m0 aa) ab ?_;by_cases k1:x.locks.length<=m0
 rotate_left
 ·exact nm
 rw[dL k1];obtain⟨m1,hm1⟩:∃m,m0-x.locks.length=m:=⟨_,rfl⟩;rw[hm1];simp;refine ag.pure (G0 x.queues f2.1 f2.2 m1 aa) ab ?_;by_cases k2:nL cR x.queues<=m1
 rotate_left
 ·exact CT
 rw[dL k2];obtain⟨m2,hm2⟩:∃m,m1-nL cR x.queues=m:=⟨_,rfl⟩;rw[hm2];simp;refine ag.pure (Ns x.tasks f3.1 f3.2 m2 aa) ab ?_;by_cases k3:nL dj x.tasks<=m2
 rotate_left
 ·exact JO
 rw[dL k3];obtain⟨m3,hm3⟩:∃m,m2-nL dj x.tasks=m:=⟨_,rfl⟩;exact JR
theorem qe(x:Wld)(k:Int)(h0:0<=k)(hk:k+x.cntT<=4611686018427387904)(hl:bL x<=2^36):iH Tryz.prog 10 (.agg x.res) k (k+x.cntT) (.agg (x.markT k).res):=by
 refine iH.intro aw Tryz.func10 al rfl rfl rfl ah (λw0 base=>?_);simp only[Wld.cntT]at hk;unfold bL at hl;have hs_h:x.h.cntT=aN Doc.cnt x.h.docs+(aN Sub.cnt x.h.subs):=rfl;simp[Wld.res]
 try intros
 refine ag.mark (NY x.h (k) aa aa aa) rfl (λ_ h=>h) ab ?_;simp[Hub.res,Hub.markT];refine ag.mark (fS x.locks (k+((x.h.cntT:Nat):Int)) aa aa) rfl (λ_ h=>h) ab ?_;simp;refine ag.mark (uo x.queues (k+((x.h.cntT:Nat):Int)+((x.locks.length:Nat):Int)) aa aa aa) rfl (λ_ h=>h) ab ?_;simp;refine ag.mark (FH x.tasks (k+((x.h.cntT:Nat):Int)+((x.locks.length:Nat):Int)+((aN Queue.cnt x.queues:Nat):Int)) aa aa aa) rfl (λ_ h=>h) ab ?_;simp;simp[Wld.markT,Wld.cntT,aJ,Hub.cntT,E5]
 try omega
theorem nz(x:Wld)(k:Int)(h0:0<=k)(hk:k+x.cntT<=4611686018427387904)(hl:bL x<=2^36):ar Tryz.prog 11 [.agg (x.markT k).row,.c (vi k)] (.one (.c (vi (k+x.cntT)) 1)):=by
 refine aE aw Tryz.func11 al rfl rfl rfl (ai rfl) (λw0 base=>?_);simp only[Wld.cntT]at hk;unfold bL at hl;have hs_h:x.h.cntT=aN Doc.cnt x.h.docs+(aN Sub.cnt x.h.subs):=rfl;simp[Wld.row,Wld.markT]
 try intros
 refine ag.pure (OA x.h k aa aa aa) (by simp[Hub.row,Hub.markT]) ?_;obtain⟨q0,hq0⟩:∃q,k+((x.h.cntT:Nat):Int)=q:=⟨_,rfl⟩;rw[hq0];have z0:¬q0<0:=aa;simp[z0];refine ag.pure (kR x.locks q0 aa aa) (by simp[<-hq0,hs_h,E5]) ?_;obtain⟨q1,hq1⟩:∃q,q0+((x.locks.length:Nat):Int)=q:=⟨_,rfl⟩;rw[hq1];have z1:¬q1<0:=aa;simp[z1];refine ag.pure (Ef x.queues q1 aa aa aa) (by simp[<-hq1,<-hq0,hs_h,E5]) ?_;obtain⟨q2,hq2⟩:∃q,q1+((aN Queue.cnt x.queues:Nat):Int)=q:=⟨_,rfl⟩;rw[hq2];have z2:¬q2<0:=aa;simp[z2];refine ag.pure (F8 x.tasks q2 aa aa aa) (by simp[<-hq2,<-hq1,<-hq0,hs_h,E5]) ?_
 obtain⟨q3,hq3⟩:∃q,q2+((aN Task.cnt x.tasks:Nat):Int)=q:=⟨_,rfl⟩;rw[hq3];have z3:¬q3<0:=aa;simp[z3]
 try (simp only[Wld.cntT];omega)
set_option maxHeartbeats 1600000
open Go.AM Go.ChangeShapes Go.WideShapes Go.ChangeAt Go.RowKit
theorem own:ownKnob Tryz.prog.godebug=none:=al
theorem ad3:laidOutB Tryz.prog=true:=al
theorem dC{D:Nat}{ds:List CD}(h:fV Tryz.prog D 3 ds):∃n:Int,ds=[vi n]/\gn n:=by
 obtain⟨n,h1,h2⟩:=Gg Tryz.underlying3 h;exact⟨n,h1,PA h2⟩
theorem mL:maxLen=9223372036854775807:=rfl
theorem mv{D:Nat}{ds:List CD}(h:fV Tryz.prog D 26 ds):∃l:List Int,ds=[.s (l.map aI)]/\l.length<=9223372036854775807/\∀n∈l,gn n:=by
 obtain⟨rows,rfl,h1,D',h2⟩:=iS Tryz.underlying26 h;obtain⟨l,rfl,hl⟩:=kl (f:=aI) (ok:=gn) rows (λrow hrow=>dC (h2 row hrow).2);exact nj
theorem Sz:Tryz.prog.cellsOf 229=3:=al
theorem Rj{α:Type}{l:List α}(h:l.length=3):∃x0 x1 x2,l=[x0,x1,x2]:=by
 match l,h with
 | [x0,x1,x2],_=>exact⟨x0,x1,x2,rfl⟩
theorem mR:Tryz.prog.cellsOf 3=1:=al
theorem rW:Tryz.prog.cellsOf 26=1:=al
theorem OG{D:Nat}{ds:List CD}(h:fV Tryz.prog D 229 ds):∃x:Part,ds=x.row/\x.fits:=by
 obtain⟨hl,D',hf⟩:=ee Tryz.underlying229 h;rw[Sz]at hl;obtain⟨d0,d1,d2,rfl⟩:=Rj hl;simp[mR,rW]at hf;obtain⟨h0,h1,h2⟩:=hf;obtain⟨n0,e0,k0⟩:=dC h0;simp at e0;subst e0;obtain⟨n1,e1,k1⟩:=dC h1;simp at e1;subst e1;obtain⟨n2,e2,k2⟩:=mv h2;exact CH
theorem zj{D:Nat}{ds:List CD}(h:fV Tryz.prog D 93 ds):∃l:List Part,ds=[.s (l.map Part.row)]/\l.length<=9223372036854775807/\∀y∈l,y.fits:=by
 obtain⟨rows,rfl,h1,D',h2⟩:=iS Tryz.underlying93 h;obtain⟨l,rfl,hl⟩:=kl (f:=Part.row) (ok:=Part.fits) rows (λrow hrow=>OG (h2 row hrow).2);exact nj
theorem SA:Tryz.prog.cellsOf 227=3:=al
theorem M8:Tryz.prog.cellsOf 93=1:=al
theorem Iu{D:Nat}{ds:List CD}(h:fV Tryz.prog D 227 ds):∃x:Entry,ds=x.row/\x.fits:=by
 obtain⟨hl,D',hf⟩:=ee Tryz.underlying227 h;rw[SA]at hl;obtain⟨d0,d1,d2,rfl⟩:=Rj hl;simp[mR,M8]at hf;obtain⟨h0,h1,h2⟩:=hf;obtain⟨n0,e0,k0⟩:=dC h0;simp at e0;subst e0;obtain⟨n1,e1,k1⟩:=dC h1;simp at e1;subst e1;obtain⟨n2,e2,k2⟩:=zj h2;exact CH
theorem qu{D:Nat}{ds:List CD}(h:fV Tryz.prog D 96 ds):∃l:List Entry,ds=[.s (l.map Entry.row)]/\l.length<=9223372036854775807/\∀y∈l,y.fits:=by
 obtain⟨rows,rfl,h1,D',h2⟩:=iS Tryz.underlying96 h;obtain⟨l,rfl,hl⟩:=kl (f:=Entry.row) (ok:=Entry.fits) rows (λrow hrow=>Iu (h2 row hrow).2);exact nj
theorem Sy:Tryz.prog.cellsOf 240=3:=al
theorem OE{D:Nat}{ds:List CD}(h:fV Tryz.prog D 240 ds):∃x:Seen,ds=x.row/\x.fits:=by
 obtain⟨hl,D',hf⟩:=ee Tryz.underlying240 h;rw[Sy]at hl;obtain⟨d0,d1,d2,rfl⟩:=Rj hl;simp[mR]at hf;obtain⟨h0,h1,h2⟩:=hf;obtain⟨n0,e0,k0⟩:=dC h0;simp at e0;subst e0;obtain⟨n1,e1,k1⟩:=dC h1;simp at e1;subst e1;obtain⟨n2,e2,k2⟩:=dC h2;exact CH
theorem Is{D:Nat}{ds:List CD}(h:fV Tryz.prog D 135 ds):∃l:List Seen,ds=[.s (l.map Seen.row)]/\l.length<=9223372036854775807/\∀y∈l,y.fits:=by
 obtain⟨rows,rfl,h1,D',h2⟩:=iS Tryz.underlying135 h;obtain⟨l,rfl,hl⟩:=kl (f:=Seen.row) (ok:=Seen.fits) rows (λrow hrow=>OE (h2 row hrow).2);exact nj
theorem SC:Tryz.prog.cellsOf 137=5:=al
theorem abn{α:Type}{l:List α}(h:l.length=5):∃x0 x1 x2 x3 x4,l=[x0,x1,x2,x3,x4]:=by
 match l,h with
 | [x0,x1,x2,x3,x4],_=>exact⟨x0,x1,x2,x3,x4,rfl⟩
theorem EJ:Tryz.prog.cellsOf 9=1:=al
theorem EI:Tryz.prog.cellsOf 96=1:=al
theorem SD:Tryz.prog.cellsOf 135=1:=al
theorem R3{D:Nat}{ds:List CD}(h:fV Tryz.prog D 137 ds):∃x:Doc,ds=x.row/\x.fits:=by
 obtain⟨hl,D',hf⟩:=ee Tryz.underlying137 h;rw[SC]at hl;obtain⟨d0,d1,d2,d3,d4,rfl⟩:=abn hl;simp[mR,EJ,rW,EI,SD]at hf;obtain⟨h0,h1,h2,h3,h4⟩:=hf;obtain⟨n0,e0,k0⟩:=nB Tryz.underlying9 h0;simp at e0;subst e0;obtain⟨n1,e1,k1⟩:=dC h1;simp at e1;subst e1;obtain⟨n2,e2,k2⟩:=mv h2;simp at e2;subst e2;obtain⟨n3,e3,k3⟩:=qu h3;simp at e3;subst e3;obtain⟨n4,e4,k4⟩:=Is h4;simp at e4;subst e4;exact⟨⟨n0,n1,n2,n3,n4⟩,rfl,(by rw[mL]at k0;exact k0),k1,k2,k3,k4⟩
theorem OH{D:Nat}{ds:List CD}(h:fV Tryz.prog D 22 ds):∃l:List Doc,ds=[.s (l.map Doc.row)]/\l.length<=9223372036854775807/\∀y∈l,y.fits:=by
 obtain⟨rows,rfl,h1,D',h2⟩:=iS Tryz.underlying22 h;obtain⟨l,rfl,hl⟩:=kl (f:=Doc.row) (ok:=Doc.fits) rows (λrow hrow=>R3 (h2 row hrow).2);exact nj
theorem Gv:Tryz.prog.cellsOf 140=4:=al
theorem Ri{α:Type}{l:List α}(h:l.length=4):∃x0 x1 x2 x3,l=[x0,x1,x2,x3]:=by
 match l,h with
 | [x0,x1,x2,x3],_=>exact⟨x0,x1,x2,x3,rfl⟩
theorem Sx:Tryz.prog.cellsOf 4=1:=al
theorem OF{D:Nat}{ds:List CD}(h:fV Tryz.prog D 140 ds):∃x:Ring,ds=x.row/\x.fits:=by
 obtain⟨hl,D',hf⟩:=ee Tryz.underlying140 h;rw[Gv]at hl;obtain⟨d0,d1,d2,d3,rfl⟩:=Ri hl;simp[mR,Sx,EI]at hf;obtain⟨h0,h1,h2,h3⟩:=hf;obtain⟨n0,e0,k0⟩:=dC h0;simp at e0;subst e0;obtain⟨n1,e1,k1⟩:=dC h1;simp at e1;subst e1;obtain⟨n2,e2⟩:=BC Tryz.underlying4 h2;simp at e2;subst e2;obtain⟨n3,e3,k3⟩:=qu h3;simp at e3;subst e3;exact⟨⟨n0,n1,n2,n3⟩,rfl,k0,k1,trivial,k3⟩
theorem SB:Tryz.prog.cellsOf 142=6:=al
theorem abm{α:Type}{l:List α}(h:l.length=6):∃x0 x1 x2 x3 x4 x5,l=[x0,x1,x2,x3,x4,x5]:=by
 match l,h with
 | [x0,x1,x2,x3,x4,x5],_=>exact⟨x0,x1,x2,x3,x4,x5,rfl⟩
theorem RZ{D:Nat}{ds:List CD}(h:fV Tryz.prog D 142 ds):∃x:Sub,ds=x.row/\x.fits:=by
 obtain⟨hl,D',hf⟩:=ee Tryz.underlying142 h;rw[SB]at hl;obtain⟨d0,d1,d2,d3,d4,d5,rfl⟩:=abm hl;simp[mR,EJ,Gv]at hf;obtain⟨h0,h1,h2⟩:=hf;obtain⟨n0,e0,k0⟩:=dC h0;simp at e0;subst e0;obtain⟨n1,e1,k1⟩:=nB Tryz.underlying9 h1;simp at e1;subst e1;obtain⟨n2,e2,k2⟩:=OF h2;simp[Ring.row]at e2;obtain⟨e2_0,e2_1,e2_2,e2_3⟩:=e2;subst e2_0 e2_1 e2_2 e2_3;exact⟨⟨n0,n1,n2⟩,rfl,k0,(by rw[mL]at k1;exact k1),k2⟩
theorem OD{D:Nat}{ds:List CD}(h:fV Tryz.prog D 23 ds):∃l:List Sub,ds=[.s (l.map Sub.row)]/\l.length<=9223372036854775807/\∀y∈l,y.fits:=by
 obtain⟨rows,rfl,h1,D',h2⟩:=iS Tryz.underlying23 h;obtain⟨l,rfl,hl⟩:=kl (f:=Sub.row) (ok:=Sub.fits) rows (λrow hrow=>RZ (h2 row hrow).2);exact nj
theorem Na:Tryz.prog.cellsOf 25=4:=al
theorem Va:Tryz.prog.cellsOf 22=1:=al
theorem U9:Tryz.prog.cellsOf 23=1:=al
theorem R0{D:Nat}{ds:List CD}(h:fV Tryz.prog D 25 ds):∃x:Hub,ds=x.row/\x.fits:=by
 obtain⟨hl,D',hf⟩:=ee Tryz.underlying25 h;rw[Na]at hl;obtain⟨d0,d1,d2,d3,rfl⟩:=Ri hl;simp[mR,Sx,Va,U9]at hf;obtain⟨h0,h1,h2,h3⟩:=hf;obtain⟨n0,e0⟩:=BC Tryz.underlying4 h0;simp at e0;subst e0;obtain⟨n1,e1,k1⟩:=OH h1;simp at e1;subst e1;obtain⟨n2,e2,k2⟩:=OD h2;simp at e2;subst e2;obtain⟨n3,e3,k3⟩:=dC h3;simp at e3;subst e3;exact⟨⟨n0,n1,n2,n3⟩,rfl,trivial,k1,k2,k3⟩
theorem M7:Tryz.prog.cellsOf 95=7:=al
theorem abl{α:Type}{l:List α}(h:l.length=7):∃x0 x1 x2 x3 x4 x5 x6,l=[x0,x1,x2,x3,x4,x5,x6]:=by
 match l,h with
 | [x0,x1,x2,x3,x4,x5,x6],_=>exact⟨x0,x1,x2,x3,x4,x5,x6,rfl⟩
theorem OI{D:Nat}{ds:List CD}(h:fV Tryz.prog D 95 ds):∃x:Call,ds=x.row/\x.fits:=by
 obtain⟨hl,D',hf⟩:=ee Tryz.underlying95 h;rw[M7]at hl;obtain⟨d0,d1,d2,d3,d4,d5,d6,rfl⟩:=abl hl;simp[mR,EJ,rW,M8]at hf;obtain⟨h0,h1,h2,h3,h4,h5,h6⟩:=hf;obtain⟨n0,e0,k0⟩:=dC h0;simp at e0;subst e0;obtain⟨n1,e1,k1⟩:=nB Tryz.underlying9 h1;simp at e1;subst e1;obtain⟨n2,e2,k2⟩:=dC h2;simp at e2;subst e2;obtain⟨n3,e3,k3⟩:=dC h3;simp at e3;subst e3;obtain⟨n4,e4,k4⟩:=dC h4;simp at e4;subst e4;obtain⟨n5,e5,k5⟩:=zj h5;simp at e5;subst e5;obtain⟨n6,e6,k6⟩:=mv h6;simp at e6;subst e6;exact⟨⟨n0,n1,n2,n3,n4,n5,n6⟩,rfl,k0,(by rw[mL]at k1;exact k1),k2,k3,k4,k5,k6⟩
theorem M6:Tryz.prog.cellsOf 98=4:=al
theorem Gi{D:Nat}{ds:List CD}(h:fV Tryz.prog D 98 ds):∃x:Answer,ds=x.row/\x.fits:=by
 obtain⟨hl,D',hf⟩:=ee Tryz.underlying98 h;rw[M6]at hl;obtain⟨d0,d1,d2,d3,rfl⟩:=Ri hl;simp[mR,rW,EI]at hf;obtain⟨h0,h1,h2,h3⟩:=hf;obtain⟨n0,e0,k0⟩:=dC h0;simp at e0;subst e0;obtain⟨n1,e1,k1⟩:=dC h1;simp at e1;subst e1;obtain⟨n2,e2,k2⟩:=mv h2;simp at e2;subst e2;obtain⟨n3,e3,k3⟩:=qu h3;simp at e3;subst e3;exact⟨⟨n0,n1,n2,n3⟩,rfl,k0,k1,k2,k3⟩
theorem SE:Tryz.prog.cellsOf 100=15:=al
theorem Yg{α:Type}{l:List α}(h:l.length=15):∃x0 x1 x2 x3 x4 x5 x6 x7 x8 x9 x10 x11 x12 x13 x14,l=[x0,x1,x2,x3,x4,x5,x6,x7,x8,x9,x10,x11,x12,x13,x14]:=by
 match l,h with
 | [x0,x1,x2,x3,x4,x5,x6,x7,x8,x9,x10,x11,x12,x13,x14],_=>exact⟨x0,x1,x2,x3,x4,x5,x6,x7,x8,x9,x10,x11,x12,x13,x14,rfl⟩
theorem OC{D:Nat}{ds:List CD}(h:fV Tryz.prog D 100 ds):∃x:Task,ds=x.row/\x.fits:=by
 obtain⟨hl,D',hf⟩:=ee Tryz.underlying100 h;rw[SE]at hl;obtain⟨d0,d1,d2,d3,d4,d5,d6,d7,d8,d9,d10,d11,d12,d13,d14,rfl⟩:=Yg hl;simp[mR,M7,M6]at hf;obtain⟨h0,h1,h2,h3,h4,h5⟩:=hf;obtain⟨n0,e0,k0⟩:=OI h0;simp[Call.row]at e0;obtain⟨e0_0,e0_1,e0_2,e0_3,e0_4,e0_5,e0_6⟩:=e0;subst e0_0 e0_1 e0_2 e0_3 e0_4 e0_5 e0_6;obtain⟨n1,e1,k1⟩:=dC h1;simp at e1;subst e1;obtain⟨n2,e2,k2⟩:=dC h2;simp at e2;subst e2;obtain⟨n3,e3,k3⟩:=dC h3;simp at e3;subst e3;obtain⟨n4,e4,k4⟩:=dC h4;simp at e4;subst e4;obtain⟨n5,e5,k5⟩:=Gi h5;simp[Answer.row]at e5;obtain⟨e5_0,e5_1,e5_2,e5_3⟩:=e5;subst e5_0 e5_1 e5_2 e5_3;exact⟨⟨n0,n1,n2,n3,n4,n5⟩,rfl,k0,k1,k2,k3,k4,k5⟩
theorem Ir{D:Nat}{ds:List CD}(h:fV Tryz.prog D 28 ds):∃l:List Task,ds=[.s (l.map Task.row)]/\l.length<=9223372036854775807/\∀y∈l,y.fits:=by
 obtain⟨rows,rfl,h1,D',h2⟩:=iS Tryz.underlying28 h;obtain⟨l,rfl,hl⟩:=kl (f:=Task.row) (ok:=Task.fits) rows (λrow hrow=>OC (h2 row hrow).2);exact nj
theorem U6:Tryz.prog.cellsOf 91=2:=al
theorem abo{α:Type}{l:List α}(h:l.length=2):∃x0 x1,l=[x0,x1]:=by
 match l,h with
 | [x0,x1],_=>exact⟨x0,x1,rfl⟩
theorem It{D:Nat}{ds:List CD}(h:fV Tryz.prog D 91 ds):∃x:Queue,ds=x.row/\x.fits:=by
 obtain⟨hl,D',hf⟩:=ee Tryz.underlying91 h;rw[U6]at hl;obtain⟨d0,d1,rfl⟩:=abo hl;simp[EJ,rW]at hf;obtain⟨h0,h1⟩:=hf;obtain⟨n0,e0,k0⟩:=nB Tryz.underlying9 h0;simp at e0;subst e0;obtain⟨n1,e1,k1⟩:=mv h1;simp at e1;subst e1;exact⟨⟨n0,n1⟩,rfl,(by rw[mL]at k0;exact k0),k1⟩
theorem Gh{D:Nat}{ds:List CD}(h:fV Tryz.prog D 27 ds):∃l:List Queue,ds=[.s (l.map Queue.row)]/\l.length<=9223372036854775807/\∀y∈l,y.fits:=by
 obtain⟨rows,rfl,h1,D',h2⟩:=iS Tryz.underlying27 h;obtain⟨l,rfl,hl⟩:=kl (f:=Queue.row) (ok:=Queue.fits) rows (λrow hrow=>It (h2 row hrow).2);exact nj
theorem M9:Tryz.prog.cellsOf 30=8:=al
theorem abk{α:Type}{l:List α}(h:l.length=8):∃x0 x1 x2 x3 x4 x5 x6 x7,l=[x0,x1,x2,x3,x4,x5,x6,x7]:=by
 match l,h with
 | [x0,x1,x2,x3,x4,x5,x6,x7],_=>exact⟨x0,x1,x2,x3,x4,x5,x6,x7,rfl⟩
theorem U8:Tryz.prog.cellsOf 27=1:=al
theorem U7:Tryz.prog.cellsOf 28=1:=al
theorem Iq{D:Nat}{ds:List CD}(h:fV Tryz.prog D 30 ds):∃x:Wld,ds=x.row/\x.fits:=by
 obtain⟨hl,D',hf⟩:=ee Tryz.underlying30 h;rw[M9]at hl;obtain⟨d0,d1,d2,d3,d4,d5,d6,d7,rfl⟩:=abk hl;simp[mR,Na,rW,U8,U7]at hf;obtain⟨h0,h1,h2,h3,h4⟩:=hf;obtain⟨n0,e0,k0⟩:=R0 h0;simp[Hub.row]at e0;obtain⟨e0_0,e0_1,e0_2,e0_3⟩:=e0;subst e0_0 e0_1 e0_2 e0_3;obtain⟨n1,e1,k1⟩:=mv h1;simp at e1;subst e1;obtain⟨n2,e2,k2⟩:=Gh h2;simp at e2;subst e2;obtain⟨n3,e3,k3⟩:=Ir h3;simp at e3;subst e3;obtain⟨n4,e4,k4⟩:=dC h4;simp at e4;subst e4;exact⟨⟨n0,n1,n2,n3,n4⟩,rfl,k0,k1,k2,k3,k4⟩
theorem Eo{D:Nat}{t:TypeId}{vd:VD}{fs:Array Field}(hu:Tryz.prog.underlying t=some (.struct fs))(hc:Tryz.prog.cellsOf t≠1)(h:Ac Tryz.prog D t vd):∃ds,vd=.agg ds/\fV Tryz.prog D t ds:=by
 cases vd with
 | c d =>
   have:=(ee hu h).1;exact absurd this.symm hc
 |agg ds=>exact⟨ds,rfl,h.2⟩
end Go.Proofs.YtklblkobegcljaaGreat
