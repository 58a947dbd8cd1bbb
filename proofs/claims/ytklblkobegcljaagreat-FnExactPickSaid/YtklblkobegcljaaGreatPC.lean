import Derived.Test.YtklblkobegcljaaGreatPB
import Derived.Test.YtklblkobegcljaaGreatNA
import Derived.Test.YtklblkobegcljaaGreatMF
import Derived.Test.YtklblkobegcljaaGreatPA
namespace Go.Proofs.YtklblkobegcljaaGreat
open Go.AM
set_option maxRecDepth 20000
set_option maxHeartbeats 1600000
theorem wX(a b:List Part)(ha:nL a9 a<=2^40)(hb:nL a9 b<=2^40):ar Tryz.prog 274 [.c (.s (a.map Part.row)),.c (.s (b.map Part.row))] (.tup [.c (.s ((bn a b).1.map Part.row)) 3,.c (.s ((bn a b).2.1.map Part.row)) 3,.c (.v (.bool (bn a b).2.2)) 1]):=by
 refine pci aw Tryz.func274 (λw0 base=>?_);simp;refine ag.pure (gD a ha) ab ?_;by_cases c1:dv a
 rotate_left
 ·exact KQ
 simp[c1];refine ag.pure (gD b hb) ab ?_;by_cases c2:dv b
 rotate_left
 ·exact KS
 simp[c2];refine ag.pure (kj a ha) ab ?_;simp;refine ag.pure (kj b hb) ab ?_;by_cases c3:cQ a=cQ b
 rotate_left
 ·have e:=lq (a:=a) (b:=b) (λh=>c3 h.2.2)
  simp[c3,e]
 have hf:=qv c1 c2 c3;simp[c3];intro bx by_ bz bw;have t1:=B4 c1;have t2:=B4 c2;have la:=c1.1.2;have lb:=c2.1.2;have z0:∀o:List Part,cur o 0 0=o:=λo=>by rw[Gs,kH]
 refine aH eok (λx:(Nat×Nat×Nat×Nat)×List Part×List Part×Hd×Hd×Hd×Hd=>Cu a x.1.1 x.1.2.1 (cur a x.1.1 x.1.2.1)/\Cu b x.1.2.2.1 x.1.2.2.2 (cur b x.1.2.2.1 x.1.2.2.2)/\TInv (cur a x.1.1 x.1.2.1) (cur b x.1.2.2.1 x.1.2.2.2) /\
  (x.2.1++(xf (cur a x.1.1 x.1.2.1) (cur b x.1.2.2.1 x.1.2.2.2)).1=(xf a b).1/\x.2.2.1++(xf (cur a x.1.1 x.1.2.1) (cur b x.1.2.2.1 x.1.2.2.2)).2=(xf a b).2)/\((∀p∈x.2.1,a8 p)/\∀p∈x.2.2.1,a8 p)/\(x.2.1.length+(tsz (cur a x.1.1 x.1.2.1)+tsz (cur b x.1.2.2.1 x.1.2.2.2))<=800/\x.2.2.1.length+(tsz (cur a x.1.1 x.1.2.1)+tsz (cur b x.1.2.2.1 x.1.2.2.2))<=800))
  (λx=>⟨141,0,[(7,.p 560 bx 0),(8,.p 608 by_ 0),(9,.p 640 bz 0),(10,.p 672 bw 0)],
  [(560, .vars bx 275 [.ro (a.map Part.row), .v (.int .i64 x.1.1), .v (.int .i64 x.1.2.1)]),(608, .vars by_ 275 [.ro (b.map Part.row), .v (.int .i64 x.1.2.2.1), .v (.int .i64 x.1.2.2.2)]),
   (640,.vars bz 261 [.sl 5000 x.2.2.2.1 3 0 (bZ x.2.1).1.length,.sl 5001 x.2.2.2.2.1 1 0 (bZ x.2.1).2.1.length,.v (.int .i64 (bZ x.2.1).2.2)]),
   (672,.vars bw 261 [.sl 5002 x.2.2.2.2.2.1 3 0 (bZ x.2.2.1).1.length,.sl 5003 x.2.2.2.2.2.2 1 0 (bZ x.2.2.1).2.1.length,.v (.int .i64 (bZ x.2.2.1).2.2)]),
   (5000,.rows x.2.2.2.1 3 ((bZ x.2.1).1.map Part.row) true),(5001,.rows x.2.2.2.2.1 1 ((bZ x.2.1).2.1.map aI) true),(5002,.rows x.2.2.2.2.2.1 3 ((bZ x.2.2.1).1.map Part.row) true),(5003,.rows x.2.2.2.2.2.2 1 ((bZ x.2.2.1).2.1.map aI) true)]⟩)
  (λx=>tsz (cur a x.1.1 x.1.2.1)+tsz (cur b x.1.2.2.1 x.1.2.2.2)) ((0,0,0,0),[],[],none,none,none,none)
  ⟨⟨c1.1.1,iu _,λ_=>iu _,λ_=>rfl,rfl⟩,⟨c2.1.1,iu _,λ_=>iu _,λ_=>rfl,rfl⟩,by simp only[z0];exact xi c1 c2 c3,by simp[z0],ab,by simp[z0];omega⟩ (by simp[bZ]) (λx hx=>Ent.refl ?_)
 obtain⟨⟨i,d,j,e⟩,L,M,H,G,H2,G2⟩:=x;obtain⟨cx,cy,hi,⟨hcx,hcy⟩,⟨hL,hM⟩,hlen,hlen2⟩:=hx;simp only at cx cy hi hcx hcy hL hM hlen hlen2⊢;have hB:=Bp hL;have hC:=Bp hM;obtain⟨B,hBe⟩:∃B,bZ L=B:=⟨_,rfl⟩;obtain⟨C,hCe⟩:∃C,bZ M=C:=⟨_,rfl⟩;obtain⟨BL,BP,BD⟩:=B;obtain⟨CL,CP,CD_⟩:=C;rw[hBe]at hB;rw[hCe]at hC;obtain⟨k1,k2,k3,k4,k5⟩:=hB;obtain⟨l1,l2,l3,l4,l5⟩:=hC;simp only[hBe,hCe];simp only at k1 k2 k3 k4 k5 l1 l2 l3 l4 l5;obtain⟨X,hX⟩:∃X,cur a i d=X:=⟨_,rfl⟩;obtain⟨Y,hY⟩:∃Y,cur b j e=Y:=⟨_,rfl⟩;rw[hX]at cx hi hcx hcy hlen hlen2;rw[hY]at cy hi hcx hcy hlen hlen2
 obtain⟨h0,hh0⟩:∃h0:AH,[(560,.vars bx 275 [.ro (a.map Part.row),.v (.int .i64 i),.v (.int .i64 d)]),(608,.vars by_ 275 [.ro (b.map Part.row),.v (.int .i64 j),.v (.int .i64 e)]),
  (640,.vars bz 261 [.sl 5000 H 3 0 BL.length,.sl 5001 G 1 0 BP.length,.v (.int .i64 BD)]),
  (672,.vars bw 261 [.sl 5002 H2 3 0 CL.length,.sl 5003 G2 1 0 CP.length,.v (.int .i64 CD_)]),
  (5000,.rows H 3 (BL.map Part.row) true),(5001,.rows G 1 (BP.map aI) true),(5002,.rows H2 3 (CL.map Part.row) true),(5003,.rows G2 1 (CP.map aI) true)]=h0:=⟨_,rfl⟩
 have R:CR 560 608 bx by_ h0 h0 a b i d j e X Y:=⟨ah,ah,ah,jt,jt,λ_ _ _ _=>rfl,cx,cy⟩;have g5:AH.get h0 5000=.rows H 3 (BL.map Part.row) true:=jt;have g6:AH.get h0 5001=.rows G 1 (BP.map aI) true:=jt;have g7:AH.get h0 640=.vars bz 261 [.sl 5000 H 3 0 BL.length,.sl 5001 G 1 0 BP.length,.v (.int .i64 BD)]:=jt;have g8:AH.get h0 5002=.rows H2 3 (CL.map Part.row) true:=jt;have g9:AH.get h0 5003=.rows G2 1 (CP.map aI) true:=jt;have g10:AH.get h0 672=.vars bw 261 [.sl 5002 H2 3 0 CL.length,.sl 5003 G2 1 0 CP.length,.v (.int .i64 CD_)]:=jt;rw[hh0]
 clear hh0
 simp
 have fin:∀{i' d' j' e':Nat}{r:XR},Cu a i' d' r.2.1->Cu b j' e' r.2.2->fu X Y=some r ->
  (Cu a i' d' (cur a i' d')/\Cu b j' e' (cur b j' e')/\TInv (cur a i' d') (cur b j' e')/\((L++r.1.1)++(xf (cur a i' d') (cur b j' e')).1=(xf a b).1/\(M++r.1.2)++(xf (cur a i' d') (cur b j' e')).2=(xf a b).2)/\((∀p∈L++r.1.1,a8 p)/\∀p∈M++r.1.2,a8 p) /\
   ((L++r.1.1).length+(tsz (cur a i' d')+tsz (cur b j' e'))<=800/\(M++r.1.2).length+(tsz (cur a i' d')+tsz (cur b j' e'))<=800))/\tsz (cur a i' d')+tsz (cur b j' e')<tsz (cur a i d)+tsz (cur b j e):=by
  intro i' d' j' e' r hu hv hs;have hn:=gA hi hs;have hcm:=tH hi hs hcx hcy;have hdec:=hn.dec;have h1:=hn.lenx;have h2:=hn.leny;rw[hu.c,hv.c,hX,hY];exact⟨⟨hu,hv,hn.inv,hcm,⟨jA hL hn.okx,jA hM hn.oky⟩,by rw[eK];omega,by rw[eK];omega⟩,hdec⟩
 refine R.kind aa (λh1 i1 d1 R=>?_);have okx:∀p∈nxt X,a8 p:=λp hp=>hi.px p (nu hp)
 have oky:∀p∈nxt Y,a8 p:=λp hp=>hi.py p (nu hp)
 have hxt:=mi X;have hyf:=mi Y;have hbal:=hi.b
 cases ex:nxt X with
 | nil =>
   rw[ex]at R;simp[hdK];refine R.swap.kind aa (λh2 j1 e1 R=>?_);have R:=R.swap
   cases ey:nxt Y with
   | nil =>
     have hc:xf X Y=([],[]):=I4 (by simp[fu,ex,ey]);simp[hdK];rw[hc]at hcx hcy;simp only[bI]at hcx hcy;have A640:=(R.o 640 ah ah ah).trans g7;have A5000:=(R.o 5000 ah ah ah).trans g5;have A5001:=(R.o 5001 ah ah ah).trans g6;have A672:=(R.o 672 ah ah ah).trans g10;have A5002:=(R.o 5002 ah ah ah).trans g8;have A5003:=(R.o 5003 ah ah ah).trans g9;refine inl aw Tryz.func266 30000 (λw1 F=>?_);simp;refine pC (L:=BL) (P:=BP) (D:=BD) (Hl:=H) (Hp:=G) aa aa A640 A5000 A5001 (λHl' h' k576 k5000 ko=>?_);have hnorm:bE BL BP BD=normal (xf a b).1:=by rw[<-hcx];unfold normal;rw[hBe]
     rw[hnorm]at k576 k5000;have B672:=(ko 672 ah ah ah ah).trans A672;have B5002:=(ko 5002 ah ah ah ah).trans A5002;have B5003:=(ko 5003 ah ah ah ah).trans A5003;simp[k576];refine inl aw Tryz.func266 30000 (λw1 F=>?_);simp;refine pB (L:=CL) (P:=CP) (D:=CD_) (Hl:=H2) (Hp:=G2) aa aa B672 B5002 B5003 (λGl' h'' k672 k5002 ko2=>?_);have hnorm2:bE CL CP CD_=normal (xf a b).2:=by rw[<-hcy];unfold normal;rw[hCe]
     rw[hnorm2]at k672 k5002;have k5000:=(ko2 5000 ah ah ah ah).trans k5000;simp[k672];refine ag.pure (gD (normal (xf a b).1) (by rw[<-hcx];have:=ox hL;omega)) (by simp[k5000]) ?_;by_cases c4:dv (normal (xf a b).1)
     rotate_left
     ·exact KE
     simp[c4];refine ag.pure (gD (normal (xf a b).2) (by rw[<-hcy];have:=ox hM;omega)) (by simp[k5002]) ?_;by_cases c5:dv (normal (xf a b).2)
     rotate_left
     ·exact KD
     have e:=hf.1 ⟨c4,c5⟩;simp[c5,e,k5000,k5002]
   | cons q y' =>
     rw[ey]at R;have hq:=(jz hi.py ey).1;have hqb:=hq.bounds;have hqs:=iF hq;have q0:¬q.kind=0:=aa;simp[hdK,q0];refine R.kind aa (λh3 i2 d2 R=>?_);simp only[nxt]at R;simp[nxt,hdK];refine R.swap.kind aa (λh4 j2 e2 R=>?_);have R:=R.swap;rw[<-ey,gj,ey]at R;rw[<-ey,gj,ey];by_cases q2:q.kind=2
     ·simp[hdK,q2]
      refine R.swap.left ?_;simp;refine R.swap.take q2 (aF _) (λh5 R=>?_);have R:=R.swap;have A640:=(R.o 640 ah ah ah).trans g7;have A5000:=(R.o 5000 ah ah ah).trans g5;have A5001:=(R.o 5001 ah ah ah).trans g6;have A672:=(R.o 672 ah ah ah).trans g10;have A5002:=(R.o 5002 ah ah ah).trans g8;have A5003:=(R.o 5003 ah ah ah).trans g9;simp;have hc:fu X Y=some (([⟨1,q.signs.length,[]⟩],[ib q (psz q)]),[],cu q (psz q)::y'):=by simp[fu,ex,ey,q2]
      have hf:=fin R.cx R.cy hc;rw[fR hq]at hf;have hpsz:psz q=q.signs.length:=by have:=hqb.2.2.2.2.1 q2;unfold psz;omega
      have htk:q.signs.take (psz q)=q.signs:=aC aa;have qpos:=hQ ey;have qpos2:0<q.signs.length:=aa;rw[<-eG,htk];refine sw (L:=CL) (P:=CP) (D:=CD_) (Hl:=H2) (Hp:=G2) aa Cj A672 A5003 (λP1 h1' B672 B5003 B5002 ko=>?_);have R:=R.rebase (h':=h1') (ko 560 ah ah ah ah) (ko 608 ah ah ah ah);have B5002:=B5002.trans A5002;have B640:=(ko 640 ah ah ah ah).trans A640;have B5000:=(ko 5000 ah ah ah ah).trans A5000;have B5001:=(ko 5001 ah ah ah ah).trans A5001;have A640:=B640;have A5000:=B5000;have A5001:=B5001;have A672:=B672;have A5002:=B5002;have A5003:=B5003;simp;have f2:=jN (P:=BP) k3 k4 k5
      refine mD (n:=(psz q:Int)) (L:=BL) (P:=BP) (D:=BD) (Hl:=H) (Hp:=G) aa aa aa aa (λq hq=>by have:=f2 q hq;omega) A640 A5000 A5001 (λL2 h2' B640 B5000 ko=>?_);have R:=R.rebase (h':=h2') (ko 560 ah ah ah ah) (ko 608 ah ah ah ah);have B672:=(ko 672 ah ah ah ah).trans A672;have B5002:=(ko 5002 ah ah ah ah).trans A5002;have B5003:=(ko 5003 ah ah ah ah).trans A5003;have A640:=B640;have A5000:=B5000;have A672:=B672;have A5002:=B5002;have A5003:=B5003;simp;refine Ent.kill 5001 (Ent.refl ⟨_,_,_,_,_,_,hf.1,hf.2,L2,none,H2,P1,?_⟩);exact Kr
     ·exact JY
 | cons p x' =>
   rw[ex]at R;have hp:=(jz hi.px ex).1;have hpb:=hp.bounds;have hps:=iF hp;have p0:¬p.kind=0:=aa;simp[hdK,p0];refine R.kind aa (λh3 i2 d2 R=>?_);rw[<-ex,gj,ex]at R;rw[<-ex,gj,ex];by_cases p2:p.kind=2
   ·simp[hdK,p2]
    refine R.left ?_;simp;refine R.take p2 (aF _) (λh5 R=>?_);have A640:=(R.o 640 ah ah ah).trans g7;have A5000:=(R.o 5000 ah ah ah).trans g5;have A5001:=(R.o 5001 ah ah ah).trans g6;have A672:=(R.o 672 ah ah ah).trans g10;have A5002:=(R.o 5002 ah ah ah).trans g8;have A5003:=(R.o 5003 ah ah ah).trans g9;simp;have hc:fu X Y=some (([ib p (psz p)],[⟨1,p.signs.length,[]⟩]),cu p (psz p)::x',Y):=by simp[fu,ex,p2]
    have hf:=fin R.cx R.cy hc;rw[fR hp]at hf;have hpsz:psz p=p.signs.length:=by have:=hpb.2.2.2.2.1 p2;unfold psz;omega
    have htk:p.signs.take (psz p)=p.signs:=aC aa;have ppos:=hQ ex;have ppos2:0<p.signs.length:=aa;rw[<-eG,htk];refine Al (L:=BL) (P:=BP) (D:=BD) (Hl:=H) (Hp:=G) aa Cj A640 A5001 (λP3 h3' B640 B5001 B5000 ko=>?_);have R:=R.rebase (h':=h3') (ko 560 ah ah ah ah) (ko 608 ah ah ah ah);have B5000:=B5000.trans A5000;have B672:=(ko 672 ah ah ah ah).trans A672;have B5002:=(ko 5002 ah ah ah ah).trans A5002;have B5003:=(ko 5003 ah ah ah ah).trans A5003;have A640:=B640;have A5000:=B5000;have A5001:=B5001;have A672:=B672;have A5002:=B5002;have A5003:=B5003;simp;have f4:=jN (P:=CP) l3 l4 l5
    refine pX (n:=(psz p:Int)) (L:=CL) (P:=CP) (D:=CD_) (Hl:=H2) (Hp:=G2) aa aa aa aa (λq hq=>by have:=f4 q hq;omega) A672 A5002 A5003 (λL4 h4' B672 B5002 ko=>?_);have R:=R.rebase (h':=h4') (ko 560 ah ah ah ah) (ko 608 ah ah ah ah);have B640:=(ko 640 ah ah ah ah).trans A640;have B5000:=(ko 5000 ah ah ah ah).trans A5000;have B5001:=(ko 5001 ah ah ah ah).trans A5001;have A640:=B640;have A5000:=B5000;have A5001:=B5001;have A672:=B672;have A5002:=B5002;simp;refine Ent.kill 5003 (Ent.refl ⟨_,_,_,_,_,_,hf.1,hf.2,H,P3,L4,none,?_⟩);rw[iP,hBe,iP,hCe];simp[fY,p2,hpsz,ppos2,R.gx,R.gy,A640,A5000,A5001,A672,A5002]
   ·simp[hdK,p2]
    refine R.swap.kind aa (λh4 j2 e2 R=>?_);have R:=R.swap
    cases ey:nxt Y with
    | nil =>
      exact JZ
    | cons q y' =>
      rw[ey]at R;have hq:=(jz hi.py ey).1;have hqb:=hq.bounds;have hqs:=iF hq;by_cases q2:q.kind=2
      ·simp[hdK,q2]
       refine R.swap.left ?_;simp;refine R.swap.take q2 (aF _) (λh5 R=>?_);have R:=R.swap;have A640:=(R.o 640 ah ah ah).trans g7;have A5000:=(R.o 5000 ah ah ah).trans g5;have A5001:=(R.o 5001 ah ah ah).trans g6;have A672:=(R.o 672 ah ah ah).trans g10;have A5002:=(R.o 5002 ah ah ah).trans g8;have A5003:=(R.o 5003 ah ah ah).trans g9;simp;have hc:fu X Y=some (([⟨1,q.signs.length,[]⟩],[ib q (psz q)]),p::x',cu q (psz q)::y'):=by simp[fu,ex,ey,q2,p2]
       have hf:=fin R.cx R.cy hc;rw[fR hq]at hf;have hpsz:psz q=q.signs.length:=by have:=hqb.2.2.2.2.1 q2;unfold psz;omega
       have htk:q.signs.take (psz q)=q.signs:=aC aa;have qpos:=hQ ey;have qpos2:0<q.signs.length:=aa;rw[<-eG,htk];refine sw (L:=CL) (P:=CP) (D:=CD_) (Hl:=H2) (Hp:=G2) aa Cj A672 A5003 (λP5 h5' B672 B5003 B5002 ko=>?_);have R:=R.rebase (h':=h5') (ko 560 ah ah ah ah) (ko 608 ah ah ah ah);have B5002:=B5002.trans A5002;have B640:=(ko 640 ah ah ah ah).trans A640;have B5000:=(ko 5000 ah ah ah ah).trans A5000;have B5001:=(ko 5001 ah ah ah ah).trans A5001;have A640:=B640;have A5000:=B5000;have A5001:=B5001;have A672:=B672;have A5002:=B5002;have A5003:=B5003;simp;have f6:=jN (P:=BP) k3 k4 k5
       refine mD (n:=(psz q:Int)) (L:=BL) (P:=BP) (D:=BD) (Hl:=H) (Hp:=G) aa aa aa aa (λq hq=>by have:=f6 q hq;omega) A640 A5000 A5001 (λL6 h6' B640 B5000 ko=>?_);have R:=R.rebase (h':=h6') (ko 560 ah ah ah ah) (ko 608 ah ah ah ah);have B672:=(ko 672 ah ah ah ah).trans A672;have B5002:=(ko 5002 ah ah ah ah).trans A5002;have B5003:=(ko 5003 ah ah ah ah).trans A5003;have A640:=B640;have A5000:=B5000;have A672:=B672;have A5002:=B5002;have A5003:=B5003;simp;refine Ent.kill 5001 (Ent.refl ⟨_,_,_,_,_,_,hf.1,hf.2,L6,none,H2,P5,?_⟩);exact Kr
      ·simp[hdK,q2]
       refine R.left ?_;simp;refine R.swap.left ?_;simp;refine ag.pure (Rp (psz p) (psz q)) ab ?_;have pp:=hQ ex;have qp:=hQ ey;obtain⟨n,hn⟩:∃n,min (psz p) (psz q)=n:=⟨_,rfl⟩;rw[hn];simp;refine R.kind aa (λh5 i3 d3 R=>?_);rw[<-ex,gj,ex]at R;rw[<-ex,gj,ex];simp[hdK];refine R.swap.kind aa (λh6 j3 e3 R=>?_);have R:=R.swap;rw[<-ey,gj,ey]at R;rw[<-ey,gj,ey];simp[hdK];have hc:fu X Y=some ((if q.kind=1 then [ib p n]else [],if p.kind=1 then [ib q n]else []),cu p n::x',cu q n::y'):=by simp[fu,ex,ey,p2,q2,hn]
       obtain⟨mx,hmx⟩:∃m,d3+n=m:=⟨_,rfl⟩;obtain⟨my,hmy⟩:∃m,e3+n=m:=⟨_,rfl⟩;have ewx:Go.IntKind.i64.wrap ((d3:Int)+(n:Int))=(mx:Int):=by rw[ae _ (by have:=R.cx.bnd;omega)];omega
       have ewy:Go.IntKind.i64.wrap ((e3:Int)+(n:Int))=(my:Int):=by rw[ae _ (by have:=R.cy.bnd;omega)];omega
       have cxx:=R.cx.add (n:=n) aa;have cyy:=R.cy.add (n:=n) aa;rw[hmx]at cxx;rw[hmy]at cyy;have hf:=fin cxx cyy hc;have n0:0<n:=aa;have ppn:(ib p n).n=n:=by simp[ib,p2]
       have qqn:(ib q n).n=n:=by simp[ib,q2]
       have A640:=(R.o 640 ah ah ah).trans g7;have A5000:=(R.o 5000 ah ah ah).trans g5;have A5001:=(R.o 5001 ah ah ah).trans g6;have A672:=(R.o 672 ah ah ah).trans g10;have A5002:=(R.o 5002 ah ah ah).trans g8;have A5003:=(R.o 5003 ah ah ah).trans g9;by_cases p1:p.kind=1
       ·by_cases q1:q.kind=1
        ·simp only[p1,q1,dk]at hf
         simp[p1,q1];have f7:=jN (P:=BP) k3 k4 k5;refine mD (n:=(n:Int)) (L:=BL) (P:=BP) (D:=BD) (Hl:=H) (Hp:=G) aa aa aa aa (λq hq=>by have:=f7 q hq;omega) A640 A5000 A5001 (λL7 h7' B640 B5000 ko=>?_);have R:=R.rebase (h':=h7') (ko 560 ah ah ah ah) (ko 608 ah ah ah ah);have B672:=(ko 672 ah ah ah ah).trans A672;have B5002:=(ko 5002 ah ah ah ah).trans A5002;have B5003:=(ko 5003 ah ah ah ah).trans A5003;have A640:=B640;have A5000:=B5000;have A672:=B672;have A5002:=B5002;have A5003:=B5003;simp;have f8:=jN (P:=CP) l3 l4 l5
         refine pX (n:=(n:Int)) (L:=CL) (P:=CP) (D:=CD_) (Hl:=H2) (Hp:=G2) aa aa aa aa (λq hq=>by have:=f8 q hq;omega) A672 A5002 A5003 (λL8 h8' B672 B5002 ko=>?_);have R:=R.rebase (h':=h8') (ko 560 ah ah ah ah) (ko 608 ah ah ah ah);have B640:=(ko 640 ah ah ah ah).trans A640;have B5000:=(ko 5000 ah ah ah ah).trans A5000;have A640:=B640;have A5000:=B5000;have A672:=B672;have A5002:=B5002;simp[R.gx,R.gy,ewx,ewy];refine Ent.kill 5003 (Ent.kill 5001 (Ent.refl ⟨_,_,_,_,_,_,hf.1,hf.2,L7,none,L8,none,?_⟩));rw[iP,hBe,iP,hCe];simp[fY,p1,q1,ppn,qqn,n0,A640,A5000,A672,A5002]
        ·have q3:q.kind=3:=by omega
         simp only[p1,q1,dk,dm,bI]at hf;simp[p1,q1];refine yK (n:=(n:Int)) (D:=CD_) aa aa A672 (λh9' B672 ko=>?_);have R:=R.rebase (h':=h9') (ko 560 ah) (ko 608 ah);have B5002:=(ko 5002 ah).trans A5002;have B5003:=(ko 5003 ah).trans A5003;have B640:=(ko 640 ah).trans A640;have B5000:=(ko 5000 ah).trans A5000;have B5001:=(ko 5001 ah).trans A5001;have A640:=B640;have A5000:=B5000;have A5001:=B5001;have A672:=B672;have A5002:=B5002;have A5003:=B5003;simp[R.gx,R.gy,ewx,ewy];refine Ent.refl ⟨_,_,_,_,_,_,hf.1,hf.2,H,G,H2,G2,?_⟩;rw[iP,hCe];simp[fY,hBe,q3,qqn,A640,A5000,A5001,A672,A5002,A5003]
       ·have p3:p.kind=3:=by omega
        by_cases q1:q.kind=1
        ·simp only[p1,q1,dk,dm,bI]at hf
         simp[p1,q1];refine yL (n:=(n:Int)) (D:=BD) aa aa A640 (λh10' B640 ko=>?_);have R:=R.rebase (h':=h10') (ko 560 ah) (ko 608 ah);have B5000:=(ko 5000 ah).trans A5000;have B5001:=(ko 5001 ah).trans A5001;have B672:=(ko 672 ah).trans A672;have B5002:=(ko 5002 ah).trans A5002;have B5003:=(ko 5003 ah).trans A5003;have A640:=B640;have A5000:=B5000;have A5001:=B5001;have A672:=B672;have A5002:=B5002;have A5003:=B5003;simp[R.gx,R.gy,ewx,ewy];refine Ent.refl ⟨_,_,_,_,_,_,hf.1,hf.2,H,G,H2,G2,?_⟩;rw[iP,hBe];simp[fY,hCe,p3,ppn,A640,A5000,A5001,A672,A5002,A5003]
        ·simp only[p1,q1,dm,bI]at hf
         simp[p1,q1,R.gx,R.gy,ewx,ewy];refine Ent.refl ⟨_,_,_,_,_,_,hf.1,hf.2,H,G,H2,G2,?_⟩;simp[hBe,hCe,A640,A5000,A5001,A672,A5002,A5003]
theorem az{p:Prop}(h:¬p):dc p=false:=by rw[iU];exact h
theorem vG{e:Entry}(hl:aX e<=2^40):nL a9 e.o<=2^40:=by unfold aX at hl;omega
theorem nW(e:Entry)(hl:aX e<=2^40):ar Tryz.prog 185 [.agg e.row] (.one (.c (vb (cZ e)) 1)):=by
 refine pci aw Tryz.func185 (λw0 base=>?_);simp[Entry.row];intros;refine ag.pure (bT e.client 1 8) ab ?_;by_cases c1:1<=e.client/\e.client<=8
 rotate_left
 ·have h:¬cZ e:=λh=>c1 h.1
  exact oQ
 simp[c1];refine ag.pure (bT e.seq 1 1000000000) ab ?_;by_cases c2:1<=e.seq/\e.seq<=1000000000
 rotate_left
 ·have h:¬cZ e:=λh=>c2 h.2.1
  exact rv
 simp[c2];refine ag.pure (Ed e.o (vG hl)) ab ?_;exact Lc
theorem nP(e:Entry)(hl:aX e<=2^40):ar Tryz.prog 166 [.agg e.row] (.one (.c (vb (cZ e)) 1)):=by
 refine pci aw Tryz.func166 (λw0 base=>?_);simp[Entry.row];intros;refine ag.pure (cG e.client 1 8) ab ?_;by_cases c1:1<=e.client/\e.client<=8
 rotate_left
 ·have h:¬cZ e:=λh=>c1 h.1
  exact oQ
 simp[c1];refine ag.pure (cG e.seq 1 1000000000) ab ?_;by_cases c2:1<=e.seq/\e.seq<=1000000000
 rotate_left
 ·have h:¬cZ e:=λh=>c2 h.2.1
  exact rv
 simp[c2];refine ag.pure (DG e.o (vG hl)) ab ?_;exact Lc
theorem pn(a b:List Part):nL a9 (bn a b).1<=2^18/\nL a9 (bn a b).2.1<=2^18:=by
 unfold bn
 split
 ·split
  ·rename_i h;exact⟨DR h.1,DR h.2⟩
  ·simp[nL,cw]
 ·simp[nL,cw]
def Q9(s:ByteArray)(i:Nat):Prop:=∀h:i<s.size,97<=s[i].toNat/\s[i].toNat<=122
theorem dX{d:Doc}{B:Nat}(h:cB d<=B):nL aX d.list<=B/\d.text.length<=B/\d.name.size<=B/\d.seen.length<=B:=by unfold cB at h;omega
def vg(d:Doc)(i:Nat):Prop:=∀h:i<d.seen.length,(1<=d.seen[i].client/\d.seen[i].client<=8)/\(1<=d.seen[i].seq/\d.seen[i].seq<=1000000000)/\(1<=d.seen[i].rev/\d.seen[i].rev<=aB d)/\(∀h0:0<i,d.seen[i-1].client<d.seen[i].client)
theorem AL{l:List (List Part)}{t:List Int}(h:eo t):(fA l t).2=true↔(bk l t).isSome=true:=by
 unfold fA;rw[ao h]
 cases bk l t<;>simp
theorem dg{d:Doc}(h:bQ d):aB d=d.fr+d.list.length/\0<=d.fr/\d.fr<=999999000/\d.list.length<=8:=by
 have h1:=h.2.1;have h2:=h.2.2.2.1;refine⟨?_,h1.1,h1.2,h2⟩;unfold aB;rw[ae _ aa]
theorem A0{d:Doc}{rev:Int}(h:¬(bQ d/\d.fr<=rev/\rev<=aB d)):gS d rev=([],false):=by unfold gS;rw[au h]
theorem yB{d:Doc}{rev:Int}(h:bQ d/\d.fr<=rev/\rev<=aB d):gS d rev=fA ((d.list.take (rev-d.fr).toNat).map Entry.o) d.text:=by unfold gS;rw[ao h]
theorem vH{d:Doc}(n1:nL aX d.list<=2^30){o:List Part}{l:List Entry}(hl:∀e∈l,e∈d.list)(ho:o∈l.map Entry.o):nL a9 o<=2^30:=by
 rw[cF]at ho;obtain⟨e,he,rfl⟩:=ho;have:=gF n1 (hl e he);unfold aX at this;omega
theorem A4{α:Type}{f:α->Nat}:∀(l:List α) (k:Nat),cw f (l.take k)<=cw f l
 | [],k=>by simp[cw]
 |a::l,0=>by simp[cw]
 |a::l,k+1=>by have:=A4 l k (f:=f);simp only[lv,cw];omega
theorem DU{α:Type}{f:α->Nat}{l:List α}{k B:Nat}(h:nL f l<=B):nL f (l.take k)<=B:=by
 have:=A4 l k (f:=f);unfold nL at h⊢;simp;omega
theorem qK:∀(l:List (List Part)) (t:List Int) (k:Nat),(bk l t).isSome=true->(bk (l.take k) t).isSome=true
 | [],_,_,h=>kZ
 |o::l,t,0,h=>by simp[bk]
 | o :: l, t, k + 1, h => by
   rw[bk]at h;rw[lv,bk]
   split at h
   ·rename_i hh;rw[ao hh];exact qK l _ k h
   ·simp at h
theorem GB{l:List (List Part)}{t u:List Int}(ht:eo t)(h:bk l t=some u):fA l t=(u,true):=by
 unfold fA;rw[ao ht,h]
theorem oU(d:Doc)(c:Int):(∃i,∃h:i<d.seen.length,d.seen[i].client=c/\(∀j,j<i->∀hj:j<d.seen.length,d.seen[j].client≠c)/\fF d c=(d.seen[i],true))\/((∀j,∀hj:j<d.seen.length,d.seen[j].client≠c)/\fF d c=(⟨0,0,0⟩,false)):=by
 unfold fF
 cases h:d.seen.find? (λs=>decide (s.client=c))with
 | none =>
   right
   rw[List.find?_eq_none]at h;exact⟨λj hj=>by have:=h _ (aj hj);simpa using this,rfl⟩
 | some s =>
   left
   rw[List.find?_eq_some_iff_getElem]at h;obtain⟨h1,i,hi,h2,h3⟩:=h;refine⟨i,hi,by rw[h2];simpa using h1,λj hj hjl=>by have:=h3 j hj;simpa using this,by rw[h2]⟩
theorem Fp{d:Doc}(h:bQ d)(c:Int):0<=(fF d c).1.seq/\(fF d c).1.seq<=1000000000/\0<=(fF d c).1.rev/\(fF d c).1.rev<=aB d:=by
 have hh:=dg h;rcases oU d c with⟨i,hi,-,-,e⟩|⟨-,e⟩
 ·rw[e]
  have:=h.2.2.2.2.2.2 i hi;exact iD
 ·rw[e]
  exact iD
def Doc.zero:Doc:=⟨⟨#[]⟩,0,[],[],[]⟩
def Net.zero:Net:=⟨Doc.zero,[]⟩
theorem Doc.zero_n:cB Doc.zero=0:=rfl
theorem Net.zero_n:Rb Net.zero=0:=rfl
def gK(name:ByteArray)(t:List Int):Doc:=⟨name,0,t,[],[]⟩
open Classical in
noncomputable def lu(name:ByteArray)(t:List Int):Doc×Bool:=if bQ (gK name t)then(gK name t,true)else(Doc.zero,false)
theorem Sl(name:ByteArray)(t:List Int):cB (gK name t)=name.size+t.length:=by simp[cB,gK,nL,cw]
theorem cC(d:Doc):ar Tryz.prog 113 [.agg d.row] (.one (.c (vi (aB d)) 1)):=by
 refine pci aw Tryz.func113 (λw0 base=>?_);simp[Doc.row,aB]
theorem cD(d:Doc):ar Tryz.prog 132 [.agg d.row] (.one (.c (vi (aB d)) 1)):=by
 refine pci aw Tryz.func132 (λw0 base=>?_);simp[Doc.row,aB]
theorem uB(s:ByteArray)(hl:s.size<=2^40):ar Tryz.prog 183 [.c (.v (.string s))] (.one (.c (vb (mJ s)) 1)):=by
 refine pci aw Tryz.func183 (λw0 base=>?_);simp;refine aU.intro eok (λi:Nat=>i<=s.size/\∀j,j<i->Q9 s j) (λi=>⟨23,0,[(3,.v (.int .i64 i)),(0,.v (.string s))],[]⟩) (λi=>s.size-i) 0 ab ab (λi hi=>?_);by_cases hlt:i<s.size
 ·exact L9
 ·simp[hlt]
  refine ag.pure (bT s.size 1 8) ab ?_;exact L0
theorem DF(s:ByteArray)(hl:s.size<=2^40):ar Tryz.prog 164 [.c (.v (.string s))] (.one (.c (vb (mJ s)) 1)):=by
 refine pci aw Tryz.func164 (λw0 base=>?_);simp;refine aU.intro eok (λi:Nat=>i<=s.size/\∀j,j<i->Q9 s j) (λi=>⟨23,0,[(3,.v (.int .i64 i)),(0,.v (.string s))],[]⟩) (λi=>s.size-i) 0 ab ab (λi hi=>?_);by_cases hlt:i<s.size
 ·exact L9
 ·simp[hlt]
  refine ag.pure (cG s.size 1 8) ab ?_;exact L0
theorem DQ(l:List Entry)(hl:nL aX l<=2^30):ar Tryz.prog 187 [.c (.s (l.map Entry.row))] (.one (.c (.s ((l.map Entry.o).map iy)) 1)):=by
 refine pci aw Tryz.func187 (λw0 base=>?_);have hle:=aY hl;simp;refine aH eok (λx:Nat×Hd=>x.1<=l.length) (λx=>⟨20,0,[(8,.v (.int .i64 x.1)),(7,.v (.int .i64 l.length)),(6,.ro (l.map Entry.row)),(3,.sl 5000 x.2 1 0 x.1)],[(5000,.rows x.2 1 (((l.take x.1).map Entry.o).map iy) true)]⟩) (λx=>l.length-x.1) (0,none) ab ab (λx hx=>Ent.refl ?_);obtain⟨i,H⟩:=x;simp only at hx⊢;by_cases hlt:i<l.length
 ·have hm:=cH hl hlt
  unfold aX at hm;simp[hlt,Entry.row];intro b5;refine ag.pure (zC l[i].o hm) ab ?_;exact LA
 ·have e:l.length=i:=by omega
  simp[hlt];have e1:i<=min i l.length:=aa;refine⟨e1,?_,?_⟩
  ·intro row hr
   have:=bu hr;exact xR
  ·rw[aC aM]
   simp[cut,e]
theorem iR(d:Doc)(hl:cB d<=2^30):ar Tryz.prog 130 [.agg d.row] (.one (.c (vb (bQ d)) 1)):=by
 refine pci aw Tryz.func130 (λw0 base=>?_);obtain⟨n1,n2,n3,n4⟩:=dX hl;have hle:=aY n1;simp[Doc.row];intro b1;refine ag.pure (uB d.name aa) ab ?_;by_cases c1:mJ d.name
 rotate_left
 ·have h:¬bQ d:=λh=>c1 h.1
  exact oQ
 simp[c1];refine ag.pure (bT d.fr 0 999999000) ab ?_;by_cases c2:0<=d.fr/\d.fr<=999999000
 rotate_left
 ·have h:¬bQ d:=λh=>c2 h.2.1
  exact rv
 simp[c2];refine ag.pure (kA d.text aa) ab ?_;by_cases c3:eo d.text
 rotate_left
 ·have h:¬bQ d:=λh=>c3 h.2.2.1
  simp[az c3,az h]
 simp[c3];by_cases c4:d.list.length<=8
 rotate_left
 ·exact Ku
 have c4':¬8<(d.list.length:Int):=aa;simp[c4']
 refine aU.intro eok (λi:Nat=>i<=d.list.length/\∀e∈d.list.take i,cZ e) (λi=>⟨96,0,[(34,.v (.int .i64 i)),(33,.v (.int .i64 d.list.length)),(32,.ro (d.list.map Entry.row)),(1,.p 16 b1 0)],
  [(16,.vars b1 119 [.v (.string d.name),.v (.int .i64 d.fr),.ro (d.text.map aI),.ro (d.list.map Entry.row),.ro (d.seen.map Seen.row)])]⟩) (λi=>d.list.length-i) 0 ab ab (λi hi=>?_)
 by_cases hlt:i<d.list.length
 ·have hm:=cH n1 hlt
  simp[hlt,Entry.row];intro b4;refine ag.pure (nW d.list[i] aa) fe ?_;by_cases c5:cZ d.list[i]
  ·exact C4
  ·have h:¬bQ d:=λh=>c5 (h.2.2.2.2.1 _ (aj hlt))
   simp[az c5,az h]
 have c5:∀e∈d.list,cZ e:=pq aa hi.2;simp[hlt];refine aZ.quiet eok mix al ?_;simp;refine⟨_,_,DQ d.list n1,ab,?_⟩;simp
 have hops:∀o∈d.list.map Entry.o,nL a9 o<=2^40:=by
  intro o ho;rw[cF]at ho;obtain⟨e,he,rfl⟩:=ho;have:=gF n1 he;unfold aX at this;omega
 refine⟨_,_,qn (d.list.map Entry.o) d.text aM hops aa,ab,?_⟩;have hsome:=AL (l:=d.list.map Entry.o) c3;generalize fA (d.list.map Entry.o) d.text=A at hsome⊢;obtain⟨u,ok⟩:=A;simp only at hsome⊢
 cases ok with
 | false =>
   have h:¬bQ d:=λh=>by have:=hsome.2 h.2.2.2.2.2.1;simp at this
   simp[az h]
 | true =>
   have c6:=hsome.1 rfl;simp;have hno:∀i,¬vg d i->¬bQ d:=λi h hd=>h (λhh=>hd.2.2.2.2.2.2 i hh)
   refine aU.intro eok (λi:Nat=>i<=d.seen.length/\∀j,j<i->vg d j) (λi=>⟨96,0,[(56,.v (.int .i64 i)),(55,.v (.int .i64 d.seen.length)),(54,.ro (d.seen.map Seen.row)),(1,.p 16 b1 0)],
    [(16,.vars b1 119 [.v (.string d.name),.v (.int .i64 d.fr),.ro (d.text.map aI),.ro (d.list.map Entry.row),.ro (d.seen.map Seen.row)])]⟩) (λi=>d.seen.length-i) 0 ab ab (λi hi=>?_)
   by_cases hlt:i<d.seen.length
   rotate_left
   ·exact J9
   obtain⟨x,hx⟩:∃x,d.seen[i]=x:=⟨_,rfl⟩;simp[hlt,hx,Seen.row];intro b8;refine aZ.quiet eok mix al ?_;simp;refine⟨_,_,bT x.client 1 8,ab,?_⟩;by_cases s1:1<=x.client/\x.client<=8
   rotate_left
   ·exact Kc
   simp[s1]
   have fin:(∀h0:0<i,d.seen[i-1].client<x.client)->(1<=x.seq/\x.seq<=1000000000)->(1<=x.rev/\x.rev<=aB d)->∀j,j<i+1->vg d j:=by
    exact KK
   have noq:¬(1<=x.seq/\x.seq<=1000000000)->¬bQ d:=λs2=>hno i (λh=>s2 xy)
   have nor:¬(1<=x.rev/\x.rev<=aB d)->¬bQ d:=λs2=>hno i (λh=>s2 (by have:=(h hlt).2.2.1;rwa[hx]at this))
   cases i with
   | zero =>
     simp;refine⟨_,_,bT x.seq 1 1000000000,ab,?_⟩;by_cases s2:1<=x.seq/\x.seq<=1000000000
     rotate_left
     ·simp[az s2,az (noq s2)]
     simp[s2];refine⟨_,_,cD d,bo,?_⟩;simp;refine⟨_,_,bT x.rev 1 (aB d),ab,?_⟩;by_cases s3:1<=x.rev/\x.rev<=aB d
     rotate_left
     ·simp[az s3,az (nor s3)]
     simp[s3];exact J3
   | succ k =>
     have ek:Go.IntKind.i64.wrap (k:Int)=k:=fh aa;have hk1:k<d.seen.length:=aa;have hk0:(0:Int)<(k:Int)+1:=aa;obtain⟨y,hy⟩:∃y,d.seen[k]=y:=⟨_,rfl⟩;simp[ek,hk0,hk1,hy,Seen.row];by_cases s4:y.client<x.client
     rotate_left
     ·exact Ly
     have s4':¬x.client<=y.client:=aa;simp[s4'];refine⟨_,_,bT x.seq 1 1000000000,ab,?_⟩;by_cases s2:1<=x.seq/\x.seq<=1000000000
     rotate_left
     ·simp[az s2,az (noq s2)]
     simp[s2];refine⟨_,_,cD d,bo,?_⟩;simp;refine⟨_,_,bT x.rev 1 (aB d),ab,?_⟩;by_cases s3:1<=x.rev/\x.rev<=aB d
     rotate_left
     ·simp[az s3,az (nor s3)]
     simp[s3];exact Lj
theorem iL(d:Doc)(hl:cB d<=2^30):ar Tryz.prog 111 [.agg d.row] (.one (.c (vb (bQ d)) 1)):=by
 refine pci aw Tryz.func111 (λw0 base=>?_);obtain⟨n1,n2,n3,n4⟩:=dX hl;have hle:=aY n1;simp[Doc.row];intro b1;refine ag.pure (DF d.name aa) ab ?_;by_cases c1:mJ d.name
 rotate_left
 ·have h:¬bQ d:=λh=>c1 h.1
  exact oQ
 simp[c1];refine ag.pure (cG d.fr 0 999999000) ab ?_;by_cases c2:0<=d.fr/\d.fr<=999999000
 rotate_left
 ·have h:¬bQ d:=λh=>c2 h.2.1
  exact rv
 simp[c2];refine ag.pure (mc d.text aa) ab ?_;by_cases c3:eo d.text
 rotate_left
 ·have h:¬bQ d:=λh=>c3 h.2.2.1
  simp[az c3,az h]
 simp[c3];by_cases c4:d.list.length<=8
 rotate_left
 ·exact Ku
 have c4':¬8<(d.list.length:Int):=aa;simp[c4']
 refine aH eok (λx:Nat×List Int=>x.1<=d.list.length/\(∀e∈d.list.take x.1,cZ e)/\eo x.2/\bk ((d.list.map Entry.o).drop x.1) x.2=bk (d.list.map Entry.o) d.text) (λx=>⟨105,0,[(37,.v (.int .i64 x.1)),(36,.v (.int .i64 d.list.length)),(35,.ro (d.list.map Entry.row)),(3,.ro (x.2.map aI)),(1,.p 16 b1 0)],
  [(16,.vars b1 119 [.v (.string d.name),.v (.int .i64 d.fr),.ro (d.text.map aI),.ro (d.list.map Entry.row),.ro (d.seen.map Seen.row)])]⟩) (λx=>d.list.length-x.1) (0,d.text) ⟨ab,ab,c3,ab⟩ ab (λx hi=>Ent.refl ?_)
 obtain⟨i,t⟩:=x;obtain⟨hi1,hi2,hi3,hi4⟩:=hi;simp only at hi1 hi2 hi3 hi4⊢;by_cases hlt:i<d.list.length
 ·have hm:=cH n1 hlt
  have hmo:=vG (e:=d.list[i]) aa;rw[mT (show i<(d.list.map Entry.o).length from oP)]at hi4;simp only[og]at hi4;have hyes:=@mz d.list[i].o t;have htok:=@mr d.list[i].o t;obtain⟨e,he⟩:∃e,d.list[i]=e:=⟨_,rfl⟩;have hmem:e∈d.list:=he ▸ aj hlt;have c5':cZ e->∀e∈d.list.take (i+1),cZ e:=λh=>uR hlt hi2 (he ▸ h)
  rw[he]at hi4 hyes htok hm hmo;simp[hlt,he,Entry.row];intro b5;refine ag.pure (lz e.o t hmo (by have:=hi3.1;omega)) ab ?_;generalize apply e.o t=A at hi4 hyes htok⊢;obtain⟨u,ok⟩:=A;simp only at hi4 hyes htok⊢;simp;intro H1
  cases ok with
  | false =>
    have h:¬bQ d:=λh=>by have:=h.2.2.2.2.2.1;rw[<-hi4]at this;simp at this
    simp[az h]
  | true =>
    simp only[dk]at hi4;have hu:=(htok (hyes.1 rfl)).1;simp;refine ag.pure (nP e aa) fe ?_;by_cases c5:cZ e
    rotate_left
    ·have h:¬bQ d:=λh=>c5 (h.2.2.2.2.1 _ hmem)
     simp[az c5,az h]
    simp[c5];refine ag.pure (mc u (by have:=hu.1;omega)) ab ?_;simp[hu];refine Tf 3 720 (sz:=1) (off:=0) (len:=u.length) (H:=H1) (rows:=u.map aI) (own:=true) ab ab ab (Ent.refl ⟨i+1,u,⟨aa,c5' c5,hu,hi4⟩,aa,?_⟩);exact ng
 ·have c5:∀e∈d.list,cZ e:=pq aa hi2
  have c6:(bk (d.list.map Entry.o) d.text).isSome=true:=by
   rw[<-hi4,bg aM];simp[bk]
  simp[hlt];have hno:∀i,¬vg d i->¬bQ d:=λi h hd=>h (λhh=>hd.2.2.2.2.2.2 i hh)
  refine aU.intro eok (λi:Nat=>i<=d.seen.length/\∀j,j<i->vg d j) (λi=>⟨105,0,[(65,.v (.int .i64 i)),(64,.v (.int .i64 d.seen.length)),(63,.ro (d.seen.map Seen.row)),(1,.p 16 b1 0)],
   [(16,.vars b1 119 [.v (.string d.name),.v (.int .i64 d.fr),.ro (d.text.map aI),.ro (d.list.map Entry.row),.ro (d.seen.map Seen.row)])]⟩) (λi=>d.seen.length-i) 0 ab ab (λi hi=>?_)
  by_cases hlt:i<d.seen.length
  rotate_left
  ·exact J9
  obtain⟨x,hx⟩:∃x,d.seen[i]=x:=⟨_,rfl⟩;simp[hlt,hx,Seen.row];intro b8;refine aZ.quiet eok mix al ?_;simp;refine⟨_,_,cG x.client 1 8,ab,?_⟩;by_cases s1:1<=x.client/\x.client<=8
  rotate_left
  ·exact Kc
  simp[s1]
  have fin:(∀h0:0<i,d.seen[i-1].client<x.client)->(1<=x.seq/\x.seq<=1000000000)->(1<=x.rev/\x.rev<=aB d)->∀j,j<i+1->vg d j:=by
   exact KK
  have noq:¬(1<=x.seq/\x.seq<=1000000000)->¬bQ d:=λs2=>hno i (λh=>s2 xy)
  have nor:¬(1<=x.rev/\x.rev<=aB d)->¬bQ d:=λs2=>hno i (λh=>s2 (by have:=(h hlt).2.2.1;rwa[hx]at this))
  refine⟨_,_,cG x.seq 1 1000000000,ab,?_⟩;by_cases s2:1<=x.seq/\x.seq<=1000000000
  rotate_left
  ·simp[az s2,az (noq s2)]
  simp[s2];refine⟨_,_,cC d,bo,?_⟩;simp;refine⟨_,_,cG x.rev 1 (aB d),ab,?_⟩;by_cases s3:1<=x.rev/\x.rev<=aB d
  rotate_left
  ·simp[az s3,az (nor s3)]
  simp[s3]
  cases i with
  | zero =>
    simp;exact J3
  | succ k =>
    have ek:Go.IntKind.i64.wrap (k:Int)=k:=fh aa;have hk1:k<d.seen.length:=aa;have hk0:(0:Int)<(k:Int)+1:=aa;obtain⟨y,hy⟩:∃y,d.seen[k]=y:=⟨_,rfl⟩;simp[ek,hk0,hk1,hy,Seen.row];by_cases s4:y.client<x.client
    rotate_left
    ·exact Ly
    have s4':¬x.client<=y.client:=aa;simp[s4'];exact Lj
theorem uy(d:Doc)(hl:cB d<=2^30)(rev:Int):ar Tryz.prog 237 [.agg d.row,.c (vi rev)] (.tup [.c (.s ((gS d rev).1.map aI)) 1,.c (.v (.bool (gS d rev).2)) 1]):=by
 refine pci aw Tryz.func237 (λw0 base=>?_);obtain⟨n1,n2,n3,n4⟩:=dX hl;simp[Doc.row];intro b2;refine aZ.quiet eok mix al ?_;simp;refine⟨_,_,iR d hl,bo,?_⟩;by_cases c1:bQ d
 rotate_left
 ·exact JI
 simp[c1];refine⟨_,_,cD d,bo,?_⟩;simp;refine⟨_,_,bT rev d.fr (aB d),ab,?_⟩;by_cases c2:d.fr<=rev/\rev<=aB d
 rotate_left
 ·exact JH
 have e:=yB ⟨c1,c2⟩;have hh:=dg c1;obtain⟨k,hk⟩:∃k:Nat,rev-d.fr=k:=⟨(rev-d.fr).toNat,aa⟩;have hkl:k<=d.list.length:=aa;have ew:Go.IntKind.i64.wrap (rev-d.fr)=(k:Int):=by rw[ae _ aa];omega
 rw[hk]at e;simp only[cJ]at e
 have hcut:cut (d.list.map Entry.row) 0 k=(d.list.take k).map Entry.row:=by
  exact Kj
 simp[c2];refine drw eok mix [0,1,2,3,4,5,6,8,9] [7,10,11,12,13,14] (.c 9 7 4 507 (.c 9 10 1 506 (.c 9 11 0 506 (.c 9 12 0 506 (.c 9 13 506 0 (.c 9 14 0 0 (.l 9 0) .s) .s) .s) .s) .s) .s) ?_;simp[ew,hkl,hcut]
 try intros
 refine ag.pure (DQ (d.list.take k) (DU n1)) ab ?_;simp
 try intros
 refine ag.pure (qn ((d.list.take k).map Entry.o) d.text aM (λo ho=>by have:=vH n1 (λe he=>bu he) ho;omega) aa) (by simp) ?_;simp
 try intros
 simp[e]
theorem tX(d:Doc)(hl:cB d<=2^30)(rev:Int):ar Tryz.prog 222 [.agg d.row,.c (vi rev)] (.tup [.c (.s ((gS d rev).1.map aI)) 1,.c (.v (.bool (gS d rev).2)) 1]):=by
 refine pci aw Tryz.func222 (λw0 base=>?_);obtain⟨n1,n2,n3,n4⟩:=dX hl;simp[Doc.row];intro b2;refine aZ.quiet eok mix al ?_;simp;refine⟨_,_,iL d hl,bo,?_⟩;by_cases c1:bQ d
 rotate_left
 ·exact JI
 simp[c1];refine⟨_,_,cC d,bo,?_⟩;simp;refine⟨_,_,cG rev d.fr (aB d),ab,?_⟩;by_cases c2:d.fr<=rev/\rev<=aB d
 rotate_left
 ·exact JH
 have e:=yB ⟨c1,c2⟩;have hh:=dg c1;obtain⟨k,hk⟩:∃k:Nat,rev-d.fr=k:=⟨(rev-d.fr).toNat,aa⟩;have hkl:k<=d.list.length:=aa;have ew:Go.IntKind.i64.wrap (rev-d.fr)=(k:Int):=by rw[ae _ aa];omega
 rw[hk]at e;simp only[cJ]at e
 have hcut:cut (d.list.map Entry.row) 0 k=(d.list.take k).map Entry.row:=by
  exact Kj
 obtain⟨l,hlk⟩:∃l,d.list.take k=l:=⟨_,rfl⟩;have hll:l.length=k:=by rw[<-hlk];simp;omega
 rw[hlk]at e hcut;have hmem:∀e∈l,e∈d.list:=λe he=>by rw[<-hlk]at he;exact bu he
 have hsome:=qK (d.list.map Entry.o) d.text k c1.2.2.2.2.2.1;rw[<-eG,hlk,lM]at hsome;obtain⟨u,hu⟩:=hsome;rw[GB c1.2.2.1 hu]at e;simp[c2];intro b21;refine⟨aa,λH24=>?_⟩;simp[ew,hkl,hcut,hll]
 refine aH eok (λx:(Nat×List Int×Nat)×Hd=>(x.1.2.2=336\/x.1.2.2=656)/\x.1.1<=k/\x.1.2.1.length<=2^30/\bk ((l.map Entry.o).drop x.1.1) x.1.2.1=some u) (λx=>⟨46,0,[(33,.v (.int .i64 x.1.1)),(32,.v (.int .i64 k)),(31,.ro (l.map Entry.row)),(6,.sl x.1.2.2 x.2 1 0 x.1.2.1.length)],
  [(x.1.2.2,.rows x.2 1 (x.1.2.1.map aI) true)]⟩) (λx=>k-x.1.1) ((0,d.text,336),H24) ⟨.inl rfl,ab,gh,by simpa using hu⟩ ab (λx hi=>Ent.refl ?_)
 obtain⟨⟨i,t,kk⟩,H⟩:=x;obtain⟨hkk,hi1,hi2,hi3⟩:=hi;simp only at hkk hi1 hi2 hi3⊢;by_cases hlt:i<k
 ·have hlt':i<l.length:=by omega
  have hm:=vH n1 hmem (pS (f:=Entry.o) (aj hlt'));rw[mT (show i<(l.map Entry.o).length by simpa using hlt')]at hi3;simp only[og]at hi3;have hal:=vO l[i].o t;rcases hkk with rfl|rfl
  all_goals
   simp[hlt,hlt',Entry.row];intro b8;refine ag.pure (lz l[i].o t aa aa) ab ?_;generalize apply l[i].o t=A at hi3 hal⊢;obtain⟨v,ok⟩:=A;simp only at hi3 hal⊢;simp;intro H1
   cases ok with
   |false=>simp at hi3
   | true =>
     simp only[dk]at hi3;refine Ent.refl ⟨i+1,v,656,⟨.inr rfl,aa,aa,hi3⟩,aa,H1,?_⟩;exact ng
 ·have hi4:t=u:=by
   rw[bg aM]at hi3
   simpa[bk]using hi3
  subst hi4;rcases hkk with rfl|rfl
  all_goals
   simp[hlt,e]
theorem D9(d:Doc)(hl:cB d<=2^40)(c:Int):ar Tryz.prog 234 [.agg d.row,.c (vi c)] (.tup [.agg (fF d c).1.res,.c (.v (.bool (fF d c).2)) 1]):=by
 refine pci aw Tryz.func234 (λw0 base=>?_);exact Mm
theorem DA(d:Doc)(hl:cB d<=2^40)(c:Int):ar Tryz.prog 220 [.agg d.row,.c (vi c)] (.tup [.agg (fF d c).1.res,.c (.v (.bool (fF d c).2)) 1]):=by
 refine pci aw Tryz.func220 (λw0 base=>?_);exact Mm
inductive At where
 |k
 |p (c:Int)
 |d
def ats(p:Part):List At:=if p.kind=2 then p.signs.map At.p else if p.kind=3 then List.replicate (psz p) .d else List.replicate (psz p) .k
def bR:List Part->List At
 | []=>[]
 |p::l=>ats p++bR l
theorem jc:∀(a b:List Part),bR (a++b)=bR a++bR b
 | [],b=>rfl
 |p::a,b=>by simp[bR,jc a b]
def frA:List At->Nat
 | []=>0
 | .p _::l=>frA l
 |_::l=>frA l+1
def toA:List At->Nat
 | []=>0
 | .d::l=>toA l
 |_::l=>toA l+1
theorem kS:∀(a b:List At),frA (a++b)=frA a+frA b
 | [],b=>by simp[frA]
 | .p c::a,b=>by simp[frA,kS a b]
 | .k::a,b=>by simp[frA,kS a b];omega
 | .d::a,b=>by simp[frA,kS a b];omega
theorem jD:∀(a b:List At),toA (a++b)=toA a+toA b
 | [],b=>by simp[toA]
 | .d::a,b=>by simp[toA,jD a b]
 | .k::a,b=>by simp[toA,jD a b];omega
 | .p c::a,b=>by simp[toA,jD a b];omega
theorem Em:∀l:List Int,frA (l.map At.p)=0
 | []=>rfl
 |c::l=>by simp[frA,Em l]
theorem yy:∀l:List Int,toA (l.map At.p)=l.length
 | []=>rfl
 |c::l=>by simp[toA,yy l]
theorem RY:∀n:Nat,frA (List.replicate n At.k)=n
 |0=>rfl
 |n+1=>by simp[bJ,frA,RY n]
theorem En:∀n:Nat,frA (List.replicate n At.d)=n
 |0=>rfl
 |n+1=>by simp[bJ,frA,En n]
theorem GZ:∀n:Nat,toA (List.replicate n At.k)=n
 |0=>rfl
 |n+1=>by simp[bJ,toA,GZ n]
theorem yz:∀n:Nat,toA (List.replicate n At.d)=0
 |0=>rfl
 |n+1=>by simp[bJ,toA,yz n]
theorem MC{p:Part}(h:a8 p)(k:p.kind=2):psz p=p.signs.length:=by
 rw[jF k]at h;unfold psz;omega
theorem YW{p:Part}:frA (ats p)=if p.kind=2 then 0 else psz p:=by
 unfold ats
 split
 ·exact Em _
 ·split
  ·exact En _
  ·exact RY _
theorem YV{p:Part}(h:a8 p):toA (ats p)=if p.kind=3 then 0 else psz p:=by
 unfold ats;by_cases k:p.kind=2
 ·have:¬p.kind=3:=by omega
  rw[ao k,au this,yy,MC h k]
 ·rw[au k]
  split
  ·exact yz _
  ·exact GZ _
theorem td:∀(o:List Part),frs o=frA (bR o)
 | []=>rfl
 |p::o=>by simp only[frs,bR,kS,YW,td o]
theorem u9:∀{o:List Part},(∀p∈o,a8 p)->tos o=toA (bR o)
 | [],_=>rfl
 | p :: o, h => by
   simp only[tos,bR,jD,YV (h p (aK ..)),u9 (λq hq=>h q (aD _ hq))]
def nA:List Int->Nat->List At->List At
 |P,n,[]=>P.map At.p++List.replicate n .d
 |P,n,.k::l=>P.map At.p++(List.replicate n .d ++ .k::nA [] 0 l)
 |P,n,.p c::l=>nA (P++[c]) n l
 |P,n,.d::l=>nA P (n+1) l
def pG(l:List At):List At:=nA [] 0 l
theorem MJ:∀(l:List At) (P:List Int) (n:Nat),frA (nA P n l)=n+frA l
 | [],P,n=>by simp[nA,frA,kS,Em,En]
 | .k::l,P,n=>by simp[nA,frA,kS,Em,En,MJ l]
 | .p c::l,P,n=>by simp[nA,frA,MJ l]
 | .d::l,P,n=>by simp[nA,frA,MJ l];omega
theorem MH:∀(l:List At) (P:List Int) (n:Nat),toA (nA P n l)=P.length+toA l
 | [],P,n=>by simp[nA,toA,jD,yy,yz]
 | .k::l,P,n=>by simp[nA,toA,jD,yy,yz,MH l]
 | .p c::l,P,n=>by simp[nA,toA,MH l];omega
 | .d::l,P,n=>by simp[nA,toA,MH l]
theorem MI:∀(Q P:List Int) (n:Nat) (l:List At),nA P n (Q.map At.p++l)=nA (P++Q) n l
 | [],P,n,l=>ab
 |c::Q,P,n,l=>by simp[nA,MI Q]
theorem MK:∀(m:Nat) (P:List Int) (n:Nat) (l:List At),nA P n (List.replicate m .d++l)=nA P (n+m) l
 |0,P,n,l=>ab
 |m+1,P,n,l=>by simp[bJ,nA,MK m];congr 1;omega
theorem VU:∀(m:Nat) (l:List At),nA [] 0 (List.replicate m .k++l)=List.replicate m .k++nA [] 0 l
 |0,l=>ab
 |m+1,l=>by simp[bJ,nA,VU m]
def bA(s:List Part×List Int×Int):List At:=bR s.1++(s.2.1.map At.p++List.replicate s.2.2.toNat .d)
theorem Gf{L:List Part}{P:List Int}{D:Int}:bR (bE L P D)=bA (L,P,D):=by
 unfold bE bA;rw[jc,jc]
 congr 1
 congr 1
 ·split
  ·rename_i h;simp[h,bR]
  ·simp[bR,ats]
 ·split
  ·simp[bR,ats,psz]
  ·have:D.toNat=0:=by omega
   simp[bR,this]
theorem qI:∀(L:List Part) (_h:0<L.length) (p:Part),bR (L.set (L.length-1) p)=bR L.dropLast++ats p
 | [q],h,p=>by simp[bR]
 | q :: r :: L, h, p => by
   have ih:=qI (r::L) ab p;simp only[cr,r9]at ih⊢;rw[sb,bR,ih];simp[bR]
theorem zM:∀(L:List Part) (h:0<L.length),bR L=bR L.dropLast++ats (L[L.length-1]' aa)
 | [q],h=>by simp[bR]
 | q :: r :: L, h => by
   have ih:=zM (r::L) ab;simp only[cr,r9]at ih⊢;rw[bR,ih];simp[bR]
theorem UB{L:List Part}{n:Int}(hn:0<n)(hL:∀q∈L,0<=q.n)(hk:∀q∈L,q.kind=1->q.signs=[]):bR (dE L n)=bR L++List.replicate n.toNat .k:=by
 unfold dE
 split
 ·rename_i h
  split
  ·rename_i k
   have h1:=hL _ (aj (show L.length-1<L.length from aa));have h2:=hk _ (aj (show L.length-1<L.length from aa)) k;rw[qI L h,zM L h,bX]
   congr 1
   generalize L[L.length-1]' aa=q at h1 h2 k;obtain⟨a,b,c⟩:=q;simp only at h1 h2 k;subst k h2;simp[ats,psz,List.replicate_append_replicate];omega
  ·rw[jc]
   simp[bR,ats,psz]
 ·rename_i h
  have:L=[]:=aA aa;subst this;simp[bR,ats,psz]
theorem wo{L:List Part}{P:List Int}{D:Int}(h:∀q∈L,q.kind=1->q.signs=[]):∀q∈bE L P D,q.kind=1->q.signs=[]:=by
 intro q hq hk;unfold bE at hq;rcases aO.1 hq with hq|hq
 ·exact h q hq hk
 ·rcases aO.1 hq with hq|hq
  ·split at hq
   ·simp at hq
   ·simp at hq;subst hq;simp at hk
  ·split at hq
   ·simp at hq;subst hq;rfl
   ·simp at hq
theorem HV{L:List Part}{n:Int}(h:∀q∈L,q.kind=1->q.signs=[]):∀q∈dE L n,q.kind=1->q.signs=[]:=by
 intro q hq hk;unfold dE at hq
 split at hq
 ·rename_i hl
  split at hq
  ·rename_i k
   rcases kW hq with hq|rfl
   ·exact h q hq hk
   ·exact(h (L[L.length-1]' aa) (aj _) k :)
  ·rcases aO.1 hq with hq|hq
   ·exact h q hq hk
   ·simp at hq;subst hq;rfl
 ·simp at hq;subst hq;rfl
theorem FC{o:List Part}(ho:∀p∈o,a8 p):∀(i:Nat),i<=o.length->(∀q∈(bZ (o.take i)).1,q.kind=1->q.signs=[])/\0<=(bZ (o.take i)).2.2/\(∀q∈(bZ (o.take i)).1,0<=q.n) /\
 ∀l,pG (bR (o.take i)++l)=bR (bZ (o.take i)).1++nA (bZ (o.take i)).2.1 (bZ (o.take i)).2.2.toNat l
 |0,_=>by simp[bZ,bR,pG]
 | i + 1, hi => by
   obtain⟨h1,h2,h3,h4⟩:=FC ho i aa;have hlt:i<o.length:=aa;have hq:=(ow ho (i+1) hi);have hp:=(ho _ (aj hlt));have hb:=hp.bounds;refine⟨?_,hq.d0,λq hq'=>(hq.q q hq').1,λl=>?_⟩
   ·rw[jM hlt]
    unfold fY
    split
    ·exact h1
    ·split
     ·exact h1
     ·split
      ·exact HV (wo h1)
      ·exact h1
   ·rw[<-bb hlt,jc,bX,h4,bb hlt,jM hlt]
    generalize bZ (o.take i)=s at h1 h2 h3;generalize o[i]=p at hp hb;obtain⟨L,P,D⟩:=s;simp only at h1 h2 h3;simp only[bR,bI];unfold fY;by_cases k2:p.kind=2
    ·simp only[k2,dk]
     rw[show ats p=p.signs.map At.p by unfold ats;rw[ao k2],MI]
    ·by_cases k3:p.kind=3
     ·have hs:=hb.2.2.2.2.2 k2
      have e:(D+p.n).toNat=D.toNat+p.n.toNat:=aa;simp only[k3,dk];rw[show ats p=List.replicate (psz p) .d by unfold ats;rw[au k2,ao k3],MK];simp[e,psz,hs]
     ·have k1:p.kind=1:=by omega
      have hs:=hb.2.2.2.2.2 k2;have e:ats p=List.replicate p.n.toNat .k:=by unfold ats;rw[au k2,au k3];simp[psz,hs]
      simp only[k2,k3,dm];rw[e]
      split
      ·rename_i hn
       have hfl:∀q∈bE L P D,0<=q.n:=by
        intro q hq';unfold bE at hq';rcases aO.1 hq' with hq'|hq'
        ·exact h3 q hq'
        ·rcases aO.1 hq' with hq'|hq'
         ·split at hq'
          ·simp at hq'
          ·simp at hq';subst hq';simp
         ·split at hq'
          ·simp at hq';subst hq';simp;omega
          ·simp at hq'
       simp only;rw[UB hn hfl (wo h1),Gf];obtain⟨m,hm⟩:∃m,p.n.toNat=m+1:=⟨p.n.toNat-1,aa⟩;rw[hm];simp[bA,bJ,nA,VU]
      ·have:p.n.toNat=0:=by omega
       simp[this]
theorem kP{o:List Part}(ho:∀p∈o,a8 p):bR (normal o)=pG (bR o):=by
 have h:=(FC ho o.length (aF _)).2.2.2 [];rw[cI,bI]at h;unfold normal;rw[Gf,h];unfold bA;simp[nA]
theorem y4(l:List At):frA (pG l)=frA l:=by unfold pG;rw[MJ];omega
theorem y3(l:List At):toA (pG l)=toA l:=by unfold pG;rw[MH];simp
def tA:List At->List At->List At×List At
 | .p c::a,b=>(.p c::(tA a b).1,.k::(tA a b).2)
 | [],.p c::b=>(.k::(tA [] b).1,.p c::(tA [] b).2)
 | .k::a,.p c::b=>(.k::(tA (.k::a) b).1,.p c::(tA (.k::a) b).2)
 | .d::a,.p c::b=>(.k::(tA (.d::a) b).1,.p c::(tA (.d::a) b).2)
 | .k::a,.k::b=>(.k::(tA a b).1,.k::(tA a b).2)
 | .k::a,.d::b=>((tA a b).1,.d::(tA a b).2)
 | .d::a,.k::b=>(.d::(tA a b).1,(tA a b).2)
 | .d::a,.d::b=>tA a b
 | [],_=>([],[])
 |_,[]=>([],[])
termination_by a b=>a.length+b.length
def noP:List At->Bool
 | .p _::_=>false
 |_=>true
theorem aaW{c:Int}{a b:List At}:tA (.p c::a) b=(.p c::(tA a b).1,.k::(tA a b).2):=by rw[tA]
theorem aaV{c:Int}{a b:List At}(h:noP a=true):tA a (.p c::b)=(.k::(tA a b).1,.p c::(tA a b).2):=by
 match a,h with
 | [],_=>rw[tA]
 | .k::a,_=>rw[tA]
 | .d::a,_=>rw[tA]
theorem VM{a b:List At}:∀Q:List Int,tA (Q.map At.p++a) b=(Q.map At.p++(tA a b).1,List.replicate Q.length .k++(tA a b).2)
 | []=>ab
 |c::Q=>by simp[aaW,VM Q,bJ]
theorem Qu{a b:List At}(h:noP a=true):∀Q:List Int,tA a (Q.map At.p++b)=(List.replicate Q.length .k++(tA a b).1,Q.map At.p++(tA a b).2)
 | []=>ab
 |c::Q=>by simp[aaV h,Qu h Q,bJ]
theorem VN{a b:List At}:∀n:Nat,tA (List.replicate n .k++a) (List.replicate n .k++b)=(List.replicate n .k++(tA a b).1,List.replicate n .k++(tA a b).2)
 |0=>ab
 |n+1=>by simp[bJ,tA,VN n]
theorem VO{a b:List At}:∀n:Nat,tA (List.replicate n .k++a) (List.replicate n .d++b)=((tA a b).1,List.replicate n .d++(tA a b).2)
 |0=>ab
 |n+1=>by simp[bJ,tA,VO n]
theorem VP{a b:List At}:∀n:Nat,tA (List.replicate n .d++a) (List.replicate n .k++b)=(List.replicate n .d++(tA a b).1,(tA a b).2)
 |0=>ab
 |n+1=>by simp[bJ,tA,VP n]
theorem VQ{a b:List At}:∀n:Nat,tA (List.replicate n .d++a) (List.replicate n .d++b)=tA a b
 |0=>ab
 |n+1=>by simp[bJ,tA,VQ n]
theorem jV:∀{x:List Part},(∀p∈x,a8 p)->bR (nxt x)=bR x
 | [],_=>rfl
 | p :: l, h => by
   have ih:=jV (x:=l) (λq hq=>h q (aD _ hq));unfold nxt
   split
   ·rename_i hz
    rw[ih,bR]
    have:ats p=[]:=by
     have hp:=h p (aK ..);unfold ats
     split
     ·rename_i k;rw[MC hp k]at hz;simp[aA hz]
     ·split<;>simp[hz]
    simp[this]
   ·rfl
theorem vM{p:Part}(h:a8 p){n:Nat}(hn:n<=psz p):ats p=ats (ib p n)++ats (cu p n):=by
 have hb:=h.bounds;by_cases k2:p.kind=2
 ·unfold ats ib cu
  simp only[k2,dk];rw[<-ik,dI]
 ·have hs:=hb.2.2.2.2.2 k2
  have hz:psz p=p.n.toNat:=by simp[psz,hs]
  have e:p.n.toNat=n+(p.n-n).toNat:=aa;by_cases k3:p.kind=3
  ·unfold ats ib cu
   simp only[k3,dk];simp[psz,hs];omega
  ·unfold ats ib cu
   simp only[k2,dm,k3];simp[psz,hs];omega
theorem zL{p:Part}(h:a8 p):ats (cu p (psz p))=[]:=by
 have h1:=vM h (aF (psz p));rw[fR h]at h1
 simpa using h1
theorem Nb{p:Part}(_h:a8 p)(k:p.kind≠2):ats p=if p.kind=3 then List.replicate (psz p) .d else List.replicate (psz p) .k:=by unfold ats;rw[au k]
theorem rY{p:Part}(h:a8 p)(k:p.kind≠2){n:Nat}(hn:n<=psz p):ats (ib p n)=if p.kind=3 then List.replicate n .d else List.replicate n .k:=by
 have hs:=h.bounds.2.2.2.2.2 k;have:psz (ib p n)=n:=by unfold psz ib;rw[au k];simp[hs]
 rw[Nb (rM h hn) (by simpa using k),this];simp
theorem Vf{p:Part}(h:a8 p)(k:p.kind≠2)(hp:0<psz p)(l:List At):noP (ats p++l)=true:=by
 rw[Nb h k];obtain⟨m,hm⟩:∃m,psz p=m+1:=⟨psz p-1,aa⟩;rw[hm]
 split<;>simp[bJ,noP]
theorem yu{x y:List Part}(hi:TInv x y)(h:fu x y=none):nxt x=[]/\nxt y=[]:=by
 have hxt:=mi x;have hyf:=mi y;have hb:=hi.b;unfold fu at h
 cases ex:nxt x with
 | nil =>
   rw[ex]at h hxt
   cases ey:nxt y with
   |nil=>exact⟨rfl,rfl⟩
   | cons q y' =>
     rw[ey]at hyf;have hp:=hQ ey;simp only[ey]at h
     split at h
     ·cases h
     ·rename_i k
      simp[frs,k]at hxt hyf;omega
 | cons p x' =>
   rw[ex]at h hxt;have hp:=hQ ex;simp only at h
   split at h
   ·cases h
   ·rename_i k
    cases ey:nxt y with
    | nil =>
      rw[ey]at hyf;simp[frs,k]at hxt hyf;omega
    | cons q y' =>
      simp only[ey]at h
      split at h<;>cases h
theorem Px:∀(k:Nat) {x y:List Part},TInv x y->tsz x+tsz y<=k->(bR (xfK k x y).1,bR (xfK k x y).2)=tA (bR x) (bR y)
 | 0, x, y, hi, h => by
   have hn:fu x y=none:=by
    exact CZ
   obtain⟨e1,e2⟩:=yu hi hn;rw[<-jV hi.px,<-jV hi.py,e1,e2];simp[xfK,bR,tA]
 | k + 1, x, y, hi, h => by
   rw[xfK]
   cases hs:fu x y with
   | none =>
     obtain⟨e1,e2⟩:=yu hi hs;rw[<-jV hi.px,<-jV hi.py,e1,e2];simp[bR,tA]
   | some r =>
     have hn:=gA hi hs;have hd:=hn.dec;have ih:=Px k hn.inv aa;simp only[jc];rw[<-jV hi.px,<-jV hi.py];generalize xfK k r.2.1 r.2.2=Z at ih⊢;unfold fu at hs
     cases ex:nxt x with
     | nil =>
       rw[ex]at hs
       cases ey:nxt y with
       |nil=>simp[ey]at hs
       | cons q y' =>
         have hq:=jz hi.py ey;simp only[ey]at hs
         split at hs
         ·rename_i kq
          cases hs
          simp only[bR,zL hq.1,ij]at ih;simp only[bR,fR hq.1,bI];rw[show ats q=q.signs.map At.p by unfold ats;rw[ao kq],Qu rfl,<-ih];simp[ats,psz]
         ·cases hs
     | cons p x' =>
       rw[ex]at hs;have hp:=jz hi.px ex;have hpp:=hQ ex;simp only at hs
       split at hs
       ·rename_i kp
        cases hs
        simp only[bR,zL hp.1,ij]at ih;simp only[bR,fR hp.1,bI,jV hi.py];rw[show ats p=p.signs.map At.p by unfold ats;rw[ao kp],VM,<-ih];simp[ats,psz]
       ·rename_i kp
        cases ey:nxt y with
        |nil=>simp[ey]at hs
        | cons q y' =>
          have hq:=jz hi.py ey;have hqp:=hQ ey;simp only[ey]at hs
          split at hs
          ·rename_i kq
           cases hs
           simp only[bR,zL hq.1,ij]at ih;simp only[bR,fR hq.1,bI];rw[show ats q=q.signs.map At.p by unfold ats;rw[ao kq],Qu (Vf hp.1 kp hpp _),<-ih];simp[ats,psz]
          ·rename_i kq
           cases hs
           have hn1:min (psz p) (psz q)<=psz p:=aa;have hn2:min (psz p) (psz q)<=psz q:=aa;simp only[bR]at ih⊢;rw[vM hp.1 hn1,vM hq.1 hn2,rY hp.1 kp hn1,rY hq.1 kq hn2,bX,bX];have hb1:=hp.1.bounds.1;have hb2:=hq.1.bounds.1;generalize min (psz p) (psz q)=n at ih hn1 hn2⊢;by_cases k1:p.kind=3<;>by_cases k2:q.kind=3
           ·have e1:¬p.kind=1:=by omega
            have e2:¬q.kind=1:=aa;simp only[k1,k2,dk,VQ,<-ih];simp[bR]
           ·have e1:¬p.kind=1:=by omega
            have e2:q.kind=1:=aa;simp only[k1,k2,dk,dm,VP,<-ih];simp[bR,e2,rY hp.1 kp hn1,k1]
           ·have e1:p.kind=1:=by omega
            have e2:¬q.kind=1:=aa;simp only[k1,k2,dk,dm,VO,<-ih];simp[bR,e1,rY hq.1 kq hn2,k2]
           ·have e1:p.kind=1:=by omega
            have e2:q.kind=1:=aa;simp only[k1,k2,dm,VN,<-ih];simp[bR,e1,e2,rY hp.1 kp hn1,rY hq.1 kq hn2]
theorem Z7{x y:List Part}(hi:TInv x y):(bR (xf x y).1,bR (xf x y).2)=tA (bR x) (bR y):=Px _ hi (aF _)
theorem sV:∀(a b:List At),frA a=frA b->frA (tA a b).1=toA b/\frA (tA a b).2=toA a/\toA (tA a b).1=toA (tA a b).2
 | .p c :: a, b, h => by
   have ih:=sV a b tN;rw[aaW];simp[frA,toA];omega
 | [], .p c :: b, h => by
   have ih:=sV [] b tN;exact Cy
 | .k :: a, .p c :: b, h => by
   have ih:=sV (.k::a) b tN;exact Cy
 | .d :: a, .p c :: b, h => by
   have ih:=sV (.d::a) b tN;exact Cy
 | .k :: a, .k :: b, h => by
   exact CO
 | .k :: a, .d :: b, h => by
   exact CO
 | .d :: a, .k :: b, h => by
   exact CO
 | .d :: a, .d :: b, h => by
   have ih:=sV a b tN;rw[tA];simp[toA];omega
 | [],[],h=>by simp[tA,frA,toA]
 | [],.k::b,h=>by simp[frA]at h
 | [],.d::b,h=>by simp[frA]at h
 | .k::a,[],h=>by simp[frA]at h
 | .d::a,[],h=>by simp[frA]at h
termination_by a b=>a.length+b.length
theorem VK{x y:List Part}(hi:TInv x y):(∀p∈(xf x y).1,a8 p)/\∀p∈(xf x y).2,a8 p:=by
 have key:∀(k:Nat) {x y:List Part},TInv x y->(∀p∈(xfK k x y).1,a8 p)/\∀p∈(xfK k x y).2,a8 p:=by
  intro k
  induction k with
  |zero=>intro x y hi;simp[xfK]
  | succ k ih =>
    intro x y hi;rw[xfK]
    cases hs:fu x y with
    |none=>simp
    | some r =>
      have hn:=gA hi hs;have h2:=ih hn.inv;simp only[aO];exact⟨λp hp=>hp.elim (hn.okx p) (h2.1 p),λp hp=>hp.elim (hn.oky p) (h2.2 p)⟩
 exact key _ hi
structure TrOk(a b:List Part):Prop where
 oka:dv a
 okb:dv b
 from_:cQ a=cQ b
 okx:dv (bn a b).1
 oky:dv (bn a b).2.1
 fx:cQ (bn a b).1=nS b
 fy:cQ (bn a b).2.1=nS a
 to:nS (bn a b).1=nS (bn a b).2.1
 ax:bR (bn a b).1=pG (tA (bR a) (bR b)).1
 ay:bR (bn a b).2.1=pG (tA (bR a) (bR b)).2
theorem AI{a b:List Part}(h:(bn a b).2.2=true):TrOk a b:=by
 unfold bn at h
 split at h
 ·rename_i h1
  split at h
  ·rename_i h2
   have e:bn a b=(normal (xf a b).1,normal (xf a b).2,true):=by unfold bn;rw[ao h1,ao h2]
   have hi:=xi h1.1 h1.2.1 h1.2.2;have hat:=Z7 hi;have hk:=VK hi;have e1:bR (xf a b).1=(tA (bR a) (bR b)).1:=by rw[<-hat]
   have e2:bR (xf a b).2=(tA (bR a) (bR b)).2:=by rw[<-hat]
   have l:=sV (bR a) (bR b) (by rw[<-td,<-td];exact hi.b);have n1:=kP hk.1;have n2:=kP hk.2;have f1:=oB h2.1;have f2:=oB h2.2;have t1:=u7 h2.1;have t2:=u7 h2.2;have t3:=u7 h1.1;have t4:=u7 h1.2.1;rw[td,n1,y4,e1,l.1]at f1;rw[td,n2,y4,e2,l.2.1]at f2;rw[u9 h2.1.1.1,n1,y3,e1]at t1;rw[u9 h2.2.1.1,n2,y3,e2]at t2;rw[u9 h1.1.1.1]at t3;rw[u9 h1.2.1.1.1]at t4;rw[e1]at n1;rw[e2]at n2;refine⟨h1.1,h1.2.1,h1.2.2,?_,?_,?_,?_,?_,?_,?_⟩<;>rw[e]
   ·exact h2.1
   ·exact h2.2
   ·simp only;omega
   ·simp only;omega
   ·simp only;have:=l.2.2;omega
   ·exact n1
   ·exact n2
  ·simp at h
 ·simp at h
end Go.Proofs.YtklblkobegcljaaGreat
