import Derived.Test.YtklblkobegcljaaGreatPB
import Derived.Test.YtklblkobegcljaaGreatNA
import Derived.Test.YtklblkobegcljaaGreatMF
import Derived.Test.YtklblkobegcljaaGreatPA
namespace Go.Proofs.YtklblkobegcljaaGreat
open Go.AM
set_option maxRecDepth 20000
set_option maxHeartbeats 1600000
theorem yn(a b:List Part)(ha:nL bc a<=2^40)(hb:nL bc b<=2^40):ar Tryz.prog 274 [.c (.s (a.map Part.row)),.c (.s (b.map Part.row))] (.tup [.c (.s ((bu a b).1.map Part.row)) 3,.c (.s ((bu a b).2.1.map Part.row)) 3,.c (.v (.bool (bu a b).2.2)) 1]):=by
 refine pci aw Tryz.func274 (λw0 base=>?_);simp;refine ag.pure (gX a ha) ab ?_;by_cases c1:dH a
 rotate_left
 ·exact M4
 simp[c1];refine ag.pure (gX b hb) ab ?_;by_cases c2:dH b
 rotate_left
 ·exact M6
 simp[c2];refine ag.pure (ld a ha) ab ?_;simp;refine ag.pure (ld b hb) ab ?_;by_cases c3:db a=db b
 rotate_left
 ·have e:=l8 (a:=a) (b:=b) (λh=>c3 h.2.2)
  simp[c3,e]
 have hf:=rO c1 c2 c3;simp[c3];intro bx by_ bz bw;have t1:=Dz c1;have t2:=Dz c2;have la:=c1.1.2;have lb:=c2.1.2;have z0:∀o:List Part,cur o 0 0=o:=λo=>by rw[IK,jA]
 refine aE eok (λx:(Nat×Nat×Nat×Nat)×List Part×List Part×Hd×Hd×Hd×Hd=>Cu a x.1.1 x.1.2.1 (cur a x.1.1 x.1.2.1)/\Cu b x.1.2.2.1 x.1.2.2.2 (cur b x.1.2.2.1 x.1.2.2.2)/\TInv (cur a x.1.1 x.1.2.1) (cur b x.1.2.2.1 x.1.2.2.2) /\
  (x.2.1++(xf (cur a x.1.1 x.1.2.1) (cur b x.1.2.2.1 x.1.2.2.2)).1=(xf a b).1/\x.2.2.1++(xf (cur a x.1.1 x.1.2.1) (cur b x.1.2.2.1 x.1.2.2.2)).2=(xf a b).2)/\((∀p∈x.2.1,bb p)/\∀p∈x.2.2.1,bb p)/\(x.2.1.length+(tsz (cur a x.1.1 x.1.2.1)+tsz (cur b x.1.2.2.1 x.1.2.2.2))<=800/\x.2.2.1.length+(tsz (cur a x.1.1 x.1.2.1)+tsz (cur b x.1.2.2.1 x.1.2.2.2))<=800))
  (λx=>⟨141,0,[(7,.p 560 bx 0),(8,.p 608 by_ 0),(9,.p 640 bz 0),(10,.p 672 bw 0)],
  [(560, .vars bx 275 [.ro (a.map Part.row), .v (.int .i64 x.1.1), .v (.int .i64 x.1.2.1)]),(608, .vars by_ 275 [.ro (b.map Part.row), .v (.int .i64 x.1.2.2.1), .v (.int .i64 x.1.2.2.2)]),
   (640,.vars bz 261 [.sl 5000 x.2.2.2.1 3 0 (cr x.2.1).1.length,.sl 5001 x.2.2.2.2.1 1 0 (cr x.2.1).2.1.length,.v (.int .i64 (cr x.2.1).2.2)]),
   (672,.vars bw 261 [.sl 5002 x.2.2.2.2.2.1 3 0 (cr x.2.2.1).1.length,.sl 5003 x.2.2.2.2.2.2 1 0 (cr x.2.2.1).2.1.length,.v (.int .i64 (cr x.2.2.1).2.2)]),
   (5000,.rows x.2.2.2.1 3 ((cr x.2.1).1.map Part.row) true),(5001,.rows x.2.2.2.2.1 1 ((cr x.2.1).2.1.map aG) true),(5002,.rows x.2.2.2.2.2.1 3 ((cr x.2.2.1).1.map Part.row) true),(5003,.rows x.2.2.2.2.2.2 1 ((cr x.2.2.1).2.1.map aG) true)]⟩)
  (λx=>tsz (cur a x.1.1 x.1.2.1)+tsz (cur b x.1.2.2.1 x.1.2.2.2)) ((0,0,0,0),[],[],none,none,none,none)
  ⟨⟨c1.1.1,iU _,λ_=>iU _,λ_=>rfl,rfl⟩,⟨c2.1.1,iU _,λ_=>iU _,λ_=>rfl,rfl⟩,by simp only[z0];exact yB c1 c2 c3,by simp[z0],ab,by simp[z0];omega⟩ (by simp[cr]) (λx hx=>Ent.refl ?_)
 obtain⟨⟨i,d,j,e⟩,L,M,H,G,H2,G2⟩:=x;obtain⟨cx,cy,hi,⟨hcx,hcy⟩,⟨hL,hM⟩,hlen,hlen2⟩:=hx;simp only at cx cy hi hcx hcy hL hM hlen hlen2⊢;have hB:=CU hL;have hC:=CU hM;obtain⟨B,hBe⟩:∃B,cr L=B:=⟨_,rfl⟩;obtain⟨C,hCe⟩:∃C,cr M=C:=⟨_,rfl⟩;obtain⟨BL,BP,BD⟩:=B;obtain⟨CL,CP,CD_⟩:=C;rw[hBe]at hB;rw[hCe]at hC;obtain⟨k1,k2,k3,k4,k5⟩:=hB;obtain⟨l1,l2,l3,l4,l5⟩:=hC;simp only[hBe,hCe];simp only at k1 k2 k3 k4 k5 l1 l2 l3 l4 l5;obtain⟨X,hX⟩:∃X,cur a i d=X:=⟨_,rfl⟩;obtain⟨Y,hY⟩:∃Y,cur b j e=Y:=⟨_,rfl⟩;rw[hX]at cx hi hcx hcy hlen hlen2;rw[hY]at cy hi hcx hcy hlen hlen2
 obtain⟨h0,hh0⟩:∃h0:AH,[(560,.vars bx 275 [.ro (a.map Part.row),.v (.int .i64 i),.v (.int .i64 d)]),(608,.vars by_ 275 [.ro (b.map Part.row),.v (.int .i64 j),.v (.int .i64 e)]),
  (640,.vars bz 261 [.sl 5000 H 3 0 BL.length,.sl 5001 G 1 0 BP.length,.v (.int .i64 BD)]),
  (672,.vars bw 261 [.sl 5002 H2 3 0 CL.length,.sl 5003 G2 1 0 CP.length,.v (.int .i64 CD_)]),
  (5000,.rows H 3 (BL.map Part.row) true),(5001,.rows G 1 (BP.map aG) true),(5002,.rows H2 3 (CL.map Part.row) true),(5003,.rows G2 1 (CP.map aG) true)]=h0:=⟨_,rfl⟩
 have R:CR 560 608 bx by_ h0 h0 a b i d j e X Y:=⟨ah,ah,ah,jY,jY,λ_ _ _ _=>rfl,cx,cy⟩;have g5:AH.get h0 5000=.rows H 3 (BL.map Part.row) true:=jY;have g6:AH.get h0 5001=.rows G 1 (BP.map aG) true:=jY;have g7:AH.get h0 640=.vars bz 261 [.sl 5000 H 3 0 BL.length,.sl 5001 G 1 0 BP.length,.v (.int .i64 BD)]:=jY;have g8:AH.get h0 5002=.rows H2 3 (CL.map Part.row) true:=jY;have g9:AH.get h0 5003=.rows G2 1 (CP.map aG) true:=jY;have g10:AH.get h0 672=.vars bw 261 [.sl 5002 H2 3 0 CL.length,.sl 5003 G2 1 0 CP.length,.v (.int .i64 CD_)]:=jY;rw[hh0]
 clear hh0
 simp
 have fin:∀{i' d' j' e':Nat}{r:XR},Cu a i' d' r.2.1->Cu b j' e' r.2.2->fT X Y=some r ->
  (Cu a i' d' (cur a i' d')/\Cu b j' e' (cur b j' e')/\TInv (cur a i' d') (cur b j' e')/\((L++r.1.1)++(xf (cur a i' d') (cur b j' e')).1=(xf a b).1/\(M++r.1.2)++(xf (cur a i' d') (cur b j' e')).2=(xf a b).2)/\((∀p∈L++r.1.1,bb p)/\∀p∈M++r.1.2,bb p) /\
   ((L++r.1.1).length+(tsz (cur a i' d')+tsz (cur b j' e'))<=800/\(M++r.1.2).length+(tsz (cur a i' d')+tsz (cur b j' e'))<=800))/\tsz (cur a i' d')+tsz (cur b j' e')<tsz (cur a i d)+tsz (cur b j e):=by
  intro i' d' j' e' r hu hv hs;have hn:=gV hi hs;have hcm:=uV hi hs hcx hcy;have hdec:=hn.dec;have h1:=hn.lenx;have h2:=hn.leny;rw[hu.c,hv.c,hX,hY];exact⟨⟨hu,hv,hn.inv,hcm,⟨kc hL hn.okx,kc hM hn.oky⟩,by rw[fb];omega,by rw[fb];omega⟩,hdec⟩
 refine R.kind aa (λh1 i1 d1 R=>?_);have okx:∀p∈nxt X,bb p:=λp hp=>hi.px p (oy hp)
 have oky:∀p∈nxt Y,bb p:=λp hp=>hi.py p (oy hp)
 have hxt:=m5 X;have hyf:=m5 Y;have hbal:=hi.b
 cases ex:nxt X with
 | nil =>
   rw[ex]at R;simp[hdK];refine R.swap.kind aa (λh2 j1 e1 R=>?_);have R:=R.swap
   cases ey:nxt Y with
   | nil =>
     have hc:xf X Y=([],[]):=KX (by simp[fT,ex,ey]);simp[hdK];rw[hc]at hcx hcy;simp only[bO]at hcx hcy;have A640:=(R.o 640 ah ah ah).trans g7;have A5000:=(R.o 5000 ah ah ah).trans g5;have A5001:=(R.o 5001 ah ah ah).trans g6;have A672:=(R.o 672 ah ah ah).trans g10;have A5002:=(R.o 5002 ah ah ah).trans g8;have A5003:=(R.o 5003 ah ah ah).trans g9;refine inl aw Tryz.func266 30000 (λw1 F=>?_);simp;refine qF (L:=BL) (P:=BP) (D:=BD) (Hl:=H) (Hp:=G) aa aa A640 A5000 A5001 (λHl' h' k576 k5000 ko=>?_);have hnorm:bN BL BP BD=normal (xf a b).1:=by rw[<-hcx];unfold normal;rw[hBe]
     rw[hnorm]at k576 k5000;have B672:=(ko 672 ah ah ah ah).trans A672;have B5002:=(ko 5002 ah ah ah ah).trans A5002;have B5003:=(ko 5003 ah ah ah ah).trans A5003;simp[k576];refine inl aw Tryz.func266 30000 (λw1 F=>?_);simp;refine qE (L:=CL) (P:=CP) (D:=CD_) (Hl:=H2) (Hp:=G2) aa aa B672 B5002 B5003 (λGl' h'' k672 k5002 ko2=>?_);have hnorm2:bN CL CP CD_=normal (xf a b).2:=by rw[<-hcy];unfold normal;rw[hCe]
     rw[hnorm2]at k672 k5002;have k5000:=(ko2 5000 ah ah ah ah).trans k5000;simp[k672];refine ag.pure (gX (normal (xf a b).1) (by rw[<-hcx];have:=pw hL;omega)) (by simp[k5000]) ?_;by_cases c4:dH (normal (xf a b).1)
     rotate_left
     ·exact MU
     simp[c4];refine ag.pure (gX (normal (xf a b).2) (by rw[<-hcy];have:=pw hM;omega)) (by simp[k5002]) ?_;by_cases c5:dH (normal (xf a b).2)
     rotate_left
     ·exact MT
     have e:=hf.1 ⟨c4,c5⟩;simp[c5,e,k5000,k5002]
   | cons q y' =>
     rw[ey]at R;have hq:=(ka hi.py ey).1;have hqb:=hq.bounds;have hqs:=jb hq;have q0:¬q.kind=0:=aa;simp[hdK,q0];refine R.kind aa (λh3 i2 d2 R=>?_);simp only[nxt]at R;simp[nxt,hdK];refine R.swap.kind aa (λh4 j2 e2 R=>?_);have R:=R.swap;rw[<-ey,gK,ey]at R;rw[<-ey,gK,ey];by_cases q2:q.kind=2
     ·simp[hdK,q2]
      refine R.swap.left ?_;simp;refine R.swap.take q2 (aH _) (λh5 R=>?_);have R:=R.swap;have A640:=(R.o 640 ah ah ah).trans g7;have A5000:=(R.o 5000 ah ah ah).trans g5;have A5001:=(R.o 5001 ah ah ah).trans g6;have A672:=(R.o 672 ah ah ah).trans g10;have A5002:=(R.o 5002 ah ah ah).trans g8;have A5003:=(R.o 5003 ah ah ah).trans g9;simp;have hc:fT X Y=some (([⟨1,q.signs.length,[]⟩],[iI q (psz q)]),[],cJ q (psz q)::y'):=by simp[fT,ex,ey,q2]
      have hf:=fin R.cx R.cy hc;rw[gp hq]at hf;have hpsz:psz q=q.signs.length:=by have:=hqb.2.2.2.2.1 q2;unfold psz;omega
      have htk:q.signs.take (psz q)=q.signs:=aB aa;have qpos:=iD ey;have qpos2:0<q.signs.length:=aa;rw[<-dU,htk];refine tP (L:=CL) (P:=CP) (D:=CD_) (Hl:=H2) (Hp:=G2) aa DP A672 A5003 (λP1 h1' B672 B5003 B5002 ko=>?_);have R:=R.rebase (h':=h1') (ko 560 ah ah ah ah) (ko 608 ah ah ah ah);have B5002:=B5002.trans A5002;have B640:=(ko 640 ah ah ah ah).trans A640;have B5000:=(ko 5000 ah ah ah ah).trans A5000;have B5001:=(ko 5001 ah ah ah ah).trans A5001;have A640:=B640;have A5000:=B5000;have A5001:=B5001;have A672:=B672;have A5002:=B5002;have A5003:=B5003;simp;have f2:=kC (P:=BP) k3 k4 k5
      refine nr (n:=(psz q:Int)) (L:=BL) (P:=BP) (D:=BD) (Hl:=H) (Hp:=G) aa aa aa aa (λq hq=>by have:=f2 q hq;omega) A640 A5000 A5001 (λL2 h2' B640 B5000 ko=>?_);have R:=R.rebase (h':=h2') (ko 560 ah ah ah ah) (ko 608 ah ah ah ah);have B672:=(ko 672 ah ah ah ah).trans A672;have B5002:=(ko 5002 ah ah ah ah).trans A5002;have B5003:=(ko 5003 ah ah ah ah).trans A5003;have A640:=B640;have A5000:=B5000;have A672:=B672;have A5002:=B5002;have A5003:=B5003;simp;refine Ent.kill 5001 (Ent.refl ⟨_,_,_,_,_,_,hf.1,hf.2,L2,none,H2,P1,?_⟩);exact MI
     ·exact Ma
 | cons p x' =>
   rw[ex]at R;have hp:=(ka hi.px ex).1;have hpb:=hp.bounds;have hps:=jb hp;have p0:¬p.kind=0:=aa;simp[hdK,p0];refine R.kind aa (λh3 i2 d2 R=>?_);rw[<-ex,gK,ex]at R;rw[<-ex,gK,ex];by_cases p2:p.kind=2
   ·simp[hdK,p2]
    refine R.left ?_;simp;refine R.take p2 (aH _) (λh5 R=>?_);have A640:=(R.o 640 ah ah ah).trans g7;have A5000:=(R.o 5000 ah ah ah).trans g5;have A5001:=(R.o 5001 ah ah ah).trans g6;have A672:=(R.o 672 ah ah ah).trans g10;have A5002:=(R.o 5002 ah ah ah).trans g8;have A5003:=(R.o 5003 ah ah ah).trans g9;simp;have hc:fT X Y=some (([iI p (psz p)],[⟨1,p.signs.length,[]⟩]),cJ p (psz p)::x',Y):=by simp[fT,ex,p2]
    have hf:=fin R.cx R.cy hc;rw[gp hp]at hf;have hpsz:psz p=p.signs.length:=by have:=hpb.2.2.2.2.1 p2;unfold psz;omega
    have htk:p.signs.take (psz p)=p.signs:=aB aa;have ppos:=iD ex;have ppos2:0<p.signs.length:=aa;rw[<-dU,htk];refine BI (L:=BL) (P:=BP) (D:=BD) (Hl:=H) (Hp:=G) aa DP A640 A5001 (λP3 h3' B640 B5001 B5000 ko=>?_);have R:=R.rebase (h':=h3') (ko 560 ah ah ah ah) (ko 608 ah ah ah ah);have B5000:=B5000.trans A5000;have B672:=(ko 672 ah ah ah ah).trans A672;have B5002:=(ko 5002 ah ah ah ah).trans A5002;have B5003:=(ko 5003 ah ah ah ah).trans A5003;have A640:=B640;have A5000:=B5000;have A5001:=B5001;have A672:=B672;have A5002:=B5002;have A5003:=B5003;simp;have f4:=kC (P:=CP) l3 l4 l5
    refine rh (n:=(psz p:Int)) (L:=CL) (P:=CP) (D:=CD_) (Hl:=H2) (Hp:=G2) aa aa aa aa (λq hq=>by have:=f4 q hq;omega) A672 A5002 A5003 (λL4 h4' B672 B5002 ko=>?_);have R:=R.rebase (h':=h4') (ko 560 ah ah ah ah) (ko 608 ah ah ah ah);have B640:=(ko 640 ah ah ah ah).trans A640;have B5000:=(ko 5000 ah ah ah ah).trans A5000;have B5001:=(ko 5001 ah ah ah ah).trans A5001;have A640:=B640;have A5000:=B5000;have A5001:=B5001;have A672:=B672;have A5002:=B5002;simp;refine Ent.kill 5003 (Ent.refl ⟨_,_,_,_,_,_,hf.1,hf.2,H,P3,L4,none,?_⟩);rw[jn,hBe,jn,hCe];simp[gz,p2,hpsz,ppos2,R.gx,R.gy,A640,A5000,A5001,A672,A5002]
   ·simp[hdK,p2]
    refine R.swap.kind aa (λh4 j2 e2 R=>?_);have R:=R.swap
    cases ey:nxt Y with
    | nil =>
      exact Mb
    | cons q y' =>
      rw[ey]at R;have hq:=(ka hi.py ey).1;have hqb:=hq.bounds;have hqs:=jb hq;by_cases q2:q.kind=2
      ·simp[hdK,q2]
       refine R.swap.left ?_;simp;refine R.swap.take q2 (aH _) (λh5 R=>?_);have R:=R.swap;have A640:=(R.o 640 ah ah ah).trans g7;have A5000:=(R.o 5000 ah ah ah).trans g5;have A5001:=(R.o 5001 ah ah ah).trans g6;have A672:=(R.o 672 ah ah ah).trans g10;have A5002:=(R.o 5002 ah ah ah).trans g8;have A5003:=(R.o 5003 ah ah ah).trans g9;simp;have hc:fT X Y=some (([⟨1,q.signs.length,[]⟩],[iI q (psz q)]),p::x',cJ q (psz q)::y'):=by simp[fT,ex,ey,q2,p2]
       have hf:=fin R.cx R.cy hc;rw[gp hq]at hf;have hpsz:psz q=q.signs.length:=by have:=hqb.2.2.2.2.1 q2;unfold psz;omega
       have htk:q.signs.take (psz q)=q.signs:=aB aa;have qpos:=iD ey;have qpos2:0<q.signs.length:=aa;rw[<-dU,htk];refine tP (L:=CL) (P:=CP) (D:=CD_) (Hl:=H2) (Hp:=G2) aa DP A672 A5003 (λP5 h5' B672 B5003 B5002 ko=>?_);have R:=R.rebase (h':=h5') (ko 560 ah ah ah ah) (ko 608 ah ah ah ah);have B5002:=B5002.trans A5002;have B640:=(ko 640 ah ah ah ah).trans A640;have B5000:=(ko 5000 ah ah ah ah).trans A5000;have B5001:=(ko 5001 ah ah ah ah).trans A5001;have A640:=B640;have A5000:=B5000;have A5001:=B5001;have A672:=B672;have A5002:=B5002;have A5003:=B5003;simp;have f6:=kC (P:=BP) k3 k4 k5
       refine nr (n:=(psz q:Int)) (L:=BL) (P:=BP) (D:=BD) (Hl:=H) (Hp:=G) aa aa aa aa (λq hq=>by have:=f6 q hq;omega) A640 A5000 A5001 (λL6 h6' B640 B5000 ko=>?_);have R:=R.rebase (h':=h6') (ko 560 ah ah ah ah) (ko 608 ah ah ah ah);have B672:=(ko 672 ah ah ah ah).trans A672;have B5002:=(ko 5002 ah ah ah ah).trans A5002;have B5003:=(ko 5003 ah ah ah ah).trans A5003;have A640:=B640;have A5000:=B5000;have A672:=B672;have A5002:=B5002;have A5003:=B5003;simp;refine Ent.kill 5001 (Ent.refl ⟨_,_,_,_,_,_,hf.1,hf.2,L6,none,H2,P5,?_⟩);exact MI
      ·simp[hdK,q2]
       refine R.left ?_;simp;refine R.swap.left ?_;simp;refine ag.pure (TH (psz p) (psz q)) ab ?_;have pp:=iD ex;have qp:=iD ey;obtain⟨n,hn⟩:∃n,min (psz p) (psz q)=n:=⟨_,rfl⟩;rw[hn];simp;refine R.kind aa (λh5 i3 d3 R=>?_);rw[<-ex,gK,ex]at R;rw[<-ex,gK,ex];simp[hdK];refine R.swap.kind aa (λh6 j3 e3 R=>?_);have R:=R.swap;rw[<-ey,gK,ey]at R;rw[<-ey,gK,ey];simp[hdK];have hc:fT X Y=some ((if q.kind=1 then [iI p n]else [],if p.kind=1 then [iI q n]else []),cJ p n::x',cJ q n::y'):=by simp[fT,ex,ey,p2,q2,hn]
       obtain⟨mx,hmx⟩:∃m,d3+n=m:=⟨_,rfl⟩;obtain⟨my,hmy⟩:∃m,e3+n=m:=⟨_,rfl⟩;have ewx:Go.IntKind.i64.wrap ((d3:Int)+(n:Int))=(mx:Int):=by rw[ae _ (by have:=R.cx.bnd;omega)];omega
       have ewy:Go.IntKind.i64.wrap ((e3:Int)+(n:Int))=(my:Int):=by rw[ae _ (by have:=R.cy.bnd;omega)];omega
       have cxx:=R.cx.add (n:=n) aa;have cyy:=R.cy.add (n:=n) aa;rw[hmx]at cxx;rw[hmy]at cyy;have hf:=fin cxx cyy hc;have n0:0<n:=aa;have ppn:(iI p n).n=n:=by simp[iI,p2]
       have qqn:(iI q n).n=n:=by simp[iI,q2]
       have A640:=(R.o 640 ah ah ah).trans g7;have A5000:=(R.o 5000 ah ah ah).trans g5;have A5001:=(R.o 5001 ah ah ah).trans g6;have A672:=(R.o 672 ah ah ah).trans g10;have A5002:=(R.o 5002 ah ah ah).trans g8;have A5003:=(R.o 5003 ah ah ah).trans g9;by_cases p1:p.kind=1
       ·by_cases q1:q.kind=1
        ·simp only[p1,q1,du]at hf
         simp[p1,q1];have f7:=kC (P:=BP) k3 k4 k5;refine nr (n:=(n:Int)) (L:=BL) (P:=BP) (D:=BD) (Hl:=H) (Hp:=G) aa aa aa aa (λq hq=>by have:=f7 q hq;omega) A640 A5000 A5001 (λL7 h7' B640 B5000 ko=>?_);have R:=R.rebase (h':=h7') (ko 560 ah ah ah ah) (ko 608 ah ah ah ah);have B672:=(ko 672 ah ah ah ah).trans A672;have B5002:=(ko 5002 ah ah ah ah).trans A5002;have B5003:=(ko 5003 ah ah ah ah).trans A5003;have A640:=B640;have A5000:=B5000;have A672:=B672;have A5002:=B5002;have A5003:=B5003;simp;have f8:=kC (P:=CP) l3 l4 l5
         refine rh (n:=(n:Int)) (L:=CL) (P:=CP) (D:=CD_) (Hl:=H2) (Hp:=G2) aa aa aa aa (λq hq=>by have:=f8 q hq;omega) A672 A5002 A5003 (λL8 h8' B672 B5002 ko=>?_);have R:=R.rebase (h':=h8') (ko 560 ah ah ah ah) (ko 608 ah ah ah ah);have B640:=(ko 640 ah ah ah ah).trans A640;have B5000:=(ko 5000 ah ah ah ah).trans A5000;have A640:=B640;have A5000:=B5000;have A672:=B672;have A5002:=B5002;simp[R.gx,R.gy,ewx,ewy];refine Ent.kill 5003 (Ent.kill 5001 (Ent.refl ⟨_,_,_,_,_,_,hf.1,hf.2,L7,none,L8,none,?_⟩));rw[jn,hBe,jn,hCe];simp[gz,p1,q1,ppn,qqn,n0,A640,A5000,A672,A5002]
        ·have q3:q.kind=3:=by omega
         simp only[p1,q1,du,dv,bO]at hf;simp[p1,q1];refine zU (n:=(n:Int)) (D:=CD_) aa aa A672 (λh9' B672 ko=>?_);have R:=R.rebase (h':=h9') (ko 560 ah) (ko 608 ah);have B5002:=(ko 5002 ah).trans A5002;have B5003:=(ko 5003 ah).trans A5003;have B640:=(ko 640 ah).trans A640;have B5000:=(ko 5000 ah).trans A5000;have B5001:=(ko 5001 ah).trans A5001;have A640:=B640;have A5000:=B5000;have A5001:=B5001;have A672:=B672;have A5002:=B5002;have A5003:=B5003;simp[R.gx,R.gy,ewx,ewy];refine Ent.refl ⟨_,_,_,_,_,_,hf.1,hf.2,H,G,H2,G2,?_⟩;rw[jn,hCe];simp[gz,hBe,q3,qqn,A640,A5000,A5001,A672,A5002,A5003]
       ·have p3:p.kind=3:=by omega
        by_cases q1:q.kind=1
        ·simp only[p1,q1,du,dv,bO]at hf
         simp[p1,q1];refine zV (n:=(n:Int)) (D:=BD) aa aa A640 (λh10' B640 ko=>?_);have R:=R.rebase (h':=h10') (ko 560 ah) (ko 608 ah);have B5000:=(ko 5000 ah).trans A5000;have B5001:=(ko 5001 ah).trans A5001;have B672:=(ko 672 ah).trans A672;have B5002:=(ko 5002 ah).trans A5002;have B5003:=(ko 5003 ah).trans A5003;have A640:=B640;have A5000:=B5000;have A5001:=B5001;have A672:=B672;have A5002:=B5002;have A5003:=B5003;simp[R.gx,R.gy,ewx,ewy];refine Ent.refl ⟨_,_,_,_,_,_,hf.1,hf.2,H,G,H2,G2,?_⟩;rw[jn,hBe];simp[gz,hCe,p3,ppn,A640,A5000,A5001,A672,A5002,A5003]
        ·simp only[p1,q1,dv,bO]at hf
         simp[p1,q1,R.gx,R.gy,ewx,ewy];refine Ent.refl ⟨_,_,_,_,_,_,hf.1,hf.2,H,G,H2,G2,?_⟩;simp[hBe,hCe,A640,A5000,A5001,A672,A5002,A5003]
theorem az{p:Prop}(h:¬p):dc p=false:=by rw[jx];exact h
theorem w6{e:Entry}(hl:aZ e<=2^40):nL bc e.o<=2^40:=by unfold aZ at hl;omega
theorem oX(e:Entry)(hl:aZ e<=2^40):ar Tryz.prog 185 [.agg e.row] (.one (.c (vb (dm e)) 1)):=by
 refine pci aw Tryz.func185 (λw0 base=>?_);simp[Entry.row];intros;refine ag.pure (bZ e.client 1 8) ab ?_;by_cases c1:1<=e.client/\e.client<=8
 rotate_left
 ·have h:¬dm e:=λh=>c1 h.1
  exact pV
 simp[c1];refine ag.pure (bZ e.seq 1 1000000000) ab ?_;by_cases c2:1<=e.seq/\e.seq<=1000000000
 rotate_left
 ·have h:¬dm e:=λh=>c2 h.2.1
  exact sJ
 simp[c2];refine ag.pure (FX e.o (w6 hl)) ab ?_;exact Nm
theorem oQ(e:Entry)(hl:aZ e<=2^40):ar Tryz.prog 166 [.agg e.row] (.one (.c (vb (dm e)) 1)):=by
 refine pci aw Tryz.func166 (λw0 base=>?_);simp[Entry.row];intros;refine ag.pure (cS e.client 1 8) ab ?_;by_cases c1:1<=e.client/\e.client<=8
 rotate_left
 ·have h:¬dm e:=λh=>c1 h.1
  exact pV
 simp[c1];refine ag.pure (cS e.seq 1 1000000000) ab ?_;by_cases c2:1<=e.seq/\e.seq<=1000000000
 rotate_left
 ·have h:¬dm e:=λh=>c2 h.2.1
  exact sJ
 simp[c2];refine ag.pure (Fk e.o (w6 hl)) ab ?_;exact Nm
theorem qv(a b:List Part):nL bc (bu a b).1<=2^18/\nL bc (bu a b).2.1<=2^18:=by
 unfold bu
 split
 ·split
  ·rename_i h;exact⟨FB h.1,FB h.2⟩
  ·simp[nL,cK]
 ·simp[nL,cK]
def Tp(s:ByteArray)(i:Nat):Prop:=∀h:i<s.size,97<=s[i].toNat/\s[i].toNat<=122
theorem eB{d:Doc}{B:Nat}(h:cN d<=B):nL aZ d.list<=B/\d.text.length<=B/\d.name.size<=B/\d.seen.length<=B:=by unfold cN at h;omega
def wA(d:Doc)(i:Nat):Prop:=∀h:i<d.seen.length,(1<=d.seen[i].client/\d.seen[i].client<=8)/\(1<=d.seen[i].seq/\d.seen[i].seq<=1000000000)/\(1<=d.seen[i].rev/\d.seen[i].rev<=aD d)/\(∀h0:0<i,d.seen[i-1].client<d.seen[i].client)
theorem B9{l:List (List Part)}{t:List Int}(h:eL t):(fW l t).2=true↔(bq l t).isSome=true:=by
 unfold fW;rw[an h]
 cases bq l t<;>simp
theorem dt{d:Doc}(h:bV d):aD d=d.fr+d.list.length/\0<=d.fr/\d.fr<=999999000/\d.list.length<=8:=by
 have h1:=h.2.1;have h2:=h.2.2.2.1;refine⟨?_,h1.1,h1.2,h2⟩;unfold aD;rw[ae _ aa]
theorem Cm{d:Doc}{rev:Int}(h:¬(bV d/\d.fr<=rev/\rev<=aD d)):ir d rev=([],false):=by unfold ir;rw[aq h]
theorem zM{d:Doc}{rev:Int}(h:bV d/\d.fr<=rev/\rev<=aD d):ir d rev=fW ((d.list.take (rev-d.fr).toNat).map Entry.o) d.text:=by unfold ir;rw[an h]
theorem w7{d:Doc}(n1:nL aZ d.list<=2^30){o:List Part}{l:List Entry}(hl:∀e∈l,e∈d.list)(ho:o∈l.map Entry.o):nL bc o<=2^30:=by
 rw[cE]at ho;obtain⟨e,he,rfl⟩:=ho;have:=gA n1 (hl e he);unfold aZ at this;omega
theorem Cq{α:Type}{f:α->Nat}:∀(l:List α) (k:Nat),cK f (l.take k)<=cK f l
 | [],k=>by simp[cK]
 |a::l,0=>by simp[cK]
 |a::l,k+1=>by have:=Cq l k (f:=f);simp only[me,cK];omega
theorem FD{α:Type}{f:α->Nat}{l:List α}{k B:Nat}(h:nL f l<=B):nL f (l.take k)<=B:=by
 have:=Cq l k (f:=f);unfold nL at h⊢;simp;omega
theorem rY:∀(l:List (List Part)) (t:List Int) (k:Nat),(bq l t).isSome=true->(bq (l.take k) t).isSome=true
 | [],_,_,h=>mN
 |o::l,t,0,h=>by simp[bq]
 | o :: l, t, k + 1, h => by
   rw[bq]at h;rw[me,bq]
   split at h
   ·rename_i hh;rw[an hh];exact rY l _ k h
   ·simp at h
theorem IU{l:List (List Part)}{t u:List Int}(ht:eL t)(h:bq l t=some u):fW l t=(u,true):=by
 unfold fW;rw[an ht,h]
theorem p6(d:Doc)(c:Int):(∃i,∃h:i<d.seen.length,d.seen[i].client=c/\(∀j,j<i->∀hj:j<d.seen.length,d.seen[j].client≠c)/\fZ d c=(d.seen[i],true))\/((∀j,∀hj:j<d.seen.length,d.seen[j].client≠c)/\fZ d c=(⟨0,0,0⟩,false)):=by
 unfold fZ
 cases h:d.seen.find? (λs=>decide (s.client=c))with
 | none =>
   right
   rw[List.find?_eq_none]at h;exact⟨λj hj=>by have:=h _ (ak hj);simpa using this,rfl⟩
 | some s =>
   left
   rw[List.find?_eq_some_iff_getElem]at h;obtain⟨h1,i,hi,h2,h3⟩:=h;refine⟨i,hi,by rw[h2];simpa using h1,λj hj hjl=>by have:=h3 j hj;simpa using this,by rw[h2]⟩
theorem Hm{d:Doc}(h:bV d)(c:Int):0<=(fZ d c).1.seq/\(fZ d c).1.seq<=1000000000/\0<=(fZ d c).1.rev/\(fZ d c).1.rev<=aD d:=by
 have hh:=dt h;rcases p6 d c with⟨i,hi,-,-,e⟩|⟨-,e⟩
 ·rw[e]
  have:=h.2.2.2.2.2.2 i hi;exact i9
 ·rw[e]
  exact i9
def Doc.zero:Doc:=⟨⟨#[]⟩,0,[],[],[]⟩
def Net.zero:Net:=⟨Doc.zero,[]⟩
theorem Doc.zero_n:cN Doc.zero=0:=rfl
theorem Net.zero_n:Ts Net.zero=0:=rfl
def ib(name:ByteArray)(t:List Int):Doc:=⟨name,0,t,[],[]⟩
open Classical in
noncomputable def mb(name:ByteArray)(t:List Int):Doc×Bool:=if bV (ib name t)then(ib name t,true)else(Doc.zero,false)
theorem UH(name:ByteArray)(t:List Int):cN (ib name t)=name.size+t.length:=by simp[cN,ib,nL,cK]
theorem cO(d:Doc):ar Tryz.prog 113 [.agg d.row] (.one (.c (vi (aD d)) 1)):=by
 refine pci aw Tryz.func113 (λw0 base=>?_);simp[Doc.row,aD]
theorem cP(d:Doc):ar Tryz.prog 132 [.agg d.row] (.one (.c (vi (aD d)) 1)):=by
 refine pci aw Tryz.func132 (λw0 base=>?_);simp[Doc.row,aD]
theorem vN(s:ByteArray)(hl:s.size<=2^40):ar Tryz.prog 183 [.c (.v (.string s))] (.one (.c (vb (nz s)) 1)):=by
 refine pci aw Tryz.func183 (λw0 base=>?_);simp;refine aV.intro eok (λi:Nat=>i<=s.size/\∀j,j<i->Tp s j) (λi=>⟨23,0,[(3,.v (.int .i64 i)),(0,.v (.string s))],[]⟩) (λi=>s.size-i) 0 ab ab (λi hi=>?_);by_cases hlt:i<s.size
 ·exact Ol
 ·simp[hlt]
  refine ag.pure (bZ s.size 1 8) ab ?_;exact Oc
theorem Fj(s:ByteArray)(hl:s.size<=2^40):ar Tryz.prog 164 [.c (.v (.string s))] (.one (.c (vb (nz s)) 1)):=by
 refine pci aw Tryz.func164 (λw0 base=>?_);simp;refine aV.intro eok (λi:Nat=>i<=s.size/\∀j,j<i->Tp s j) (λi=>⟨23,0,[(3,.v (.int .i64 i)),(0,.v (.string s))],[]⟩) (λi=>s.size-i) 0 ab ab (λi hi=>?_);by_cases hlt:i<s.size
 ·exact Ol
 ·simp[hlt]
  refine ag.pure (cS s.size 1 8) ab ?_;exact Oc
theorem FA(l:List Entry)(hl:nL aZ l<=2^30):ar Tryz.prog 187 [.c (.s (l.map Entry.row))] (.one (.c (.s ((l.map Entry.o).map iX)) 1)):=by
 refine pci aw Tryz.func187 (λw0 base=>?_);have hle:=aS hl;simp;refine aE eok (λx:Nat×Hd=>x.1<=l.length) (λx=>⟨20,0,[(8,.v (.int .i64 x.1)),(7,.v (.int .i64 l.length)),(6,.ro (l.map Entry.row)),(3,.sl 5000 x.2 1 0 x.1)],[(5000,.rows x.2 1 (((l.take x.1).map Entry.o).map iX) true)]⟩) (λx=>l.length-x.1) (0,none) ab ab (λx hx=>Ent.refl ?_);obtain⟨i,H⟩:=x;simp only at hx⊢;by_cases hlt:i<l.length
 ·have hm:=cT hl hlt
  unfold aZ at hm;simp[hlt,Entry.row];intro b5;refine ag.pure (A7 l[i].o hm) ab ?_;exact NL
 ·have e:l.length=i:=by omega
  simp[hlt];have e1:i<=min i l.length:=aa;refine⟨e1,?_,?_⟩
  ·intro row hr
   have:=br hr;exact y9
  ·rw[aB aN]
   simp[cut,e]
theorem jq(d:Doc)(hl:cN d<=2^30):ar Tryz.prog 130 [.agg d.row] (.one (.c (vb (bV d)) 1)):=by
 refine pci aw Tryz.func130 (λw0 base=>?_);obtain⟨n1,n2,n3,n4⟩:=eB hl;have hle:=aS n1;simp[Doc.row];intro b1;refine ag.pure (vN d.name aa) ab ?_;by_cases c1:nz d.name
 rotate_left
 ·have h:¬bV d:=λh=>c1 h.1
  exact pV
 simp[c1];refine ag.pure (bZ d.fr 0 999999000) ab ?_;by_cases c2:0<=d.fr/\d.fr<=999999000
 rotate_left
 ·have h:¬bV d:=λh=>c2 h.2.1
  exact sJ
 simp[c2];refine ag.pure (lu d.text aa) ab ?_;by_cases c3:eL d.text
 rotate_left
 ·have h:¬bV d:=λh=>c3 h.2.2.1
  simp[az c3,az h]
 simp[c3];by_cases c4:d.list.length<=8
 rotate_left
 ·exact ML
 have c4':¬8<(d.list.length:Int):=aa;simp[c4']
 refine aV.intro eok (λi:Nat=>i<=d.list.length/\∀e∈d.list.take i,dm e) (λi=>⟨96,0,[(34,.v (.int .i64 i)),(33,.v (.int .i64 d.list.length)),(32,.ro (d.list.map Entry.row)),(1,.p 16 b1 0)],
  [(16,.vars b1 119 [.v (.string d.name),.v (.int .i64 d.fr),.ro (d.text.map aG),.ro (d.list.map Entry.row),.ro (d.seen.map Seen.row)])]⟩) (λi=>d.list.length-i) 0 ab ab (λi hi=>?_)
 by_cases hlt:i<d.list.length
 ·have hm:=cT n1 hlt
  simp[hlt,Entry.row];intro b4;refine ag.pure (oX d.list[i] aa) fB ?_;by_cases c5:dm d.list[i]
  ·exact Ew
  ·have h:¬bV d:=λh=>c5 (h.2.2.2.2.1 _ (ak hlt))
   simp[az c5,az h]
 have c5:∀e∈d.list,dm e:=qx aa hi.2;simp[hlt];refine aY.quiet eok mix al ?_;simp;refine⟨_,_,FA d.list n1,ab,?_⟩;simp
 have hops:∀o∈d.list.map Entry.o,nL bc o<=2^40:=by
  intro o ho;rw[cE]at ho;obtain⟨e,he,rfl⟩:=ho;have:=gA n1 he;unfold aZ at this;omega
 refine⟨_,_,rH (d.list.map Entry.o) d.text aN hops aa,ab,?_⟩;have hsome:=B9 (l:=d.list.map Entry.o) c3;generalize fW (d.list.map Entry.o) d.text=A at hsome⊢;obtain⟨u,ok⟩:=A;simp only at hsome⊢
 cases ok with
 | false =>
   have h:¬bV d:=λh=>by have:=hsome.2 h.2.2.2.2.2.1;simp at this
   simp[az h]
 | true =>
   have c6:=hsome.1 rfl;simp;have hno:∀i,¬wA d i->¬bV d:=λi h hd=>h (λhh=>hd.2.2.2.2.2.2 i hh)
   refine aV.intro eok (λi:Nat=>i<=d.seen.length/\∀j,j<i->wA d j) (λi=>⟨96,0,[(56,.v (.int .i64 i)),(55,.v (.int .i64 d.seen.length)),(54,.ro (d.seen.map Seen.row)),(1,.p 16 b1 0)],
    [(16,.vars b1 119 [.v (.string d.name),.v (.int .i64 d.fr),.ro (d.text.map aG),.ro (d.list.map Entry.row),.ro (d.seen.map Seen.row)])]⟩) (λi=>d.seen.length-i) 0 ab ab (λi hi=>?_)
   by_cases hlt:i<d.seen.length
   rotate_left
   ·exact Mo
   obtain⟨x,hx⟩:∃x,d.seen[i]=x:=⟨_,rfl⟩;simp[hlt,hx,Seen.row];intro b8;refine aY.quiet eok mix al ?_;simp;refine⟨_,_,bZ x.client 1 8,ab,?_⟩;by_cases s1:1<=x.client/\x.client<=8
   rotate_left
   ·exact Mr
   simp[s1]
   have fin:(∀h0:0<i,d.seen[i-1].client<x.client)->(1<=x.seq/\x.seq<=1000000000)->(1<=x.rev/\x.rev<=aD d)->∀j,j<i+1->wA d j:=by
    exact MZ
   have noq:¬(1<=x.seq/\x.seq<=1000000000)->¬bV d:=λs2=>hno i (λh=>s2 yO)
   have nor:¬(1<=x.rev/\x.rev<=aD d)->¬bV d:=λs2=>hno i (λh=>s2 (by have:=(h hlt).2.2.1;rwa[hx]at this))
   cases i with
   | zero =>
     simp;refine⟨_,_,bZ x.seq 1 1000000000,ab,?_⟩;by_cases s2:1<=x.seq/\x.seq<=1000000000
     rotate_left
     ·simp[az s2,az (noq s2)]
     simp[s2];refine⟨_,_,cP d,bB,?_⟩;simp;refine⟨_,_,bZ x.rev 1 (aD d),ab,?_⟩;by_cases s3:1<=x.rev/\x.rev<=aD d
     rotate_left
     ·simp[az s3,az (nor s3)]
     simp[s3];exact Mg
   | succ k =>
     have ek:Go.IntKind.i64.wrap (k:Int)=k:=fE aa;have hk1:k<d.seen.length:=aa;have hk0:(0:Int)<(k:Int)+1:=aa;obtain⟨y,hy⟩:∃y,d.seen[k]=y:=⟨_,rfl⟩;simp[ek,hk0,hk1,hy,Seen.row];by_cases s4:y.client<x.client
     rotate_left
     ·exact NJ
     have s4':¬x.client<=y.client:=aa;simp[s4'];refine⟨_,_,bZ x.seq 1 1000000000,ab,?_⟩;by_cases s2:1<=x.seq/\x.seq<=1000000000
     rotate_left
     ·simp[az s2,az (noq s2)]
     simp[s2];refine⟨_,_,cP d,bB,?_⟩;simp;refine⟨_,_,bZ x.rev 1 (aD d),ab,?_⟩;by_cases s3:1<=x.rev/\x.rev<=aD d
     rotate_left
     ·simp[az s3,az (nor s3)]
     simp[s3];exact Nt
theorem ji(d:Doc)(hl:cN d<=2^30):ar Tryz.prog 111 [.agg d.row] (.one (.c (vb (bV d)) 1)):=by
 refine pci aw Tryz.func111 (λw0 base=>?_);obtain⟨n1,n2,n3,n4⟩:=eB hl;have hle:=aS n1;simp[Doc.row];intro b1;refine ag.pure (Fj d.name aa) ab ?_;by_cases c1:nz d.name
 rotate_left
 ·have h:¬bV d:=λh=>c1 h.1
  exact pV
 simp[c1];refine ag.pure (cS d.fr 0 999999000) ab ?_;by_cases c2:0<=d.fr/\d.fr<=999999000
 rotate_left
 ·have h:¬bV d:=λh=>c2 h.2.1
  exact sJ
 simp[c2];refine ag.pure (mU d.text aa) ab ?_;by_cases c3:eL d.text
 rotate_left
 ·have h:¬bV d:=λh=>c3 h.2.2.1
  simp[az c3,az h]
 simp[c3];by_cases c4:d.list.length<=8
 rotate_left
 ·exact ML
 have c4':¬8<(d.list.length:Int):=aa;simp[c4']
 refine aE eok (λx:Nat×List Int=>x.1<=d.list.length/\(∀e∈d.list.take x.1,dm e)/\eL x.2/\bq ((d.list.map Entry.o).drop x.1) x.2=bq (d.list.map Entry.o) d.text) (λx=>⟨105,0,[(37,.v (.int .i64 x.1)),(36,.v (.int .i64 d.list.length)),(35,.ro (d.list.map Entry.row)),(3,.ro (x.2.map aG)),(1,.p 16 b1 0)],
  [(16,.vars b1 119 [.v (.string d.name),.v (.int .i64 d.fr),.ro (d.text.map aG),.ro (d.list.map Entry.row),.ro (d.seen.map Seen.row)])]⟩) (λx=>d.list.length-x.1) (0,d.text) ⟨ab,ab,c3,ab⟩ ab (λx hi=>Ent.refl ?_)
 obtain⟨i,t⟩:=x;obtain⟨hi1,hi2,hi3,hi4⟩:=hi;simp only at hi1 hi2 hi3 hi4⊢;by_cases hlt:i<d.list.length
 ·have hm:=cT n1 hlt
  have hmo:=w6 (e:=d.list[i]) aa;rw[nM (show i<(d.list.map Entry.o).length from pU)]at hi4;simp only[pg]at hi4;have hyes:=@nm d.list[i].o t;have htok:=@ng d.list[i].o t;obtain⟨e,he⟩:∃e,d.list[i]=e:=⟨_,rfl⟩;have hmem:e∈d.list:=he ▸ ak hlt;have c5':dm e->∀e∈d.list.take (i+1),dm e:=λh=>v9 hlt hi2 (he ▸ h)
  rw[he]at hi4 hyes htok hm hmo;simp[hlt,he,Entry.row];intro b5;refine ag.pure (mf e.o t hmo (by have:=hi3.1;omega)) ab ?_;generalize apply e.o t=A at hi4 hyes htok⊢;obtain⟨u,ok⟩:=A;simp only at hi4 hyes htok⊢;simp;intro H1
  cases ok with
  | false =>
    have h:¬bV d:=λh=>by have:=h.2.2.2.2.2.1;rw[<-hi4]at this;simp at this
    simp[az h]
  | true =>
    simp only[du]at hi4;have hu:=(htok (hyes.1 rfl)).1;simp;refine ag.pure (oQ e aa) fB ?_;by_cases c5:dm e
    rotate_left
    ·have h:¬bV d:=λh=>c5 (h.2.2.2.2.1 _ hmem)
     simp[az c5,az h]
    simp[c5];refine ag.pure (mU u (by have:=hu.1;omega)) ab ?_;simp[hu];refine Vz 3 720 (sz:=1) (off:=0) (len:=u.length) (H:=H1) (rows:=u.map aG) (own:=true) ab ab ab (Ent.refl ⟨i+1,u,⟨aa,c5' c5,hu,hi4⟩,aa,?_⟩);exact og
 ·have c5:∀e∈d.list,dm e:=qx aa hi2
  have c6:(bq (d.list.map Entry.o) d.text).isSome=true:=by
   rw[<-hi4,bm aN];simp[bq]
  simp[hlt];have hno:∀i,¬wA d i->¬bV d:=λi h hd=>h (λhh=>hd.2.2.2.2.2.2 i hh)
  refine aV.intro eok (λi:Nat=>i<=d.seen.length/\∀j,j<i->wA d j) (λi=>⟨105,0,[(65,.v (.int .i64 i)),(64,.v (.int .i64 d.seen.length)),(63,.ro (d.seen.map Seen.row)),(1,.p 16 b1 0)],
   [(16,.vars b1 119 [.v (.string d.name),.v (.int .i64 d.fr),.ro (d.text.map aG),.ro (d.list.map Entry.row),.ro (d.seen.map Seen.row)])]⟩) (λi=>d.seen.length-i) 0 ab ab (λi hi=>?_)
  by_cases hlt:i<d.seen.length
  rotate_left
  ·exact Mo
  obtain⟨x,hx⟩:∃x,d.seen[i]=x:=⟨_,rfl⟩;simp[hlt,hx,Seen.row];intro b8;refine aY.quiet eok mix al ?_;simp;refine⟨_,_,cS x.client 1 8,ab,?_⟩;by_cases s1:1<=x.client/\x.client<=8
  rotate_left
  ·exact Mr
  simp[s1]
  have fin:(∀h0:0<i,d.seen[i-1].client<x.client)->(1<=x.seq/\x.seq<=1000000000)->(1<=x.rev/\x.rev<=aD d)->∀j,j<i+1->wA d j:=by
   exact MZ
  have noq:¬(1<=x.seq/\x.seq<=1000000000)->¬bV d:=λs2=>hno i (λh=>s2 yO)
  have nor:¬(1<=x.rev/\x.rev<=aD d)->¬bV d:=λs2=>hno i (λh=>s2 (by have:=(h hlt).2.2.1;rwa[hx]at this))
  refine⟨_,_,cS x.seq 1 1000000000,ab,?_⟩;by_cases s2:1<=x.seq/\x.seq<=1000000000
  rotate_left
  ·simp[az s2,az (noq s2)]
  simp[s2];refine⟨_,_,cO d,bB,?_⟩;simp;refine⟨_,_,cS x.rev 1 (aD d),ab,?_⟩;by_cases s3:1<=x.rev/\x.rev<=aD d
  rotate_left
  ·simp[az s3,az (nor s3)]
  simp[s3]
  cases i with
  | zero =>
    simp;exact Mg
  | succ k =>
    have ek:Go.IntKind.i64.wrap (k:Int)=k:=fE aa;have hk1:k<d.seen.length:=aa;have hk0:(0:Int)<(k:Int)+1:=aa;obtain⟨y,hy⟩:∃y,d.seen[k]=y:=⟨_,rfl⟩;simp[ek,hk0,hk1,hy,Seen.row];by_cases s4:y.client<x.client
    rotate_left
    ·exact NJ
    have s4':¬x.client<=y.client:=aa;simp[s4'];exact Nt
theorem vK(d:Doc)(hl:cN d<=2^30)(rev:Int):ar Tryz.prog 237 [.agg d.row,.c (vi rev)] (.tup [.c (.s ((ir d rev).1.map aG)) 1,.c (.v (.bool (ir d rev).2)) 1]):=by
 refine pci aw Tryz.func237 (λw0 base=>?_);obtain⟨n1,n2,n3,n4⟩:=eB hl;simp[Doc.row];intro b2;refine aY.quiet eok mix al ?_;simp;refine⟨_,_,jq d hl,bB,?_⟩;by_cases c1:bV d
 rotate_left
 ·exact LO
 simp[c1];refine⟨_,_,cP d,bB,?_⟩;simp;refine⟨_,_,bZ rev d.fr (aD d),ab,?_⟩;by_cases c2:d.fr<=rev/\rev<=aD d
 rotate_left
 ·exact LN
 have e:=zM ⟨c1,c2⟩;have hh:=dt c1;obtain⟨k,hk⟩:∃k:Nat,rev-d.fr=k:=⟨(rev-d.fr).toNat,aa⟩;have hkl:k<=d.list.length:=aa;have ew:Go.IntKind.i64.wrap (rev-d.fr)=(k:Int):=by rw[ae _ aa];omega
 rw[hk]at e;simp only[cV]at e
 have hcut:cut (d.list.map Entry.row) 0 k=(d.list.take k).map Entry.row:=by
  exact My
 simp[c2];refine drw eok mix [0,1,2,3,4,5,6,8,9] [7,10,11,12,13,14] (.c 9 7 4 507 (.c 9 10 1 506 (.c 9 11 0 506 (.c 9 12 0 506 (.c 9 13 506 0 (.c 9 14 0 0 (.l 9 0) .s) .s) .s) .s) .s) .s) ?_;simp[ew,hkl,hcut]
 try intros
 refine ag.pure (FA (d.list.take k) (FD n1)) ab ?_;simp
 try intros
 refine ag.pure (rH ((d.list.take k).map Entry.o) d.text aN (λo ho=>by have:=w7 n1 (λe he=>br he) ho;omega) aa) (by simp) ?_;simp
 try intros
 simp[e]
theorem vm(d:Doc)(hl:cN d<=2^30)(rev:Int):ar Tryz.prog 222 [.agg d.row,.c (vi rev)] (.tup [.c (.s ((ir d rev).1.map aG)) 1,.c (.v (.bool (ir d rev).2)) 1]):=by
 refine pci aw Tryz.func222 (λw0 base=>?_);obtain⟨n1,n2,n3,n4⟩:=eB hl;simp[Doc.row];intro b2;refine aY.quiet eok mix al ?_;simp;refine⟨_,_,ji d hl,bB,?_⟩;by_cases c1:bV d
 rotate_left
 ·exact LO
 simp[c1];refine⟨_,_,cO d,bB,?_⟩;simp;refine⟨_,_,cS rev d.fr (aD d),ab,?_⟩;by_cases c2:d.fr<=rev/\rev<=aD d
 rotate_left
 ·exact LN
 have e:=zM ⟨c1,c2⟩;have hh:=dt c1;obtain⟨k,hk⟩:∃k:Nat,rev-d.fr=k:=⟨(rev-d.fr).toNat,aa⟩;have hkl:k<=d.list.length:=aa;have ew:Go.IntKind.i64.wrap (rev-d.fr)=(k:Int):=by rw[ae _ aa];omega
 rw[hk]at e;simp only[cV]at e
 have hcut:cut (d.list.map Entry.row) 0 k=(d.list.take k).map Entry.row:=by
  exact My
 obtain⟨l,hlk⟩:∃l,d.list.take k=l:=⟨_,rfl⟩;have hll:l.length=k:=by rw[<-hlk];simp;omega
 rw[hlk]at e hcut;have hmem:∀e∈l,e∈d.list:=λe he=>by rw[<-hlk]at he;exact br he
 have hsome:=rY (d.list.map Entry.o) d.text k c1.2.2.2.2.2.1;rw[<-dU,hlk,mw]at hsome;obtain⟨u,hu⟩:=hsome;rw[IU c1.2.2.1 hu]at e;simp[c2];intro b21;refine⟨aa,λH24=>?_⟩;simp[ew,hkl,hcut,hll]
 refine aE eok (λx:(Nat×List Int×Nat)×Hd=>(x.1.2.2=336\/x.1.2.2=656)/\x.1.1<=k/\x.1.2.1.length<=2^30/\bq ((l.map Entry.o).drop x.1.1) x.1.2.1=some u) (λx=>⟨46,0,[(33,.v (.int .i64 x.1.1)),(32,.v (.int .i64 k)),(31,.ro (l.map Entry.row)),(6,.sl x.1.2.2 x.2 1 0 x.1.2.1.length)],
  [(x.1.2.2,.rows x.2 1 (x.1.2.1.map aG) true)]⟩) (λx=>k-x.1.1) ((0,d.text,336),H24) ⟨.inl rfl,ab,gI,by simpa using hu⟩ ab (λx hi=>Ent.refl ?_)
 obtain⟨⟨i,t,kk⟩,H⟩:=x;obtain⟨hkk,hi1,hi2,hi3⟩:=hi;simp only at hkk hi1 hi2 hi3⊢;by_cases hlt:i<k
 ·have hlt':i<l.length:=by omega
  have hm:=w7 n1 hmem (ra (f:=Entry.o) (ak hlt'));rw[nM (show i<(l.map Entry.o).length by simpa using hlt')]at hi3;simp only[pg]at hi3;have hal:=xe l[i].o t;rcases hkk with rfl|rfl
  all_goals
   simp[hlt,hlt',Entry.row];intro b8;refine ag.pure (mf l[i].o t aa aa) ab ?_;generalize apply l[i].o t=A at hi3 hal⊢;obtain⟨v,ok⟩:=A;simp only at hi3 hal⊢;simp;intro H1
   cases ok with
   |false=>simp at hi3
   | true =>
     simp only[du]at hi3;refine Ent.refl ⟨i+1,v,656,⟨.inr rfl,aa,aa,hi3⟩,aa,H1,?_⟩;exact og
 ·have hi4:t=u:=by
   rw[bm aN]at hi3
   simpa[bq]using hi3
  subst hi4;rcases hkk with rfl|rfl
  all_goals
   simp[hlt,e]
theorem FT(d:Doc)(hl:cN d<=2^40)(c:Int):ar Tryz.prog 234 [.agg d.row,.c (vi c)] (.tup [.agg (fZ d c).1.res,.c (.v (.bool (fZ d c).2)) 1]):=by
 refine pci aw Tryz.func234 (λw0 base=>?_);exact OA
theorem Fe(d:Doc)(hl:cN d<=2^40)(c:Int):ar Tryz.prog 220 [.agg d.row,.c (vi c)] (.tup [.agg (fZ d c).1.res,.c (.v (.bool (fZ d c).2)) 1]):=by
 refine pci aw Tryz.func220 (λw0 base=>?_);exact OA
inductive At where
 |k
 |p (c:Int)
 |d
def ats(p:Part):List At:=if p.kind=2 then p.signs.map At.p else if p.kind=3 then List.replicate (psz p) .d else List.replicate (psz p) .k
def bW:List Part->List At
 | []=>[]
 |p::l=>ats p++bW l
theorem jL:∀(a b:List Part),bW (a++b)=bW a++bW b
 | [],b=>rfl
 |p::a,b=>by simp[bW,jL a b]
def frA:List At->Nat
 | []=>0
 | .p _::l=>frA l
 |_::l=>frA l+1
def toA:List At->Nat
 | []=>0
 | .d::l=>toA l
 |_::l=>toA l+1
theorem lP:∀(a b:List At),frA (a++b)=frA a+frA b
 | [],b=>by simp[frA]
 | .p c::a,b=>by simp[frA,lP a b]
 | .k::a,b=>by simp[frA,lP a b];omega
 | .d::a,b=>by simp[frA,lP a b];omega
theorem kg:∀(a b:List At),toA (a++b)=toA a+toA b
 | [],b=>by simp[toA]
 | .d::a,b=>by simp[toA,kg a b]
 | .k::a,b=>by simp[toA,kg a b];omega
 | .p c::a,b=>by simp[toA,kg a b];omega
theorem Gc:∀l:List Int,frA (l.map At.p)=0
 | []=>rfl
 |c::l=>by simp[frA,Gc l]
theorem zJ:∀l:List Int,toA (l.map At.p)=l.length
 | []=>rfl
 |c::l=>by simp[toA,zJ l]
theorem Um:∀n:Nat,frA (List.replicate n At.k)=n
 |0=>rfl
 |n+1=>by simp[bP,frA,Um n]
theorem Gd:∀n:Nat,frA (List.replicate n At.d)=n
 |0=>rfl
 |n+1=>by simp[bP,frA,Gd n]
theorem Jk:∀n:Nat,toA (List.replicate n At.k)=n
 |0=>rfl
 |n+1=>by simp[bP,toA,Jk n]
theorem zK:∀n:Nat,toA (List.replicate n At.d)=0
 |0=>rfl
 |n+1=>by simp[bP,toA,zK n]
theorem OR{p:Part}(h:bb p)(k:p.kind=2):psz p=p.signs.length:=by
 rw[kl k]at h;unfold psz;omega
theorem abn{p:Part}:frA (ats p)=if p.kind=2 then 0 else psz p:=by
 unfold ats
 split
 ·exact Gc _
 ·split
  ·exact Gd _
  ·exact Um _
theorem abm{p:Part}(h:bb p):toA (ats p)=if p.kind=3 then 0 else psz p:=by
 unfold ats;by_cases k:p.kind=2
 ·have:¬p.kind=3:=by omega
  rw[an k,aq this,zJ,OR h k]
 ·rw[aq k]
  split
  ·exact zK _
  ·exact Jk _
theorem uG:∀(o:List Part),frs o=frA (bW o)
 | []=>rfl
 |p::o=>by simp only[frs,bW,lP,abn,uG o]
theorem wq:∀{o:List Part},(∀p∈o,bb p)->tos o=toA (bW o)
 | [],_=>rfl
 | p :: o, h => by
   simp only[tos,bW,kg,abm (h p (aJ ..)),wq (λq hq=>h q (aC _ hq))]
def nA:List Int->Nat->List At->List At
 |P,n,[]=>P.map At.p++List.replicate n .d
 |P,n,.k::l=>P.map At.p++(List.replicate n .d ++ .k::nA [] 0 l)
 |P,n,.p c::l=>nA (P++[c]) n l
 |P,n,.d::l=>nA P (n+1) l
def qK(l:List At):List At:=nA [] 0 l
theorem OZ:∀(l:List At) (P:List Int) (n:Nat),frA (nA P n l)=n+frA l
 | [],P,n=>by simp[nA,frA,lP,Gc,Gd]
 | .k::l,P,n=>by simp[nA,frA,lP,Gc,Gd,OZ l]
 | .p c::l,P,n=>by simp[nA,frA,OZ l]
 | .d::l,P,n=>by simp[nA,frA,OZ l];omega
theorem OX:∀(l:List At) (P:List Int) (n:Nat),toA (nA P n l)=P.length+toA l
 | [],P,n=>by simp[nA,toA,kg,zJ,zK]
 | .k::l,P,n=>by simp[nA,toA,kg,zJ,zK,OX l]
 | .p c::l,P,n=>by simp[nA,toA,OX l];omega
 | .d::l,P,n=>by simp[nA,toA,OX l]
theorem OY:∀(Q P:List Int) (n:Nat) (l:List At),nA P n (Q.map At.p++l)=nA (P++Q) n l
 | [],P,n,l=>ab
 |c::Q,P,n,l=>by simp[nA,OY Q]
theorem O0:∀(m:Nat) (P:List Int) (n:Nat) (l:List At),nA P n (List.replicate m .d++l)=nA P (n+m) l
 |0,P,n,l=>ab
 |m+1,P,n,l=>by simp[bP,nA,O0 m];congr 1;omega
theorem Ym:∀(m:Nat) (l:List At),nA [] 0 (List.replicate m .k++l)=List.replicate m .k++nA [] 0 l
 |0,l=>ab
 |m+1,l=>by simp[bP,nA,Ym m]
def bA(s:List Part×List Int×Int):List At:=bW s.1++(s.2.1.map At.p++List.replicate s.2.2.toNat .d)
theorem Ix{L:List Part}{P:List Int}{D:Int}:bW (bN L P D)=bA (L,P,D):=by
 unfold bN bA;rw[jL,jL]
 congr 1
 congr 1
 ·split
  ·rename_i h;simp[h,bW]
  ·simp[bW,ats]
 ·split
  ·simp[bW,ats,psz]
  ·have:D.toNat=0:=by omega
   simp[bW,this]
theorem rW:∀(L:List Part) (_h:0<L.length) (p:Part),bW (L.set (L.length-1) p)=bW L.dropLast++ats p
 | [q],h,p=>by simp[bW]
 | q :: r :: L, h, p => by
   have ih:=rW (r::L) ab p;simp only[cI,tD]at ih⊢;rw[GW,bW,ih];simp[bW]
theorem Bh:∀(L:List Part) (h:0<L.length),bW L=bW L.dropLast++ats (L[L.length-1]' aa)
 | [q],h=>by simp[bW]
 | q :: r :: L, h => by
   have ih:=Bh (r::L) ab;simp only[cI,tD]at ih⊢;rw[bW,ih];simp[bW]
theorem WT{L:List Part}{n:Int}(hn:0<n)(hL:∀q∈L,0<=q.n)(hk:∀q∈L,q.kind=1->q.signs=[]):bW (dN L n)=bW L++List.replicate n.toNat .k:=by
 unfold dN
 split
 ·rename_i h
  split
  ·rename_i k
   have h1:=hL _ (ak (show L.length-1<L.length from aa));have h2:=hk _ (ak (show L.length-1<L.length from aa)) k;rw[rW L h,Bh L h,cj]
   congr 1
   generalize L[L.length-1]' aa=q at h1 h2 k;obtain⟨a,b,c⟩:=q;simp only at h1 h2 k;subst k h2;simp[ats,psz,List.replicate_append_replicate];omega
  ·rw[jL]
   simp[bW,ats,psz]
 ·rename_i h
  have:L=[]:=aA aa;subst this;simp[bW,ats,psz]
theorem xN{L:List Part}{P:List Int}{D:Int}(h:∀q∈L,q.kind=1->q.signs=[]):∀q∈bN L P D,q.kind=1->q.signs=[]:=by
 intro q hq hk;unfold bN at hq;rcases aP.1 hq with hq|hq
 ·exact h q hq hk
 ·rcases aP.1 hq with hq|hq
  ·split at hq
   ·simp at hq
   ·simp at hq;subst hq;simp at hk
  ·split at hq
   ·simp at hq;subst hq;rfl
   ·simp at hq
theorem JX{L:List Part}{n:Int}(h:∀q∈L,q.kind=1->q.signs=[]):∀q∈dN L n,q.kind=1->q.signs=[]:=by
 intro q hq hk;unfold dN at hq
 split at hq
 ·rename_i hl
  split at hq
  ·rename_i k
   rcases iH hq with hq|rfl
   ·exact h q hq hk
   ·exact(h (L[L.length-1]' aa) (ak _) k :)
  ·rcases aP.1 hq with hq|hq
   ·exact h q hq hk
   ·simp at hq;subst hq;rfl
 ·simp at hq;subst hq;rfl
theorem HF{o:List Part}(ho:∀p∈o,bb p):∀(i:Nat),i<=o.length->(∀q∈(cr (o.take i)).1,q.kind=1->q.signs=[])/\0<=(cr (o.take i)).2.2/\(∀q∈(cr (o.take i)).1,0<=q.n) /\
 ∀l,qK (bW (o.take i)++l)=bW (cr (o.take i)).1++nA (cr (o.take i)).2.1 (cr (o.take i)).2.2.toNat l
 |0,_=>by simp[cr,bW,qK]
 | i + 1, hi => by
   obtain⟨h1,h2,h3,h4⟩:=HF ho i aa;have hlt:i<o.length:=aa;have hq:=(pt ho (i+1) hi);have hp:=(ho _ (ak hlt));have hb:=hp.bounds;refine⟨?_,hq.d0,λq hq'=>(hq.q q hq').1,λl=>?_⟩
   ·rw[kB hlt]
    unfold gz
    split
    ·exact h1
    ·split
     ·exact h1
     ·split
      ·exact JX (xN h1)
      ·exact h1
   ·rw[<-bd hlt,jL,cj,h4,bd hlt,kB hlt]
    generalize cr (o.take i)=s at h1 h2 h3;generalize o[i]=p at hp hb;obtain⟨L,P,D⟩:=s;simp only at h1 h2 h3;simp only[bW,bO];unfold gz;by_cases k2:p.kind=2
    ·simp only[k2,du]
     rw[show ats p=p.signs.map At.p by unfold ats;rw[an k2],OY]
    ·by_cases k3:p.kind=3
     ·have hs:=hb.2.2.2.2.2 k2
      have e:(D+p.n).toNat=D.toNat+p.n.toNat:=aa;simp only[k3,du];rw[show ats p=List.replicate (psz p) .d by unfold ats;rw[aq k2,an k3],O0];simp[e,psz,hs]
     ·have k1:p.kind=1:=by omega
      have hs:=hb.2.2.2.2.2 k2;have e:ats p=List.replicate p.n.toNat .k:=by unfold ats;rw[aq k2,aq k3];simp[psz,hs]
      simp only[k2,k3,dv];rw[e]
      split
      ·rename_i hn
       have hfl:∀q∈bN L P D,0<=q.n:=by
        intro q hq';unfold bN at hq';rcases aP.1 hq' with hq'|hq'
        ·exact h3 q hq'
        ·rcases aP.1 hq' with hq'|hq'
         ·split at hq'
          ·simp at hq'
          ·simp at hq';subst hq';simp
         ·split at hq'
          ·simp at hq';subst hq';simp;omega
          ·simp at hq'
       simp only;rw[WT hn hfl (xN h1),Ix];obtain⟨m,hm⟩:∃m,p.n.toNat=m+1:=⟨p.n.toNat-1,aa⟩;rw[hm];simp[bA,bP,nA,Ym]
      ·have:p.n.toNat=0:=by omega
       simp[this]
theorem lL{o:List Part}(ho:∀p∈o,bb p):bW (normal o)=qK (bW o):=by
 have h:=(HF ho o.length (aH _)).2.2.2 [];rw[cU,bO]at h;unfold normal;rw[Ix,h];unfold bA;simp[nA]
theorem Ar(l:List At):frA (qK l)=frA l:=by unfold qK;rw[OZ];omega
theorem Aq(l:List At):toA (qK l)=toA l:=by unfold qK;rw[OX];simp
def tA:List At->List At->List At×List At
 | .p c::a,b=>(.p c::(tA a b).1,.k::(tA a b).2)
 | [],.p c::b=>(.k::(tA [] b).1,.p c::(tA [] b).2)
 | .k::a,.p c::b=>(.k::(tA (.k::a) b).1,.p c::(tA (.k::a) b).2)
 | .d::a,.p c::b=>(.k::(tA (.d::a) b).1,.p c::(tA (.d::a) b).2)
 | .k::a,.k::b=>(.k::(tA a b).1,.k::(tA a b).2)
 | .k::a,.d::b=>((tA a b).1,.d::(tA a b).2)
 | .d::a,.k::b=>(.d::(tA a b).1,(tA a b).2)
 | .d::a,.d::b=>tA a b
 | [],_=>([],[])
 |_,[]=>([],[])
termination_by a b=>a.length+b.length
def noP:List At->Bool
 | .p _::_=>false
 |_=>true
theorem adc{c:Int}{a b:List At}:tA (.p c::a) b=(.p c::(tA a b).1,.k::(tA a b).2):=by rw[tA]
theorem adb{c:Int}{a b:List At}(h:noP a=true):tA a (.p c::b)=(.k::(tA a b).1,.p c::(tA a b).2):=by
 match a,h with
 | [],_=>rw[tA]
 | .k::a,_=>rw[tA]
 | .d::a,_=>rw[tA]
theorem Ye{a b:List At}:∀Q:List Int,tA (Q.map At.p++a) b=(Q.map At.p++(tA a b).1,List.replicate Q.length .k++(tA a b).2)
 | []=>ab
 |c::Q=>by simp[adc,Ye Q,bP]
theorem SF{a b:List At}(h:noP a=true):∀Q:List Int,tA a (Q.map At.p++b)=(List.replicate Q.length .k++(tA a b).1,Q.map At.p++(tA a b).2)
 | []=>ab
 |c::Q=>by simp[adb h,SF h Q,bP]
theorem Yf{a b:List At}:∀n:Nat,tA (List.replicate n .k++a) (List.replicate n .k++b)=(List.replicate n .k++(tA a b).1,List.replicate n .k++(tA a b).2)
 |0=>ab
 |n+1=>by simp[bP,tA,Yf n]
theorem Yg{a b:List At}:∀n:Nat,tA (List.replicate n .k++a) (List.replicate n .d++b)=((tA a b).1,List.replicate n .d++(tA a b).2)
 |0=>ab
 |n+1=>by simp[bP,tA,Yg n]
theorem Yh{a b:List At}:∀n:Nat,tA (List.replicate n .d++a) (List.replicate n .k++b)=(List.replicate n .d++(tA a b).1,(tA a b).2)
 |0=>ab
 |n+1=>by simp[bP,tA,Yh n]
theorem Yi{a b:List At}:∀n:Nat,tA (List.replicate n .d++a) (List.replicate n .d++b)=tA a b
 |0=>ab
 |n+1=>by simp[bP,tA,Yi n]
theorem kN:∀{x:List Part},(∀p∈x,bb p)->bW (nxt x)=bW x
 | [],_=>rfl
 | p :: l, h => by
   have ih:=kN (x:=l) (λq hq=>h q (aC _ hq));unfold nxt
   split
   ·rename_i hz
    rw[ih,bW]
    have:ats p=[]:=by
     have hp:=h p (aJ ..);unfold ats
     split
     ·rename_i k;rw[OR hp k]at hz;simp[aA hz]
     ·split<;>simp[hz]
    simp[this]
   ·rfl
theorem xc{p:Part}(h:bb p){n:Nat}(hn:n<=psz p):ats p=ats (iI p n)++ats (cJ p n):=by
 have hb:=h.bounds;by_cases k2:p.kind=2
 ·unfold ats iI cJ
  simp only[k2,du];rw[<-fR,dV]
 ·have hs:=hb.2.2.2.2.2 k2
  have hz:psz p=p.n.toNat:=by simp[psz,hs]
  have e:p.n.toNat=n+(p.n-n).toNat:=aa;by_cases k3:p.kind=3
  ·unfold ats iI cJ
   simp only[k3,du];simp[psz,hs];omega
  ·unfold ats iI cJ
   simp only[k2,dv,k3];simp[psz,hs];omega
theorem Bg{p:Part}(h:bb p):ats (cJ p (psz p))=[]:=by
 have h1:=xc h (aH (psz p));rw[gp h]at h1
 simpa using h1
theorem Ps{p:Part}(_h:bb p)(k:p.kind≠2):ats p=if p.kind=3 then List.replicate (psz p) .d else List.replicate (psz p) .k:=by unfold ats;rw[aq k]
theorem tw{p:Part}(h:bb p)(k:p.kind≠2){n:Nat}(hn:n<=psz p):ats (iI p n)=if p.kind=3 then List.replicate n .d else List.replicate n .k:=by
 have hs:=h.bounds.2.2.2.2.2 k;have:psz (iI p n)=n:=by unfold psz iI;rw[aq k];simp[hs]
 rw[Ps (s8 h hn) (by simpa using k),this];simp
theorem XA{p:Part}(h:bb p)(k:p.kind≠2)(hp:0<psz p)(l:List At):noP (ats p++l)=true:=by
 rw[Ps h k];obtain⟨m,hm⟩:∃m,psz p=m+1:=⟨psz p-1,aa⟩;rw[hm]
 split<;>simp[bP,noP]
theorem zF{x y:List Part}(hi:TInv x y)(h:fT x y=none):nxt x=[]/\nxt y=[]:=by
 have hxt:=m5 x;have hyf:=m5 y;have hb:=hi.b;unfold fT at h
 cases ex:nxt x with
 | nil =>
   rw[ex]at h hxt
   cases ey:nxt y with
   |nil=>exact⟨rfl,rfl⟩
   | cons q y' =>
     rw[ey]at hyf;have hp:=iD ey;simp only[ey]at h
     split at h
     ·cases h
     ·rename_i k
      simp[frs,k]at hxt hyf;omega
 | cons p x' =>
   rw[ex]at h hxt;have hp:=iD ex;simp only at h
   split at h
   ·cases h
   ·rename_i k
    cases ey:nxt y with
    | nil =>
      rw[ey]at hyf;simp[frs,k]at hxt hyf;omega
    | cons q y' =>
      simp only[ey]at h
      split at h<;>cases h
theorem RI:∀(k:Nat) {x y:List Part},TInv x y->tsz x+tsz y<=k->(bW (xfK k x y).1,bW (xfK k x y).2)=tA (bW x) (bW y)
 | 0, x, y, hi, h => by
   have hn:fT x y=none:=by
    exact Et
   obtain⟨e1,e2⟩:=zF hi hn;rw[<-kN hi.px,<-kN hi.py,e1,e2];simp[xfK,bW,tA]
 | k + 1, x, y, hi, h => by
   rw[xfK]
   cases hs:fT x y with
   | none =>
     obtain⟨e1,e2⟩:=zF hi hs;rw[<-kN hi.px,<-kN hi.py,e1,e2];simp[bW,tA]
   | some r =>
     have hn:=gV hi hs;have hd:=hn.dec;have ih:=RI k hn.inv aa;simp only[jL];rw[<-kN hi.px,<-kN hi.py];generalize xfK k r.2.1 r.2.2=Z at ih⊢;unfold fT at hs
     cases ex:nxt x with
     | nil =>
       rw[ex]at hs
       cases ey:nxt y with
       |nil=>simp[ey]at hs
       | cons q y' =>
         have hq:=ka hi.py ey;simp only[ey]at hs
         split at hs
         ·rename_i kq
          cases hs
          simp only[bW,Bg hq.1,iM]at ih;simp only[bW,gp hq.1,bO];rw[show ats q=q.signs.map At.p by unfold ats;rw[an kq],SF rfl,<-ih];simp[ats,psz]
         ·cases hs
     | cons p x' =>
       rw[ex]at hs;have hp:=ka hi.px ex;have hpp:=iD ex;simp only at hs
       split at hs
       ·rename_i kp
        cases hs
        simp only[bW,Bg hp.1,iM]at ih;simp only[bW,gp hp.1,bO,kN hi.py];rw[show ats p=p.signs.map At.p by unfold ats;rw[an kp],Ye,<-ih];simp[ats,psz]
       ·rename_i kp
        cases ey:nxt y with
        |nil=>simp[ey]at hs
        | cons q y' =>
          have hq:=ka hi.py ey;have hqp:=iD ey;simp only[ey]at hs
          split at hs
          ·rename_i kq
           cases hs
           simp only[bW,Bg hq.1,iM]at ih;simp only[bW,gp hq.1,bO];rw[show ats q=q.signs.map At.p by unfold ats;rw[an kq],SF (XA hp.1 kp hpp _),<-ih];simp[ats,psz]
          ·rename_i kq
           cases hs
           have hn1:min (psz p) (psz q)<=psz p:=aa;have hn2:min (psz p) (psz q)<=psz q:=aa;simp only[bW]at ih⊢;rw[xc hp.1 hn1,xc hq.1 hn2,tw hp.1 kp hn1,tw hq.1 kq hn2,cj,cj];have hb1:=hp.1.bounds.1;have hb2:=hq.1.bounds.1;generalize min (psz p) (psz q)=n at ih hn1 hn2⊢;by_cases k1:p.kind=3<;>by_cases k2:q.kind=3
           ·have e1:¬p.kind=1:=by omega
            have e2:¬q.kind=1:=aa;simp only[k1,k2,du,Yi,<-ih];simp[bW]
           ·have e1:¬p.kind=1:=by omega
            have e2:q.kind=1:=aa;simp only[k1,k2,du,dv,Yh,<-ih];simp[bW,e2,tw hp.1 kp hn1,k1]
           ·have e1:p.kind=1:=by omega
            have e2:¬q.kind=1:=aa;simp only[k1,k2,du,dv,Yg,<-ih];simp[bW,e1,tw hq.1 kq hn2,k2]
           ·have e1:p.kind=1:=by omega
            have e2:q.kind=1:=aa;simp only[k1,k2,dv,Yf,<-ih];simp[bW,e1,e2,tw hp.1 kp hn1,tw hq.1 kq hn2]
theorem acn{x y:List Part}(hi:TInv x y):(bW (xf x y).1,bW (xf x y).2)=tA (bW x) (bW y):=RI _ hi (aH _)
theorem ur:∀(a b:List At),frA a=frA b->frA (tA a b).1=toA b/\frA (tA a b).2=toA a/\toA (tA a b).1=toA (tA a b).2
 | .p c :: a, b, h => by
   have ih:=ur a b u6;rw[adc];simp[frA,toA];omega
 | [], .p c :: b, h => by
   have ih:=ur [] b u6;exact D2
 | .k :: a, .p c :: b, h => by
   have ih:=ur (.k::a) b u6;exact D2
 | .d :: a, .p c :: b, h => by
   have ih:=ur (.d::a) b u6;exact D2
 | .k :: a, .k :: b, h => by
   exact Ei
 | .k :: a, .d :: b, h => by
   exact Ei
 | .d :: a, .k :: b, h => by
   exact Ei
 | .d :: a, .d :: b, h => by
   have ih:=ur a b u6;rw[tA];simp[toA];omega
 | [],[],h=>by simp[tA,frA,toA]
 | [],.k::b,h=>by simp[frA]at h
 | [],.d::b,h=>by simp[frA]at h
 | .k::a,[],h=>by simp[frA]at h
 | .d::a,[],h=>by simp[frA]at h
termination_by a b=>a.length+b.length
theorem Yc{x y:List Part}(hi:TInv x y):(∀p∈(xf x y).1,bb p)/\∀p∈(xf x y).2,bb p:=by
 have key:∀(k:Nat) {x y:List Part},TInv x y->(∀p∈(xfK k x y).1,bb p)/\∀p∈(xfK k x y).2,bb p:=by
  intro k
  induction k with
  |zero=>intro x y hi;simp[xfK]
  | succ k ih =>
    intro x y hi;rw[xfK]
    cases hs:fT x y with
    |none=>simp
    | some r =>
      have hn:=gV hi hs;have h2:=ih hn.inv;simp only[aP];exact⟨λp hp=>hp.elim (hn.okx p) (h2.1 p),λp hp=>hp.elim (hn.oky p) (h2.2 p)⟩
 exact key _ hi
structure TrOk(a b:List Part):Prop where
 oka:dH a
 okb:dH b
 from_:db a=db b
 okx:dH (bu a b).1
 oky:dH (bu a b).2.1
 fx:db (bu a b).1=oT b
 fy:db (bu a b).2.1=oT a
 to:oT (bu a b).1=oT (bu a b).2.1
 ax:bW (bu a b).1=qK (tA (bW a) (bW b)).1
 ay:bW (bu a b).2.1=qK (tA (bW a) (bW b)).2
theorem B6{a b:List Part}(h:(bu a b).2.2=true):TrOk a b:=by
 unfold bu at h
 split at h
 ·rename_i h1
  split at h
  ·rename_i h2
   have e:bu a b=(normal (xf a b).1,normal (xf a b).2,true):=by unfold bu;rw[an h1,an h2]
   have hi:=yB h1.1 h1.2.1 h1.2.2;have hat:=acn hi;have hk:=Yc hi;have e1:bW (xf a b).1=(tA (bW a) (bW b)).1:=by rw[<-hat]
   have e2:bW (xf a b).2=(tA (bW a) (bW b)).2:=by rw[<-hat]
   have l:=ur (bW a) (bW b) (by rw[<-uG,<-uG];exact hi.b);have n1:=lL hk.1;have n2:=lL hk.2;have f1:=pC h2.1;have f2:=pC h2.2;have t1:=wo h2.1;have t2:=wo h2.2;have t3:=wo h1.1;have t4:=wo h1.2.1;rw[uG,n1,Ar,e1,l.1]at f1;rw[uG,n2,Ar,e2,l.2.1]at f2;rw[wq h2.1.1.1,n1,Aq,e1]at t1;rw[wq h2.2.1.1,n2,Aq,e2]at t2;rw[wq h1.1.1.1]at t3;rw[wq h1.2.1.1.1]at t4;rw[e1]at n1;rw[e2]at n2;refine⟨h1.1,h1.2.1,h1.2.2,?_,?_,?_,?_,?_,?_,?_⟩<;>rw[e]
   ·exact h2.1
   ·exact h2.2
   ·simp only;omega
   ·simp only;omega
   ·simp only;have:=l.2.2;omega
   ·exact n1
   ·exact n2
  ·simp at h
 ·simp at h
end Go.Proofs.YtklblkobegcljaaGreat
