import Derived.Test.YtklblkobegcljaaGreatPD
import Derived.Test.YtklblkobegcljaaGreatMH
import Derived.Shelf.RegionOpenPlain
import Derived.Test.YtklblkobegcljaaGreatPH
import Derived.Test.YtklblkobegcljaaGreatPI
import Derived.Test.YtklblkobegcljaaGreatPJ
import Derived.Test.YtklblkobegcljaaGreatNA
import Derived.Test.YtklblkobegcljaaGreatMF
namespace Go.Proofs.YtklblkobegcljaaGreat
open Go.AM Go.RowKit
set_option maxRecDepth 100000
set_option maxHeartbeats 4000000
set_option linter.unusedVariables false
set_option linter.unusedSimpArgs false
theorem zc(w:World)(us xs:List Value)(n i b o C bv ov Cv:Nat)(cs cv:Array Value)(T Tv:TypeId)(hul:us.length=n*2)(hxl:xs.length=2)(hi:i<n)(hroom:n+1<=C)(hC:C<=maxLen)
 (hb:w.heap[b]? = some (.cells cs T (0,0))) (hfit:o+C*2<=cs.size) (hcs:∀j,j<n*2->cs.getD (o+j) undef=us.getD j undef) (h1:∀v∈us,v.oneCell'=true)
 (hbv:w.heap[bv]? = some (.cells cv Tv (0,0))) (hCv:1<=Cv) (hfv:ov+Cv*2<=cv.size) (hcv:∀j,j<2->cv.getD (ov+j) undef=xs.getD j undef) (h1v:∀v∈xs,v.oneCell'=true) (hne:bv≠b) :
 Calls Tryz.prog 88 #[.slice (some ⟨b,o,none⟩) n C,.int .i64 i,.slice (some ⟨bv,ov,none⟩) 1 Cv] w λe w'=>
  e=.returned (.slice (some ⟨b,o,none⟩) (n+1) C)/\Placed w w' (some b) b o C (n+1) 2 (us.take (i*2)++xs++us.drop (i*2)):=by
 have u0:=bf Tryz.underlying36;have mixed:Tryz.prog.follows .mixedOrders=true:=al;obtain⟨i0,z0,hi0,hzs,hzb,hz0,hzc,-⟩:=(aw 104 _ B3).info;have hzs:i0.size=2:=hzs;have hC63:C<=9223372036854775807:=ri;have hz1:¬((1:Int)=0):=aa;have hz2:¬((i:Int)=(n:Int)):=aa;have hdl:(us.drop (i*2)).length=(n-i)*2:=rh
 have hov:∀lb cb,(callFunc 147 #[.slice (some ⟨bv,ov,none⟩) 1 Cv,.slice (some ⟨b,o+(i*2+2),none⟩) lb cb]).run Tryz.prog w=.ok (.value (.bool false)) w:=λlb cb=>by
  rw[GO Tryz.func147 al al al (e:=Extern.SlicesOverlaps.overlaps #[36,36] #[4]) al,
   Ag w 36 4 104 Tryz.underlying36 2 Tryz.sizeOf104 ⟨bv,ov,none⟩ ⟨b,o+(i*2+2),none⟩ 1 Cv lb cb hne Tv T cv.size cs.size (by simp[World.shape?,hbv]) (by simp[World.shape?,hb]) aa rf rf]
  rfl
 have hmm:(n+1)*2<=C*2:=aq _ hroom;have hii:i*2+2<=n*2:=by have:=aq 2 (show i+1<=n from aa);omega
 have e1:(i+1)*2=i*2+2:=bD i 2;have e2:(n+1)*2=n*2+2:=bD n 2;have e3:(n-i)*2=n*2-i*2:=tD n i 2;obtain⟨cs1,hcs1⟩:∃c,c=(cs.toList.take (o+(i+1)*2)++us.drop (i*2)++cs.toList.drop (o+(i+1)*2+(us.drop (i*2)).length)).toArray:=⟨_,rfl⟩;obtain⟨s1,g1⟩:=dy cs (o+(i+1)*2) (us.drop (i*2)) aa;rw[<-hcs1]at s1 g1
 have hcp1:∀(W:World),W.heap=w.heap->∀ty dl dc sl sc,Nat.min sl dl=n-i->(Builtin.copy_ #[36,36] ty #[.slice (some ⟨b,o+(i*2+2),none⟩) dl dc,.slice (some ⟨b,o+i*2,none⟩) sl sc]).run Tryz.prog W=.ok (goInt (n-i:Nat)) (W.setRow b cs1):=λW hW ty dl dc sl sc hm=>by
  have hb':W.heap[b]? = some (.cells cs T (0,0)):=by rw[hW];exact hb
  rw[hcs1,e1]
  exact ga Tryz.underlying36 hi0 hb' ⟨b,o+i*2,none⟩ (us.drop (i*2)) (n-i) hm re
   (λj v hj=>by
    rw[dx];refine fJ hb' (o:=o+i*2) (vs:=us.drop (i*2)) (λj hj=>?_) aa j v hj;rw[eF,hcs _ aa];simp[aS])
   (λv hv=>h1 v (ba hv)) aa
 obtain⟨cs2,hcs2⟩:∃c,c=(cs1.toList.take (o+i*2)++xs++cs1.toList.drop (o+i*2+xs.length)).toArray:=⟨_,rfl⟩;obtain⟨s2,g2⟩:=dy cs1 (o+i*2) xs aa;rw[<-hcs2]at s2 g2
 have hcp2:∀(W:World),W.heap[b]? = some (.cells cs1 T (0,0))->W.heap[bv]? = some (.cells cv Tv (0,0))->∀ty dl dc,0<dl->(Builtin.copy_ #[36,36] ty #[.slice (some ⟨b,o+i*2,none⟩) dl dc,.slice (some ⟨bv,ov,none⟩) 1 Cv]).run Tryz.prog W=.ok (goInt (1:Nat)) (W.setRow b cs2):=λW hW hWv ty dl dc hm=>by
  rw[hcs2]
  exact ga Tryz.underlying36 hi0 hW ⟨bv,ov,none⟩ xs 1 jr gZ
   (λj v hj=>by
    rw[dx];exact fJ hWv (λj hj=>hcv j aa) aa j v hj)
   h1v aa
 have hw1:IntKind.i64.wrap ((i:Int)+1)=(i:Int)+1:=rb;have hb1:(0:Int)<=(i:Int)+1:=aa;have hin:i<=n:=aa;have htn:((i:Int)+1).toNat=i+1:=aa;have hb2:¬(C=i+1):=aa;have hb3:(i:Int)<=(n:Int)+1:=aa;have hb4:¬(C=i):=aa
 go_enter Tryz.func88,Tryz.ntmps88
 go_wp2_with (simp only[hov])
 have hE:=hcp1 w.drew rfl 3 (n-i) (C-(i+1)) (n+1-i) (C-i) jr;have hE2:=hcp2 (w.drew.setRow b cs1) Ci Ch 3 (n+1-i) (C-i) aa
 have hP:Placed w ((w.drew.setRow b cs1).setRow b cs2) (some b) b o C (n+1) 2 (us.take (i*2)++xs++us.drop (i*2)):=by
  refine⟨⟨cs2,T,dK _ b cs1 cs2 T (0,0) (dK w.drew b cs cs1 T (0,0) hb),aa,λj hj=>?_⟩,hroom,hC,ab,⟨rfl,rfl,rfl⟩,.inr rfl,λc _ hc=>?_⟩
  ·rw[g2,g1]
   have hl:(us.take (i*2)).length=i*2:=aM;simp only[aS];rw[bX];by_cases c1:j<i*2
   ·exact De
   ·rw[bd aa,hl]
    by_cases c2:j<i*2+2
    ·exact CK
    ·exact Df
  ·exact CE
 clear hcs1 hcs2
 go_region
 go_wp2
 go_ret
 all_goals exact⟨rfl,hP⟩
theorem o8(w:World)(a:Option Addr)(n C bv ov Cv:Nat)(r:Value)(w1:World)(hnC:n<=C)(hC:C<=maxLen)
 (hr:∀ty,(Builtin.append_ #[36,36] ty #[.slice a n C,.slice (some ⟨bv,ov,none⟩) 1 Cv]).run Tryz.prog w=.ok r w1) :
 Calls Tryz.prog 88 #[.slice a n C,.int .i64 n,.slice (some ⟨bv,ov,none⟩) 1 Cv] w λe w'=>e=.returned r/\w'=w1:=by
 have u0:=bf Tryz.underlying36;have mixed:Tryz.prog.follows .mixedOrders=true:=al;have hC63:C<=9223372036854775807:=ri;have hz1:¬((1:Int)=0):=aa
 cases a with
 | none =>
   exact Jp
 | some q =>
   exact Jp
theorem Az(w:World)(us xs:List Value)(n i b o C bv ov Cv:Nat)(cs cv:Array Value)(T Tv:TypeId)(hul:us.length=n*2)(hxl:xs.length=2)(hi:i<n)(hnc:n<=C)(hroom:C<n+1)(hbig:(n+1)*sq.bytes<=140737488355328)
 (hb:w.heap[b]? = some (.cells cs T (0,0))) (hfit:o+C*2<=cs.size) (hcs:∀j,j<n*2->cs.getD (o+j) undef=us.getD j undef) (h1:∀v∈us,v.oneCell'=true)
 (hbv:w.heap[bv]? = some (.cells cv Tv (0,0))) (hCv:1<=Cv) (hfv:ov+Cv*2<=cv.size) (hcv:∀j,j<2->cv.getD (ov+j) undef=xs.getD j undef) (h1v:∀v∈xs,v.oneCell'=true) :
 Calls Tryz.prog 88 #[.slice (some ⟨b,o,none⟩) n C,.int .i64 i,.slice (some ⟨bv,ov,none⟩) 1 Cv] w λe w'=>
  ∃nC,e=.returned (.slice (some ⟨w.heap.size,0,none⟩) (n+1) nC)/\Placed w w' (some b) w.heap.size 0 nC (n+1) 2 (us.take (i*2)++xs++us.drop (i*2)):=by
 have u0:=bf Tryz.underlying36;have mixed:Tryz.prog.follows .mixedOrders=true:=al;obtain⟨i0,z0,hi0,hzs,hzb,hz0,hzc,-⟩:=(aw 104 _ B3).info;have hzz:=iY hzc;have hzs:i0.size=2:=hzs;have hzb:i0.bytes=sq.bytes:=hzb;have hby:0<sq.bytes:=ah;have hzz:z0.cells.size=2:=hzz;have hnb:(n+1)<=140737488355328:=dW (bY _ hby) hbig;have hz1:¬((1:Int)=0):=aa;have hz2:¬((i:Int)=(n:Int)):=aa;have hz3:(C:Int)<(n:Int)+1:=aa;have hmm:n*2<=C*2:=aq _ hnc;have hii:i*2+2<=n*2:=by have:=aq 2 (show i+1<=n from aa);omega
 have e1:(i+1)*2=i*2+2:=bD i 2;have e2:(n+1)*2=n*2+2:=bD n 2;have e3:(n-i)*2=n*2-i*2:=tD n i 2;have hdl:(us.drop (i*2)).length=(n-i)*2:=rh;have htl:(us.take (i*2)).length=i*2:=aM;have hbw:b<w.heap.size:=fo hb;have hvw:bv<w.heap.size:=fo hbv;have hkk:(n:Int)+1-(i:Int)=((n+1-i:Nat):Int):=aa;have hik:i+(n+1-i)=n+1:=aa
 have hold:(Builtin.firstCells i0.size i (.slice (some ⟨b,o,none⟩) i C)).run Tryz.prog w.drew=.ok (us.take (i*2)).toArray w.drew:=by
  rw[hzs]
  exact lS w.drew 2 i ⟨b,o,none⟩ i C (us.take (i*2)) (by rw[htl]) (λj v hj=>by
   rw[dx]
   exact fJ (w:=w.drew) (o:=o) (vs:=us.take (i*2)) (cs:=cs) (T:=T) hb (λj hj=>by
    rw[hcs _ aa];rw[htl]at hj;simp only[aS,cN,ao hj]) aa j v hj)
 have hrz:∀ty,(Builtin.append_ #[36,3] ty #[.slice (some ⟨b,o,none⟩) i C,.int .i64 ((n:Int)+1-(i:Int))]).run Tryz.prog w =
  .ok (.slice (some ⟨w.heap.size,0,none⟩) (n+1) (grownCap w (n+1) C 104)) (w.drew.alloc (.cells ((us.take (i*2)).toArray++Builtin.zeroCells z0.cells (n+1-i)++Builtin.zeroCells z0.cells (grownCap w (n+1) C 104-(n+1))) 104)):=λty=>by
  have h:=u5 w 36 3 ty 104 i0 z0 .i64 .i64 Tryz.underlying36 Tryz.underlying3 hi0 hz0 (some ⟨b,o,none⟩) i C (us.take (i*2)) hold (n+1-i) aa aa aa aa (by rw[hzb];have:=aq sq.bytes (show n+1-i<=n+1 from aa);omega) Cg;rw[hik]at h;rw[hkk];exact h
 obtain⟨G,hG⟩:∃G,G=grownCap w (n+1) C 104:=⟨_,rfl⟩;obtain⟨ROW,hROW⟩:∃ROW:Array Value,ROW=(us.take (i*2)).toArray++Builtin.zeroCells z0.cells (n+1-i)++Builtin.zeroCells z0.cells (G-(n+1)):=⟨_,rfl⟩;rw[<-hG]at hrz;rw[<-hROW]at hrz;have hGn:n+1<=G:=Cf;have hGm:G<=maxLen:=by rw[hG];exact dr w (n+1) C 104 gP
 have hG63:G<=9223372036854775807:=by unfold maxLen at hGm;omega
 have hRs:ROW.size=G*2:=by
  exact Dd
 have hGK:(n+1)*2<=G*2:=aq _ hGn
 have hRg:∀j,j<i*2->ROW.getD j undef=us.getD j undef:=by
  exact Dn
 obtain⟨W1,hW1⟩:∃W1,W1=w.drew.alloc (.cells ROW 104):=⟨_,rfl⟩;rw[<-hW1]at hrz;have hN:W1.heap[w.heap.size]? = some (.cells ROW 104 (0,0)):=Ce;have hO:∀c,c<w.heap.size->W1.heap[c]? = w.heap[c]?:=λc hc=>Cd
 have hS:W1.heap.size=w.heap.size+1:=by rw[hW1];simp
 obtain⟨cs1,hcs1⟩:∃c,c=(ROW.toList.take (i*2)++xs++ROW.toList.drop (i*2+xs.length)).toArray:=⟨_,rfl⟩;obtain⟨s1,g1⟩:=dy ROW (i*2) xs aa;rw[<-hcs1]at s1 g1
 have hcpA:=ga (P:=Tryz.prog) (w:=W1) (ty:=3) Tryz.underlying36 hi0 (dl:=n+1-i) (dc:=G-i) (o:=i*2) hN ⟨bv,ov,none⟩ (sl:=1) (sc:=Cv) xs 1 jr gZ
  (λj v hj=>by
   rw[dx];exact fJ (by rw[hO _ hvw];exact hbv) (λj hj=>hcv j aa) aa j v hj) h1v aa
 rw[<-hcs1]at hcpA;have hN1:(W1.setRow w.heap.size cs1).heap[w.heap.size]? = some (.cells cs1 104 (0,0)):=dK _ _ _ _ _ _ hN;obtain⟨cs2,hcs2⟩:∃c,c=(cs1.toList.take (i*2+2)++us.drop (i*2)++cs1.toList.drop (i*2+2+(us.drop (i*2)).length)).toArray:=⟨_,rfl⟩;obtain⟨s2,g2⟩:=dy cs1 (i*2+2) (us.drop (i*2)) aa;rw[<-hcs2]at s2 g2;have hbN:b≠w.heap.size:=aa
 have hcpB:=ga (P:=Tryz.prog) (w:=(W1.setRow w.heap.size cs1).drew) (ty:=3) Tryz.underlying36 hi0 (dl:=n-i) (dc:=G-(i+1)) (o:=i*2+2) hN1 ⟨b,o+i*2,none⟩ (sl:=n-i) (sc:=C-i) (us.drop (i*2)) (n-i) jr re
  (λj v hj=>by
   rw[dx]
   have hb':(W1.setRow w.heap.size cs1).drew.heap[b]? = some (.cells cs T (0,0)):=by
    exact C5
   refine fJ hb' (o:=o+i*2) (vs:=us.drop (i*2)) (λj hj=>?_) aa j v hj;rw[eF,hcs _ aa];simp[aS])
  (λv hv=>h1 v (ba hv)) aa
 rw[<-hcs2]at hcpB
 have hP:Placed w ((W1.setRow w.heap.size cs1).drew.setRow w.heap.size cs2) (some b) w.heap.size 0 G (n+1) 2 (us.take (i*2)++xs++us.drop (i*2)):=by
  refine⟨⟨cs2,104,dK _ _ cs1 cs2 _ (0,0) hN1,aa,λj hj=>?_⟩,hGn,hGm,?_,?_,.inl (aF _),λc hc hne=>?_⟩
  ·rw[cE,g2,g1]
   simp only[aS];rw[bX];by_cases c1:j<i*2
   ·exact Di
   ·rw[bd aa,htl]
    by_cases c2:j<i*2+2
    ·exact CQ
    ·exact C9
  ·simp[hS]
  ·rw[hW1];exact⟨rfl,rfl,rfl⟩
  ·exact C8
 have hw1:IntKind.i64.wrap ((i:Int)+1)=(i:Int)+1:=rb;have hb1:(0:Int)<=(i:Int)+1:=aa;have hin:i<=n:=aa;have htn:((i:Int)+1).toNat=i+1:=aa;have hGi:¬(G=i):=aa;have hGim:¬(G=i+1):=aa;have hci:¬(C=i):=aa;have hb3:(i:Int)<=(n:Int):=aa
 clear hkk hik hold hROW hG hcs1 hcs2 hN hN1 hO hS hRs hRg hW1
 go_enter Tryz.func88,Tryz.ntmps88
 go_wp2_with (first
  |(at_builtin;refine AX _ rfl _ _ _ _ rfl _ _ rfl rfl _ _ (hrz _) ?_)
  |(at_builtin;refine kN _ rfl _ _ 36 36 rfl _ _ rfl rfl hcpA ?_))
 go_region
 go_wp2
 go_ret
 all_goals exact⟨_,rfl,hP⟩
theorem o9:yr Tryz.prog 88 2 sq.bytes:=by
 refine⟨⟨_,Tryz.func88,al,al⟩,λw us xs n i s v ob bv0 hul hxl hi hbig hs hv hap=>?_⟩;obtain⟨i0,z0,hi0,hzs,hzb,hz0,hzc,-⟩:=(aw 104 _ B3).info;have hzz:=iY hzc;have hzs:i0.size=2:=hzs;have hzb:i0.bytes=sq.bytes:=hzb;have hby:0<sq.bytes:=ah;have hzz:z0.cells.size=2:=hzz;have hnb:(n+1)<=140737488355328:=dW (bY _ hby) hbig;rcases hv with⟨h0,-⟩|⟨bv,ov,Cv,cv,Tv,rfl,rfl,hbv,hCv,hCvm,hfv,hcv,h1v⟩
 ·omega
 have hcellv:∀j v,xs[j]? = some v->w.cell? (Addr.add ⟨bv,ov,none⟩ j)=some v:=λj v hj=>by
  exact CW
 have fresh:∀(C0 nC:Nat) (rest:Array Value) (ob:Option Nat),n+1<=nC->nC<=maxLen->rest.size=(nC-(n+1))*2 ->
  Placed w (w.drew.alloc (.cells (us.toArray++xs.toArray++rest) 104)) ob w.heap.size 0 nC (n+1) 2 (us.take (n*2)++xs++us.drop (n*2)):=by
  intro C0 nC rest ob h1 h2 h3;have e:nC*2=n*2+2+(nC-(n+1))*2:=Cc;refine⟨⟨_,_,qq w.drew _,by simp[hul,hxl,h3];omega,λj hj=>?_⟩,h1,h2,ab,⟨rfl,rfl,rfl⟩,.inl (aF _),λc hc _=>oA w.drew _ hc⟩;rw[aC aa,bg aa,bI,cE];have e2:(n+1)*2=n*2+2:=bD n 2;simp only[aT,aS];rw[du aM,BY,gW]
 rcases hs with⟨rfl,rfl,a,rfl⟩|⟨b,o,C,cs,T,rfl,rfl,hb,hnC,hCm,hfit,hcs,h1⟩
 ·obtain rfl:i=0:=by omega
  have hun:us=[]:=aA aa;subst hun;have hrun:=λty=>i7 (P:=Tryz.prog) (w:=w) (ty:=ty) Tryz.underlying36 hi0 hz0 a ⟨bv,ov,none⟩ 1 Cv xs gZ hcellv aa aa (by rw[hzb];omega)
  refine(o8 w a 0 0 bv ov Cv _ _ (aF _) gP hrun).mono ?_
  rintro e w' ⟨rfl,rfl⟩
  have hge:=kV w 1 0 104;have hcm:=dr w 1 0 104 gP;refine⟨_,_,_,rfl,?_⟩;have:=fresh 0 (grownCap w 1 0 104) (Builtin.zeroCells z0.cells (grownCap w 1 0 104-1)) none hge hcm (by rw[gY,hzz]);exact i4
 ·by_cases hin:i=n
  ·subst hin
   by_cases hroom:i+1<=C
   ·have hmm:(i+1)*2<=C*2:=aq _ hroom
    have e2:(i+1)*2=i*2+2:=bD i 2;have hrun:=λty=>Go.AM.run_append_room (P:=Tryz.prog) (ty:=ty) (c:=Cv) (n:=i) (m:=1) Tryz.underlying36 hi0 hb ⟨bv,ov,none⟩ xs gZ hcellv h1v hroom (by rw[hzs];exact hfit)
    refine(o8 w _ i C bv ov Cv _ _ hnC hCm hrun).mono ?_
    rintro e w' ⟨rfl,rfl⟩
    obtain⟨g0,g⟩:=dy cs (o+i*i0.size) xs (by rw[hzs];omega);refine⟨_,_,_,rfl,⟨_,_,dK w b cs _ T (0,0) hb,by rw[g0];exact hfit,λj hj=>?_⟩,hroom,hCm,ab,⟨rfl,rfl,rfl⟩,.inr rfl,λc _ hc=>sk w b c _ hc⟩;rw[g,hzs,aC aa,bg aa,bI];by_cases c1:j<i*2
    ·exact C7
    ·exact Da
   ·have hrun:=λty=>qV (P:=Tryz.prog) w 36 ty 104 i0 z0 Tryz.underlying36 hi0 hz0 ⟨b,o,none⟩ i C us (by rw[hzs];exact hul) (λj v hj=>by
     rw[dx];have:=aq 2 hnC;exact fJ hb (λj hj=>hcs j aa) aa j v hj) ⟨bv,ov,none⟩ 1 Cv xs gZ hcellv aa aa (by rw[hzb];exact tC aa hbig)
    refine(o8 w _ i C bv ov Cv _ _ hnC hCm hrun).mono ?_
    rintro e w' ⟨rfl,rfl⟩
    have hge:=kV w (i+1) C 104;have hcm:=dr w (i+1) C 104 gP;exact CJ
  ·by_cases hroom:n+1<=C
   ·refine(zc w us xs n i b o C bv ov Cv cs cv T Tv hul hxl aa hroom hCm hb hfit hcs h1 hbv hCv hfv (λj hj=>hcv j aa) h1v (λh=>hap b rfl en)).mono ?_
    exact CB
   ·refine(Az w us xs n i b o C bv ov Cv cs cv T Tv hul hxl aa hnC aa hbig hb hfit hcs h1 hbv hCv hfv (λj hj=>hcv j aa) h1v).mono ?_
    exact CF
open Go.AM
set_option maxRecDepth 20000
set_option maxHeartbeats 12800000
theorem p8{l:List Queue}(hp:l.Pairwise yh){name:ByteArray}(i:Nat)(hi:i<l.length)(h:l[i].doc=name):bH name l=i:=by
 have hon:=λ{k:Nat} h1 h2=>jm (name:=name) (l:=l) (k:=k) h1 h2
 rcases Nat.lt_trichotomy (bH name l) i with hlt|e|hgt
 ·have h1:=sQ.1 hp (bH name l) i aa hi hlt
  have h2:=(hon (aF _) aa).1 (by unfold yh at h1;rw[h]at h1;exact h1);omega
 ·exact e
 ·have:=(hon aa hi).2 hgt
  rw[h]at this;exact absurd this (mF name)
theorem If(w:Wld)(hl:bL w<=2^30)(k:Nat)(hy:(iT w k).2=true):lK Tryz.prog 8 [.agg w.row,.c (vi k)] (λrr=>rr=.tup [.agg (iT w k).1.res,.c (.v (.bool true)) 1]):=by
 have c0:cS w/\¬w.step=1000000/\(0<=(k:Int)/\(k:Int)<=(w.tasks.length:Int)-1):=aW λc=>Ca
 obtain⟨c1,hs,-,hk⟩:=c0;have hk:k<w.tasks.length:=aa;have hab:=(th c1 hs hk).1 hy;have hat:=mM c1 hs hk;have hwo:=lh w aa;have hcp:=qF w aa;have hao:=lj w aa c1 k hk;obtain⟨nh,n2,n3,n4⟩:=dn hl;have hle:=aY n4;have hlq:=aY n3;have hhb:=(ln c1.2.1).1;have htk:=(c1.1 _ (aj hk))
 obtain⟨t,ht⟩:∃t,w.tasks[k]=t:=⟨_,rfl⟩;rw[ht]at htk hab hat hao;have hm:=λg=>nv (f:=Task.row) hk ht g
 have hs1:=i6 t.c.doc c1.2.2.1.1;have hdsz:=htk.1.2.1;have ew:Go.IntKind.i64.wrap (w.step+1)=w.step+1:=ae _ xq;rw[hat]at hy⊢;refine EY aw Tryz.func8 al rfl rfl rfl (ai rfl) (λw0 base o=>?_);simp[Wld.row];intro b2 b4;refine ag.ro hwo fc ?_;simp[c1];refine ag.ro hao fc ?_;simp[hs,hab];refine ag.pure hcp fc ?_;simp[Wld.res,hk];intro H1 H2 H3 H4 H5 b6;refine aZ.quiet eok mix al ?_;simp[hk,ht,Task.row];refine⟨_,_,kB t.c.doc aa w.locks.length aa aa,ab,?_⟩;simp;have hs2:=hs1.2;have hdo:=Rz w.h aa t.c xp;by_cases p0:t.pc=0
 ·simp[p0,hk,ht,Task.row]
  refine ag.ro (dY t.c.kind) ab ?_;by_cases d:cO t.c.kind
  ·rw[lI p0 d (hab.1 ⟨p0,d⟩)]
   simp[d,hs2,hm,hk,Task.row,ew]
  ·rw[jR p0 d]
   simp[az d,hk,ht,Task.row,p0];exact Mg
 by_cases p1:t.pc=1
 ·rw[jn p1]
  simp[p1,hs2,hk,ht,Task.row];have hdoc:=eS w.h aa t.c.doc;obtain⟨q0,hq0⟩:∃q:Prop,q=(¬t.c.kind=2\/w.h.shut=true\/bq w.h.docs t.c.doc<0):=⟨_,rfl⟩;by_cases q:q0
  ·rw[mn qX]
   refine dV (λ_:Unit=>[(89,.v (.bool (dc q0)))]) (λ_=>[]) [1,4,6,7] ?_ ?_
   ·exact ma
   intro _;simp[q];exact Mg
  have q':¬(¬t.c.kind=2\/w.h.shut=true\/bq w.h.docs t.c.doc<0):=qX;have hal:=lg t.c.doc w.queues;have hon:=λ{k:Nat} h1 h2=>jm (name:=t.c.doc) (l:=w.queues) (k:=k) h1 h2
  have hpw:=(ue.1 c1.2.2.2.2.2.2.2).ord;have hsame:∀i,∀hi:i<w.queues.length,w.queues[i].doc=t.c.doc->bH t.c.doc w.queues=i:=p8 hpw;have hi1:∀x:Int,aI x=[CD.v (.int .i64 x)]:=λ_=>rfl
  rcases kn w.queues t.c.doc with⟨i,hi,eq,hd⟩|eq
  ·have ha:=hsame i hi hd
   by_cases fl:w.queues[i].list.length=2
   ·rw[mo q' hi eq fl]
    refine dV (λ_:Unit=>[(89,.v (.bool (dc q0)))]) (λ_=>[]) [1,4,6,7] ?_ ?_
    ·exact ma
    intro _;simp[az q];refine inl aw Tryz.func38 30000 (λw3 F3=>?_);simp[hk,ht,Task.row]
    refine aH eok (λm:Nat=>m<=bH t.c.doc w.queues) (λm=>⟨96,30000,[(6,.v (.int .i64 m)),(5,.v (.string t.c.doc)),(0,.p 96 b6 0),(1,.v (.int .i64 k))],
     (324,.rows H3 1 ((w.locks.map aI).set (bS t.c.doc w.locks.length) [.v (.int .i64 (-1))]) true)::(96,.vars b6 39 [.v (.bool w.h.shut),.sl 321 H1 5 0 w.h.docs.length,.sl 322 H2 6 0 w.h.subs.length,.v (.int .i64 w.h.last),.sl 324 H3 1 0 w.locks.length,.sl 325 H4 2 0 w.queues.length,.sl 326 H5 15 0 w.tasks.length,.v (.int .i64 w.step)]) ::  (326,.rows H5 15 (w.tasks.map Task.row) true)::(325,.rows H4 2 (w.queues.map Queue.row) true)::(322,.rows H2 6 (w.h.subs.map Sub.row) true)::(321,.rows H1 5 (w.h.docs.map Doc.row) true)::(64,.vars b4 39 [.v (.bool false),.nil,.nil,.v (.int .i64 0),.nil,.nil,.nil,.v (.int .i64 0)]) ::  phs o⟩) (λm=>w.queues.length-m) 0 ab ab (λm hmm=>Ent.refl ?_)
    by_cases hlt:m<w.queues.length
    rotate_left
    ·exfalso;omega
    obtain⟨x,hx⟩:∃x,w.queues[m]=x:=⟨_,rfl⟩;have hiff:=hon hmm hlt;rw[hx]at hiff;simp[hlt,hx,Queue.row];by_cases s:sLt x.doc t.c.doc
    ·exact tV
    have hma:m=i:=by
     have:¬m<bH t.c.doc w.queues:=λh=>s (hiff.2 h)
     omega
    subst hma;have hmne:¬(m:Int)=w.queues.length:=aa;rw[hx]at fl hd;simp[hmne,hlt,hx,hd,fl,Queue.row,az (mF t.c.doc),hk,hm,bm,fg,ew,Task.row,hi1]
   ·have hqa:=(aW (p:=hI w.h w.queues i) λhn=>fL hi (gE hi hn) c1.2.2.2.2.2.2.2) hi
    have hpos:0<w.queues[i].list.length:=hqa.2.1.1;have hle2:=hqa.2.1.2;have hrow:∀d,lN (w.queues.map Queue.row) i 1 d=(w.queues.map Queue.row).set i [.v (.string w.queues[i].doc),d]:=λd=>nv (f:=Queue.row) hi rfl _
    rw[mm q' hi eq fl]
    refine aZ.weak (⟨125,0,[(1,.v (.int .i64 k)),(4,.p 64 b4 0),(6,.p 96 b6 0),(7,.e 326 H5 15 k 0)],
     (324,.rows H3 1 ((w.locks.map aI).set (bS t.c.doc w.locks.length) [.v (.int .i64 (-1))]) true)::(96,.vars b6 39 [.v (.bool w.h.shut),.sl 321 H1 5 0 w.h.docs.length,.sl 322 H2 6 0 w.h.subs.length,.v (.int .i64 w.h.last),.sl 324 H3 1 0 w.locks.length,.sl 325 H4 2 0 w.queues.length,.sl 326 H5 15 0 w.tasks.length,.v (.int .i64 w.step)])::(326,.rows H5 15 (w.tasks.map Task.row) true)::(325,.rows H4 2 (w.queues.map Queue.row) true)::(322,.rows H2 6 (w.h.subs.map Sub.row) true)::(321,.rows H1 5 (w.h.docs.map Doc.row) true)::(64,.vars b4 39 [.v (.bool false),.nil,.nil,.v (.int .i64 0),.nil,.nil,.nil,.v (.int .i64 0)])::phs o⟩) ab ?_
    refine aZ.open (λ_ h=>h) (k:=325) (i:=i) (j:=1) (k':=60000) (sz':=1) (sz:=2) (H:=H4) (rows:=w.queues.map Queue.row) (srows:=w.queues[i].list.map aI) (row:=w.queues[i].row) ab (by simp[hi]) rfl ab ah ju qW (λG=>?_);simp only[hrow];refine dV (λ_:Unit=>[(89,.v (.bool (dc q0)))]) (λ_=>[]) [1,4,6,7] ?_ ?_
    ·exact ma
    intro _;simp[az q];refine inl aw Tryz.func38 30000 (λw3 F3=>?_);simp[hk,ht,Task.row]
    refine aH eok (λm:Nat=>m<=bH t.c.doc w.queues) (λm=>⟨96,30000,[(6,.v (.int .i64 m)),(5,.v (.string t.c.doc)),(0,.p 96 b6 0),(1,.v (.int .i64 k))],
     (324,.rows H3 1 ((w.locks.map aI).set (bS t.c.doc w.locks.length) [.v (.int .i64 (-1))]) true)::(96,.vars b6 39 [.v (.bool w.h.shut),.sl 321 H1 5 0 w.h.docs.length,.sl 322 H2 6 0 w.h.subs.length,.v (.int .i64 w.h.last),.sl 324 H3 1 0 w.locks.length,.sl 325 H4 2 0 w.queues.length,.sl 326 H5 15 0 w.tasks.length,.v (.int .i64 w.step)])::(60000,.rows G 1 (w.queues[i].list.map aI) true)::(326,.rows H5 15 (w.tasks.map Task.row) true)::(325,.rows H4 2 ((w.queues.map Queue.row).set i [.v (.string w.queues[i].doc),.h 60000 G 1 w.queues[i].list.length]) true)::(322,.rows H2 6 (w.h.subs.map Sub.row) true)::(321,.rows H1 5 (w.h.docs.map Doc.row) true)::(64,.vars b4 39 [.v (.bool false),.nil,.nil,.v (.int .i64 0),.nil,.nil,.nil,.v (.int .i64 0)]) ::  phs o⟩) (λm=>w.queues.length-m) 0 ab ab (λm hmm=>Ent.refl ?_)
    by_cases hlt:m<w.queues.length
    rotate_left
    ·exfalso;omega
    by_cases hmi:m=i
    rotate_left
    ·exact Lz
    subst hmi;have hmne:¬(m:Int)=w.queues.length:=aa;have fl':¬(w.queues[m].list.length:Int)=2:=aa;simp[hlt,hd,az (mF t.c.doc),hmne,fl'];refine drw eok mix [0,1,2,3,4,5,6,7,8,9,10,11,12,13,16,17] [14,15,18] (.c 16 14 4 65531 (.c 16 15 8 65523 (.c 16 18 65521 2 (.l 16 2) .s) .s) .s) ?_;simp[hlt,hpos,bm]
    try intros
    simp[Queue.row,hk,hm,fg,ew,Task.row,hi1];omega
  ·rw[nF q' eq]
   refine aZ.weak (⟨125,0,[(1,.v (.int .i64 k)),(4,.p 64 b4 0),(6,.p 96 b6 0),(7,.e 326 H5 15 k 0)],
    (324,.rows H3 1 ((w.locks.map aI).set (bS t.c.doc w.locks.length) [.v (.int .i64 (-1))]) true)::(96,.vars b6 39 [.v (.bool w.h.shut),.sl 321 H1 5 0 w.h.docs.length,.sl 322 H2 6 0 w.h.subs.length,.v (.int .i64 w.h.last),.sl 324 H3 1 0 w.locks.length,.sl 325 H4 2 0 w.queues.length,.sl 326 H5 15 0 w.tasks.length,.v (.int .i64 w.step)])::(326,.rows H5 15 (w.tasks.map Task.row) true)::(325,.rows H4 2 (w.queues.map Queue.row) true)::(322,.rows H2 6 (w.h.subs.map Sub.row) true)::(321,.rows H1 5 (w.h.docs.map Doc.row) true)::(64,.vars b4 39 [.v (.bool false),.nil,.nil,.v (.int .i64 0),.nil,.nil,.nil,.v (.int .i64 0)])::phs o⟩) ab ?_
   refine dV (λ_:Unit=>[(89,.v (.bool (dc q0)))]) (λ_=>[]) [1,4,6,7] ?_ ?_
   ·exact ma
   intro _;simp[az q];refine dw aw Tryz.func38 al rfl rfl rfl (ai rfl) 30000 rfl ab ?_;simp[hk,ht,Task.row]
   refine aH eok (λm:Nat=>m<=bH t.c.doc w.queues) (λm=>⟨96,30000,[(6,.v (.int .i64 m)),(5,.v (.string t.c.doc)),(0,.p 96 b6 0),(1,.v (.int .i64 k))],
    (324,.rows H3 1 ((w.locks.map aI).set (bS t.c.doc w.locks.length) [.v (.int .i64 (-1))]) true)::(96,.vars b6 39 [.v (.bool w.h.shut),.sl 321 H1 5 0 w.h.docs.length,.sl 322 H2 6 0 w.h.subs.length,.v (.int .i64 w.h.last),.sl 324 H3 1 0 w.locks.length,.sl 325 H4 2 0 w.queues.length,.sl 326 H5 15 0 w.tasks.length,.v (.int .i64 w.step)]) ::  (326,.rows H5 15 (w.tasks.map Task.row) true)::(325,.rows H4 2 (w.queues.map Queue.row) true)::(322,.rows H2 6 (w.h.subs.map Sub.row) true)::(321,.rows H1 5 (w.h.docs.map Doc.row) true)::(64,.vars b4 39 [.v (.bool false),.nil,.nil,.v (.int .i64 0),.nil,.nil,.nil,.v (.int .i64 0)]) ::  phs o⟩) (λm=>w.queues.length-m) 0 ab ab (λm hmm=>Ent.refl ?_)
   have hnone:∀j,∀hj:j<w.queues.length,¬w.queues[j].doc=t.c.doc:=by
    exact Li
   generalize bH t.c.doc w.queues=a at hal hon hmm;by_cases hlt:m<w.queues.length
   ·obtain⟨x,hx⟩:∃x,w.queues[m]=x:=⟨_,rfl⟩
    have hiff:=hon hmm hlt;have hxn:=hnone m hlt;rw[hx]at hiff hxn;simp[hlt,hx,Queue.row];by_cases s:sLt x.doc t.c.doc
    ·exact tV
    have hka:m=a:=by
     exact Cx
    subst hka;have hmn:min m w.queues.length=m:=aa;have hmne:¬(m:Int)=w.queues.length:=aa;simp[az s,hmne,hxn,hlt,hx,Queue.row];intro b65;refine gw o9 ah (n:=w.queues.length) (rows:=w.queues.map Queue.row) (row:=[.v (.string t.c.doc),.s []]) (k:=325) (kv:=31024) (own:=true) (ownv:=true) (i:=m) ab ab ab ah (by simp;try omega) aM (λH6=>?_);obtain⟨Z,hZ⟩:∃Z,Z=(w.queues.map Queue.row).take m++[.v (.string t.c.doc),.s []]::(w.queues.map Queue.row).drop m:=⟨_,rfl⟩;have hZl:Z.length=w.queues.length+1:=xo;have hZm:m<Z.length:=aa;have hZe:Z[m]=[.v (.string t.c.doc),.s []]:=by subst hZ;rw[fB m4];simp[dT hal]
    have hZs:∀d,lN Z m 1 d=Z.set m [.v (.string t.c.doc),d]:=λd=>xn
    have hZt:∀r,Z.set m r=(w.queues.map Queue.row).take m++r::(w.queues.map Queue.row).drop m:=λr=>by subst hZ;rw[dJ _ _ m4];simp[dT hal]
    rw[<-hZ];have hml:(m:Int)<(w.queues.length:Int)+1:=aa;have hml2:m<w.queues.length+1:=aa;simp[hZl,hZe,hml,hml2]
    refine aZ.weak (⟨96,30000,[(6,.v (.int .i64 (m:Nat))),(0,.p 96 b6 0),(1,.v (.int .i64 k))],
     (324,.rows H3 1 ((w.locks.map aI).set (bS t.c.doc w.locks.length) [.v (.int .i64 (-1))]) true)::(96,.vars b6 39 [.v (.bool w.h.shut),.sl 321 H1 5 0 w.h.docs.length,.sl 322 H2 6 0 w.h.subs.length,.v (.int .i64 w.h.last),.sl 324 H3 1 0 w.locks.length,.sl 325 H6 2 0 (w.queues.length+1),.sl 326 H5 15 0 w.tasks.length,.v (.int .i64 w.step)])::(326,.rows H5 15 (w.tasks.map Task.row) true)::(325,.rows H6 2 Z true)::(322,.rows H2 6 (w.h.subs.map Sub.row) true)::(321,.rows H1 5 (w.h.docs.map Doc.row) true)::(64,.vars b4 39 [.v (.bool false),.nil,.nil,.v (.int .i64 0),.nil,.nil,.nil,.v (.int .i64 0)])::phs o⟩) ab ?_
    refine aZ.open (λ_ h=>h) (k:=325) (i:=m) (j:=1) (k':=60000) (sz':=1) (sz:=2) (H:=H6) (rows:=Z) (srows:=[]) (row:=[.v (.string t.c.doc),.s []]) ab xk rfl ab ah ab qW (λG=>?_);exact LX
   have hka:m=w.queues.length:=aa;have hka2:a=w.queues.length:=aa;subst hka2;subst hka;simp;intro b65;refine gw o9 ah (n:=w.queues.length) (rows:=w.queues.map Queue.row) (row:=[.v (.string t.c.doc),.s []]) (k:=325) (kv:=31024) (own:=true) (ownv:=true) (i:=w.queues.length) ab ab ab ah (by simp;try omega) aM (λH6=>?_);obtain⟨Z,hZ⟩:∃Z,Z=(w.queues.map Queue.row).take w.queues.length++[.v (.string t.c.doc),.s []]::(w.queues.map Queue.row).drop w.queues.length:=⟨_,rfl⟩;have hZl:Z.length=w.queues.length+1:=xo;have hZm:w.queues.length<Z.length:=aa;have hZe:Z[w.queues.length]=[.v (.string t.c.doc),.s []]:=by subst hZ;rw[fB m4];simp[dT hal]
   have hZs:∀d,lN Z w.queues.length 1 d=Z.set w.queues.length [.v (.string t.c.doc),d]:=λd=>xn
   have hZt:∀r,Z.set w.queues.length r=(w.queues.map Queue.row).take w.queues.length++r::(w.queues.map Queue.row).drop w.queues.length:=λr=>by subst hZ;rw[dJ _ _ m4];simp[dT hal]
   rw[<-hZ];have hml:(w.queues.length:Int)<(w.queues.length:Int)+1:=aa;have hml2:w.queues.length<w.queues.length+1:=aa;simp[hZl,hZe,hml,hml2]
   refine aZ.weak (⟨96,30000,[(6,.v (.int .i64 (w.queues.length:Nat))),(0,.p 96 b6 0),(1,.v (.int .i64 k))],
    (324,.rows H3 1 ((w.locks.map aI).set (bS t.c.doc w.locks.length) [.v (.int .i64 (-1))]) true)::(96,.vars b6 39 [.v (.bool w.h.shut),.sl 321 H1 5 0 w.h.docs.length,.sl 322 H2 6 0 w.h.subs.length,.v (.int .i64 w.h.last),.sl 324 H3 1 0 w.locks.length,.sl 325 H6 2 0 (w.queues.length+1),.sl 326 H5 15 0 w.tasks.length,.v (.int .i64 w.step)])::(326,.rows H5 15 (w.tasks.map Task.row) true)::(325,.rows H6 2 Z true)::(322,.rows H2 6 (w.h.subs.map Sub.row) true)::(321,.rows H1 5 (w.h.docs.map Doc.row) true)::(64,.vars b4 39 [.v (.bool false),.nil,.nil,.v (.int .i64 0),.nil,.nil,.nil,.v (.int .i64 0)])::phs o⟩) ab ?_
   refine aZ.open (λ_ h=>h) (k:=325) (i:=w.queues.length) (j:=1) (k':=60000) (sz':=1) (sz:=2) (H:=H6) (rows:=Z) (srows:=[]) (row:=[.v (.string t.c.doc),.s []]) ab xk rfl ab ah ab qW (λG=>?_);exact LX
 have p3:t.pc=3:=by
  have h1:=htk.2.2.1;have h2:=hab.2;omega
 rw[lH p3];simp[p3,hm,bm,Task.row,hk,ht,ew]
def Mv(w:Wld)(k:Nat):Prop:=∃hk:k<w.tasks.length,vf w.h w.tasks[k].c/\w.tasks[k].pc=0
theorem DJ{α:Type}{f:α->List CD}{n:Nat}(hf:∀a,(f a).length=n){l:List α}{k:Nat}{r:List CD}(hr:r.length=n):∀row∈(l.map f).set k r,row.length=n:=by
 intro row h;rcases kW h with h|rfl
 ·obtain⟨a,-,rfl⟩:=cF.1 h;exact hf a
 ·exact hr
theorem FM{l:List Task}{k:Nat}{r:List CD}(hr:r.length=15):∀row∈(l.map Task.row).set k r,row.length=15:=DJ (f:=Task.row) (n:=15) (λ_=>rfl) hr
theorem adY{l:List Queue}{k:Nat}{r:List CD}(hr:r.length=2):∀row∈(l.map Queue.row).set k r,row.length=2:=DJ (f:=Queue.row) (n:=2) (λ_=>rfl) hr
theorem N4{l:List Int}{k:Nat}{r:List CD}(hr:r.length=1):∀row∈(l.map aI).set k r,row.length=1:=DJ (f:=aI) (n:=1) (λ_=>rfl) hr
theorem VV{l:List Queue}{m:Nat}{r:List CD}(hr:r.length=2):∀row:List CD,row∈(l.map Queue.row).take m\/row=r\/row∈(l.map Queue.row).drop m->row.length=2:=by
 rintro row (h|rfl|h)
 ·obtain⟨a,-,rfl⟩:=cF.1 (bu h);rfl
 ·exact hr
 ·obtain⟨a,-,rfl⟩:=cF.1 (ba h);rfl
theorem Ic(w:Wld)(hl:bL w<=2^30)(k:Nat)(hy:(iT w k).2=true)(hns:¬Mv w k):ar Tryz.prog 8 [.agg w.row,.c (vi k)] (.tup [.agg (iT w k).1.res,.c (.v (.bool true)) 1]):=by
 have c0:cS w/\¬w.step=1000000/\(0<=(k:Int)/\(k:Int)<=(w.tasks.length:Int)-1):=aW λc=>Ca
 obtain⟨c1,hs,-,hk⟩:=c0;have hk:k<w.tasks.length:=aa;have hab:=(th c1 hs hk).1 hy;have hat:=mM c1 hs hk;have hwo:=lh w aa;have hcp:=qF w aa;have hao:=lj w aa c1 k hk;obtain⟨nh,n2,n3,n4⟩:=dn hl;have hle:=aY n4;have hlq:=aY n3;have hhb:=(ln c1.2.1).1;have htk:=(c1.1 _ (aj hk))
 obtain⟨t,ht⟩:∃t,w.tasks[k]=t:=⟨_,rfl⟩;rw[ht]at htk hab hat hao;have hm:=λg=>nv (f:=Task.row) hk ht g
 have hs1:=i6 t.c.doc c1.2.2.1.1;have hdsz:=htk.1.2.1;have ew:Go.IntKind.i64.wrap (w.step+1)=w.step+1:=ae _ xq;rw[hat]at hy⊢;refine ar.introL aw Tryz.func8 al rfl rfl rfl (ai rfl) rfl (λw0 base us hrd=>?_);simp[Wld.row]at hrd;obtain⟨r1,r2,r3,r4,r5⟩:=hrd;simp[Wld.row];intro b2 b4;refine ag.pure hwo tJ ?_;simp[c1];refine ag.pure hao tJ ?_;simp[hs,hab];refine ag.pure hcp tJ ?_;simp[Wld.res,hk];intro H1 H2 H3 H4 H5 b6;refine aZ.quiet eok mix al ?_;simp[hk,ht,Task.row];refine⟨_,_,kB t.c.doc aa w.locks.length aa aa,ab,?_⟩;simp;have hs2:=hs1.2
 have hdo:t.pc=0\/t.pc=1->ar Tryz.prog 85 [.agg w.h.row,.agg t.c.row] (.tup [.agg (fDo w.h t.c).1.res,.agg (fDo w.h t.c).2.res]):=λhp=>by
  refine Ov w.h aa t.c xp λsh=>?_
  rcases hp with hp|hp
  ·exact hns ⟨hk,by rw[ht];exact sh,by rw[ht];exact hp⟩
  ·have h1:=htk.2.2.2.1 hp
   have h2:=sh.2.2.1;unfold cO at h1;omega
 by_cases p0:t.pc=0
 ·have hdo:=hdo (.inl p0)
  simp[p0,hk,ht,Task.row];refine ag.ro (dY t.c.kind) ab ?_;by_cases d:cO t.c.kind
  ·rw[lI p0 d (hab.1 ⟨p0,d⟩)]
   simp[d,hs2,hm,hk,Task.row,ew];exact⟨N4 rfl,FM rfl⟩
  ·rw[jR p0 d]
   simp[az d,hk,ht,Task.row,p0];exact Mf
 by_cases p1:t.pc=1
 ·have hdo:=hdo (.inr p1)
  rw[jn p1];simp[p1,hs2,hk,ht,Task.row];have hdoc:=eS w.h aa t.c.doc;obtain⟨q0,hq0⟩:∃q:Prop,q=(¬t.c.kind=2\/w.h.shut=true\/bq w.h.docs t.c.doc<0):=⟨_,rfl⟩;by_cases q:q0
  ·rw[mn qX]
   refine dV (λ_:Unit=>[(89,.v (.bool (dc q0)))]) (λ_=>[]) [1,4,6,7] ?_ ?_
   ·exact ma
   intro _;simp[q];exact Mf
  have q':¬(¬t.c.kind=2\/w.h.shut=true\/bq w.h.docs t.c.doc<0):=qX;have hal:=lg t.c.doc w.queues;have hon:=λ{k:Nat} h1 h2=>jm (name:=t.c.doc) (l:=w.queues) (k:=k) h1 h2
  have hpw:=(ue.1 c1.2.2.2.2.2.2.2).ord;have hsame:∀i,∀hi:i<w.queues.length,w.queues[i].doc=t.c.doc->bH t.c.doc w.queues=i:=p8 hpw;have hi1:∀x:Int,aI x=[CD.v (.int .i64 x)]:=λ_=>rfl
  rcases kn w.queues t.c.doc with⟨i,hi,eq,hd⟩|eq
  ·have ha:=hsame i hi hd
   by_cases fl:w.queues[i].list.length=2
   ·rw[mo q' hi eq fl]
    refine dV (λ_:Unit=>[(89,.v (.bool (dc q0)))]) (λ_=>[]) [1,4,6,7] ?_ ?_
    ·exact ma
    intro _;simp[az q];refine inl aw Tryz.func38 30000 (λw3 F3=>?_);simp[hk,ht,Task.row]
    refine aH eok (λm:Nat=>m<=bH t.c.doc w.queues) (λm=>⟨96,30000,[(6,.v (.int .i64 m)),(5,.v (.string t.c.doc)),(0,.p 96 b6 0),(1,.v (.int .i64 k))],
     (324,.rows H3 1 ((w.locks.map aI).set (bS t.c.doc w.locks.length) [.v (.int .i64 (-1))]) true)::(96,.vars b6 39 [.v (.bool w.h.shut),.sl 321 H1 5 0 w.h.docs.length,.sl 322 H2 6 0 w.h.subs.length,.v (.int .i64 w.h.last),.sl 324 H3 1 0 w.locks.length,.sl 325 H4 2 0 w.queues.length,.sl 326 H5 15 0 w.tasks.length,.v (.int .i64 w.step)]) ::  (326,.rows H5 15 (w.tasks.map Task.row) true)::(325,.rows H4 2 (w.queues.map Queue.row) true)::(322,.rows H2 6 (w.h.subs.map Sub.row) true)::(321,.rows H1 5 (w.h.docs.map Doc.row) true)::(64,.vars b4 39 [.v (.bool false),.nil,.nil,.v (.int .i64 0),.nil,.nil,.nil,.v (.int .i64 0)]) ::  []⟩) (λm=>w.queues.length-m) 0 ab ab (λm hmm=>Ent.refl ?_)
    by_cases hlt:m<w.queues.length
    rotate_left
    ·exfalso;omega
    obtain⟨x,hx⟩:∃x,w.queues[m]=x:=⟨_,rfl⟩;have hiff:=hon hmm hlt;rw[hx]at hiff;simp[hlt,hx,Queue.row];by_cases s:sLt x.doc t.c.doc
    ·exact tV
    have hma:m=i:=by
     have:¬m<bH t.c.doc w.queues:=λh=>s (hiff.2 h)
     omega
    subst hma;have hmne:¬(m:Int)=w.queues.length:=aa;rw[hx]at fl hd;simp[hmne,hlt,hx,hd,fl,Queue.row,az (mF t.c.doc),hk,hm,bm,fg,ew,Task.row,hi1];exact⟨N4 rfl,FM rfl⟩
   ·have hqa:=(aW (p:=hI w.h w.queues i) λhn=>fL hi (gE hi hn) c1.2.2.2.2.2.2.2) hi
    have hpos:0<w.queues[i].list.length:=hqa.2.1.1;have hle2:=hqa.2.1.2;have hrow:∀d,lN (w.queues.map Queue.row) i 1 d=(w.queues.map Queue.row).set i [.v (.string w.queues[i].doc),d]:=λd=>nv (f:=Queue.row) hi rfl _
    rw[mm q' hi eq fl]
    refine aZ.weak (⟨125,0,[(1,.v (.int .i64 k)),(4,.p 64 b4 0),(6,.p 96 b6 0),(7,.e 326 H5 15 k 0)],
     (324,.rows H3 1 ((w.locks.map aI).set (bS t.c.doc w.locks.length) [.v (.int .i64 (-1))]) true)::(96,.vars b6 39 [.v (.bool w.h.shut),.sl 321 H1 5 0 w.h.docs.length,.sl 322 H2 6 0 w.h.subs.length,.v (.int .i64 w.h.last),.sl 324 H3 1 0 w.locks.length,.sl 325 H4 2 0 w.queues.length,.sl 326 H5 15 0 w.tasks.length,.v (.int .i64 w.step)])::(326,.rows H5 15 (w.tasks.map Task.row) true)::(325,.rows H4 2 (w.queues.map Queue.row) true)::(322,.rows H2 6 (w.h.subs.map Sub.row) true)::(321,.rows H1 5 (w.h.docs.map Doc.row) true)::(64,.vars b4 39 [.v (.bool false),.nil,.nil,.v (.int .i64 0),.nil,.nil,.nil,.v (.int .i64 0)])::[]⟩) ab ?_
    refine aZ.open (λ_ h=>h) (k:=325) (i:=i) (j:=1) (k':=60000) (sz':=1) (sz:=2) (H:=H4) (rows:=w.queues.map Queue.row) (srows:=w.queues[i].list.map aI) (row:=w.queues[i].row) ab (by simp[hi]) rfl ab ah ju qW (λG=>?_);simp only[hrow];refine dV (λ_:Unit=>[(89,.v (.bool (dc q0)))]) (λ_=>[]) [1,4,6,7] ?_ ?_
    ·exact ma
    intro _;simp[az q];refine inl aw Tryz.func38 30000 (λw3 F3=>?_);simp[hk,ht,Task.row]
    refine aH eok (λm:Nat=>m<=bH t.c.doc w.queues) (λm=>⟨96,30000,[(6,.v (.int .i64 m)),(5,.v (.string t.c.doc)),(0,.p 96 b6 0),(1,.v (.int .i64 k))],
     (324,.rows H3 1 ((w.locks.map aI).set (bS t.c.doc w.locks.length) [.v (.int .i64 (-1))]) true)::(96,.vars b6 39 [.v (.bool w.h.shut),.sl 321 H1 5 0 w.h.docs.length,.sl 322 H2 6 0 w.h.subs.length,.v (.int .i64 w.h.last),.sl 324 H3 1 0 w.locks.length,.sl 325 H4 2 0 w.queues.length,.sl 326 H5 15 0 w.tasks.length,.v (.int .i64 w.step)])::(60000,.rows G 1 (w.queues[i].list.map aI) true)::(326,.rows H5 15 (w.tasks.map Task.row) true)::(325,.rows H4 2 ((w.queues.map Queue.row).set i [.v (.string w.queues[i].doc),.h 60000 G 1 w.queues[i].list.length]) true)::(322,.rows H2 6 (w.h.subs.map Sub.row) true)::(321,.rows H1 5 (w.h.docs.map Doc.row) true)::(64,.vars b4 39 [.v (.bool false),.nil,.nil,.v (.int .i64 0),.nil,.nil,.nil,.v (.int .i64 0)]) ::  []⟩) (λm=>w.queues.length-m) 0 ab ab (λm hmm=>Ent.refl ?_)
    by_cases hlt:m<w.queues.length
    rotate_left
    ·exfalso;omega
    by_cases hmi:m=i
    rotate_left
    ·exact Lz
    subst hmi;have hmne:¬(m:Int)=w.queues.length:=aa;have fl':¬(w.queues[m].list.length:Int)=2:=aa;simp[hlt,hd,az (mF t.c.doc),hmne,fl'];refine drw eok mix [0,1,2,3,4,5,6,7,8,9,10,11,12,13,16,17] [14,15,18] (.c 16 14 4 65531 (.c 16 15 8 65523 (.c 16 18 65521 2 (.l 16 2) .s) .s) .s) ?_;simp[hlt,hpos,bm]
    try intros
    simp[Queue.row,hk,hm,fg,ew,Task.row,hi1];exact⟨aa,N4 rfl,adY rfl,FM rfl⟩
  ·rw[nF q' eq]
   refine aZ.weak (⟨125,0,[(1,.v (.int .i64 k)),(4,.p 64 b4 0),(6,.p 96 b6 0),(7,.e 326 H5 15 k 0)],
    (324,.rows H3 1 ((w.locks.map aI).set (bS t.c.doc w.locks.length) [.v (.int .i64 (-1))]) true)::(96,.vars b6 39 [.v (.bool w.h.shut),.sl 321 H1 5 0 w.h.docs.length,.sl 322 H2 6 0 w.h.subs.length,.v (.int .i64 w.h.last),.sl 324 H3 1 0 w.locks.length,.sl 325 H4 2 0 w.queues.length,.sl 326 H5 15 0 w.tasks.length,.v (.int .i64 w.step)])::(326,.rows H5 15 (w.tasks.map Task.row) true)::(325,.rows H4 2 (w.queues.map Queue.row) true)::(322,.rows H2 6 (w.h.subs.map Sub.row) true)::(321,.rows H1 5 (w.h.docs.map Doc.row) true)::(64,.vars b4 39 [.v (.bool false),.nil,.nil,.v (.int .i64 0),.nil,.nil,.nil,.v (.int .i64 0)])::[]⟩) ab ?_
   refine dV (λ_:Unit=>[(89,.v (.bool (dc q0)))]) (λ_=>[]) [1,4,6,7] ?_ ?_
   ·exact ma
   intro _;simp[az q];refine dw aw Tryz.func38 al rfl rfl rfl (ai rfl) 30000 rfl ab ?_;simp[hk,ht,Task.row]
   refine aH eok (λm:Nat=>m<=bH t.c.doc w.queues) (λm=>⟨96,30000,[(6,.v (.int .i64 m)),(5,.v (.string t.c.doc)),(0,.p 96 b6 0),(1,.v (.int .i64 k))],
    (324,.rows H3 1 ((w.locks.map aI).set (bS t.c.doc w.locks.length) [.v (.int .i64 (-1))]) true)::(96,.vars b6 39 [.v (.bool w.h.shut),.sl 321 H1 5 0 w.h.docs.length,.sl 322 H2 6 0 w.h.subs.length,.v (.int .i64 w.h.last),.sl 324 H3 1 0 w.locks.length,.sl 325 H4 2 0 w.queues.length,.sl 326 H5 15 0 w.tasks.length,.v (.int .i64 w.step)]) ::  (326,.rows H5 15 (w.tasks.map Task.row) true)::(325,.rows H4 2 (w.queues.map Queue.row) true)::(322,.rows H2 6 (w.h.subs.map Sub.row) true)::(321,.rows H1 5 (w.h.docs.map Doc.row) true)::(64,.vars b4 39 [.v (.bool false),.nil,.nil,.v (.int .i64 0),.nil,.nil,.nil,.v (.int .i64 0)]) ::  []⟩) (λm=>w.queues.length-m) 0 ab ab (λm hmm=>Ent.refl ?_)
   have hnone:∀j,∀hj:j<w.queues.length,¬w.queues[j].doc=t.c.doc:=by
    exact Li
   generalize bH t.c.doc w.queues=a at hal hon hmm;by_cases hlt:m<w.queues.length
   ·obtain⟨x,hx⟩:∃x,w.queues[m]=x:=⟨_,rfl⟩
    have hiff:=hon hmm hlt;have hxn:=hnone m hlt;rw[hx]at hiff hxn;simp[hlt,hx,Queue.row];by_cases s:sLt x.doc t.c.doc
    ·exact tV
    have hka:m=a:=by
     exact Cx
    subst hka;have hmn:min m w.queues.length=m:=aa;have hmne:¬(m:Int)=w.queues.length:=aa;simp[az s,hmne,hxn,hlt,hx,Queue.row];intro b65;refine gw o9 ah (n:=w.queues.length) (rows:=w.queues.map Queue.row) (row:=[.v (.string t.c.doc),.s []]) (k:=325) (kv:=31024) (own:=true) (ownv:=true) (i:=m) ab ab ab ah (by simp;try omega) aM (λH6=>?_);obtain⟨Z,hZ⟩:∃Z,Z=(w.queues.map Queue.row).take m++[.v (.string t.c.doc),.s []]::(w.queues.map Queue.row).drop m:=⟨_,rfl⟩;have hZl:Z.length=w.queues.length+1:=xo;have hZm:m<Z.length:=aa;have hZe:Z[m]=[.v (.string t.c.doc),.s []]:=by subst hZ;rw[fB m4];simp[dT hal]
    have hZs:∀d,lN Z m 1 d=Z.set m [.v (.string t.c.doc),d]:=λd=>xn
    have hZt:∀r,Z.set m r=(w.queues.map Queue.row).take m++r::(w.queues.map Queue.row).drop m:=λr=>by subst hZ;rw[dJ _ _ m4];simp[dT hal]
    rw[<-hZ];have hml:(m:Int)<(w.queues.length:Int)+1:=aa;have hml2:m<w.queues.length+1:=aa;simp[hZl,hZe,hml,hml2]
    refine aZ.weak (⟨96,30000,[(6,.v (.int .i64 (m:Nat))),(0,.p 96 b6 0),(1,.v (.int .i64 k))],
     (324,.rows H3 1 ((w.locks.map aI).set (bS t.c.doc w.locks.length) [.v (.int .i64 (-1))]) true)::(96,.vars b6 39 [.v (.bool w.h.shut),.sl 321 H1 5 0 w.h.docs.length,.sl 322 H2 6 0 w.h.subs.length,.v (.int .i64 w.h.last),.sl 324 H3 1 0 w.locks.length,.sl 325 H6 2 0 (w.queues.length+1),.sl 326 H5 15 0 w.tasks.length,.v (.int .i64 w.step)])::(326,.rows H5 15 (w.tasks.map Task.row) true)::(325,.rows H6 2 Z true)::(322,.rows H2 6 (w.h.subs.map Sub.row) true)::(321,.rows H1 5 (w.h.docs.map Doc.row) true)::(64,.vars b4 39 [.v (.bool false),.nil,.nil,.v (.int .i64 0),.nil,.nil,.nil,.v (.int .i64 0)])::[]⟩) ab ?_
    refine aZ.open (λ_ h=>h) (k:=325) (i:=m) (j:=1) (k':=60000) (sz':=1) (sz:=2) (H:=H6) (rows:=Z) (srows:=[]) (row:=[.v (.string t.c.doc),.s []]) ab xk rfl ab ah ab qW (λG=>?_);exact L3
   have hka:m=w.queues.length:=aa;have hka2:a=w.queues.length:=aa;subst hka2;subst hka;simp;intro b65;refine gw o9 ah (n:=w.queues.length) (rows:=w.queues.map Queue.row) (row:=[.v (.string t.c.doc),.s []]) (k:=325) (kv:=31024) (own:=true) (ownv:=true) (i:=w.queues.length) ab ab ab ah (by simp;try omega) aM (λH6=>?_);obtain⟨Z,hZ⟩:∃Z,Z=(w.queues.map Queue.row).take w.queues.length++[.v (.string t.c.doc),.s []]::(w.queues.map Queue.row).drop w.queues.length:=⟨_,rfl⟩;have hZl:Z.length=w.queues.length+1:=xo;have hZm:w.queues.length<Z.length:=aa;have hZe:Z[w.queues.length]=[.v (.string t.c.doc),.s []]:=by subst hZ;rw[fB m4];simp[dT hal]
   have hZs:∀d,lN Z w.queues.length 1 d=Z.set w.queues.length [.v (.string t.c.doc),d]:=λd=>xn
   have hZt:∀r,Z.set w.queues.length r=(w.queues.map Queue.row).take w.queues.length++r::(w.queues.map Queue.row).drop w.queues.length:=λr=>by subst hZ;rw[dJ _ _ m4];simp[dT hal]
   rw[<-hZ];have hml:(w.queues.length:Int)<(w.queues.length:Int)+1:=aa;have hml2:w.queues.length<w.queues.length+1:=aa;simp[hZl,hZe,hml,hml2]
   refine aZ.weak (⟨96,30000,[(6,.v (.int .i64 (w.queues.length:Nat))),(0,.p 96 b6 0),(1,.v (.int .i64 k))],
    (324,.rows H3 1 ((w.locks.map aI).set (bS t.c.doc w.locks.length) [.v (.int .i64 (-1))]) true)::(96,.vars b6 39 [.v (.bool w.h.shut),.sl 321 H1 5 0 w.h.docs.length,.sl 322 H2 6 0 w.h.subs.length,.v (.int .i64 w.h.last),.sl 324 H3 1 0 w.locks.length,.sl 325 H6 2 0 (w.queues.length+1),.sl 326 H5 15 0 w.tasks.length,.v (.int .i64 w.step)])::(326,.rows H5 15 (w.tasks.map Task.row) true)::(325,.rows H6 2 Z true)::(322,.rows H2 6 (w.h.subs.map Sub.row) true)::(321,.rows H1 5 (w.h.docs.map Doc.row) true)::(64,.vars b4 39 [.v (.bool false),.nil,.nil,.v (.int .i64 0),.nil,.nil,.nil,.v (.int .i64 0)])::[]⟩) ab ?_
   refine aZ.open (λ_ h=>h) (k:=325) (i:=w.queues.length) (j:=1) (k':=60000) (sz':=1) (sz:=2) (H:=H6) (rows:=Z) (srows:=[]) (row:=[.v (.string t.c.doc),.s []]) ab xk rfl ab ah ab qW (λG=>?_);exact L3
 have p3:t.pc=3:=by
  have h1:=htk.2.2.1;have h2:=hab.2;omega
 rw[lH p3];simp[p3,hm,bm,Task.row,hk,ht,ew];exact FM rfl
set_option maxHeartbeats 6400000
def gX(H:Hd)(s:Sub):List CD:=[.v (.int .i64 s.id),.v (.string s.doc),.v (.int .i64 s.r.cap),.v (.int .i64 s.r.next),.v (.bool s.r.out),.h 80179 H 3 s.r.list.length]
def ep(H:Hd)(t:Task):List CD:=[vi t.c.kind,.v (.string t.c.doc),vi t.c.client,vi t.c.seq,vi t.c.n,.s (t.c.o.map Part.row),.s (t.c.text.map aI),vi t.pc,vi t.inv,vi t.lin,vi t.rs,vi t.a.code,vi t.a.rev,.s (t.a.text.map aI),.h 80179 H 3 t.a.list.length]
structure Two(A B b o C:Nat)(Ha Hb:Hd):Prop where
 le:A+B<=C
 ha:Ha=some (b,o,A)
 hb:Hb=some (b,o+A*3,C-A)\/B=0/\Hb=none
theorem aee{A B:List Entry}:cut ((A++B).map Entry.row) 0 A.length=A.map Entry.row:=by
 rw[gL];simp
theorem aed{A B:List Entry}:cut ((A++B).map Entry.row) A.length B.length=B.map Entry.row:=by
 rw[gL];simp;exact xO
theorem Hf{R:Value->CD->Prop}{h:AH}{x:Wld}{i k:Nat}{s:Sub}{t:Task}(hi:x.h.subs[i]? = some s)(hk:x.tasks[k]? = some t){b o C:Nat}{Ha Hb Hc Hs Hl Hq Ht:Hd}(T:Two t.a.list.length s.r.list.length b o C Ha Hb)
 (g1:h.get 10753=.rows Hc 5 (x.h.docs.map Doc.row) true) (g2:h.get 10754=.rows Hs 6 ((x.h.subs.map Sub.row).set i (gX Hb s)) true) (g3:h.get 40324=.rows Hl 1 (x.locks.map aI) true) (g4:h.get 40325=.rows Hq 2 (x.queues.map Queue.row) true)
 (g5:h.get 40326=.rows Ht 15 ((x.tasks.map Task.row).set k (ep Ha t)) true) (g6:h.get 80179=.rows (some (b,o,C)) 3 ((t.a.list++s.r.list).map Entry.row) true) :
 Nh R h (.agg [.v (.bool x.h.shut),.sl 10753 Hc 5 0 x.h.docs.length,.sl 10754 Hs 6 0 x.h.subs.length,.v (.int .i64 x.h.last),.sl 40324 Hl 1 0 x.locks.length,.sl 40325 Hq 2 0 x.queues.length,.sl 40326 Ht 15 0 x.tasks.length,.v (.int .i64 x.step)]) (.agg x.row):=by
 have e1:gX Hb s=s.row.set 5 (.h 80179 Hb 3 s.r.list.length):=rfl;have e2:ep Ha t=t.row.set 14 (.h 80179 Ha 3 t.a.list.length):=rfl;rw[e1]at g2;rw[e2]at g5;have j1:s.row[5]? = some (.s (cut ((t.a.list++s.r.list).map Entry.row) t.a.list.length s.r.list.length)):=by rw[aed];rfl
 have j2:t.row[14]? = some (.s (cut ((t.a.list++s.r.list).map Entry.row) 0 t.a.list.length)):=by rw[aee];rfl
 have hle:=T.le;refine⟨di ab,di (by simp[g1]),Ry g2 ab (by simp[hi]) j1 ah g6 T.hb aa ab,di ab,di (by simp[g3]),di (by simp[g4]),Ry (C':=t.a.list.length) g5 ab (by simp[hk]) j2 ah g6 (.inl (by simp[T.ha])) aa ab,di ab,trivial⟩
section
variable {α:Type}{mk:α->Int->α}{cn:α->Nat}{f g:α->List CD}{l:List α}{p i:Nat}{k:Int}
def tg(l:List α)(p:Nat):List (α×Bool):=l.zipIdx.map λq=>(q.1,q.2==p)
def mkB(mk:α->Int->α)(x:α×Bool)(k:Int):α×Bool:=(mk x.1 k,x.2)
def cnB(cn:α->Nat)(x:α×Bool):Nat:=cn x.1
def rwB(f g:α->List CD)(x:α×Bool):List CD:=bif x.2 then g x.1 else f x.1
theorem mu:(tg l p).length=l.length:=by simp[tg]
theorem yA(h:i<l.length)(h':i<(tg l p).length):(tg l p)[i]=(l[i],i==p):=by simp[tg]
theorem Xv:(tg l p).map (·.1)=l:=by
 apply eO (by simp[tg])
 intro i h1 h2;simp[tg]
theorem Gu:∀(l:List (α×Bool)),aN (cnB cn) l=aN cn (l.map (·.1))
 | []=>rfl
 |a::l=>by simp[aN,Gu l,cnB]
theorem zE:aN (cnB cn) ((tg l p).take i)=aN cn (l.take i):=by rw[Gu,eG,Xv]
theorem B6(hp:p<l.length):(tg l p).map (rwB f g)=(l.map f).set p (g l[p]):=by
 apply eO (by simp[tg])
 intro i h1 h2;rw[og,yA (by simpa[tg]using h1),iX];by_cases e:i=p
 ·subst e;simp[rwB]
 ·have e':¬p=i:=λc=>e c.symm
  have e2:(i==p)=false:=by simp[e]
  simp[rwB,e2,e']
theorem Re:aL (mkB mk) (cnB cn) (tg l p) k=tg (aL mk cn l k) p:=by
 apply eO (by simp[tg,aJ])
 intro i h1 h2;have h3:i<l.length:=by simpa[tg,aJ]using h2
 have h4:=kQ (mk:=mkB mk) (cn:=cnB cn) (l:=tg l p) (k:=k) (i:=i) (by rw[mu];exact h3);have h5:=kQ (mk:=mk) (cn:=cn) (l:=l) (k:=k) h3;rw[ak h1]at h4;rw[ak (by rw[aJ];exact h3)]at h5;rw[jC h4,yA h3,zE,yA (by rw[aJ];exact h3),jC h5];rfl
end
theorem TP{A B:List (List CD)}{l:List Entry}{q:Int}{z:Nat}:(A++(bO Entry.mark Entry.cnt Entry.row l q z++B)).length=A.length+(l.length+B.length):=by simp[bN]
theorem TO{A B:List (List CD)}{l:List Entry}{q:Int}{z:Nat}(h:z<l.length):(A++(bO Entry.mark Entry.cnt Entry.row l q z++B)).set (A.length+z) l[z].row=A++(bO Entry.mark Entry.cnt Entry.row l q z++B):=by
 rw[dJ _ _ aa,Nat.add_sub_cancel_left,List.set_append_left _ _ (by rw[bN];exact h),gH h]
theorem TN{A B:List (List CD)}{l:List Entry}{q:Int}{z:Nat}(h:z<l.length){r:List CD}(hr:r=(Entry.mark l[z] (q+aN Entry.cnt (l.take z))).row):(A++(bO Entry.mark Entry.cnt Entry.row l q z++B)).set (A.length+z) r=A++(bO Entry.mark Entry.cnt Entry.row l q (z+1)++B):=by
 rw[dJ _ _ aa,Nat.add_sub_cancel_left,List.set_append_left _ _ (by rw[bN];exact h),gG h hr]
open Go.AM
set_option maxRecDepth 20000
set_option maxHeartbeats 12800000
def XC(x:Wld)(u:Value)(i k:Nat)(s:Sub)(t:Task)(av:AV)(hN:AH):Prop:=∃b o C Ha Hb Hd Hs Hl Hq Ht,Two t.a.list.length s.r.list.length b o C Ha Hb /\
 av=.tup [.agg [.v (.bool x.h.shut),.sl 10753 Hd 5 0 x.h.docs.length,.sl 10754 Hs 6 0 x.h.subs.length,.v (.int .i64 x.h.last),.sl 40324 Hl 1 0 x.locks.length,.sl 40325 Hq 2 0 x.queues.length,.sl 40326 Ht 15 0 x.tasks.length,.v (.int .i64 x.step)],.v u] /\
 hN=[(10753,.rows Hd 5 (x.h.docs.map Doc.row) true),(10754,.rows Hs 6 ((x.h.subs.map Sub.row).set i (gX Hb s)) true),(40324,.rows Hl 1 (x.locks.map aI) true),(40325,.rows Hq 2 (x.queues.map Queue.row) true),(40326,.rows Ht 15 ((x.tasks.map Task.row).set k (ep Ha t)) true),(80179,.rows (some (b,o,C)) 3 ((t.a.list++s.r.list).map Entry.row) true)]
def ke(s:Sub)(kk:Nat):Sub:=⟨s.id,s.doc,⟨s.r.cap,s.r.next+kk,false,s.r.list.drop kk⟩⟩
def ia(t:Task)(step:Int)(s:Sub)(kk:Nat):Task:=⟨t.c,3,t.inv,step,t.rs,⟨0,0,[],s.r.list.take kk⟩⟩
def mA(w:Wld)(k i kk:Nat)(s:Sub)(t:Task):Wld:=⟨⟨w.h.shut,w.h.docs,w.h.subs.set i (ke s kk),w.h.last⟩,w.locks,w.queues,w.tasks.set k (ia t w.step s kk),w.step+1⟩
theorem Ig(w:Wld)(hl:bL w<=2^30)(k:Nat)(c1:cS w)(hs:¬w.step=1000000)(hk:k<w.tasks.length){t:Task}(ht:w.tasks[k]=t)(p0:t.pc=0)(sh:vf w.h t.c){n i kk:Nat}(hi:i<w.h.subs.length)(hn:t.c.n=n)(c2:1<=n)
 (e:fk w.h.subs t.c.client=i) {s:Sub}(hss:w.h.subs[i]=s) (c3:s.r.out=false) (hne:s.r.list≠[]) (hk0:min n s.r.list.length=kk):nJ Tryz.prog 8 [.agg w.row,.c (vi k)] (XC (mA w k i kk s t) (.bool true) i k (ke s kk) (ia t w.step s kk)):=by
 have hwo:=lh w aa;have hcp:=qF w aa;have hao:=lj w aa c1 k hk;obtain⟨nh,n2,n3,n4⟩:=dn hl;have hle:=aY n4;have hlq:=aY n3;have htk:=(c1.1 _ (aj hk));have hhb:=(ln c1.2.1).1;have hm:=λg=>nv (f:=Task.row) hk ht g
 rw[ht]at htk hao;have n6:=sh.2.2.1;have d:¬cO t.c.kind:=by unfold cO;omega
 have hab:n8 w t:=⟨λq=>absurd q.2 d,aa,aa⟩;have hs1:=i6 t.c.doc c1.2.2.1.1;have hdsz:=htk.1.2.1;have ew:Go.IntKind.i64.wrap (w.step+1)=w.step+1:=ae _ xq;have hdo:=RA w.h aa t.c xp n6 c1.2.1 htk.1 hn c2 hi e hss c3 hne hk0;refine nJ.intro aw Tryz.func8 al rfl rfl rfl (ai rfl) 40000 (λw0 base=>?_);simp[Wld.row];intro b2 b4;refine ag.ro hwo fc ?_;simp[c1];refine ag.ro hao fc ?_;simp[hs,hab];refine ag.pure hcp fc ?_;simp[Wld.res,hk];intro H1 H2 H3 H4 H5 b6;refine aZ.quiet eok mix al ?_;simp[hk,ht,Task.row];refine⟨_,_,kB t.c.doc aa w.locks.length aa aa,ab,?_⟩;simp;simp[p0,hk,ht,Task.row];refine ag.ro (dY t.c.kind) ab ?_;simp[az d,hk,ht,Task.row,p0]
 refine inl aw Tryz.func36 50000 (λw3 F3=>?_);simp[hk];refine drw eok mix [0,1,2,3,4,5,6,7,8,9,14,15,17,18] [10,11,12,13,16,19] (.c 14 10 272 16111 (.c 14 11 0 16111 (.c 14 12 0 16111 (.c 14 13 0 16111 (.c 14 16 12004 4107 (.c 14 19 4105 2 (.l 14 2) .s) .s) .s) .s) .s) .s) ?_;simp[hk,ht,Task.row]
 try intros
 refine nM hdo (by simp[Hub.row,Call.row]) ?_;rintro _ _ ⟨b,o,C,Hh,Hd,Hs,hC,hH1,rfl,rfl⟩;simp[hk,Task.row,hm,bm]
 try intros
 simp[ew];have hle:kk<=s.r.list.length:=aa
 have e1:((w.h.subs.set i (ke s kk)).map Sub.row).set i (gX Hh (ke s kk))=(w.h.subs.map Sub.row).set i (vc s ⟨s.r.cap,s.r.next+kk,false,[]⟩ Hh (s.r.list.length-kk)):=by
  rw[wS,List.set_set]
  congr 1
  simp[gX,vc,ke]
 have e2:((w.tasks.set k (ia t w.step s kk)).map Task.row).set k (ep (some (b,o,kk)) (ia t w.step s kk))=(w.tasks.map Task.row).set k [vi t.c.kind,.v (.string t.c.doc),vi t.c.client,vi t.c.seq,vi t.c.n,.s (t.c.o.map Part.row),.s (t.c.text.map aI),vi 3,vi t.inv,vi w.step,vi t.rs,vi 0,vi 0,.s [],.h 80179 (some (b,o,kk)) 3 kk]:=by
  rw[wS,List.set_set]
  congr 1
  simp[ep,ia,hle]
 have e3:(ia t w.step s kk).a.list++(ke s kk).r.list=s.r.list:=dI _ _;refine⟨_,⟨b,o,C,some (b,o,kk),Hh,Hd,Hs,H3,H4,H5,⟨?_,?_,?_⟩,?_,rfl⟩,ab,?_⟩
 ·simp[ia,ke];omega
 ·simp[ia,hle]
 ·simp[ia,ke,hle];omega
 ·simp[mA]
 ·rw[show(mA w k i kk s t).h.subs=w.h.subs.set i (ke s kk)from rfl,show(mA w k i kk s t).tasks=w.tasks.set k (ia t w.step s kk)from rfl,e1,e2,e3]
  simp[mA]
  rintro a x (⟨rfl,rfl⟩|⟨rfl,rfl⟩|⟨rfl,rfl⟩|⟨rfl,rfl⟩|⟨rfl,rfl⟩|⟨rfl,rfl⟩)<;>first|rfl|simp
theorem OM{w:Wld}{k:Nat}(c1:cS w)(hs:¬w.step=1000000)(hk:k<w.tasks.length){t:Task}(ht:w.tasks[k]=t)(p0:t.pc=0)(sh:vf w.h t.c) :
 ∃(n i kk:Nat) (s:Sub),i<w.h.subs.length/\t.c.n=n/\1<=n/\fk w.h.subs t.c.client=i/\w.h.subs[i]? = some s/\s.r.out=false/\s.r.list≠[]/\min n s.r.list.length=kk/\iT w k=(mA w k i kk s t,true):=by
 have d:¬cO t.c.kind:=by have:=sh.2.2.1;unfold cO;omega
 obtain⟨n,i,kk,hi,hn,c2,e,c3,hne,hk0,hdo⟩:=NA sh;refine⟨n,i,kk,w.h.subs[i],hi,hn,c2,e,ak hi,c3,hne,hk0,?_⟩;rw[mM c1 hs hk,ht,jR p0 d];unfold qB fg;rw[hdo];rfl
set_option maxHeartbeats 6400000
def low(hr:AH):Prop:=∀p∈hr,p.1<900/\AH.get hr p.1=p.2
theorem oi{hr:AH}(hl:low hr):wkH hr hr=True:=by
 rw[<-pU];exact GQ λp hp=>by rw[(hl p hp).2];exact fj.refl _
theorem mB{hr h:AH}(hl:low hr){j:Nat}{o:AObj}(hj:900<=j):wkH ((j,o)::h) hr=wkH h hr:=by
 rw[<-pU,<-pU]
 have:∀p∈hr,AH.get ((j,o)::h) p.1=AH.get h p.1:=λp hp=>by
  have:=(hl p hp).1;rw[br,au aa]
 simp only[wQ];exact⟨λh p hp=>by rw[<-this p hp];exact h p hp,λh p hp=>by rw[this p hp];exact h p hp⟩
theorem Uq{hr:AH}(hl:low hr){j:Nat}(hj:900<=j):AH.get hr j=.dead:=yk hr λhm=>by
 obtain⟨p,hp,rfl⟩:=cF.1 hm;have:=(hl p hp).1;omega
theorem ag.fz{E:Env}{f:Nat}(k:Nat){avs:List AV}{st:ASt}{dst:Option Nat}{K:ASt->Prop}{H:Hd}{sz:Nat}{rs:List (List CD)}{own:Bool}
 (hget:st.h.get k=.rows H sz rs own) (A:ag E f (fzL k H sz rs avs) { st with h:=(k,.dead)::st.h } dst K):ag E f avs st dst K:=by
 refine⟨A.1,λa w hR xs hs hx=>?_⟩;obtain⟨Es,hH⟩:=hR.heap;have t:=Tr.kill hH k
 have hM:∀c,AH.M ((k,.dead)::st.h) c->st.h.M c/\(st.h.get k).blk≠some c:=by
  intro c hc;rcases pA.1 hc with h1|⟨j,hne,hj⟩
  ·cases h1
  ·exact⟨⟨j,hj⟩,λhk=>hne (hH.inj _ _ c hj hk)⟩
 have hR1:Go.AM.Rep E.w0 E.base { st with h:=(k,.dead)::st.h } a w:=⟨hR.dfr,hR.size,λi=>(hR.tmp i).tr t,⟨_,hH.kill k⟩,hR.below,hR.base_le⟩
 have hfz:∀i av,(fzL k H sz rs avs)[i]? = some av->VRel w (AH.M ((k,.dead)::st.h)) av (xs.getD i undef):=by
  intro i av hi;rw[ym]at hi;obtain⟨x,hx2,rfl⟩:=aR.1 hi;exact Ip hH hget hM (hx i x hx2)
 refine(A.2 a w hR1 xs (by rw[rR];exact hs) hfz).mono ?_
 rintro e w' ⟨v,av,h',h1,h2,h3,h4,h5⟩
 exact⟨v,av,h',h1,h2,h3,λhl=>t.trans (h4 hl),h5⟩
theorem I3{E:Env}{f:Nat}{avs:List AV}{st:ASt}{dst:Option Nat}{K:ASt->Prop}(hfn:xe E.P f)(hl:E.base.loose=true)(hqa:AV.qL avs=true)(h:Ent E st λst'=>(∃h',st'={ st with h:=h' })/\ag E f avs st' dst K):ag E f avs st dst K:=by
 refine⟨hfn,λa w hR xs hs hx=>?_⟩;obtain⟨st',⟨⟨h',rfl⟩,hc⟩,hR'⟩:=h a w hR;have:=hc.2 a w hR' xs hs (λi av hi=>(hx i av hi).quiet (jY _ hqa i av hi));have e:∀(h0:AH) (av:AV) (h':AH),ASt.aft ⟨st.n,st.kb,st.t,h0⟩ dst av h'=ASt.aft st dst av h':=λh0 av h'=>by cases dst<;>rfl
 simp only[hl,e,Bool.true_eq_false,false_implies]at this⊢;exact this
theorem Au{w0:World}{F:Nat->Prop}(l:List Entry)(A B:List (List CD)){b o C C':Nat}{k:Int}(h0:0<=k)(hk:k+aN Entry.cnt l<=4611686018427387904)(hl:nL aX l<=2^40)
 {o1 o2 o3 o4 o5 o6:AObj}{hr:AH}(hl6:low hr) (hq6:qH hr=true) (z1:o1.q=true) (z2:o2.q=true) (z3:o3.q=true) (z4:o4.q=true) (z5:o5.q=true) (z6:o6.q=true) {n0 kb0:Nat}{t0:List (Nat×AV)}(hq:qT t0=true) {h:AH}{dst:Option Nat}{K:ASt->Prop}
 (g0:h.get 80179=.rows (some (b,o,C)) 3 (A++(l.map Entry.row++B)) true) (g1:h.get 10754=o1) (g2:h.get 10753=o2) (g3:h.get 40324=o3) (g4:h.get 40325=o4) (g5:h.get 40326=o5) (g6:h.get 64032=o6) (gr:wkH h hr)
 (hK:bM ⟨n0,kb0,t0,(80179,.rows (some (b,o,C)) 3 (A++((aL Entry.mark Entry.cnt l k).map Entry.row++B)) true)::(10754,o1)::(10753,o2)::(40324,o3)::(40325,o4)::(40326,o5)::(64032,o6)::hr⟩ dst (.v (.int .i64 (k+aN Entry.cnt l))) K) :
 ag ⟨Tryz.prog,tt,w0,⟨F,F,true,λ_=>True⟩⟩ 97 [.sl 80179 (some (b,o,C')) 3 A.length l.length,.v (.int .i64 k)] ⟨n0,kb0,t0,h⟩ dst K:=by
 refine dw aw Tryz.func97 al rfl rfl rfl (ai rfl) 61000 rfl hq ?_;have hle:=aY hl;simp
 refine aH eok (λi:Nat=>i<=l.length) (λi=>⟨34,61000,[(5,.v (.int .i64 i)),(1,.v (.int .i64 (k+aN Entry.cnt (l.take i)))),(0,.sl 80179 (some (b,o,C')) 3 A.length l.length)],
  (80179,.rows (some (b,o,C)) 3 (A++(bO Entry.mark Entry.cnt Entry.row l k i++B)) true)::(10754,o1)::(10753,o2)::(40324,o3)::(40325,o4)::(40326,o5)::(64032,o6)::hr⟩) (λi=>l.length-i) 0 ab (by simp[qd,aN,g0,g1,g2,g3,g4,g5,g6,fj.refl,gr]) (λi hi=>?_)
 by_cases h:i<l.length
 ·have hc:=cL (cn:=Entry.cnt) h
  have hs:=ch (cn:=Entry.cnt) h;have hni:=cH hl h;simp only[aX]at hni;obtain⟨q0,hq0⟩:∃q,k+((aN Entry.cnt (l.take i):Nat):Int)=q:=⟨_,rfl⟩;have hpc:l[i].cnt=2+(aN Part.cnt l[i].o):=rfl;rw[hq0];have hrow:=TO (A:=A) (B:=B) (q:=k) h;have hset:=λ(r:List CD) hr=>TN (A:=A) (B:=B) (q:=k) h (r:=r) hr
  have hlen:=TP (A:=A) (B:=B) (l:=l) (q:=k) (z:=i);generalize A++(bO Entry.mark Entry.cnt Entry.row l k i++B)=R at hrow hset hlen⊢;rw[<-hrow];have hR:A.length+i<R.length:=aa;have e0:Go.IntKind.i64.wrap q0=q0:=ae _ aa;obtain⟨q1,hq1⟩:∃q,q0+1=q:=⟨_,rfl⟩;have e1:Go.IntKind.i64.wrap q1=q1:=ae _ aa;obtain⟨q2,hq2⟩:∃q,q1+1=q:=⟨_,rfl⟩;have e2:Go.IntKind.i64.wrap q2=q2:=ae _ aa;obtain⟨q3,hq3⟩:∃q,q2+((aN Part.cnt l[i].o:Nat):Int)=q:=⟨_,rfl⟩;have e3:Go.IntKind.i64.wrap q3=q3:=ae _ aa;have e:Go.IntKind.i64.wrap ((i:Int)+1)=((i+1:Nat):Int):=aQ aa
  refine Ent.open (λ_ h=>h) (k:=80179) (i:=A.length+i) (j:=2) (k':=902) (sz':=3) (sz:=3) (H:=some (b,o,C)) (rows:=R.set (A.length+i) l[i].row) (srows:=l[i].o.map Part.row) (row:=l[i].row) ab fW rfl lX ah fX B9 (λH2=>?_);refine Ent.refl ?_;simp[h,hR,Entry.row,dB,bm,hq1,e1,hq2,e2];refine ag.mark (lD l[i].o q2 aa aa aa) rfl (λ_ h=>h) B9 ?_;simp[e,hq3];refine dG (k:=80179) (i:=A.length+i) (j:=2) (k':=902) (sz':=3) (sz:=3) (H:=some (b,o,C)) (rows:=R.set (A.length+i) [vi q0,vi q1,.h 902 H2 3 l[i].o.length]) (row:=[vi q0,vi q1,.h 902 H2 3 l[i].o.length]) (H':=H2) (srows:=(aL Part.mark Part.cnt l[i].o q2).map Part.row) ab fW ff ab ah B9 ?_;refine Ent.refl ⟨i+1,aa,aa,?_⟩
  simp[dB,hs,hpc,fj.refl,oi hl6,mB hl6];refine⟨aa,?_⟩;refine hset _ ?_;rw[hq0];subst hq1 hq2 hq3;rfl
 ·have:i=l.length:=by omega
  subst this;refine Ent.refl ?_;simp[gI];exact hK
theorem w5{w0:World}{F:Nat->Prop}{H:Hd}{k:Int}
 {o0 o1 o2 o3 o4 o5 o6:AObj}{hr:AH}(_hl6:low hr) (_hq6:qH hr=true) {n0 kb0:Nat}{t0:List (Nat×AV)}(hq:qT t0=true) {h:AH}{dst:Option Nat}{K:ASt->Prop}
 (g0:h.get 80179=o0) (g1:h.get 10754=o1) (g2:h.get 10753=o2) (g3:h.get 40324=o3) (g4:h.get 40325=o4) (g5:h.get 40326=o5) (g6:h.get 64032=o6) (gr:wkH h hr)
 (hK:bM ⟨n0,kb0,t0,(80179,o0)::(10754,o1)::(10753,o2)::(40324,o3)::(40325,o4)::(40326,o5)::(64032,o6)::hr⟩ dst (.v (.int .i64 k)) K) :
 ag ⟨Tryz.prog,tt,w0,⟨F,F,true,λ_=>True⟩⟩ 97 [.ml 80179 H 3 0,.v (.int .i64 k)] ⟨n0,kb0,t0,h⟩ dst K:=by
 refine dw aw Tryz.func97 al rfl rfl rfl (ai rfl) 61000 rfl hq ?_;simp
 refine aH eok (λ_:Unit=>True) (λ_=>⟨34,61000,[(5,.v (.int .i64 0)),(1,.v (.int .i64 k)),(0,.ml 80179 H 3 0)],
  (80179,o0)::(10754,o1)::(10753,o2)::(40324,o3)::(40325,o4)::(40326,o5)::(64032,o6)::hr⟩) (λ_=>0) () trivial (by simp[g0,g1,g2,g3,g4,g5,g6,fj.refl,gr]) (λ_ _=>Ent.refl ?_)
 simp;exact hK
theorem sA{w0:World}{F:Nat->Prop}(l:List Entry)(A B:List (List CD)){b o C C':Nat}{H:Hd}(hH:H=some (b,o+A.length*3,C'-A.length)\/l.length=0/\H=none)(hC:A.length<=C'){k:Int}(h0:0<=k)(hk:k+aN Entry.cnt l<=4611686018427387904)(hl:nL aX l<=2^40)
 {o1 o2 o3 o4 o5 o6:AObj}{hr:AH}(hl6:low hr) (hq6:qH hr=true) (z1:o1.q=true) (z2:o2.q=true) (z3:o3.q=true) (z4:o4.q=true) (z5:o5.q=true) (z6:o6.q=true) {n0 kb0:Nat}{t0:List (Nat×AV)}(hq:qT t0=true) {h:AH}{dst:Option Nat}{K:ASt->Prop}
 (g0:h.get 80179=.rows (some (b,o,C)) 3 (A++(l.map Entry.row++B)) true) (g1:h.get 10754=o1) (g2:h.get 10753=o2) (g3:h.get 40324=o3) (g4:h.get 40325=o4) (g5:h.get 40326=o5) (g6:h.get 64032=o6) (gr:wkH h hr)
 (hK:bM ⟨n0,kb0,t0,(80179,.rows (some (b,o,C)) 3 (A++((aL Entry.mark Entry.cnt l k).map Entry.row++B)) true)::(10754,o1)::(10753,o2)::(40324,o3)::(40325,o4)::(40326,o5)::(64032,o6)::hr⟩ dst (.v (.int .i64 (k+aN Entry.cnt l))) K) :
 ag ⟨Tryz.prog,tt,w0,⟨F,F,true,λ_=>True⟩⟩ 97 [.ml 80179 H 3 l.length,.v (.int .i64 k)] ⟨n0,kb0,t0,h⟩ dst K:=by
 rcases Nat.eq_zero_or_pos l.length with e|e
 ·have e':=aA e
  subst e';refine w5 hl6 hq6 hq g0 g1 g2 g3 g4 g5 g6 gr ?_
  simpa[aL,aN]using hK
 ·refine E4 (args':=[.sl 80179 (some (b,o,C')) 3 A.length l.length,.v (.int .i64 k)]) rfl (λi av av' h1 h2 w M x hx=>?_) (Au l A B h0 hk hl hl6 hq6 z1 z2 z3 z4 z5 z6 hq g0 g1 g2 g3 g4 g5 g6 gr hK)
  rcases i with _|_|i
  ·simp at h1 h2
   subst h1 h2;exact abh ah hH hC e hx
  ·simp at h1 h2
   subst h1 h2;exact hx
  ·simp at h1
end Go.Proofs.YtklblkobegcljaaGreat
