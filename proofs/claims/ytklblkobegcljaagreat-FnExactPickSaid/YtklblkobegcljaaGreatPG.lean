import Derived.Test.YtklblkobegcljaaGreatPD
import Derived.Test.YtklblkobegcljaaGreatMH
import Derived.Shelf.RegionOpenPlain
import Derived.Test.YtklblkobegcljaaGreatPF
import Derived.Test.YtklblkobegcljaaGreatPC
import Derived.Test.YtklblkobegcljaaGreatMG
import Derived.Test.YtklblkobegcljaaGreatMF
namespace Go.Proofs.YtklblkobegcljaaGreat
open Go.AM Go.RowKit
set_option maxRecDepth 100000
set_option maxHeartbeats 4000000
set_option linter.unusedVariables false
set_option linter.unusedSimpArgs false
theorem D4(w:World)(us xs:List Value)(n i b o C bv ov Cv:Nat)(cs cv:Array Value)(T Tv:TypeId)(hul:us.length=n*5)(hxl:xs.length=5)(hi:i<n)(hroom:n+1<=C)(hC:C<=maxLen)
 (hb:w.heap[b]? = some (.cells cs T (0,0))) (hfit:o+C*5<=cs.size) (hcs:∀j,j<n*5->cs.getD (o+j) undef=us.getD j undef) (h1:∀v∈us,v.oneCell'=true)
 (hbv:w.heap[bv]? = some (.cells cv Tv (0,0))) (hCv:1<=Cv) (hfv:ov+Cv*5<=cv.size) (hcv:∀j,j<5->cv.getD (ov+j) undef=xs.getD j undef) (h1v:∀v∈xs,v.oneCell'=true) (hne:bv≠b) :
 Calls Tryz.prog 197 #[.slice (some ⟨b,o,none⟩) n C,.int .i64 i,.slice (some ⟨bv,ov,none⟩) 1 Cv] w λe w'=>
  e=.returned (.slice (some ⟨b,o,none⟩) (n+1) C)/\Placed w w' (some b) b o C (n+1) 5 (us.take (i*5)++xs++us.drop (i*5)):=by
 have u0:=bf Tryz.underlying32;have mixed:Tryz.prog.follows .mixedOrders=true:=al;obtain⟨i0,z0,hi0,hzs,hzb,hz0,hzc,-⟩:=(aw 119 _ B2).info;have hzs:i0.size=5:=hzs;have hC63:C<=9223372036854775807:=ri;have hz1:¬((1:Int)=0):=aa;have hz2:¬((i:Int)=(n:Int)):=aa;have hdl:(us.drop (i*5)).length=(n-i)*5:=rh
 have hov:∀lb cb,(callFunc 231 #[.slice (some ⟨bv,ov,none⟩) 1 Cv,.slice (some ⟨b,o+(i*5+5),none⟩) lb cb]).run Tryz.prog w=.ok (.value (.bool false)) w:=λlb cb=>by
  rw[GO Tryz.func231 al al al (e:=Extern.SlicesOverlaps.overlaps #[32,32] #[4]) al,
   Ag w 32 4 119 Tryz.underlying32 5 Tryz.sizeOf119 ⟨bv,ov,none⟩ ⟨b,o+(i*5+5),none⟩ 1 Cv lb cb hne Tv T cv.size cs.size (by simp[World.shape?,hbv]) (by simp[World.shape?,hb]) aa rf rf]
  rfl
 have hmm:(n+1)*5<=C*5:=aq _ hroom;have hii:i*5+5<=n*5:=by have:=aq 5 (show i+1<=n from aa);omega
 have e1:(i+1)*5=i*5+5:=bD i 5;have e2:(n+1)*5=n*5+5:=bD n 5;have e3:(n-i)*5=n*5-i*5:=tD n i 5;obtain⟨cs1,hcs1⟩:∃c,c=(cs.toList.take (o+(i+1)*5)++us.drop (i*5)++cs.toList.drop (o+(i+1)*5+(us.drop (i*5)).length)).toArray:=⟨_,rfl⟩;obtain⟨s1,g1⟩:=dy cs (o+(i+1)*5) (us.drop (i*5)) aa;rw[<-hcs1]at s1 g1
 have hcp1:∀(W:World),W.heap=w.heap->∀ty dl dc sl sc,Nat.min sl dl=n-i->(Builtin.copy_ #[32,32] ty #[.slice (some ⟨b,o+(i*5+5),none⟩) dl dc,.slice (some ⟨b,o+i*5,none⟩) sl sc]).run Tryz.prog W=.ok (goInt (n-i:Nat)) (W.setRow b cs1):=λW hW ty dl dc sl sc hm=>by
  have hb':W.heap[b]? = some (.cells cs T (0,0)):=by rw[hW];exact hb
  rw[hcs1,e1]
  exact ga Tryz.underlying32 hi0 hb' ⟨b,o+i*5,none⟩ (us.drop (i*5)) (n-i) hm re
   (λj v hj=>by
    rw[dx];refine fJ hb' (o:=o+i*5) (vs:=us.drop (i*5)) (λj hj=>?_) aa j v hj;rw[eF,hcs _ aa];simp[aS])
   (λv hv=>h1 v (ba hv)) aa
 obtain⟨cs2,hcs2⟩:∃c,c=(cs1.toList.take (o+i*5)++xs++cs1.toList.drop (o+i*5+xs.length)).toArray:=⟨_,rfl⟩;obtain⟨s2,g2⟩:=dy cs1 (o+i*5) xs aa;rw[<-hcs2]at s2 g2
 have hcp2:∀(W:World),W.heap[b]? = some (.cells cs1 T (0,0))->W.heap[bv]? = some (.cells cv Tv (0,0))->∀ty dl dc,0<dl->(Builtin.copy_ #[32,32] ty #[.slice (some ⟨b,o+i*5,none⟩) dl dc,.slice (some ⟨bv,ov,none⟩) 1 Cv]).run Tryz.prog W=.ok (goInt (1:Nat)) (W.setRow b cs2):=λW hW hWv ty dl dc hm=>by
  rw[hcs2]
  exact ga Tryz.underlying32 hi0 hW ⟨bv,ov,none⟩ xs 1 jr gZ
   (λj v hj=>by
    rw[dx];exact fJ hWv (λj hj=>hcv j aa) aa j v hj)
   h1v aa
 have hw1:IntKind.i64.wrap ((i:Int)+1)=(i:Int)+1:=rb;have hb1:(0:Int)<=(i:Int)+1:=aa;have hin:i<=n:=aa;have htn:((i:Int)+1).toNat=i+1:=aa;have hb2:¬(C=i+1):=aa;have hb3:(i:Int)<=(n:Int)+1:=aa;have hb4:¬(C=i):=aa
 go_enter Tryz.func197,Tryz.ntmps197
 go_wp2_with (simp only[hov])
 have hE:=hcp1 w.drew rfl 3 (n-i) (C-(i+1)) (n+1-i) (C-i) jr;have hE2:=hcp2 (w.drew.setRow b cs1) Ci Ch 3 (n+1-i) (C-i) aa
 have hP:Placed w ((w.drew.setRow b cs1).setRow b cs2) (some b) b o C (n+1) 5 (us.take (i*5)++xs++us.drop (i*5)):=by
  refine⟨⟨cs2,T,dK _ b cs1 cs2 T (0,0) (dK w.drew b cs cs1 T (0,0) hb),aa,λj hj=>?_⟩,hroom,hC,ab,⟨rfl,rfl,rfl⟩,.inr rfl,λc _ hc=>?_⟩
  ·rw[g2,g1]
   have hl:(us.take (i*5)).length=i*5:=aM;simp only[aS];rw[bX];by_cases c1:j<i*5
   ·exact De
   ·rw[bd aa,hl]
    by_cases c2:j<i*5+5
    ·exact CK
    ·exact Df
  ·exact CE
 clear hcs1 hcs2
 go_region
 go_wp2
 go_ret
 all_goals exact⟨rfl,hP⟩
theorem ta(w:World)(a:Option Addr)(n C bv ov Cv:Nat)(r:Value)(w1:World)(hnC:n<=C)(hC:C<=maxLen)
 (hr:∀ty,(Builtin.append_ #[32,32] ty #[.slice a n C,.slice (some ⟨bv,ov,none⟩) 1 Cv]).run Tryz.prog w=.ok r w1) :
 Calls Tryz.prog 197 #[.slice a n C,.int .i64 n,.slice (some ⟨bv,ov,none⟩) 1 Cv] w λe w'=>e=.returned r/\w'=w1:=by
 have u0:=bf Tryz.underlying32;have mixed:Tryz.prog.follows .mixedOrders=true:=al;have hC63:C<=9223372036854775807:=ri;have hz1:¬((1:Int)=0):=aa
 cases a with
 | none =>
   exact Jr
 | some q =>
   exact Jr
theorem FV(w:World)(us xs:List Value)(n i b o C bv ov Cv:Nat)(cs cv:Array Value)(T Tv:TypeId)(hul:us.length=n*5)(hxl:xs.length=5)(hi:i<n)(hnc:n<=C)(hroom:C<n+1)(hbig:(n+1)*so.bytes<=140737488355328)
 (hb:w.heap[b]? = some (.cells cs T (0,0))) (hfit:o+C*5<=cs.size) (hcs:∀j,j<n*5->cs.getD (o+j) undef=us.getD j undef) (h1:∀v∈us,v.oneCell'=true)
 (hbv:w.heap[bv]? = some (.cells cv Tv (0,0))) (hCv:1<=Cv) (hfv:ov+Cv*5<=cv.size) (hcv:∀j,j<5->cv.getD (ov+j) undef=xs.getD j undef) (h1v:∀v∈xs,v.oneCell'=true) :
 Calls Tryz.prog 197 #[.slice (some ⟨b,o,none⟩) n C,.int .i64 i,.slice (some ⟨bv,ov,none⟩) 1 Cv] w λe w'=>
  ∃nC,e=.returned (.slice (some ⟨w.heap.size,0,none⟩) (n+1) nC)/\Placed w w' (some b) w.heap.size 0 nC (n+1) 5 (us.take (i*5)++xs++us.drop (i*5)):=by
 have u0:=bf Tryz.underlying32;have mixed:Tryz.prog.follows .mixedOrders=true:=al;obtain⟨i0,z0,hi0,hzs,hzb,hz0,hzc,-⟩:=(aw 119 _ B2).info;have hzz:=iY hzc;have hzs:i0.size=5:=hzs;have hzb:i0.bytes=so.bytes:=hzb;have hby:0<so.bytes:=ah;have hzz:z0.cells.size=5:=hzz;have hnb:(n+1)<=140737488355328:=dW (bY _ hby) hbig;have hz1:¬((1:Int)=0):=aa;have hz2:¬((i:Int)=(n:Int)):=aa;have hz3:(C:Int)<(n:Int)+1:=aa;have hmm:n*5<=C*5:=aq _ hnc;have hii:i*5+5<=n*5:=by have:=aq 5 (show i+1<=n from aa);omega
 have e1:(i+1)*5=i*5+5:=bD i 5;have e2:(n+1)*5=n*5+5:=bD n 5;have e3:(n-i)*5=n*5-i*5:=tD n i 5;have hdl:(us.drop (i*5)).length=(n-i)*5:=rh;have htl:(us.take (i*5)).length=i*5:=aM;have hbw:b<w.heap.size:=fo hb;have hvw:bv<w.heap.size:=fo hbv;have hkk:(n:Int)+1-(i:Int)=((n+1-i:Nat):Int):=aa;have hik:i+(n+1-i)=n+1:=aa
 have hold:(Builtin.firstCells i0.size i (.slice (some ⟨b,o,none⟩) i C)).run Tryz.prog w.drew=.ok (us.take (i*5)).toArray w.drew:=by
  rw[hzs]
  exact lS w.drew 5 i ⟨b,o,none⟩ i C (us.take (i*5)) (by rw[htl]) (λj v hj=>by
   rw[dx]
   exact fJ (w:=w.drew) (o:=o) (vs:=us.take (i*5)) (cs:=cs) (T:=T) hb (λj hj=>by
    rw[hcs _ aa];rw[htl]at hj;simp only[aS,cN,ao hj]) aa j v hj)
 have hrz:∀ty,(Builtin.append_ #[32,3] ty #[.slice (some ⟨b,o,none⟩) i C,.int .i64 ((n:Int)+1-(i:Int))]).run Tryz.prog w =
  .ok (.slice (some ⟨w.heap.size,0,none⟩) (n+1) (grownCap w (n+1) C 119)) (w.drew.alloc (.cells ((us.take (i*5)).toArray++Builtin.zeroCells z0.cells (n+1-i)++Builtin.zeroCells z0.cells (grownCap w (n+1) C 119-(n+1))) 119)):=λty=>by
  have h:=u5 w 32 3 ty 119 i0 z0 .i64 .i64 Tryz.underlying32 Tryz.underlying3 hi0 hz0 (some ⟨b,o,none⟩) i C (us.take (i*5)) hold (n+1-i) aa aa aa aa (by rw[hzb];have:=aq so.bytes (show n+1-i<=n+1 from aa);omega) Cg;rw[hik]at h;rw[hkk];exact h
 obtain⟨G,hG⟩:∃G,G=grownCap w (n+1) C 119:=⟨_,rfl⟩;obtain⟨ROW,hROW⟩:∃ROW:Array Value,ROW=(us.take (i*5)).toArray++Builtin.zeroCells z0.cells (n+1-i)++Builtin.zeroCells z0.cells (G-(n+1)):=⟨_,rfl⟩;rw[<-hG]at hrz;rw[<-hROW]at hrz;have hGn:n+1<=G:=Cf;have hGm:G<=maxLen:=by rw[hG];exact dr w (n+1) C 119 gP
 have hG63:G<=9223372036854775807:=by unfold maxLen at hGm;omega
 have hRs:ROW.size=G*5:=by
  exact Dd
 have hGK:(n+1)*5<=G*5:=aq _ hGn
 have hRg:∀j,j<i*5->ROW.getD j undef=us.getD j undef:=by
  exact Dn
 obtain⟨W1,hW1⟩:∃W1,W1=w.drew.alloc (.cells ROW 119):=⟨_,rfl⟩;rw[<-hW1]at hrz;have hN:W1.heap[w.heap.size]? = some (.cells ROW 119 (0,0)):=Ce;have hO:∀c,c<w.heap.size->W1.heap[c]? = w.heap[c]?:=λc hc=>Cd
 have hS:W1.heap.size=w.heap.size+1:=by rw[hW1];simp
 obtain⟨cs1,hcs1⟩:∃c,c=(ROW.toList.take (i*5)++xs++ROW.toList.drop (i*5+xs.length)).toArray:=⟨_,rfl⟩;obtain⟨s1,g1⟩:=dy ROW (i*5) xs aa;rw[<-hcs1]at s1 g1
 have hcpA:=ga (P:=Tryz.prog) (w:=W1) (ty:=3) Tryz.underlying32 hi0 (dl:=n+1-i) (dc:=G-i) (o:=i*5) hN ⟨bv,ov,none⟩ (sl:=1) (sc:=Cv) xs 1 jr gZ
  (λj v hj=>by
   rw[dx];exact fJ (by rw[hO _ hvw];exact hbv) (λj hj=>hcv j aa) aa j v hj) h1v aa
 rw[<-hcs1]at hcpA;have hN1:(W1.setRow w.heap.size cs1).heap[w.heap.size]? = some (.cells cs1 119 (0,0)):=dK _ _ _ _ _ _ hN;obtain⟨cs2,hcs2⟩:∃c,c=(cs1.toList.take (i*5+5)++us.drop (i*5)++cs1.toList.drop (i*5+5+(us.drop (i*5)).length)).toArray:=⟨_,rfl⟩;obtain⟨s2,g2⟩:=dy cs1 (i*5+5) (us.drop (i*5)) aa;rw[<-hcs2]at s2 g2;have hbN:b≠w.heap.size:=aa
 have hcpB:=ga (P:=Tryz.prog) (w:=(W1.setRow w.heap.size cs1).drew) (ty:=3) Tryz.underlying32 hi0 (dl:=n-i) (dc:=G-(i+1)) (o:=i*5+5) hN1 ⟨b,o+i*5,none⟩ (sl:=n-i) (sc:=C-i) (us.drop (i*5)) (n-i) jr re
  (λj v hj=>by
   rw[dx]
   have hb':(W1.setRow w.heap.size cs1).drew.heap[b]? = some (.cells cs T (0,0)):=by
    exact C5
   refine fJ hb' (o:=o+i*5) (vs:=us.drop (i*5)) (λj hj=>?_) aa j v hj;rw[eF,hcs _ aa];simp[aS])
  (λv hv=>h1 v (ba hv)) aa
 rw[<-hcs2]at hcpB
 have hP:Placed w ((W1.setRow w.heap.size cs1).drew.setRow w.heap.size cs2) (some b) w.heap.size 0 G (n+1) 5 (us.take (i*5)++xs++us.drop (i*5)):=by
  refine⟨⟨cs2,119,dK _ _ cs1 cs2 _ (0,0) hN1,aa,λj hj=>?_⟩,hGn,hGm,?_,?_,.inl (aF _),λc hc hne=>?_⟩
  ·rw[cE,g2,g1]
   simp only[aS];rw[bX];by_cases c1:j<i*5
   ·exact Di
   ·rw[bd aa,htl]
    by_cases c2:j<i*5+5
    ·exact CQ
    ·exact C9
  ·simp[hS]
  ·rw[hW1];exact⟨rfl,rfl,rfl⟩
  ·exact C8
 have hw1:IntKind.i64.wrap ((i:Int)+1)=(i:Int)+1:=rb;have hb1:(0:Int)<=(i:Int)+1:=aa;have hin:i<=n:=aa;have htn:((i:Int)+1).toNat=i+1:=aa;have hGi:¬(G=i):=aa;have hGim:¬(G=i+1):=aa;have hci:¬(C=i):=aa;have hb3:(i:Int)<=(n:Int):=aa
 clear hkk hik hold hROW hG hcs1 hcs2 hN hN1 hO hS hRs hRg hW1
 go_enter Tryz.func197,Tryz.ntmps197
 go_wp2_with (first
  |(at_builtin;refine AX _ rfl _ _ _ _ rfl _ _ rfl rfl _ _ (hrz _) ?_)
  |(at_builtin;refine kN _ rfl _ _ 32 32 rfl _ _ rfl rfl hcpA ?_))
 go_region
 go_wp2
 go_ret
 all_goals exact⟨_,rfl,hP⟩
theorem FW:yr Tryz.prog 197 5 so.bytes:=by
 refine⟨⟨_,Tryz.func197,al,al⟩,λw us xs n i s v ob bv0 hul hxl hi hbig hs hv hap=>?_⟩;obtain⟨i0,z0,hi0,hzs,hzb,hz0,hzc,-⟩:=(aw 119 _ B2).info;have hzz:=iY hzc;have hzs:i0.size=5:=hzs;have hzb:i0.bytes=so.bytes:=hzb;have hby:0<so.bytes:=ah;have hzz:z0.cells.size=5:=hzz;have hnb:(n+1)<=140737488355328:=dW (bY _ hby) hbig;rcases hv with⟨h0,-⟩|⟨bv,ov,Cv,cv,Tv,rfl,rfl,hbv,hCv,hCvm,hfv,hcv,h1v⟩
 ·omega
 have hcellv:∀j v,xs[j]? = some v->w.cell? (Addr.add ⟨bv,ov,none⟩ j)=some v:=λj v hj=>by
  exact CW
 have fresh:∀(C0 nC:Nat) (rest:Array Value) (ob:Option Nat),n+1<=nC->nC<=maxLen->rest.size=(nC-(n+1))*5 ->
  Placed w (w.drew.alloc (.cells (us.toArray++xs.toArray++rest) 119)) ob w.heap.size 0 nC (n+1) 5 (us.take (n*5)++xs++us.drop (n*5)):=by
  intro C0 nC rest ob h1 h2 h3;have e:nC*5=n*5+5+(nC-(n+1))*5:=Cc;refine⟨⟨_,_,qq w.drew _,by simp[hul,hxl,h3];omega,λj hj=>?_⟩,h1,h2,ab,⟨rfl,rfl,rfl⟩,.inl (aF _),λc hc _=>oA w.drew _ hc⟩;rw[aC aa,bg aa,bI,cE];have e2:(n+1)*5=n*5+5:=bD n 5;simp only[aT,aS];rw[du aM,BY,gW]
 rcases hs with⟨rfl,rfl,a,rfl⟩|⟨b,o,C,cs,T,rfl,rfl,hb,hnC,hCm,hfit,hcs,h1⟩
 ·obtain rfl:i=0:=by omega
  have hun:us=[]:=aA aa;subst hun;have hrun:=λty=>i7 (P:=Tryz.prog) (w:=w) (ty:=ty) Tryz.underlying32 hi0 hz0 a ⟨bv,ov,none⟩ 1 Cv xs gZ hcellv aa aa (by rw[hzb];omega)
  refine(ta w a 0 0 bv ov Cv _ _ (aF _) gP hrun).mono ?_
  rintro e w' ⟨rfl,rfl⟩
  have hge:=kV w 1 0 119;have hcm:=dr w 1 0 119 gP;refine⟨_,_,_,rfl,?_⟩;have:=fresh 0 (grownCap w 1 0 119) (Builtin.zeroCells z0.cells (grownCap w 1 0 119-1)) none hge hcm (by rw[gY,hzz]);exact i4
 ·by_cases hin:i=n
  ·subst hin
   by_cases hroom:i+1<=C
   ·have hmm:(i+1)*5<=C*5:=aq _ hroom
    have e2:(i+1)*5=i*5+5:=bD i 5;have hrun:=λty=>Go.AM.run_append_room (P:=Tryz.prog) (ty:=ty) (c:=Cv) (n:=i) (m:=1) Tryz.underlying32 hi0 hb ⟨bv,ov,none⟩ xs gZ hcellv h1v hroom (by rw[hzs];exact hfit)
    refine(ta w _ i C bv ov Cv _ _ hnC hCm hrun).mono ?_
    rintro e w' ⟨rfl,rfl⟩
    obtain⟨g0,g⟩:=dy cs (o+i*i0.size) xs (by rw[hzs];omega);refine⟨_,_,_,rfl,⟨_,_,dK w b cs _ T (0,0) hb,by rw[g0];exact hfit,λj hj=>?_⟩,hroom,hCm,ab,⟨rfl,rfl,rfl⟩,.inr rfl,λc _ hc=>sk w b c _ hc⟩;rw[g,hzs,aC aa,bg aa,bI];by_cases c1:j<i*5
    ·exact C7
    ·exact Da
   ·have hrun:=λty=>qV (P:=Tryz.prog) w 32 ty 119 i0 z0 Tryz.underlying32 hi0 hz0 ⟨b,o,none⟩ i C us (by rw[hzs];exact hul) (λj v hj=>by
     rw[dx];have:=aq 5 hnC;exact fJ hb (λj hj=>hcs j aa) aa j v hj) ⟨bv,ov,none⟩ 1 Cv xs gZ hcellv aa aa (by rw[hzb];exact tC aa hbig)
    refine(ta w _ i C bv ov Cv _ _ hnC hCm hrun).mono ?_
    rintro e w' ⟨rfl,rfl⟩
    have hge:=kV w (i+1) C 119;have hcm:=dr w (i+1) C 119 gP;exact CJ
  ·by_cases hroom:n+1<=C
   ·refine(D4 w us xs n i b o C bv ov Cv cs cv T Tv hul hxl aa hroom hCm hb hfit hcs h1 hbv hCv hfv (λj hj=>hcv j aa) h1v (λh=>hap b rfl en)).mono ?_
    exact CB
   ·refine(FV w us xs n i b o C bv ov Cv cs cv T Tv hul hxl aa hnC aa hbig hb hfit hcs h1 hbv hCv hfv (λj hj=>hcv j aa) h1v).mono ?_
    exact CF
open Go.AM
set_option maxRecDepth 20000
set_option maxHeartbeats 6400000
theorem sC(room rev:Int)(hr : -4611686018427387904<=rev/\rev<=4611686018427387904):ar Tryz.prog 202 [.c (vi room),.c (vi rev)] (.tup [.agg (fv room rev).1.res,.c (.v (.bool (fv room rev).2)) 1]):=by
 refine pci aw Tryz.func202 (λw0 base=>?_);have ew:Go.IntKind.i64.wrap (rev+1)=rev+1:=ae _ aa;simp[ew];intro b4 b6;refine ag.pure (fH (eD room rev) (by rw[p6];omega)) (by simp[eD,Ring.row]) ?_;exact LF
theorem zd(r:Ring)(hl:cV r<=2^30)(e:Entry)(he:aX e<=2^29):ar Tryz.prog 199 [.agg r.row,.agg e.row] (.one (.agg (eg r e).res)):=by
 refine pci aw Tryz.func199 (λw0 base=>?_);have hno:=@uE r e;have hfull:=@qy r e;have hroom:=@qx r e;have hle:=aY (f:=aX) (B:=2^30) (l:=r.list) tK;have he1:nL aX [e]<=2^30:=by simp[nL,cw];omega
 simp[Ring.row,Entry.row];intro b2 b3 b4;refine ag.pure (mQ r hl) dH ?_;simp[Ring.res];intro H b5;refine ag.pure (fH r aa) dH ?_;by_cases c1:cl r
 rotate_left
 ·exact xP
 simp[c1];refine ag.pure (nW e aa) fe ?_;by_cases c2:cZ e
 rotate_left
 ·simp[az c2,hno (λh=>c2 h.2.1)]
 simp[c2]
 cases c3:r.out with
 |true=>simp[hno (λh=>by rw[c3]at h;exact absurd h.2.2 ab),c3]
 |false=>
 simp;by_cases c4:(r.list.length:Int)=r.cap
 ·have e1:=hfull ⟨c1,c2,c3⟩ c4
  simp[c4,e1]
 have e1:=hroom ⟨c1,c2,c3⟩ c4;simp[c4];refine drw eok mix [0,1,2,6] [3,4,5,7] (.c 4 3 2 13 (.c 4 4 0 13 (.c 4 5 4 9 (.c 4 7 9 0 (.l 4 0) .s) .s) .s) .s) ?_;simp
 try intros
 refine ag.pure (jo [e] he1) fe ?_;simp;exact Kt
theorem vw(r:Ring)(hl:cV r<=2^30)(rev:Int)(hr : -4611686018427387904<=rev/\rev<=4611686018427387904):ar Tryz.prog 205 [.agg r.row,.c (vi rev)] (.tup [.agg (cW r rev).1.res,.c (.v (.bool (cW r rev).2)) 1]):=by
 refine pci aw Tryz.func205 (λw0 base=>?_);have hno:=@qw r rev;have hyes:=@pJ r rev;simp[Ring.row];intro b2 b4;refine ag.pure (fH r aa) dH ?_;by_cases c1:cl r
 rotate_left
 ·simp[az c1,hno c1,Ring.res,Ring.zero]
 simp[c1];have hc:=sC r.cap rev hr;exact KZ
theorem mj(h:Hub)(hl:dh h<=2^40)(id:Int):ar Tryz.prog 203 [.agg h.row,.c (vi id)] (.one (.c (vi (fk h.subs id)) 1)):=by
 refine pci aw Tryz.func203 (λw0 base=>?_);obtain⟨sh,docs,l,last⟩:=h;have hle:=aY (ic hl).2;simp only at hle;simp[Hub.row];intro b2 b3;refine inl aw Tryz.func239 20000 (λw1 F=>?_);simp
 refine aU.intro eok (λi:Nat=>i<=l.length/\∀j,j<i->∀hj:j<l.length,¬l[j].id=id) (λi=>⟨19,20000,[(8,.v (.int .i64 i)),(7,.v (.int .i64 l.length)),(0,.ro (l.map Sub.row)),(1,.clo 240 [.p 48 b3 0])],
  [(48,.vars b3 3 [.v (.int .i64 id)])]⟩) (λi=>l.length-i) 0 ab ab (λi hi=>?_)
 by_cases hlt:i<l.length
 ·simp[hlt]
  refine inl aw Tryz.func240 40000 (λw2 F2=>?_);simp[Sub.row];exact Jl
 ·exact JU
theorem AC(h:Hub)(hl:dh h<=2^30):ar Tryz.prog 146 [.agg h.row] (.tup [.agg (eh h).1.res,.c (vi (eh h).2) 1]):=by
 refine pci aw Tryz.func146 (λw0 base=>?_);simp[Hub.row];intro b1 b2;refine ag.pure (dZ h hl) bj ?_;by_cases c1:bC h
 rotate_left
 ·simp[az c1,wv c1,Hub.res,Hub.zero]
 simp[c1]
 cases c2:h.shut with
 |true=>simp[sH c1 c2,Hub.res,Hub.zero]
 |false=>
 have e:=uI c1 qZ;simp;refine ag.pure (eE h hl) m7 ?_;simp[Hub.res,e]
theorem tc(h:Hub)(hl:dh h<=2^28)(name:ByteArray)(room:Int):ar Tryz.prog 143 [.agg h.row,.c (.v (.string name)),.c (vi room)]
 (.tup [.agg (bp h name room).1.res,.c (vi (bp h name room).2.1) 1,.c (vi (bp h name room).2.2) 1]):=by
 refine pci aw Tryz.func143 (λw0 base=>?_);have hls:=aY (ic hl).2;simp[Hub.row];intro b3 b6;refine ag.pure (eS h aa name) bj ?_;simp;refine ag.pure (dZ h aa) bj ?_;by_cases c1:bC h
 rotate_left
 ·simp[az c1,jb (λh=>c1 h.1),Hub.res,Hub.zero]
 simp[c1];refine ag.pure (bT room 1 6) ab ?_;by_cases c2:1<=room/\room<=6
 rotate_left
 ·simp[az c2,jb (λh=>c2 h.2),Hub.res,Hub.zero]
 simp[c2]
 cases c3:h.shut with
 |true=>simp[mN ⟨c1,c2⟩ c3,Hub.res,Hub.zero]
 |false=>
 simp;rcases fI h.docs name with⟨k,hk,e,-⟩|e;rotate_left
 ·simp[e,mO ⟨c1,c2⟩ m6 e,Hub.res,Hub.zero]
 have hk0:¬(k:Int)<0:=aa;have hat:=oC ⟨c1,c2⟩ m6 hk e;simp[e,hk0];have hlast:=c1.2.2.1;by_cases c4:h.subs.length=6
 ·have c4':(h.subs.length:Int)=6:=by omega
  rw[ao (.inl c4)]at hat;simp[c4',hat,Hub.res,Hub.zero]
 have c4':¬(h.subs.length:Int)=6:=aa;simp[c4'];by_cases c5:h.last=1000000000
 ·rw[ao (.inr c5)]at hat
  simp[c5,hat,Hub.res,Hub.zero]
 rw[au (λh=>h.elim c4 c5)]at hat;have ew:Go.IntKind.i64.wrap (h.last+1)=h.last+1:=ae _ aa;have hh:=dg (ja c1 hk);obtain⟨d,hd⟩:∃d,h.docs[k]=d:=⟨_,rfl⟩;rw[hd]at hat hh;simp[c5];refine ag.pure (eE h aa) (by simp[Hub.row,c3]) ?_;simp[Hub.res,ew,c3,hk,hd,Doc.row];intro H1 H2 b10;refine ag.pure (cD d) bo ?_;simp;have hc:=sC room (aB d) aa;generalize fv room (aB d)=R at hc hat;obtain⟨⟨cp,nx,ot,ls⟩,ok⟩:=R;refine ag.pure hc ab ?_;simp[Ring.res];intro H11 H12 b11;refine⟨aa,λH=>?_⟩;refine drw eok mix [0,1,2,4,5] [3] (.c 5 3 16 15 (.l 5 15) .s) ?_;simp
 try intros
 rw[hat];simp[c3,Sub.row]
 try (rintro row (⟨a,-,rfl⟩|rfl)<;>rfl)
theorem w9(h:Hub)(hl:dh h<=2^28)(id:Int):ar Tryz.prog 145 [.agg h.row,.c (vi id)]
 (.tup [.agg (bP h id).1.res,.c (.s ((bP h id).2.1.map aI)) 1,.c (vi (bP h id).2.2.1) 1,.c (vi (bP h id).2.2.2) 1]):=by
 refine pci aw Tryz.func145 (λw0 base=>?_);have hls:=aY (ic hl).2;simp[Hub.row];intro b2 b4;refine ag.pure (mj h aa id) bj ?_;simp;refine ag.pure (dZ h aa) bj ?_;by_cases c1:bC h
 rotate_left
 ·simp[az c1,sI c1,Hub.res,Hub.zero]
 simp[c1];rcases kc h.subs id with⟨k,hk,e,-⟩|e;rotate_left
 ·simp[e,pM c1 e,Hub.res,Hub.zero]
 have hk0:¬(k:Int)<0:=aa;obtain⟨hro,j,hj,ej⟩:=rP c1 hk;have hat:=sJ c1 hk e hj ej;have hm:=cH (f:=dp) (ic hl).2 hk;have hdn:=cH (f:=cB) (ic hl).1 hj;have hh:=dg (ja c1 hj);unfold dp at hm;have hmod:=rN hk;obtain⟨s,hs⟩:∃s,h.subs[k]=s:=⟨_,rfl⟩;obtain⟨d,hd⟩:∃d,h.docs[j]=d:=⟨_,rfl⟩;rw[hs]at hat hm hmod ej;rw[hd]at hat hdn hh;have hc:=vw s.r aa (aB d) aa;generalize cW s.r (aB d)=R at hc hat;obtain⟨r,ok⟩:=R;simp only at hat hc;simp[e,hk0];refine dV (λx:Nat=>[(9,.p 144 x 0)]) (λx=>[(144,.vars x 119 [.v (.string d.name),.v (.int .i64 d.fr),.ro (d.text.map aI),.ro (d.list.map Entry.row),.ro (d.seen.map Seen.row)])]) [1,2,4,5,6,7,8] ?_ ?_
 ·refine drw eok mix [0,1,2,3,4,5,6,7,8] [9,10,11,12,13] (.c 9 9 65 446 (.c 9 10 128 318 (.c 9 11 0 318 (.c 9 12 0 318 (.c 9 13 318 0 (.l 9 0) .s) .s) (.c 9 12 0 318 (.c 9 11 0 318 (.c 9 13 318 0 (.l 9 0) .s) .s) .s)) (.c 9 12 0 446 (.c 9 10 128 318 (.c 9 11 0 318 (.c 9 13 318 0 (.l 9 0) .s) .s) .s) .s)) (.c 9 12 0 511 (.c 9 9 65 446 (.c 9 10 128 318 (.c 9 11 0 318 (.c 9 13 318 0 (.l 9 0) .s) .s) .s) .s) .s)) ?_
  simp[hk,hs,Sub.row]
  try intros
  repeat' first
   |(refine ag.pure (eS h aa s.doc) bj ?_;simp[hj,hd,Doc.row,ej];try intros)
   |(rw[Trc];refine⟨?_,?_⟩<;>(try simp[hk,hs,hj,hd,Sub.row,Doc.row])<;>try intros)
 rintro b9
 simp;refine ag.pure (eE h aa) bj ?_;simp[Hub.res];intro H1 H2 b10;refine drw eok mix [0,1,2,3,4,5,6,7,8,9,15,16] [10,11,12,13,14,17] (.c 12 10 4 4091 (.c 12 11 8 4083 (.c 12 12 0 4083 (.c 12 13 0 4083 (.c 12 14 0 4083 (.c 12 17 4081 2 (.l 12 2) .s) .s) .s) .s) .s) .s) ?_;simp[hk,hs,Sub.row]
 try intros
 refine ag.pure (cD d) bo ?_;simp
 try intros
 refine ag.pure (hc) dH ?_;simp[Ring.res,hk]
 try intros
 refine drw eok mix [0,1,3,8] [2,4,5,6,7] (.c 4 2 4 11 (.c 4 4 2 9 (.c 4 5 8 1 (.c 4 6 0 1 (.c 4 7 0 1 (.l 4 1) .s) .s) .s) .s) .s) ?_;simp
 try intros
 refine ag.pure (qj d aa) bo ?_;simp
 try intros
 refine ag.pure (cD d) bo ?_;simp
 try intros
 rw[hat];simp[hmod r];exact vh
theorem Ij(h:Hub)(hl:dh h<=2^28)(_c1:bC h)(c:Call):ar Tryz.prog 142 [.agg h.row,.agg c.row] (.one (.agg (nE h c).res)):=by
 refine pci aw Tryz.func142 (λw0 base=>?_);simp[Hub.row,Call.row];intro b2 b3 b4;refine ag.pure (eS h aa c.doc) bj ?_;simp
 cases c3:h.shut with
 |true=>simp[zr c3,Answer.res,eX]
 |false=>
 simp;rcases fI h.docs c.doc with⟨k,hk,e,-⟩|e;rotate_left
 ·simp[e,zs m6 e,Answer.res,eX]
 have hk0:¬(k:Int)<0:=aa;have hat:=Gn (c:=c) m6 hk e;have hdn:=cH (f:=cB) (ic hl).1 hk;obtain⟨d,hd⟩:∃d,h.docs[k]=d:=⟨_,rfl⟩;rw[hd]at hat hdn;simp[e,hk0];by_cases c4:c.kind=4
 ·rw[ao c4]at hat
  simp[c4];refine drw eok mix [0,1,2,3,4,6,7,8,9,10] [5,11,12,13] (.c 10 5 32 991 (.c 10 11 1 990 (.c 10 12 0 990 (.c 10 13 990 0 (.l 10 0) .s) .s) .s) .s) ?_;simp[hk,hd,Doc.row]
  try intros
  refine ag.pure (qj d aa) m5 ?_;simp
  try intros
  refine ag.pure (cD d) m5 ?_;simp
  try intros
  rw[hat];simp[Answer.res]
 rw[au c4]at hat;have hf:=F4 d aa c.n;exact LZ
theorem ED{name:ByteArray}{t:List Int}:bQ (gK name t)↔mJ name/\eo t:=by
 constructor
 ·rintro⟨h1,-,h3,-⟩
  exact⟨h1,h3⟩
 ·rintro⟨h1,h2⟩
  exact⟨h1,by simp[gK],h2,by simp[gK],by simp[gK],by simp[gK,bk],λi hi=>by simp[gK]at hi⟩
theorem AF(h:Hub)(hl:dh h<=2^28)(name:ByteArray)(hs:name.size<=2^28)(t:List Int)(ht:t.length<=2^28):ar Tryz.prog 140 [.agg h.row,.c (.v (.string name)),.c (.s (t.map aI))]
 (.tup [.agg (dD h name t).1.res,.c (vi (dD h name t).2) 1]):=by
 refine pci aw Tryz.func140 (λw0 base=>?_);have hld:=aY (ic hl).1;have hdn:=Ee name t hs ht;unfold lu at hdn;simp[Hub.row];intro b3 b6;refine ag.pure (dZ h aa) bj ?_;by_cases c1:bC h
 rotate_left
 ·simp[az c1,jT (λh=>c1 h.1),Hub.res,Hub.zero]
 simp[c1];refine ag.pure (uB name aa) ab ?_;by_cases d1:mJ name
 rotate_left
 ·simp[az d1,jT (λh=>d1 (ED.1 h.2).1),Hub.res,Hub.zero]
 simp[d1];refine ag.pure (kA t aa) ab ?_;by_cases d2:eo t
 rotate_left
 ·simp[az d2,jT (λh=>d2 (ED.1 h.2).2),Hub.res,Hub.zero]
 have c0:bQ (gK name t):=ED.2 ⟨d1,d2⟩;rw[ao c0]at hdn;simp[d2]
 cases c2:h.shut with
 |true=>simp[sK ⟨c1,c0⟩ c2,Hub.res,Hub.zero]
 |false=>
 have c2':¬h.shut=true:=qZ;simp;refine ag.pure (eS h aa name) m7 ?_;simp;by_cases c3:0<=bq h.docs name
 ·simp[c3,sL ⟨c1,c0⟩ c2' c3,Hub.res,Hub.zero]
 simp[c3];by_cases c4:h.docs.length=5
 ·have c4':(h.docs.length:Int)=5:=by omega
  simp[c4',sM ⟨c1,c0⟩ c2' c3 c4,Hub.res,Hub.zero]
 have c4':¬(h.docs.length:Int)=5:=aa;have hat:=uJ ⟨c1,c0⟩ c2' c3 c4;rw[rU]at hat;have hal:=qC (gK name t).name h.docs;have hon:=λ{k:Nat} h1 h2=>qD (name:=(gK name t).name) (l:=h.docs) (k:=k) h1 h2
 rw[show(gK name t).name=name from rfl]at hat hal hon;generalize fw name h.docs=a at hat hal hon;simp[c4'];refine ag.pure hdn ab ?_;simp[Doc.res,gK];intro G1 G2 G3 b8;refine ag.pure (eE h aa) m7 ?_;simp[Hub.res,c2];intro K1 K2 b10
 refine aH eok (λk:Nat=>k<=a) (λk=>⟨76,0,[(11,.v (.int .i64 k)),(1,.v (.string name)),(6,.p 96 b6 0),(8,.p 128 b8 0),(10,.p 160 b10 0)],
  [(160, .vars b10 35 [.v (.bool false), .sl 801 K1 5 0 h.docs.length, .sl 802 K2 6 0 h.subs.length, .v (.int .i64 h.last)]),(96, .vars b6 35 [.v (.bool false), .nil, .nil, .v (.int .i64 0)]),
   (128,.vars b8 119 [.v (.string name),.v (.int .i64 0),.sl 738 G1 1 0 t.length,.sl 739 G2 3 0 0,.sl 740 G3 3 0 0]),(738,.rows G1 1 (t.map aI) true),(739,.rows G2 3 [] true),(740,.rows G3 3 [] true),
   (801,.rows K1 5 (h.docs.map Doc.row) true),(802,.rows K2 6 (h.subs.map Sub.row) true)]⟩) (λk=>h.docs.length-k) 0 ab ab (λk hk=>Ent.refl ?_)
 have hdz:Doc.row ⟨name,0,t,[],[]⟩=[.v (.string name),.v (.int .i64 0),.s (t.map aI),.s [],.s []]:=rfl;by_cases hlt:k<h.docs.length
 ·obtain⟨x,hx⟩:∃x,h.docs[k]=x:=⟨_,rfl⟩
  have hiff:=hon hk hlt;rw[hx]at hiff;simp[hlt,hx,Doc.row];by_cases s:sLt x.name name
  ·simp[s]
   exact Ent.refl ⟨k+1,by have:=hiff.1 s;omega,aa,by simp;exact aQ aa⟩
  have hka:k=a:=by
   have:¬k<a:=λh=>s (hiff.2 h)
   omega
  subst hka;simp[az s];intro b72;refine gw FW ah (n:=h.docs.length) (rows:=h.docs.map Doc.row) (row:=[.v (.string name),.v (.int .i64 0),.s (t.map aI),.s [],.s []]) (k:=801) (kv:=1152) (own:=true) (ownv:=true) (i:=k) ab ab ab ah aM aM (λH6=>?_);simp[hat,c2,gK,hdz];have hm:min k h.docs.length=k:=aa;refine⟨by rw[hm];omega,?_,?_⟩
  ·rintro row (h|rfl|h)
   ·exact N5 (bu h)
   ·rfl
   ·exact N5 (ba h)
  ·rw[uN (by simp[hm];omega)]
 have hka:k=h.docs.length:=aa;have hka2:a=h.docs.length:=aa;subst hka2;subst hka;simp;intro b72;refine gw FW ah (n:=h.docs.length) (rows:=h.docs.map Doc.row) (row:=[.v (.string name),.v (.int .i64 0),.s (t.map aI),.s [],.s []]) (k:=801) (kv:=1152) (own:=true) (ownv:=true) (i:=h.docs.length) ab ab ab ah ab aM (λH6=>?_);simp[hat,c2,gK,hdz];refine⟨?_,?_⟩
 ·rintro row (h|rfl|h)
  ·exact N5 (bu h)
  ·rfl
  ·exact N5 (ba h)
 ·rw[aC ab,bg ab]
theorem w8(h:Hub)(hl:dh h<=2^28)(name:ByteArray)(client seq base:Int)(o:List Part)(ho:nL a9 o<=2^40) :
 ar Tryz.prog 141 [.agg h.row,.c (.v (.string name)),.c (vi client),.c (vi seq),.c (vi base),.c (.s (o.map Part.row))]
 (.tup [.agg (ca h name client seq base o).1.res,.c (vi (ca h name client seq base o).2.1) 1,.c (vi (ca h name client seq base o).2.2) 1]):=by
 refine pci aw Tryz.func141 (λw0 bs=>?_);have hls:=aY (ic hl).2;simp[Hub.row];intro b6 b12;refine ag.pure (eS h aa name) bj ?_;simp;refine ag.pure (dZ h aa) bj ?_;by_cases c1:bC h
 rotate_left
 ·simp[az c1,sF c1,Hub.res,Hub.zero]
 simp[c1]
 cases c2:h.shut with
 |true=>simp[pK c1 c2,Hub.res,Hub.zero]
 |false=>
 have c2':¬h.shut=true:=qZ;simp;rcases fI h.docs name with⟨k,hk,e,-⟩|e;rotate_left
 ·simp[e,pL c1 c2' e,Hub.res,Hub.zero]
 have hk0:¬(k:Int)<0:=aa;have hat:=sG (client:=client) (seq:=seq) (base:=base) (o:=o) c1 c2' hk e;have hdn:=cH (f:=cB) (ic hl).1 hk;have hdo:=ja c1 hk;have hDn:=vD (client:=client) (seq:=seq) (base:=base) (o:=o) hdo;have hok:=zm (client:=client) (seq:=seq) (base:=base) (o:=o) hdo;obtain⟨d,hd⟩:∃d,h.docs[k]=d:=⟨_,rfl⟩;rw[hd]at hat hdn hDn hok;have hc:=D7 d hdn client seq base o ho;generalize cU d client seq base o=S at hc hat hDn hok;obtain⟨D,rev,code⟩:=S;simp only at hc hat hDn hok;simp[e,hk0,hk,hd,Doc.row];refine ag.pure hc bo ?_;simp[Doc.res];intro H1 H2 H3 b16;by_cases c3:code=0
 rotate_left
 ·rw[au c3]at hat
  simp[c3,hat,Hub.res,Hub.zero]
 rw[ao c3]at hat;have hok:=hok c3;simp[c3];refine ag.pure (eE h aa) m7 ?_;simp[Hub.res,c2,hk];intro K1 K2 b19;refine drw eok mix [0,2,3,4,5,6] [1,7,8] (.c 6 1 32 31 (.c 6 7 1 30 (.c 6 8 0 30 (.l 6 30) .s) .s) .s) ?_;simp[hk,hd,Doc.row]
 try intros
 refine ag.pure (cD D) m5 ?_;simp
 try intros
 refine ag.pure (cD d) m5 ?_;simp
 try intros
 by_cases c5:aB D=aB d
 ·have hcm:gd h name k d D=⟨h.shut,h.docs.set k D,h.subs,h.last⟩:=by unfold gd;rw[au aa]
  rw[hcm]at hat;simp[c5,hat,c2];exact⟨rJ,rfl⟩
 rcases hok with rfl|⟨e,he1,he2⟩
 ·exact absurd rfl c5
 have hcm:gd h name k d D=⟨h.shut,h.docs.set k D,h.subs.map (gg name e),h.last⟩:=by unfold gd;rw[ao aa,he2]
 rw[hcm]at hat;have hgt:aB d<aB D:=aa;have hmem:e∈D.list:=Ah he2;have hpos:0<D.list.length:=mX hmem;obtain⟨m,hm⟩:∃m,D.list.length=m+1:=⟨D.list.length-1,aa⟩;have hml:m<D.list.length:=aa
 have hme:D.list[m]=e:=by
  exact Ky
 have hDl:nL aX D.list<=2^24:=by unfold cB at hDn;omega
 have hen:=gF (f:=aX) hDl hmem;have hlen24:=aY hDl;have ew:Go.IntKind.i64.wrap ((D.list.length:Int)-1)=(m:Int):=by rw[ae _ aa];omega
 have em:Go.IntKind.i64.wrap (m:Int)=m:=fh aa;simp[hgt]
 refine aH eok (λi:Nat=>i<=h.subs.length) (λi=>⟨103,0,[(75,.v (.int .i64 i)),(74,.v (.int .i64 h.subs.length)),(73,.sl 914 K2 6 0 h.subs.length),(19,.p 304 b19 0),(16,.p 256 b16 0),(17,.v (.int .i64 rev)),(1,.v (.string name)),(12,.p 192 b12 0)],
  [(304, .vars b19 35 [.v (.bool false), .sl 913 K1 5 0 h.docs.length, .sl 914 K2 6 0 h.subs.length, .v (.int .i64 h.last)]),(192, .vars b12 35 [.v (.bool false), .nil, .nil, .v (.int .i64 0)]),
   (256,.vars b16 119 [.v (.string D.name),.v (.int .i64 D.fr),.sl 770 H1 1 0 D.text.length,.sl 771 H2 3 0 D.list.length,.sl 772 H3 3 0 D.seen.length]),
   (771,.lent H2 3 (D.list.map Entry.row)),(913,.rows K1 5 ((h.docs.set k D).map Doc.row) true),(914,.rows K2 6 ((iK name e h.subs i).map Sub.row) true)]⟩) (λi=>h.subs.length-i) 0 ab (by simp[vT];rfl) (λi hi=>Ent.refl ?_)
 have htl:=sU name e h.subs i;by_cases hlt:i<h.subs.length
 ·have hti:=va (name:=name) (e:=e) hlt
  have hlt':i<(iK name e h.subs i).length:=aa;have hsk:=vU (name:=name) (e:=e) hlt;have hsu:=sT (name:=name) (e:=e) hlt;have hmd:=rN hlt' (eg h.subs[i].r e);have hmn:=cH (f:=dp) (ic hl).2 hlt;unfold dp at hmn;rw[hti]at hmd;obtain⟨s,hs⟩:∃s,h.subs[i]=s:=⟨_,rfl⟩;rw[hs]at hti hsk hsu hmd hmn;simp[hlt,htl,hti,Sub.row];intro b21;by_cases c6:s.doc=name
  rotate_left
  ·simp[c6]
   refine Ent.refl ⟨i+1,aa,aa,?_⟩;rw[<-hsk c6];simp;exact aQ aa
  have htell:gg name e s=⟨s.id,s.doc,eg s.r e⟩:=by unfold gg;rw[ao c6]
  rw[htell]at hsu;rw[hsu]at hmd;have hpc:=zd s.r aa e aa;generalize eg s.r e=R at hpc hmd;simp[c6];have hmm:(m:Int)<(m:Int)+1:=aa;refine drw eok mix [0,1,2,3,4,5,6,7,8,9,10,11,12,14,15] [13,16] (.c 15 13 1028 31739 (.c 15 16 31737 2 (.l 15 2) .s) .s) ?_;simp[hlt,hm,em,hme,hmm,Entry.row]
  try intros
  refine ag.pure (hpc) (by simp[Ring.row,Entry.row,Entry.row]) ?_;simp[Ring.res,hlt,htl]
  try intros
  refine Ent.refl ⟨i+1,aa,aa,?_⟩;rw[<-hmd];simp;exact aQ aa
 have hie:i=h.subs.length:=aa;subst hie;rw[yw];simp[hat,c2];exact rJ
theorem dY(k:Int):ar Tryz.prog 35 [.c (vi k)] (.one (.c (vb (cO k)) 1)):=by
 refine pci aw Tryz.func35 (λw0 base=>?_);simp;refine ag.pure (bT k 1 5) ab ?_;simp[cO]
theorem pW(k:Int):ar Tryz.prog 24 [.c (vi k)] (.one (.c (vb (cO k)) 1)):=by
 refine pci aw Tryz.func24 (λw0 base=>?_);simp;refine ag.pure (cG k 1 5) ab ?_;simp[cO]
theorem G9(k:Int):ar Tryz.prog 159 [.c (vi k)] (.one (.c (vb (1<=k/\k<=8)) 1)):=by
 refine pci aw Tryz.func159 (λw0 base=>?_);simp;refine ag.pure (cG k 1 8) ab ?_;simp
theorem eW(a b:Call)(ha:dP a<=2^40):ar Tryz.prog 189 [.agg a.row,.agg b.row] (.one (.c (vb (a=b)) 1)):=by
 refine pci aw Tryz.func189 (λw0 base=>?_);obtain⟨a0,a1,a2,a3,a4,a5,a6⟩:=a;obtain⟨c0,c1,c2,c3,c4,c5,c6⟩:=b;unfold dP at ha;simp only at ha;simp[Call.row];intro b1 b2;by_cases h0:a0=c0
 rotate_left
 ·simp[h0]
 subst h0;by_cases h1:a1=c1
 rotate_left
 ·simp[h1]
 subst h1;by_cases h2:a2=c2
 rotate_left
 ·simp[h2]
 subst h2;by_cases h3:a3=c3
 rotate_left
 ·simp[h3]
 subst h3;by_cases h4:a4=c4
 rotate_left
 ·simp[h4]
 subst h4;simp;refine ag.pure (pe a5 c5 aa) ab ?_;by_cases h5:a5=c5
 rotate_left
 ·simp[h5]
 subst h5;simp;refine ag.pure (rI a6 c6 aa) ab ?_;by_cases h6:a6=c6
 ·simp[h6]
 ·simp[h6]
theorem kD(c:Call)(hl:dP c<=2^36):ar Tryz.prog 133 [.agg c.row] (.one (.c (vb (dA c)) 1)):=by
 refine pci aw Tryz.func133 (λw0 base=>?_);have hu:=@Gw c;have hx:∀p:Prop,(dA c->p)->¬p->dc (dA c)=false:=λp h1 h2=>az (λh=>h2 (h1 h))
 have hl0:=hl;unfold dP at hl;simp[Call.row];intro b1;refine drw eok mix [0,1] [2,3,4,5,6,7,8,9,10,11,12,13,14,15,16,17,18,19,20,21,22,23,24,25] (.c 2 2 1 2 (.c 2 3 0 2 (.c 2 4 0 2 (.c 2 5 0 2 (.c 2 6 0 2 (.c 2 7 0 2 (.c 2 8 0 2 (.c 2 9 0 2 (.c 2 10 0 2 (.c 2 11 0 2 (.c 2 12 0 2 (.c 2 13 0 2 (.c 2 14 0 2 (.c 2 15 0 2 (.c 2 16 0 2 (.c 2 17 0 2 (.c 2 18 0 2 (.c 2 19 0 2 (.c 2 20 0 2 (.c 2 21 0 2 (.c 2 22 0 2 (.c 2 23 0 2 (.c 2 24 0 2 (.c 2 25 2 0 (.l 2 0) .s) .s) .s) .s) .s) (.c 2 21 0 2 (.c 2 20 0 2 (.c 2 22 0 2 (.c 2 23 0 2 (.c 2 24 0 2 (.c 2 25 2 0 (.l 2 0) .s) .s) .s) .s) (.c 2 22 0 2 (.c 2 20 0 2 (.c 2 23 0 2 (.c 2 24 0 2 (.c 2 25 2 0 (.l 2 0) .s) .s) .s) .s) .s)) .s)) .s) .s) .s) .s) .s) .s) .s) .s) .s) .s) .s) .s) .s) .s) .s) .s) .s) .s) ?_;simp;refine ag.pure (bT c.kind 1 8) ab ?_;by_cases s1:1<=c.kind/\c.kind<=8
 rotate_left
 ·simp[az s1]
  rw[Trc];refine⟨?_,?_⟩
  ·simp[hx _ (λh=>h.1) s1]
  ·simp
   rw[Trc];refine⟨?_,?_⟩
   ·simp[hx _ (λh=>h.1) s1]
   ·simp[hx _ (λh=>h.1) s1]
 simp[s1];by_cases s2:c.doc.size<=8
 rotate_left
 ·have s2':¬(c.doc.size:Int)<=8:=by omega
  simp[s2'];rw[Trc];refine⟨?_,?_⟩
  ·simp[hx _ (λh=>h.2.1) s2]
  ·simp
   rw[Trc];refine⟨?_,?_⟩
   ·simp[hx _ (λh=>h.2.1) s2]
   ·simp[hx _ (λh=>h.2.1) s2]
 have s2':(c.doc.size:Int)<=8:=aa;simp[s2'];refine ag.pure (nV c.o aa) ab ?_;by_cases s3:fG c.o
 rotate_left
 ·simp[az s3]
  rw[Trc];refine⟨?_,?_⟩
  ·simp[hx _ (λh=>h.2.2.1) s3]
  ·simp
   rw[Trc];refine⟨?_,?_⟩
   ·simp[hx _ (λh=>h.2.2.1) s3]
   ·simp[hx _ (λh=>h.2.2.1) s3]
 simp[s3];refine ag.pure (kA c.text aa) ab ?_;by_cases s4:eo c.text
 rotate_left
 ·simp[az s4]
  rw[Trc];refine⟨?_,?_⟩
  ·simp[hx _ (λh=>h.2.2.2.1) s4]
  ·simp
   rw[Trc];refine⟨?_,?_⟩
   ·simp[hx _ (λh=>h.2.2.2.1) s4]
   ·simp[hx _ (λh=>h.2.2.2.1) s4]
 have fin:∀u,eB c=u->vb (c=u)=vb (dA c):=λu h=>by
  subst h;unfold vb
  congr 3
  apply propext
  exact⟨λh=>hu.2 ⟨s1,s2,s3,s4,h⟩,λh=>(hu.1 h).2.2.2.2⟩
 simp[s4];rw[Trc];refine⟨?_,?_⟩
 ·exact Dw
 ·simp
  rw[Trc];refine⟨?_,?_⟩
  ·exact Dw
  ·exact Dw
theorem ua(c:Call)(hl:dP c<=2^36):ar Tryz.prog 109 [.agg c.row] (.one (.c (vb (dA c)) 1)):=by
 refine pci aw Tryz.func109 (λw0 base=>?_);have hx:∀p:Prop,(dA c->p)->¬p->dc (dA c)=false:=λp h1 h2=>az (λh=>h2 (h1 h))
 unfold dP at hl;simp[Call.row];intro b1;refine ag.pure (G9 c.kind) ab ?_;by_cases s1:1<=c.kind/\c.kind<=8
 rotate_left
 ·simp[az s1,hx _ (λh=>h.1) s1]
 simp[s1];by_cases s2:c.doc.size<=8
 rotate_left
 ·have s2':8<(c.doc.size:Int):=by omega
  simp[s2',hx _ (λh=>h.2.1) s2]
 have s2':¬8<(c.doc.size:Int):=aa;simp[s2'];refine ag.pure (nO c.o aa) ab ?_;by_cases s3:fG c.o
 rotate_left
 ·simp[az s3,hx _ (λh=>h.2.2.1) s3]
 simp[s3];refine ag.pure (mc c.text aa) ab ?_;by_cases s4:eo c.text
 rotate_left
 ·simp[az s4,hx _ (λh=>h.2.2.2.1) s4]
 simp[s4];refine ag.pure (pW c.kind) ab ?_
 clear hx
 obtain⟨kind,doc,client,seq,n,o,text⟩:=c;simp only at s1 s2 s3 s4 s2'⊢
 have ho:(0<o.length)=¬o=[]:=by
  apply propext
  cases o<;>simp
 have ht:(0<text.length)=¬text=[]:=by
  apply propext
  cases text<;>simp
 have hk:kind=1\/kind=2\/kind=3\/kind=4\/kind=5\/kind=6\/kind=7\/kind=8:=aa;unfold vb;rcases hk with rfl|rfl|rfl|rfl|rfl|rfl|rfl|rfl
 ·have hd:cO 1:=by unfold cO;omega
  have e:dc (dA ⟨1,doc,client,seq,n,o,text⟩)=dc (o=[]/\seq=0/\client=0/\n=0):=by
   exact nn
  rw[e];simp[hd,ho];by_cases e0:o=[]<;>by_cases e1:seq=0<;>by_cases e2:client=0<;>by_cases e3:n=0<;>simp[e0,e1,e2,e3,ho]
 ·have hd:cO 2:=by unfold cO;omega
  have e:dc (dA ⟨2,doc,client,seq,n,o,text⟩)=dc (text=[]):=by
   exact nn
  rw[e];simp[hd,ht];by_cases e0:text=[]<;>simp[e0,ht]
 ·have hd:cO 3:=by unfold cO;omega
  have e:dc (dA ⟨3,doc,client,seq,n,o,text⟩)=dc (text=[]/\o=[]/\seq=0/\client=0):=by
   exact nn
  exact Le
 ·have hd:cO 4:=by unfold cO;omega
  have e:dc (dA ⟨4,doc,client,seq,n,o,text⟩)=dc (text=[]/\o=[]/\seq=0/\client=0/\n=0):=by
   exact nn
  rw[e];simp[hd,ht];by_cases e0:text=[]<;>by_cases e1:o=[]<;>by_cases e2:seq=0<;>by_cases e3:client=0<;>by_cases e4:n=0<;>simp[e0,e1,e2,e3,e4,ho,ht]
 ·have hd:cO 5:=by unfold cO;omega
  have e:dc (dA ⟨5,doc,client,seq,n,o,text⟩)=dc (text=[]/\o=[]/\seq=0/\client=0):=by
   exact nn
  exact Le
 ·have hd:¬cO 6:=by unfold cO;omega
  have e:dc (dA ⟨6,doc,client,seq,n,o,text⟩)=dc (doc=⟨#[]⟩/\text=[]/\o=[]/\seq=0):=by
   exact nn
  rw[e];simp[az hd];by_cases e0:doc=⟨#[]⟩<;>by_cases e1:text=[]<;>by_cases e2:o=[]<;>by_cases e3:seq=0<;>simp[e0,e1,e2,e3,ho,ht]
 ·have hd:¬cO 7:=by unfold cO;omega
  have e:dc (dA ⟨7,doc,client,seq,n,o,text⟩)=dc (doc=⟨#[]⟩/\text=[]/\o=[]/\seq=0/\n=0):=by
   exact nn
  rw[e];simp[az hd];by_cases e0:doc=⟨#[]⟩<;>by_cases e1:text=[]<;>by_cases e2:o=[]<;>by_cases e3:seq=0<;>by_cases e4:n=0<;>simp[e0,e1,e2,e3,e4,ho,ht]
 ·have hd:¬cO 8:=by unfold cO;omega
  have e:dc (dA ⟨8,doc,client,seq,n,o,text⟩)=dc (doc=⟨#[]⟩/\text=[]/\o=[]/\seq=0/\client=0/\n=0):=by
   exact nn
  rw[e];simp[az hd];by_cases e0:doc=⟨#[]⟩<;>by_cases e1:text=[]<;>by_cases e2:o=[]<;>by_cases e3:seq=0<;>by_cases e4:client=0<;>by_cases e5:n=0<;>simp[e0,e1,e2,e3,e4,e5,ho,ht]
theorem R8{h:Hub}{c:Call}(n:¬(bC h/\dA c)):fDo h c=(h,eX 1):=by unfold fDo;rw[au n]
theorem V0{h:Hub}{c:Call}(y:bC h/\dA c)(k:c.kind=1):fDo h c=if(dD h c.doc c.text).2=0 then((dD h c.doc c.text).1,eX 0)else(h,eX (dD h c.doc c.text).2):=by unfold fDo;rw[ao y,ao k]
theorem VZ{h:Hub}{c:Call}(y:bC h/\dA c)(k:c.kind=2):fDo h c=if(ca h c.doc c.client c.seq c.n c.o).2.2=0 then((ca h c.doc c.client c.seq c.n c.o).1,⟨0,(ca h c.doc c.client c.seq c.n c.o).2.1,[],[]⟩)else(h,eX (ca h c.doc c.client c.seq c.n c.o).2.2):=by
 unfold fDo;rw[ao y,au aa,ao k]
theorem R9{h:Hub}{c:Call}(y:bC h/\dA c)(k:c.kind=3\/c.kind=4):fDo h c=(h,nE h c):=by unfold fDo;rw[ao y,au aa,au aa,ao k]
theorem VY{h:Hub}{c:Call}(y:bC h/\dA c)(k:c.kind=5):fDo h c=if(bp h c.doc c.n).2.2=0 then((bp h c.doc c.n).1,⟨0,(bp h c.doc c.n).2.1,[],[]⟩)else(h,eX (bp h c.doc c.n).2.2):=by
 unfold fDo;rw[ao y,au aa,au aa,au aa,ao k]
theorem M0{h:Hub}{c:Call}(y:bC h/\dA c)(k:c.kind=6):fDo h c=if(df h c.client c.n).2.2=0 then((df h c.client c.n).1,⟨0,0,[],(df h c.client c.n).2.1⟩)else(h,eX (df h c.client c.n).2.2):=by
 unfold fDo;rw[ao y,au aa,au aa,au aa,au aa,ao k]
theorem VX{h:Hub}{c:Call}(y:bC h/\dA c)(k:c.kind=7):fDo h c=if(bP h c.client).2.2.2=0 then((bP h c.client).1,⟨0,(bP h c.client).2.2.1,(bP h c.client).2.1,[]⟩)else(h,eX (bP h c.client).2.2.2):=by
 unfold fDo;rw[ao y,au aa,au aa,au aa,au aa,au aa,ao k]
theorem VW{h:Hub}{c:Call}(y:bC h/\dA c)(k:c.kind=8):fDo h c=if(eh h).2=0 then((eh h).1,eX 0)else(h,eX (eh h).2):=by
 unfold fDo;rw[ao y,au aa,au aa,au aa,au aa,au aa,au aa]
theorem QD(h:Hub)(hl:dh h<=2^28)(c:Call)(hc:dP c<=2^28):ar Tryz.prog 66 [.agg h.row,.agg c.row] (.tup [.agg (fDo h c).1.res,.agg (fDo h c).2.res]):=by
 refine pci aw Tryz.func66 (λw0 base=>?_);have hcn:c.doc.size<=2^28/\nL a9 c.o<=2^28/\c.text.length<=2^28:=xw;simp[Hub.row,Call.row];intro b2 b3 b4 b5;refine ag.pure (gi h aa) bj ?_;by_cases c1:bC h
 rotate_left
 ·simp[az c1]
  refine ag.pure (gb h aa) bj ?_;exact CV
 simp[c1];refine ag.pure (ua c aa) jq ?_;by_cases c2:dA c
 rotate_left
 ·simp[az c2]
  refine ag.pure (gb h aa) bj ?_;exact CU
 simp[c2];intro b6 b23 b24;have hk:c.kind=1\/c.kind=2\/(c.kind=3\/c.kind=4)\/c.kind=5\/c.kind=6\/c.kind=7\/c.kind=8:=by have:=c2.1;omega
 rcases hk with k|k|k|k|k|k|k
 ·
  have hat:=V0 ⟨c1,c2⟩ k;have hd:=Ap h aa c.doc hcn.1 c.text hcn.2.2;generalize dD h c.doc c.text=R at hd hat;exact Jv
 ·
  have hat:=VZ ⟨c1,c2⟩ k;have hd:=wY h aa c.doc c.client c.seq c.n c.o aa;generalize ca h c.doc c.client c.seq c.n c.o=R at hd hat;obtain⟨X,rev,code⟩:=R;exact yg
 ·
  have hat:=R9 ⟨c1,c2⟩ k;have hd:=G5 h aa c1 c;generalize nE h c=A at hd hat;have k1:¬c.kind=1:=aa;have k2:¬c.kind=2:=aa;have fin:∀_:c.kind=3\/(¬c.kind=3/\c.kind=4),True:=λ_=>trivial
  rcases k with k|k
  ·exact Jw
  ·exact Jw
 ·
  have hat:=VY ⟨c1,c2⟩ k;have hd:=sX h aa c.doc c.n;generalize bp h c.doc c.n=R at hd hat;obtain⟨X,rev,code⟩:=R;exact yg
 ·
  have hat:=M0 ⟨c1,c2⟩ k;have hd:=Ao h aa c.client c.n;generalize df h c.client c.n=R at hd hat;obtain⟨X,list,code⟩:=R;exact yg
 ·
  have hat:=VX ⟨c1,c2⟩ k;have hd:=wZ h aa c.client;generalize bP h c.client=R at hd hat;obtain⟨X,text,rev,code⟩:=R;exact yg
 ·
  have hat:=VW ⟨c1,c2⟩ k;have hd:=An h aa;generalize eh h=R at hd hat;exact Jv
theorem Bz(h:Hub)(hl:dh h<=2^28)(c:Call)(hc:dP c<=2^28)(n6:¬c.kind=6):ar Tryz.prog 85 [.agg h.row,.agg c.row] (.tup [.agg (fDo h c).1.res,.agg (fDo h c).2.res]):=by
 refine pci aw Tryz.func85 (λw0 base=>?_);have hcn:c.doc.size<=2^28/\nL a9 c.o<=2^28/\c.text.length<=2^28:=xw;simp[Hub.row,Call.row];intro b2 b3 b4 b5;refine ag.pure (dZ h aa) bj ?_;by_cases c1:bC h
 rotate_left
 ·exact Jh
 simp[c1];refine ag.pure (kD c aa) jq ?_;by_cases c2:dA c
 rotate_left
 ·exact Jg
 simp[c2];intro b6 b7;have hk:c.kind=1\/c.kind=2\/(c.kind=3\/c.kind=4)\/c.kind=5\/c.kind=6\/c.kind=7\/c.kind=8:=by have:=c2.1;omega
 rcases hk with k|k|k|k|k|k|k
 ·
  have hat:=V0 ⟨c1,c2⟩ k;have hd:=AF h aa c.doc hcn.1 c.text hcn.2.2;generalize dD h c.doc c.text=R at hd hat;exact JB
 ·
  have hat:=VZ ⟨c1,c2⟩ k;have hd:=w8 h aa c.doc c.client c.seq c.n c.o aa;generalize ca h c.doc c.client c.seq c.n c.o=R at hd hat;obtain⟨X,rev,code⟩:=R;exact Ct
 ·
  have hat:=R9 ⟨c1,c2⟩ k;have hd:=Ij h aa c1 c;generalize nE h c=A at hd hat;have k1:¬c.kind=1:=aa;have k2:¬c.kind=2:=aa;have fin:∀_:c.kind=3\/(¬c.kind=3/\c.kind=4),True:=λ_=>trivial
  rcases k with k|k
  ·exact Jx
  ·exact Jx
 ·
  have hat:=VY ⟨c1,c2⟩ k;have hd:=tc h aa c.doc c.n;generalize bp h c.doc c.n=R at hd hat;obtain⟨X,rev,code⟩:=R;exact Ct
 ·exact absurd k n6
 ·
  have hat:=VX ⟨c1,c2⟩ k;have hd:=w9 h aa c.client;generalize bP h c.client=R at hd hat;obtain⟨X,text,rev,code⟩:=R;exact Ct
 ·
  have hat:=VW ⟨c1,c2⟩ k;have hd:=AC h aa;generalize eh h=R at hd hat;exact JB
end Go.Proofs.YtklblkobegcljaaGreat
namespace Go.AM
open Go.RowKit
def tB(w:World)(S:Nat->Prop)(v:Value):VD->Prop
 | .c d=>Rd w false S v d
 | .agg ds=>∃xs:Array Value,v=.agg xs/\xs.size=ds.length/\∀j d,ds[j]? = some d->Rd w false S (xs.getD j undef) d
def acD(P:Program)(T:TypeId)(bs:List (List CD))(f:Nat)(args:List VD)(R:RR->Prop):Prop:=
 xe P f/\∀(w:World) (b:Nat) (u:Value) (i h:Int) (xs:Array Value),0<=i->i<=bs.length ->
  w.heap[b]? = some (.cells #[u,.int .i64 i,.int .i64 h] T (0,0))->Rd w false (λc=>c≠b) u (.s bs) ->
  xs.size=args.length+1->xs.getD 0 undef=.pointer (some ⟨b,0,none⟩)->(∀j vd,args[j]? = some vd->tB w (λc=>c≠b) (xs.getD (j+1) undef) vd) ->
  Calls P f xs w λe w'=>∃(v:Value) (rr:RR) (i' h':Int),e=.returned v/\R rr/\0<=i'/\i'<=bs.length/\w'.heap[b]? = some (.cells #[u,.int .i64 i',.int .i64 h'] T (0,0)) /\
   BelowF (λc=>c<w.heap.size/\c≠b) w w'/\EV w' (λc=>w.heap.size<=c/\c<w'.heap.size) v rr
theorem tB.rel{w:World}{M:Nat->Prop}{v:Value}{d:VD}(h:tB w (λb=>¬M b) v d):VRel w M d.toAV v:=by
 cases d with
 |c d=>exact ji h
 | agg ds =>
   obtain⟨xs,rfl,hs,hr⟩:=h;refine .agg _ _ (by simp[hs]) (λi av hi=>?_);simp only[bW,aR]at hi;obtain⟨d,hd,rfl⟩:=hi;exact ji (hr i d hd)
theorem zT{base:Bs}{h:AH}{w:World}{E:Nat->Nat->Prop}(H:HRel base h w E){S:Nat->Prop}(hS:∀c,¬h.M c->S c)(hSr:∀k b o C sz rows own,h.get k=.rows (some (b,o,C)) sz rows own->S b)
 {x:AV}{u:Value}{R:Value->CD->Prop}(hR:∀u d,R u d->Rd w false S u d) (hv:VRel w h.M x u) {d:CD}(hk:aIn R h x d):Rd w false S u d:=by
 unfold aIn at hk
 split at hk
 ·cases hv;exact hR _ _ hk
 ·rename_i k Hd sz len
  split at hk
  ·rename_i H' sz' rows own hget
   obtain⟨rfl,rfl,rfl,rfl⟩:=hk
   cases hv with
   | ml _ _ _ _ _ hx =>
     rcases hx with⟨hp,hx⟩|⟨h0,-,a,c,rfl⟩
     ·have ho:=H.obj k
      rw[hget]at ho
      cases Hd with
      | none =>
        obtain⟨⟨a,rfl⟩,h0⟩:=hx;exact tT
      | some q =>
        obtain⟨b,o,C⟩:=q;obtain⟨S0,hrd,hS0⟩:=im ho ⟨k,iC⟩ hx (show 0+rows.length<=rows.length from aa);have:=hrd.weaken.map (S':=S) (λ_ _ _=>rfl) (λc hc _=>(hS0 c hc).elim (λe=>e ▸ hSr _ _ _ _ _ _ _ hget) (λh=>hS c h.2))
        simpa[gL]using this
     ·exact tT
  ·exact hk.elim
 ·subst hk;cases hv with|v u hp=>exact .plain hp
 ·subst hk;cases hv;exact .empty _ _ eC
 ·subst hk;cases hv with|ro rows x hr=>exact hr.map (λ_ _ _=>rfl) (λc hc _=>hS c hc)
 ·rename_i k Hd sz off len
  split at hk
  ·rename_i H' sz' rows own hget
   obtain⟨rfl,rfl,hlen,rfl⟩:=hk
   cases hv with
   | sl _ _ _ _ _ _ hx =>
     have ho:=H.obj k;rw[hget]at ho
     cases Hd with
     | none =>
       exact Jt
     | some q =>
       obtain⟨b,o,C⟩:=q;obtain⟨S0,hrd,hS0⟩:=im ho ⟨k,iC⟩ hx hlen;exact hrd.weaken.map (λ_ _ _=>rfl) (λc hc _=>(hS0 c hc).elim (λe=>e ▸ hSr _ _ _ _ _ _ _ hget) (λh=>hS c h.2))
  ·rename_i H' sz' rows hget
   obtain⟨rfl,rfl,rfl,rfl,rfl⟩:=hk
   cases hv with
   | sl _ _ _ _ _ _ hx =>
     have ho:=H.obj k;rw[hget]at ho;exact(ho.2.2 _ hx).map (λ_ _ _=>rfl) (λc hc _=>hS c hc)
  ·exact hk.elim
 ·exact hk.elim
theorem wK{base:Bs}{h:AH}{w:World}{E:Nat->Nat->Prop}(H:HRel base h w E){S:Nat->Prop}(hS:∀c,¬h.M c->S c)(hSr:∀k b o C sz rows own,h.get k=.rows (some (b,o,C)) sz rows own->S b)
 {R:Value->CD->Prop}(hR:∀u d,R u d->Rd w false S u d):∀(l:List AV) (ds:List CD) {us:Nat->Value}(_:∀i av,l[i]? = some av->VRel w h.M av (us i)) (_:zV R h l ds),
 l.length=ds.length/\∀i d,ds[i]? = some d->Rd w false S (us i) d
 | [],[],us,hv,hk=>⟨rfl,λi d hd=>nf⟩
 | a :: l, d :: ds, us, hv, hk => by
   obtain⟨h1,h2⟩:=wK H hS hSr hR l ds (us:=λi=>us (i+1)) (λi av hi=>hv (i+1) av dN) hk.2;refine⟨j9,λi d' hd=>?_⟩
   cases i with
   |zero=>simp at hd;subst hd;exact zT H hS hSr hR (hv 0 a rfl) hk.1
   |succ i=>exact h2 i d' l0
 | [],_::_,us,hv,hk=>hk.elim
 |_::_,[],us,hv,hk=>hk.elim
end Go.AM
