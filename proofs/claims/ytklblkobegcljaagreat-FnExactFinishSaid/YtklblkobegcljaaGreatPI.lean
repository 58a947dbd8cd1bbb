import Derived.Test.YtklblkobegcljaaGreatPD
import Derived.Test.YtklblkobegcljaaGreatMH
import Derived.Shelf.RegionOpenPlain
import Derived.Test.YtklblkobegcljaaGreatPF
import Derived.Test.YtklblkobegcljaaGreatPG
import Derived.Test.YtklblkobegcljaaGreatPH
import Derived.Test.YtklblkobegcljaaGreatMF
namespace Go.Proofs.YtklblkobegcljaaGreat
open Go.AM Go.RowKit
set_option maxRecDepth 100000
set_option maxHeartbeats 4000000
set_option linter.unusedVariables false
set_option linter.unusedSimpArgs false
theorem FN(w:World)(us xs:List Value)(n i b o C bv ov Cv:Nat)(cs cv:Array Value)(T Tv:TypeId)(hul:us.length=n*5)(hxl:xs.length=5)(hi:i<n)(hroom:n+1<=C)(hC:C<=maxLen)
 (hb:w.heap[b]? = some (.cells cs T (0,0))) (hfit:o+C*5<=cs.size) (hcs:∀j,j<n*5->cs.getD (o+j) undef=us.getD j undef) (h1:∀v∈us,v.oneCell'=true)
 (hbv:w.heap[bv]? = some (.cells cv Tv (0,0))) (hCv:1<=Cv) (hfv:ov+Cv*5<=cv.size) (hcv:∀j,j<5->cv.getD (ov+j) undef=xs.getD j undef) (h1v:∀v∈xs,v.oneCell'=true) (hne:bv≠b) :
 Calls Tryz.prog 197 #[.slice (some ⟨b,o,none⟩) n C,.int .i64 i,.slice (some ⟨bv,ov,none⟩) 1 Cv] w λe w'=>
  e=.returned (.slice (some ⟨b,o,none⟩) (n+1) C)/\Placed w w' (some b) b o C (n+1) 5 (us.take (i*5)++xs++us.drop (i*5)):=by
 have u0:=bj Tryz.underlying32;have mixed:Tryz.prog.follows .mixedOrders=true:=al;obtain⟨i0,z0,hi0,hzs,hzb,hz0,hzc,-⟩:=(aw 119 _ Dy).info;have hzs:i0.size=5:=hzs;have hC63:C<=9223372036854775807:=sC;have hz1:¬((1:Int)=0):=aa;have hz2:¬((i:Int)=(n:Int)):=aa;have hdl:(us.drop (i*5)).length=(n-i)*5:=sB
 have hov:∀lb cb,(callFunc 231 #[.slice (some ⟨bv,ov,none⟩) 1 Cv,.slice (some ⟨b,o+(i*5+5),none⟩) lb cb]).run Tryz.prog w=.ok (.value (.bool false)) w:=λlb cb=>by
  rw[I9 Tryz.func231 al al al (e:=Extern.SlicesOverlaps.overlaps #[32,32] #[4]) al,
   BE w 32 4 119 Tryz.underlying32 5 Tryz.sizeOf119 ⟨bv,ov,none⟩ ⟨b,o+(i*5+5),none⟩ 1 Cv lb cb hne Tv T cv.size cs.size (by simp[World.shape?,hbv]) (by simp[World.shape?,hb]) aa sA sA]
  rfl
 have hmm:(n+1)*5<=C*5:=ao _ hroom;have hii:i*5+5<=n*5:=by have:=ao 5 (show i+1<=n from aa);omega
 have e1:(i+1)*5=i*5+5:=bD i 5;have e2:(n+1)*5=n*5+5:=bD n 5;have e3:(n-i)*5=n*5-i*5:=uS n i 5;obtain⟨cs1,hcs1⟩:∃c,c=(cs.toList.take (o+(i+1)*5)++us.drop (i*5)++cs.toList.drop (o+(i+1)*5+(us.drop (i*5)).length)).toArray:=⟨_,rfl⟩;obtain⟨s1,g1⟩:=dp cs (o+(i+1)*5) (us.drop (i*5)) aa;rw[<-hcs1]at s1 g1
 have hcp1:∀(W:World),W.heap=w.heap->∀ty dl dc sl sc,Nat.min sl dl=n-i->(Builtin.copy_ #[32,32] ty #[.slice (some ⟨b,o+(i*5+5),none⟩) dl dc,.slice (some ⟨b,o+i*5,none⟩) sl sc]).run Tryz.prog W=.ok (goInt (n-i:Nat)) (W.setRow b cs1):=λW hW ty dl dc sl sc hm=>by
  have hb':W.heap[b]? = some (.cells cs T (0,0)):=by rw[hW];exact hb
  rw[hcs1,e1]
  exact gC Tryz.underlying32 hi0 hb' ⟨b,o+i*5,none⟩ (us.drop (i*5)) (n-i) hm sy
   (λj v hj=>by
    rw[dz];refine fF hb' (o:=o+i*5) (vs:=us.drop (i*5)) (λj hj=>?_) aa j v hj;rw[et,hcs _ aa];simp[aL])
   (λv hv=>h1 v (a8 hv)) aa
 obtain⟨cs2,hcs2⟩:∃c,c=(cs1.toList.take (o+i*5)++xs++cs1.toList.drop (o+i*5+xs.length)).toArray:=⟨_,rfl⟩;obtain⟨s2,g2⟩:=dp cs1 (o+i*5) xs aa;rw[<-hcs2]at s2 g2
 have hcp2:∀(W:World),W.heap[b]? = some (.cells cs1 T (0,0))->W.heap[bv]? = some (.cells cv Tv (0,0))->∀ty dl dc,0<dl->(Builtin.copy_ #[32,32] ty #[.slice (some ⟨b,o+i*5,none⟩) dl dc,.slice (some ⟨bv,ov,none⟩) 1 Cv]).run Tryz.prog W=.ok (goInt (1:Nat)) (W.setRow b cs2):=λW hW hWv ty dl dc hm=>by
  rw[hcs2]
  exact gC Tryz.underlying32 hi0 hW ⟨bv,ov,none⟩ xs 1 jX iB
   (λj v hj=>by
    rw[dz];exact fF hWv (λj hj=>hcv j aa) aa j v hj)
   h1v aa
 have hw1:IntKind.i64.wrap ((i:Int)+1)=(i:Int)+1:=sx;have hb1:(0:Int)<=(i:Int)+1:=aa;have hin:i<=n:=aa;have htn:((i:Int)+1).toNat=i+1:=aa;have hb2:¬(C=i+1):=aa;have hb3:(i:Int)<=(n:Int)+1:=aa;have hb4:¬(C=i):=aa
 go_enter Tryz.func197,Tryz.ntmps197
 go_wp2_with (simp only[hov])
 have hE:=hcp1 w.drew rfl 3 (n-i) (C-(i+1)) (n+1-i) (C-i) jX;have hE2:=hcp2 (w.drew.setRow b cs1) DO DN 3 (n+1-i) (C-i) aa
 have hP:Placed w ((w.drew.setRow b cs1).setRow b cs2) (some b) b o C (n+1) 5 (us.take (i*5)++xs++us.drop (i*5)):=by
  refine⟨⟨cs2,T,dy _ b cs1 cs2 T (0,0) (dy w.drew b cs cs1 T (0,0) hb),aa,λj hj=>?_⟩,hroom,hC,ab,⟨rfl,rfl,rfl⟩,.inr rfl,λc _ hc=>?_⟩
  ·rw[g2,g1]
   have hl:(us.take (i*5)).length=i*5:=aN;simp only[aL];rw[cj];by_cases c1:j<i*5
   ·exact EG
   ·rw[a9 aa,hl]
    by_cases c2:j<i*5+5
    ·exact Ef
    ·exact EH
  ·exact zd
 clear hcs1 hcs2
 go_region
 go_wp2
 go_ret
 all_goals exact⟨rfl,hP⟩
theorem uE(w:World)(a:Option Addr)(n C bv ov Cv:Nat)(r:Value)(w1:World)(hnC:n<=C)(hC:C<=maxLen)
 (hr:∀ty,(Builtin.append_ #[32,32] ty #[.slice a n C,.slice (some ⟨bv,ov,none⟩) 1 Cv]).run Tryz.prog w=.ok r w1) :
 Calls Tryz.prog 197 #[.slice a n C,.int .i64 n,.slice (some ⟨bv,ov,none⟩) 1 Cv] w λe w'=>e=.returned r/\w'=w1:=by
 have u0:=bj Tryz.underlying32;have mixed:Tryz.prog.follows .mixedOrders=true:=al;have hC63:C<=9223372036854775807:=sC;have hz1:¬((1:Int)=0):=aa
 cases a with
 | none =>
   exact Lq
 | some q =>
   exact Lq
theorem If(w:World)(us xs:List Value)(n i b o C bv ov Cv:Nat)(cs cv:Array Value)(T Tv:TypeId)(hul:us.length=n*5)(hxl:xs.length=5)(hi:i<n)(hnc:n<=C)(hroom:C<n+1)(hbig:(n+1)*tL.bytes<=140737488355328)
 (hb:w.heap[b]? = some (.cells cs T (0,0))) (hfit:o+C*5<=cs.size) (hcs:∀j,j<n*5->cs.getD (o+j) undef=us.getD j undef) (h1:∀v∈us,v.oneCell'=true)
 (hbv:w.heap[bv]? = some (.cells cv Tv (0,0))) (hCv:1<=Cv) (hfv:ov+Cv*5<=cv.size) (hcv:∀j,j<5->cv.getD (ov+j) undef=xs.getD j undef) (h1v:∀v∈xs,v.oneCell'=true) :
 Calls Tryz.prog 197 #[.slice (some ⟨b,o,none⟩) n C,.int .i64 i,.slice (some ⟨bv,ov,none⟩) 1 Cv] w λe w'=>
  ∃nC,e=.returned (.slice (some ⟨w.heap.size,0,none⟩) (n+1) nC)/\Placed w w' (some b) w.heap.size 0 nC (n+1) 5 (us.take (i*5)++xs++us.drop (i*5)):=by
 have u0:=bj Tryz.underlying32;have mixed:Tryz.prog.follows .mixedOrders=true:=al;obtain⟨i0,z0,hi0,hzs,hzb,hz0,hzc,-⟩:=(aw 119 _ Dy).info;have hzz:=jB hzc;have hzs:i0.size=5:=hzs;have hzb:i0.bytes=tL.bytes:=hzb;have hby:0<tL.bytes:=ah;have hzz:z0.cells.size=5:=hzz;have hnb:(n+1)<=140737488355328:=dP (cm _ hby) hbig;have hz1:¬((1:Int)=0):=aa;have hz2:¬((i:Int)=(n:Int)):=aa;have hz3:(C:Int)<(n:Int)+1:=aa;have hmm:n*5<=C*5:=ao _ hnc;have hii:i*5+5<=n*5:=by have:=ao 5 (show i+1<=n from aa);omega
 have e1:(i+1)*5=i*5+5:=bD i 5;have e2:(n+1)*5=n*5+5:=bD n 5;have e3:(n-i)*5=n*5-i*5:=uS n i 5;have hdl:(us.drop (i*5)).length=(n-i)*5:=sB;have htl:(us.take (i*5)).length=i*5:=aN;have hbw:b<w.heap.size:=fM hb;have hvw:bv<w.heap.size:=fM hbv;have hkk:(n:Int)+1-(i:Int)=((n+1-i:Nat):Int):=aa;have hik:i+(n+1-i)=n+1:=aa
 have hold:(Builtin.firstCells i0.size i (.slice (some ⟨b,o,none⟩) i C)).run Tryz.prog w.drew=.ok (us.take (i*5)).toArray w.drew:=by
  rw[hzs]
  exact mF w.drew 5 i ⟨b,o,none⟩ i C (us.take (i*5)) (by rw[htl]) (λj v hj=>by
   rw[dz]
   exact fF (w:=w.drew) (o:=o) (vs:=us.take (i*5)) (cs:=cs) (T:=T) hb (λj hj=>by
    rw[hcs _ aa];rw[htl]at hj;simp only[aL,cA,an hj]) aa j v hj)
 have hrz:∀ty,(Builtin.append_ #[32,3] ty #[.slice (some ⟨b,o,none⟩) i C,.int .i64 ((n:Int)+1-(i:Int))]).run Tryz.prog w =
  .ok (.slice (some ⟨w.heap.size,0,none⟩) (n+1) (grownCap w (n+1) C 119)) (w.drew.alloc (.cells ((us.take (i*5)).toArray++Builtin.zeroCells z0.cells (n+1-i)++Builtin.zeroCells z0.cells (grownCap w (n+1) C 119-(n+1))) 119)):=λty=>by
  have h:=wk w 32 3 ty 119 i0 z0 .i64 .i64 Tryz.underlying32 Tryz.underlying3 hi0 hz0 (some ⟨b,o,none⟩) i C (us.take (i*5)) hold (n+1-i) aa aa aa aa (by rw[hzb];have:=ao tL.bytes (show n+1-i<=n+1 from aa);omega) DM;rw[hik]at h;rw[hkk];exact h
 obtain⟨G,hG⟩:∃G,G=grownCap w (n+1) C 119:=⟨_,rfl⟩;obtain⟨ROW,hROW⟩:∃ROW:Array Value,ROW=(us.take (i*5)).toArray++Builtin.zeroCells z0.cells (n+1-i)++Builtin.zeroCells z0.cells (G-(n+1)):=⟨_,rfl⟩;rw[<-hG]at hrz;rw[<-hROW]at hrz;have hGn:n+1<=G:=DL;have hGm:G<=maxLen:=by rw[hG];exact dE w (n+1) C 119 ij
 have hG63:G<=9223372036854775807:=by unfold maxLen at hGm;omega
 have hRs:ROW.size=G*5:=by
  exact EF
 have hGK:(n+1)*5<=G*5:=ao _ hGn
 have hRg:∀j,j<i*5->ROW.getD j undef=us.getD j undef:=by
  exact ET
 obtain⟨W1,hW1⟩:∃W1,W1=w.drew.alloc (.cells ROW 119):=⟨_,rfl⟩;rw[<-hW1]at hrz;have hN:W1.heap[w.heap.size]? = some (.cells ROW 119 (0,0)):=DK;have hO:∀c,c<w.heap.size->W1.heap[c]? = w.heap[c]?:=λc hc=>DJ
 have hS:W1.heap.size=w.heap.size+1:=by rw[hW1];simp
 obtain⟨cs1,hcs1⟩:∃c,c=(ROW.toList.take (i*5)++xs++ROW.toList.drop (i*5+xs.length)).toArray:=⟨_,rfl⟩;obtain⟨s1,g1⟩:=dp ROW (i*5) xs aa;rw[<-hcs1]at s1 g1
 have hcpA:=gC (P:=Tryz.prog) (w:=W1) (ty:=3) Tryz.underlying32 hi0 (dl:=n+1-i) (dc:=G-i) (o:=i*5) hN ⟨bv,ov,none⟩ (sl:=1) (sc:=Cv) xs 1 jX iB
  (λj v hj=>by
   rw[dz];exact fF (by rw[hO _ hvw];exact hbv) (λj hj=>hcv j aa) aa j v hj) h1v aa
 rw[<-hcs1]at hcpA;have hN1:(W1.setRow w.heap.size cs1).heap[w.heap.size]? = some (.cells cs1 119 (0,0)):=dy _ _ _ _ _ _ hN;obtain⟨cs2,hcs2⟩:∃c,c=(cs1.toList.take (i*5+5)++us.drop (i*5)++cs1.toList.drop (i*5+5+(us.drop (i*5)).length)).toArray:=⟨_,rfl⟩;obtain⟨s2,g2⟩:=dp cs1 (i*5+5) (us.drop (i*5)) aa;rw[<-hcs2]at s2 g2;have hbN:b≠w.heap.size:=aa
 have hcpB:=gC (P:=Tryz.prog) (w:=(W1.setRow w.heap.size cs1).drew) (ty:=3) Tryz.underlying32 hi0 (dl:=n-i) (dc:=G-(i+1)) (o:=i*5+5) hN1 ⟨b,o+i*5,none⟩ (sl:=n-i) (sc:=C-i) (us.drop (i*5)) (n-i) jX sy
  (λj v hj=>by
   rw[dz]
   have hb':(W1.setRow w.heap.size cs1).drew.heap[b]? = some (.cells cs T (0,0)):=by
    exact Ex
   refine fF hb' (o:=o+i*5) (vs:=us.drop (i*5)) (λj hj=>?_) aa j v hj;rw[et,hcs _ aa];simp[aL])
  (λv hv=>h1 v (a8 hv)) aa
 rw[<-hcs2]at hcpB
 have hP:Placed w ((W1.setRow w.heap.size cs1).drew.setRow w.heap.size cs2) (some b) w.heap.size 0 G (n+1) 5 (us.take (i*5)++xs++us.drop (i*5)):=by
  refine⟨⟨cs2,119,dy _ _ cs1 cs2 _ (0,0) hN1,aa,λj hj=>?_⟩,hGn,hGm,?_,?_,.inl (aH _),λc hc hne=>?_⟩
  ·rw[cQ,g2,g1]
   simp only[aL];rw[cj];by_cases c1:j<i*5
   ·exact EM
   ·rw[a9 aa,htl]
    by_cases c2:j<i*5+5
    ·exact Ej
    ·exact EB
  ·simp[hS]
  ·rw[hW1];exact⟨rfl,rfl,rfl⟩
  ·exact EA
 have hw1:IntKind.i64.wrap ((i:Int)+1)=(i:Int)+1:=sx;have hb1:(0:Int)<=(i:Int)+1:=aa;have hin:i<=n:=aa;have htn:((i:Int)+1).toNat=i+1:=aa;have hGi:¬(G=i):=aa;have hGim:¬(G=i+1):=aa;have hci:¬(C=i):=aa;have hb3:(i:Int)<=(n:Int):=aa
 clear hkk hik hold hROW hG hcs1 hcs2 hN hN1 hO hS hRs hRg hW1
 go_enter Tryz.func197,Tryz.ntmps197
 go_wp2_with (first
  |(at_builtin;refine Cj _ rfl _ _ _ _ rfl _ _ rfl rfl _ _ (hrz _) ?_)
  |(at_builtin;refine lI _ rfl _ _ 32 32 rfl _ _ rfl rfl hcpA ?_))
 go_region
 go_wp2
 go_ret
 all_goals exact⟨_,rfl,hP⟩
theorem Ig:zB Tryz.prog 197 5 tL.bytes:=by
 refine⟨⟨_,Tryz.func197,al,al⟩,λw us xs n i s v ob bv0 hul hxl hi hbig hs hv hap=>?_⟩;obtain⟨i0,z0,hi0,hzs,hzb,hz0,hzc,-⟩:=(aw 119 _ Dy).info;have hzz:=jB hzc;have hzs:i0.size=5:=hzs;have hzb:i0.bytes=tL.bytes:=hzb;have hby:0<tL.bytes:=ah;have hzz:z0.cells.size=5:=hzz;have hnb:(n+1)<=140737488355328:=dP (cm _ hby) hbig;rcases hv with⟨h0,-⟩|⟨bv,ov,Cv,cv,Tv,rfl,rfl,hbv,hCv,hCvm,hfv,hcv,h1v⟩
 ·omega
 have hcellv:∀j v,xs[j]? = some v->w.cell? (Addr.add ⟨bv,ov,none⟩ j)=some v:=λj v hj=>by
  exact En
 have fresh:∀(C0 nC:Nat) (rest:Array Value) (ob:Option Nat),n+1<=nC->nC<=maxLen->rest.size=(nC-(n+1))*5 ->
  Placed w (w.drew.alloc (.cells (us.toArray++xs.toArray++rest) 119)) ob w.heap.size 0 nC (n+1) 5 (us.take (n*5)++xs++us.drop (n*5)):=by
  intro C0 nC rest ob h1 h2 h3;have e:nC*5=n*5+5+(nC-(n+1))*5:=DI;refine⟨⟨_,_,rJ w.drew _,by simp[hul,hxl,h3];omega,λj hj=>?_⟩,h1,h2,ab,⟨rfl,rfl,rfl⟩,.inl (aH _),λc hc _=>pB w.drew _ hc⟩;rw[aB aa,bm aa,bO,cQ];have e2:(n+1)*5=n*5+5:=bD n 5;simp only[aW,aL];rw[dG aN,Du,iz]
 rcases hs with⟨rfl,rfl,a,rfl⟩|⟨b,o,C,cs,T,rfl,rfl,hb,hnC,hCm,hfit,hcs,h1⟩
 ·obtain rfl:i=0:=by omega
  have hun:us=[]:=aA aa;subst hun;have hrun:=λty=>jG (P:=Tryz.prog) (w:=w) (ty:=ty) Tryz.underlying32 hi0 hz0 a ⟨bv,ov,none⟩ 1 Cv xs iB hcellv aa aa (by rw[hzb];omega)
  refine(uE w a 0 0 bv ov Cv _ _ (aH _) ij hrun).mono ?_
  rintro e w' ⟨rfl,rfl⟩
  have hge:=lU w 1 0 119;have hcm:=dE w 1 0 119 ij;refine⟨_,_,_,rfl,?_⟩;have:=fresh 0 (grownCap w 1 0 119) (Builtin.zeroCells z0.cells (grownCap w 1 0 119-1)) none hge hcm (by rw[gU,hzz]);exact jD
 ·by_cases hin:i=n
  ·subst hin
   by_cases hroom:i+1<=C
   ·have hmm:(i+1)*5<=C*5:=ao _ hroom
    have e2:(i+1)*5=i*5+5:=bD i 5;have hrun:=λty=>Go.AM.run_append_room (P:=Tryz.prog) (ty:=ty) (c:=Cv) (n:=i) (m:=1) Tryz.underlying32 hi0 hb ⟨bv,ov,none⟩ xs iB hcellv h1v hroom yN
    refine(uE w _ i C bv ov Cv _ _ hnC hCm hrun).mono ?_
    rintro e w' ⟨rfl,rfl⟩
    obtain⟨g0,g⟩:=dp cs (o+i*i0.size) xs (by rw[hzs];omega);refine⟨_,_,_,rfl,⟨_,_,dy w b cs _ T (0,0) hb,by rw[g0];exact hfit,λj hj=>?_⟩,hroom,hCm,ab,⟨rfl,rfl,rfl⟩,.inr rfl,λc _ hc=>tJ w b c _ hc⟩;rw[g,hzs,aB aa,bm aa,bO];by_cases c1:j<i*5
    ·exact Ez
    ·exact EC
   ·have hrun:=λty=>sf (P:=Tryz.prog) w 32 ty 119 i0 z0 Tryz.underlying32 hi0 hz0 ⟨b,o,none⟩ i C us (by rw[hzs];exact hul) (λj v hj=>by
     rw[dz];have:=ao 5 hnC;exact fF hb (λj hj=>hcs j aa) aa j v hj) ⟨bv,ov,none⟩ 1 Cv xs iB hcellv aa aa (by rw[hzb];exact uR aa hbig)
    refine(uE w _ i C bv ov Cv _ _ hnC hCm hrun).mono ?_
    rintro e w' ⟨rfl,rfl⟩
    have hge:=lU w (i+1) C 119;have hcm:=dE w (i+1) C 119 ij;exact Ee
  ·by_cases hroom:n+1<=C
   ·refine(FN w us xs n i b o C bv ov Cv cs cv T Tv hul hxl aa hroom hCm hb hfit hcs h1 hbv hCv hfv (λj hj=>hcv j aa) h1v (λh=>hap b rfl eK)).mono ?_
    exact D5
   ·refine(If w us xs n i b o C bv ov Cv cs cv T Tv hul hxl aa hnC aa hbig hb hfit hcs h1 hbv hCv hfv (λj hj=>hcv j aa) h1v).mono ?_
    exact D7
open Go.AM
set_option maxRecDepth 20000
set_option maxHeartbeats 6400000
theorem tU(room rev:Int)(hr : -4611686018427387904<=rev/\rev<=4611686018427387904):ar Tryz.prog 202 [.c (vi room),.c (vi rev)] (.tup [.agg (fU room rev).1.res,.c (.v (.bool (fU room rev).2)) 1]):=by
 refine pci aw Tryz.func202 (λw0 base=>?_);have ew:Go.IntKind.i64.wrap (rev+1)=rev+1:=ae _ aa;simp[ew];intro b4 b6;refine ag.pure (gb (eT room rev) (by rw[rm];omega)) (by simp[eT,Ring.row]) ?_;exact NP
theorem AD(r:Ring)(hl:dh r<=2^30)(e:Entry)(he:aZ e<=2^29):ar Tryz.prog 199 [.agg r.row,.agg e.row] (.one (.agg (eF r e).res)):=by
 refine pci aw Tryz.func199 (λw0 base=>?_);have hno:=@vQ r e;have hfull:=@rR r e;have hroom:=@rQ r e;have hle:=aS (f:=aZ) (B:=2^30) (l:=r.list) uX;have he1:nL aZ [e]<=2^30:=by simp[nL,cK];omega
 simp[Ring.row,Entry.row];intro b2 b3 b4;refine ag.pure (nI r hl) dQ ?_;simp[Ring.res];intro H b5;refine ag.pure (gb r aa) dQ ?_;by_cases c1:cF r
 rotate_left
 ·exact sK
 simp[c1];refine ag.pure (oX e aa) fB ?_;by_cases c2:dm e
 rotate_left
 ·simp[az c2,hno (λh=>c2 h.2.1)]
 simp[c2]
 cases c3:r.out with
 |true=>simp[hno (λh=>by rw[c3]at h;exact absurd h.2.2 ab),c3]
 |false=>
 simp;by_cases c4:(r.list.length:Int)=r.cap
 ·have e1:=hfull ⟨c1,c2,c3⟩ c4
  simp[c4,e1]
 have e1:=hroom ⟨c1,c2,c3⟩ c4;simp[c4];refine drw eok mix [0,1,2,6] [3,4,5,7] (.c 4 3 2 13 (.c 4 4 0 13 (.c 4 5 4 9 (.c 4 7 9 0 (.l 4 0) .s) .s) .s) .s) ?_;simp
 try intros
 refine ag.pure (jW [e] he1) fB ?_;simp;exact MK
theorem wM(r:Ring)(hl:dh r<=2^30)(rev:Int)(hr : -4611686018427387904<=rev/\rev<=4611686018427387904):ar Tryz.prog 205 [.agg r.row,.c (vi rev)] (.tup [.agg (di r rev).1.res,.c (.v (.bool (di r rev).2)) 1]):=by
 refine pci aw Tryz.func205 (λw0 base=>?_);have hno:=@rP r rev;have hyes:=@qO r rev;simp[Ring.row];intro b2 b4;refine ag.pure (gb r aa) dQ ?_;by_cases c1:cF r
 rotate_left
 ·simp[az c1,hno c1,Ring.res,Ring.zero]
 simp[c1];have hc:=tU r.cap rev hr;exact Nc
theorem m7(h:Hub)(hl:dk h<=2^40)(id:Int):ar Tryz.prog 203 [.agg h.row,.c (vi id)] (.one (.c (vi (fJ h.subs id)) 1)):=by
 refine pci aw Tryz.func203 (λw0 base=>?_);obtain⟨sh,docs,l,last⟩:=h;have hle:=aS (iJ hl).2;simp only at hle;simp[Hub.row];intro b2 b3;refine inl aw Tryz.func239 20000 (λw1 F=>?_);simp
 refine aV.intro eok (λi:Nat=>i<=l.length/\∀j,j<i->∀hj:j<l.length,¬l[j].id=id) (λi=>⟨19,20000,[(8,.v (.int .i64 i)),(7,.v (.int .i64 l.length)),(0,.ro (l.map Sub.row)),(1,.clo 240 [.p 48 b3 0])],
  [(48,.vars b3 3 [.v (.int .i64 id)])]⟩) (λi=>l.length-i) 0 ab ab (λi hi=>?_)
 by_cases hlt:i<l.length
 ·simp[hlt]
  refine inl aw Tryz.func240 40000 (λw2 F2=>?_);simp[Sub.row];exact Lk
 ·exact L1
theorem B1(h:Hub)(hl:dk h<=2^30):ar Tryz.prog 146 [.agg h.row] (.tup [.agg (eG h).1.res,.c (vi (eG h).2) 1]):=by
 refine pci aw Tryz.func146 (λw0 base=>?_);simp[Hub.row];intro b1 b2;refine ag.pure (el h hl) bp ?_;by_cases c1:bJ h
 rotate_left
 ·simp[az c1,xR c1,Hub.res,Hub.zero]
 simp[c1]
 cases c2:h.shut with
 |true=>simp[tZ c1 c2,Hub.res,Hub.zero]
 |false=>
 have e:=vU c1 su;simp;refine ag.pure (eI h hl) n8 ?_;simp[Hub.res,e]
theorem uF(h:Hub)(hl:dk h<=2^28)(name:ByteArray)(room:Int):ar Tryz.prog 143 [.agg h.row,.c (.v (.string name)),.c (vi room)]
 (.tup [.agg (bC h name room).1.res,.c (vi (bC h name room).2.1) 1,.c (vi (bC h name room).2.2) 1]):=by
 refine pci aw Tryz.func143 (λw0 base=>?_);have hls:=aS (iJ hl).2;simp[Hub.row];intro b3 b6;refine ag.pure (fm h aa name) bp ?_;simp;refine ag.pure (el h aa) bp ?_;by_cases c1:bJ h
 rotate_left
 ·simp[az c1,jK (λh=>c1 h.1),Hub.res,Hub.zero]
 simp[c1];refine ag.pure (bZ room 1 6) ab ?_;by_cases c2:1<=room/\room<=6
 rotate_left
 ·simp[az c2,jK (λh=>c2 h.2),Hub.res,Hub.zero]
 simp[c2]
 cases c3:h.shut with
 |true=>simp[nF ⟨c1,c2⟩ c3,Hub.res,Hub.zero]
 |false=>
 simp;rcases fo h.docs name with⟨k,hk,e,-⟩|e;rotate_left
 ·simp[e,nG ⟨c1,c2⟩ n7 e,Hub.res,Hub.zero]
 have hk0:¬(k:Int)<0:=aa;have hat:=pH ⟨c1,c2⟩ n7 hk e;simp[e,hk0];have hlast:=c1.2.2.1;by_cases c4:h.subs.length=6
 ·have c4':(h.subs.length:Int)=6:=by omega
  rw[an (.inl c4)]at hat;simp[c4',hat,Hub.res,Hub.zero]
 have c4':¬(h.subs.length:Int)=6:=aa;simp[c4'];by_cases c5:h.last=1000000000
 ·rw[an (.inr c5)]at hat
  simp[c5,hat,Hub.res,Hub.zero]
 rw[aq (λh=>h.elim c4 c5)]at hat;have ew:Go.IntKind.i64.wrap (h.last+1)=h.last+1:=ae _ aa;have hh:=dt (jd c1 hk);obtain⟨d,hd⟩:∃d,h.docs[k]=d:=⟨_,rfl⟩;rw[hd]at hat hh;simp[c5];refine ag.pure (eI h aa) (by simp[Hub.row,c3]) ?_;simp[Hub.res,ew,c3,hk,hd,Doc.row];intro H1 H2 b10;refine ag.pure (cP d) bB ?_;simp;have hc:=tU room (aD d) aa;generalize fU room (aD d)=R at hc hat;obtain⟨⟨cp,nx,ot,ls⟩,ok⟩:=R;refine ag.pure hc ab ?_;simp[Ring.res];intro H11 H12 b11;refine⟨aa,λH=>?_⟩;refine drw eok mix [0,1,2,4,5] [3] (.c 5 3 16 15 (.l 5 15) .s) ?_;simp
 try intros
 rw[hat];simp[c3,Sub.row]
 try (rintro row (⟨a,-,rfl⟩|rfl)<;>rfl)
theorem yw(h:Hub)(hl:dk h<=2^28)(id:Int):ar Tryz.prog 145 [.agg h.row,.c (vi id)]
 (.tup [.agg (bU h id).1.res,.c (.s ((bU h id).2.1.map aG)) 1,.c (vi (bU h id).2.2.1) 1,.c (vi (bU h id).2.2.2) 1]):=by
 refine pci aw Tryz.func145 (λw0 base=>?_);have hls:=aS (iJ hl).2;simp[Hub.row];intro b2 b4;refine ag.pure (m7 h aa id) bp ?_;simp;refine ag.pure (el h aa) bp ?_;by_cases c1:bJ h
 rotate_left
 ·simp[az c1,ua c1,Hub.res,Hub.zero]
 simp[c1];rcases kY h.subs id with⟨k,hk,e,-⟩|e;rotate_left
 ·simp[e,qR c1 e,Hub.res,Hub.zero]
 have hk0:¬(k:Int)<0:=aa;obtain⟨hro,j,hj,ej⟩:=td c1 hk;have hat:=ub c1 hk e hj ej;have hm:=cT (f:=dC) (iJ hl).2 hk;have hdn:=cT (f:=cN) (iJ hl).1 hj;have hh:=dt (jd c1 hj);unfold dC at hm;have hmod:=ta hk;obtain⟨s,hs⟩:∃s,h.subs[k]=s:=⟨_,rfl⟩;obtain⟨d,hd⟩:∃d,h.docs[j]=d:=⟨_,rfl⟩;rw[hs]at hat hm hmod ej;rw[hd]at hat hdn hh;have hc:=wM s.r aa (aD d) aa;generalize di s.r (aD d)=R at hc hat;obtain⟨r,ok⟩:=R;simp only at hat hc;simp[e,hk0];refine dS (λx:Nat=>[(9,.p 144 x 0)]) (λx=>[(144,.vars x 119 [.v (.string d.name),.v (.int .i64 d.fr),.ro (d.text.map aG),.ro (d.list.map Entry.row),.ro (d.seen.map Seen.row)])]) [1,2,4,5,6,7,8] ?_ ?_
 ·refine drw eok mix [0,1,2,3,4,5,6,7,8] [9,10,11,12,13] (.c 9 9 65 446 (.c 9 10 128 318 (.c 9 11 0 318 (.c 9 12 0 318 (.c 9 13 318 0 (.l 9 0) .s) .s) (.c 9 12 0 318 (.c 9 11 0 318 (.c 9 13 318 0 (.l 9 0) .s) .s) .s)) (.c 9 12 0 446 (.c 9 10 128 318 (.c 9 11 0 318 (.c 9 13 318 0 (.l 9 0) .s) .s) .s) .s)) (.c 9 12 0 511 (.c 9 9 65 446 (.c 9 10 128 318 (.c 9 11 0 318 (.c 9 13 318 0 (.l 9 0) .s) .s) .s) .s) .s)) ?_
  simp[hk,hs,Sub.row]
  try intros
  repeat' first
   |(refine ag.pure (fm h aa s.doc) bp ?_;simp[hj,hd,Doc.row,ej];try intros)
   |(rw[Trc];refine⟨?_,?_⟩<;>(try simp[hk,hs,hj,hd,Sub.row,Doc.row])<;>try intros)
 rintro b9
 simp;refine ag.pure (eI h aa) bp ?_;simp[Hub.res];intro H1 H2 b10;refine drw eok mix [0,1,2,3,4,5,6,7,8,9,15,16] [10,11,12,13,14,17] (.c 12 10 4 4091 (.c 12 11 8 4083 (.c 12 12 0 4083 (.c 12 13 0 4083 (.c 12 14 0 4083 (.c 12 17 4081 2 (.l 12 2) .s) .s) .s) .s) .s) .s) ?_;simp[hk,hs,Sub.row]
 try intros
 refine ag.pure (cP d) bB ?_;simp
 try intros
 refine ag.pure (hc) dQ ?_;simp[Ring.res,hk]
 try intros
 refine drw eok mix [0,1,3,8] [2,4,5,6,7] (.c 4 2 4 11 (.c 4 4 2 9 (.c 4 5 8 1 (.c 4 6 0 1 (.c 4 7 0 1 (.l 4 1) .s) .s) .s) .s) .s) ?_;simp
 try intros
 refine ag.pure (rF d aa) bB ?_;simp
 try intros
 refine ag.pure (cP d) bB ?_;simp
 try intros
 rw[hat];simp[hmod r];exact wB
theorem J6(h:Hub)(hl:dk h<=2^28)(_c1:bJ h)(c:Call):ar Tryz.prog 142 [.agg h.row,.agg c.row] (.one (.agg (oH h c).res)):=by
 refine pci aw Tryz.func142 (λw0 base=>?_);simp[Hub.row,Call.row];intro b2 b3 b4;refine ag.pure (fm h aa c.doc) bp ?_;simp
 cases c3:h.shut with
 |true=>simp[AX c3,Answer.res,eV]
 |false=>
 simp;rcases fo h.docs c.doc with⟨k,hk,e,-⟩|e;rotate_left
 ·simp[e,AY n7 e,Answer.res,eV]
 have hk0:¬(k:Int)<0:=aa;have hat:=IG (c:=c) n7 hk e;have hdn:=cT (f:=cN) (iJ hl).1 hk;obtain⟨d,hd⟩:∃d,h.docs[k]=d:=⟨_,rfl⟩;rw[hd]at hat hdn;simp[e,hk0];by_cases c4:c.kind=4
 ·rw[an c4]at hat
  simp[c4];refine drw eok mix [0,1,2,3,4,6,7,8,9,10] [5,11,12,13] (.c 10 5 32 991 (.c 10 11 1 990 (.c 10 12 0 990 (.c 10 13 990 0 (.l 10 0) .s) .s) .s) .s) ?_;simp[hk,hd,Doc.row]
  try intros
  refine ag.pure (rF d aa) nZ ?_;simp
  try intros
  refine ag.pure (cP d) nZ ?_;simp
  try intros
  rw[hat];simp[Answer.res]
 rw[aq c4]at hat;have hf:=Il d aa c.n;exact Ob
theorem Gs{name:ByteArray}{t:List Int}:bV (ib name t)↔nz name/\eL t:=by
 constructor
 ·rintro⟨h1,-,h3,-⟩
  exact⟨h1,h3⟩
 ·rintro⟨h1,h2⟩
  exact⟨h1,by simp[ib],h2,by simp[ib],by simp[ib],by simp[ib,bq],λi hi=>by simp[ib]at hi⟩
theorem B4(h:Hub)(hl:dk h<=2^28)(name:ByteArray)(hs:name.size<=2^28)(t:List Int)(ht:t.length<=2^28):ar Tryz.prog 140 [.agg h.row,.c (.v (.string name)),.c (.s (t.map aG))]
 (.tup [.agg (dM h name t).1.res,.c (vi (dM h name t).2) 1]):=by
 refine pci aw Tryz.func140 (λw0 base=>?_);have hld:=aS (iJ hl).1;have hdn:=F5 name t hs ht;unfold mb at hdn;simp[Hub.row];intro b3 b6;refine ag.pure (el h aa) bp ?_;by_cases c1:bJ h
 rotate_left
 ·simp[az c1,kL (λh=>c1 h.1),Hub.res,Hub.zero]
 simp[c1];refine ag.pure (vN name aa) ab ?_;by_cases d1:nz name
 rotate_left
 ·simp[az d1,kL (λh=>d1 (Gs.1 h.2).1),Hub.res,Hub.zero]
 simp[d1];refine ag.pure (lu t aa) ab ?_;by_cases d2:eL t
 rotate_left
 ·simp[az d2,kL (λh=>d2 (Gs.1 h.2).2),Hub.res,Hub.zero]
 have c0:bV (ib name t):=Gs.2 ⟨d1,d2⟩;rw[an c0]at hdn;simp[d2]
 cases c2:h.shut with
 |true=>simp[uc ⟨c1,c0⟩ c2,Hub.res,Hub.zero]
 |false=>
 have c2':¬h.shut=true:=su;simp;refine ag.pure (fm h aa name) n8 ?_;simp;by_cases c3:0<=bE h.docs name
 ·simp[c3,ud ⟨c1,c0⟩ c2' c3,Hub.res,Hub.zero]
 simp[c3];by_cases c4:h.docs.length=5
 ·have c4':(h.docs.length:Int)=5:=by omega
  simp[c4',ue ⟨c1,c0⟩ c2' c3 c4,Hub.res,Hub.zero]
 have c4':¬(h.docs.length:Int)=5:=aa;have hat:=vV ⟨c1,c0⟩ c2' c3 c4;rw[tp]at hat;have hal:=rS (ib name t).name h.docs;have hon:=λ{k:Nat} h1 h2=>rT (name:=(ib name t).name) (l:=h.docs) (k:=k) h1 h2
 rw[show(ib name t).name=name from rfl]at hat hal hon;generalize fV name h.docs=a at hat hal hon;simp[c4'];refine ag.pure hdn ab ?_;simp[Doc.res,ib];intro G1 G2 G3 b8;refine ag.pure (eI h aa) n8 ?_;simp[Hub.res,c2];intro K1 K2 b10
 refine aE eok (λk:Nat=>k<=a) (λk=>⟨76,0,[(11,.v (.int .i64 k)),(1,.v (.string name)),(6,.p 96 b6 0),(8,.p 128 b8 0),(10,.p 160 b10 0)],
  [(160, .vars b10 35 [.v (.bool false), .sl 801 K1 5 0 h.docs.length, .sl 802 K2 6 0 h.subs.length, .v (.int .i64 h.last)]),(96, .vars b6 35 [.v (.bool false), .nil, .nil, .v (.int .i64 0)]),
   (128,.vars b8 119 [.v (.string name),.v (.int .i64 0),.sl 738 G1 1 0 t.length,.sl 739 G2 3 0 0,.sl 740 G3 3 0 0]),(738,.rows G1 1 (t.map aG) true),(739,.rows G2 3 [] true),(740,.rows G3 3 [] true),
   (801,.rows K1 5 (h.docs.map Doc.row) true),(802,.rows K2 6 (h.subs.map Sub.row) true)]⟩) (λk=>h.docs.length-k) 0 ab ab (λk hk=>Ent.refl ?_)
 have hdz:Doc.row ⟨name,0,t,[],[]⟩=[.v (.string name),.v (.int .i64 0),.s (t.map aG),.s [],.s []]:=rfl;by_cases hlt:k<h.docs.length
 ·obtain⟨x,hx⟩:∃x,h.docs[k]=x:=⟨_,rfl⟩
  have hiff:=hon hk hlt;rw[hx]at hiff;simp[hlt,hx,Doc.row];by_cases s:sLt x.name name
  ·simp[s]
   exact Ent.refl ⟨k+1,by have:=hiff.1 s;omega,aa,by simp;exact aR aa⟩
  have hka:k=a:=by
   have:¬k<a:=λh=>s (hiff.2 h)
   omega
  subst hka;simp[az s];intro b72;refine gS Ig ah (n:=h.docs.length) (rows:=h.docs.map Doc.row) (row:=[.v (.string name),.v (.int .i64 0),.s (t.map aG),.s [],.s []]) (k:=801) (kv:=1152) (own:=true) (ownv:=true) (i:=k) ab ab ab ah aN aN (λH6=>?_);simp[hat,c2,ib,hdz];have hm:min k h.docs.length=k:=aa;refine⟨by rw[hm];omega,?_,?_⟩
  ·rintro row (h|rfl|h)
   ·exact Qs (br h)
   ·rfl
   ·exact Qs (a8 h)
  ·rw[v3 (by simp[hm];omega)]
 have hka:k=h.docs.length:=aa;have hka2:a=h.docs.length:=aa;subst hka2;subst hka;simp;intro b72;refine gS Ig ah (n:=h.docs.length) (rows:=h.docs.map Doc.row) (row:=[.v (.string name),.v (.int .i64 0),.s (t.map aG),.s [],.s []]) (k:=801) (kv:=1152) (own:=true) (ownv:=true) (i:=h.docs.length) ab ab ab ah ab aN (λH6=>?_);simp[hat,c2,ib,hdz];refine⟨?_,?_⟩
 ·rintro row (h|rfl|h)
  ·exact Qs (br h)
  ·rfl
  ·exact Qs (a8 h)
 ·rw[aB ab,bm ab]
theorem yv(h:Hub)(hl:dk h<=2^28)(name:ByteArray)(client seq base:Int)(o:List Part)(ho:nL bc o<=2^40) :
 ar Tryz.prog 141 [.agg h.row,.c (.v (.string name)),.c (vi client),.c (vi seq),.c (vi base),.c (.s (o.map Part.row))]
 (.tup [.agg (cu h name client seq base o).1.res,.c (vi (cu h name client seq base o).2.1) 1,.c (vi (cu h name client seq base o).2.2) 1]):=by
 refine pci aw Tryz.func141 (λw0 bs=>?_);have hls:=aS (iJ hl).2;simp[Hub.row];intro b6 b12;refine ag.pure (fm h aa name) bp ?_;simp;refine ag.pure (el h aa) bp ?_;by_cases c1:bJ h
 rotate_left
 ·simp[az c1,tX c1,Hub.res,Hub.zero]
 simp[c1]
 cases c2:h.shut with
 |true=>simp[qP c1 c2,Hub.res,Hub.zero]
 |false=>
 have c2':¬h.shut=true:=su;simp;rcases fo h.docs name with⟨k,hk,e,-⟩|e;rotate_left
 ·simp[e,qQ c1 c2' e,Hub.res,Hub.zero]
 have hk0:¬(k:Int)<0:=aa;have hat:=tY (client:=client) (seq:=seq) (base:=base) (o:=o) c1 c2' hk e;have hdn:=cT (f:=cN) (iJ hl).1 hk;have hdo:=jd c1 hk;have hDn:=wZ (client:=client) (seq:=seq) (base:=base) (o:=o) hdo;have hok:=AR (client:=client) (seq:=seq) (base:=base) (o:=o) hdo;obtain⟨d,hd⟩:∃d,h.docs[k]=d:=⟨_,rfl⟩;rw[hd]at hat hdn hDn hok;have hc:=FQ d hdn client seq base o ho;generalize dg d client seq base o=S at hc hat hDn hok;obtain⟨D,rev,code⟩:=S;simp only at hc hat hDn hok;simp[e,hk0,hk,hd,Doc.row];refine ag.pure hc bB ?_;simp[Doc.res];intro H1 H2 H3 b16;by_cases c3:code=0
 rotate_left
 ·rw[aq c3]at hat
  simp[c3,hat,Hub.res,Hub.zero]
 rw[an c3]at hat;have hok:=hok c3;simp[c3];refine ag.pure (eI h aa) n8 ?_;simp[Hub.res,c2,hk];intro K1 K2 b19;refine drw eok mix [0,2,3,4,5,6] [1,7,8] (.c 6 1 32 31 (.c 6 7 1 30 (.c 6 8 0 30 (.l 6 30) .s) .s) .s) ?_;simp[hk,hd,Doc.row]
 try intros
 refine ag.pure (cP D) nZ ?_;simp
 try intros
 refine ag.pure (cP d) nZ ?_;simp
 try intros
 by_cases c5:aD D=aD d
 ·have hcm:gE h name k d D=⟨h.shut,h.docs.set k D,h.subs,h.last⟩:=by unfold gE;rw[aq aa]
  rw[hcm]at hat;simp[c5,hat,c2];exact⟨sZ,rfl⟩
 rcases hok with rfl|⟨e,he1,he2⟩
 ·exact absurd rfl c5
 have hcm:gE h name k d D=⟨h.shut,h.docs.set k D,h.subs.map (gH name e),h.last⟩:=by unfold gE;rw[an aa,he2]
 rw[hcm]at hat;have hgt:aD d<aD D:=aa;have hmem:e∈D.list:=BF he2;have hpos:0<D.list.length:=nT hmem;obtain⟨m,hm⟩:∃m,D.list.length=m+1:=⟨D.list.length-1,aa⟩;have hml:m<D.list.length:=aa
 have hme:D.list[m]=e:=by
  exact MP
 have hDl:nL aZ D.list<=2^24:=by unfold cN at hDn;omega
 have hen:=gA (f:=aZ) hDl hmem;have hlen24:=aS hDl;have ew:Go.IntKind.i64.wrap ((D.list.length:Int)-1)=(m:Int):=by rw[ae _ aa];omega
 have em:Go.IntKind.i64.wrap (m:Int)=m:=fE aa;simp[hgt]
 refine aE eok (λi:Nat=>i<=h.subs.length) (λi=>⟨103,0,[(75,.v (.int .i64 i)),(74,.v (.int .i64 h.subs.length)),(73,.sl 914 K2 6 0 h.subs.length),(19,.p 304 b19 0),(16,.p 256 b16 0),(17,.v (.int .i64 rev)),(1,.v (.string name)),(12,.p 192 b12 0)],
  [(304, .vars b19 35 [.v (.bool false), .sl 913 K1 5 0 h.docs.length, .sl 914 K2 6 0 h.subs.length, .v (.int .i64 h.last)]),(192, .vars b12 35 [.v (.bool false), .nil, .nil, .v (.int .i64 0)]),
   (256,.vars b16 119 [.v (.string D.name),.v (.int .i64 D.fr),.sl 770 H1 1 0 D.text.length,.sl 771 H2 3 0 D.list.length,.sl 772 H3 3 0 D.seen.length]),
   (771,.lent H2 3 (D.list.map Entry.row)),(913,.rows K1 5 ((h.docs.set k D).map Doc.row) true),(914,.rows K2 6 ((jh name e h.subs i).map Sub.row) true)]⟩) (λi=>h.subs.length-i) 0 ab (by simp[xo];rfl) (λi hi=>Ent.refl ?_)
 have htl:=uq name e h.subs i;by_cases hlt:i<h.subs.length
 ·have hti:=wt (name:=name) (e:=e) hlt
  have hlt':i<(jh name e h.subs i).length:=aa;have hsk:=xp (name:=name) (e:=e) hlt;have hsu:=uo (name:=name) (e:=e) hlt;have hmd:=ta hlt' (eF h.subs[i].r e);have hmn:=cT (f:=dC) (iJ hl).2 hlt;unfold dC at hmn;rw[hti]at hmd;obtain⟨s,hs⟩:∃s,h.subs[i]=s:=⟨_,rfl⟩;rw[hs]at hti hsk hsu hmd hmn;simp[hlt,htl,hti,Sub.row];intro b21;by_cases c6:s.doc=name
  rotate_left
  ·simp[c6]
   refine Ent.refl ⟨i+1,aa,aa,?_⟩;rw[<-hsk c6];simp;exact aR aa
  have htell:gH name e s=⟨s.id,s.doc,eF s.r e⟩:=by unfold gH;rw[an c6]
  rw[htell]at hsu;rw[hsu]at hmd;have hpc:=AD s.r aa e aa;generalize eF s.r e=R at hpc hmd;simp[c6];have hmm:(m:Int)<(m:Int)+1:=aa;refine drw eok mix [0,1,2,3,4,5,6,7,8,9,10,11,12,14,15] [13,16] (.c 15 13 1028 31739 (.c 15 16 31737 2 (.l 15 2) .s) .s) ?_;simp[hlt,hm,em,hme,hmm,Entry.row]
  try intros
  refine ag.pure (hpc) (by simp[Ring.row,Entry.row,Entry.row]) ?_;simp[Ring.res,hlt,htl]
  try intros
  refine Ent.refl ⟨i+1,aa,aa,?_⟩;rw[<-hmd];simp;exact aR aa
 have hie:i=h.subs.length:=aa;subst hie;rw[zH];simp[hat,c2];exact sZ
theorem C3(h:Hub)(hl:dk h<=2^28)(c:Call)(hc:dX c<=2^28)(n6:¬c.kind=6):ar Tryz.prog 85 [.agg h.row,.agg c.row] (.tup [.agg (fDo h c).1.res,.agg (fDo h c).2.res]):=by
 refine pci aw Tryz.func85 (λw0 base=>?_);have hcn:c.doc.size<=2^28/\nL bc c.o<=2^28/\c.text.length<=2^28:=sr;simp[Hub.row,Call.row];intro b2 b3 b4 b5;refine ag.pure (el h aa) bp ?_;by_cases c1:bJ h
 rotate_left
 ·exact EK
 simp[c1];refine ag.pure (jJ c aa) i4 ?_;by_cases c2:dx c
 rotate_left
 ·exact EJ
 simp[c2];intro b6 b7;have hk:c.kind=1\/c.kind=2\/(c.kind=3\/c.kind=4)\/c.kind=5\/c.kind=6\/c.kind=7\/c.kind=8:=by have:=c2.1;omega
 rcases hk with k|k|k|k|k|k|k
 ·
  have hat:=Ys ⟨c1,c2⟩ k;have hd:=B4 h aa c.doc hcn.1 c.text hcn.2.2;generalize dM h c.doc c.text=R at hd hat;exact LH
 ·
  exact Ly
 ·
  have hat:=Uw ⟨c1,c2⟩ k;have hd:=J6 h aa c1 c;generalize oH h c=A at hd hat;have k1:¬c.kind=1:=aa;have k2:¬c.kind=2:=aa;have fin:∀_:c.kind=3\/(¬c.kind=3/\c.kind=4),True:=λ_=>trivial
  rcases k with k|k
  ·exact Lw
  ·exact Lw
 ·
  have hat:=Yq ⟨c1,c2⟩ k;have hd:=uF h aa c.doc c.n;generalize bC h c.doc c.n=R at hd hat;obtain⟨X,rev,code⟩:=R;exact E6
 ·exact absurd k n6
 ·
  have hat:=Yp ⟨c1,c2⟩ k;have hd:=yw h aa c.client;generalize bU h c.client=R at hd hat;obtain⟨X,text,rev,code⟩:=R;exact E6
 ·
  have hat:=Yo ⟨c1,c2⟩ k;have hd:=B1 h aa;generalize eG h=R at hd hat;exact LH
theorem PQ(h:Hub)(hl:dk h<=2^28)(c:Call)(hc:dX c<=2^28)(k:c.kind=2):ar Tryz.prog 66 [.agg h.row,.agg c.row] (.tup [.agg (fDo h c).1.res,.agg (fDo h c).2.res]):=by
 refine pci aw Tryz.func66 (λw0 base=>?_);have hcn:c.doc.size<=2^28/\nL bc c.o<=2^28/\c.text.length<=2^28:=sr;simp[Hub.row,Call.row];intro b2 b3 b4 b5;refine ag.pure (gd h aa) bp ?_;by_cases c1:bJ h
 rotate_left
 ·exact Lg
 simp[c1];refine ag.pure (p5 c aa) i4 ?_;by_cases c2:dx c
 rotate_left
 ·exact Lf
 simp[c2];intro b6 b23 b24;exact Lx
theorem QN(h:Hub)(hl:dk h<=2^28)(c:Call)(hc:dX c<=2^28)(k:c.kind=2):ar Tryz.prog 85 [.agg h.row,.agg c.row] (.tup [.agg (fDo h c).1.res,.agg (fDo h c).2.res]):=by
 refine pci aw Tryz.func85 (λw0 base=>?_);have hcn:c.doc.size<=2^28/\nL bc c.o<=2^28/\c.text.length<=2^28:=sr;simp[Hub.row,Call.row];intro b2 b3 b4 b5;refine ag.pure (el h aa) bp ?_;by_cases c1:bJ h
 rotate_left
 ·exact EK
 simp[c1];refine ag.pure (jJ c aa) i4 ?_;by_cases c2:dx c
 rotate_left
 ·exact EJ
 simp[c2];intro b6 b7;exact Ly
set_option maxRecDepth 100000
set_option maxHeartbeats 4000000
theorem wv{P:Program}{ops:Array Oper}{o:Oper}{a:Act}{w:World}{K:Act->World->Prop}{Q:Exit->Act->World->Prop}{E:Prop}
 (hg:o.guard=none) (d x:Operand) (dT sT:TypeId) (hop:o.op=Op.call { callee:=Callee.builtin Builtin.append,args:=#[d,x],argTypes:=#[dT,sT] })
 (v u:Value) (hd:a.eval d=v) (hx:a.eval x=u) {v':Value}{w':World}(hr:(Builtin.append_ #[dT,sT] o.type #[v,u]).run P w=.ok v' w') (hK:K (a.put o.dst v') w') :
 if Region.wanted o (yielded ops a.tmps)=true then Oper.wp P o a w K Q else E:=by
 have hw:Region.wanted o (yielded ops a.tmps)=true:=yY;rw[an hw];unfold Oper.wp;simp[execOp,hop,resolve,invoke,builtin,hd,hx,hr,Result.andThen];exact hK
theorem Jv{P:Program}{w:World}{t ty e:TypeId}{z:Value}(hu:P.underlying t=some (.slice e))(hv:∀w,(zeroValue e).run P w=.ok z w){b o n c:Nat}{cs:Array Value}{T:TypeId}
 (hb:w.heap[b]? = some (.cells cs T (0,0))) (h1:∀v∈(Builtin.zeroCells z.cells n).toList,v.oneCell'=true) (hfit:o+(Builtin.zeroCells z.cells n).toList.length<=cs.size) (hn:0<n) :
 (Builtin.clear_ #[t] ty #[.slice (some ⟨b,o,none⟩) n c]).run P w=.ok (.tuple #[]) (w.setRow b (cs.toList.take o++(Builtin.zeroCells z.cells n).toList++cs.toList.drop (o+(Builtin.zeroCells z.cells n).toList.length)).toArray):=by
 have hst:=wm (P:=P) b o T (Builtin.zeroCells z.cells n).toList 0 cs w hb aa h1;simp only[nS]at hst;obtain⟨m,rfl⟩:∃m,n=m+1:=⟨n-1,aa⟩;simp[Builtin.clear_,bj hu,hv];simp[hst]
theorem Gt(w:World)(us:List Value)(i m b o C:Nat)(cs:Array Value)(T:TypeId)(hul:us.length=(i+1+m)*2)(hnC:i+1+m<=C)(hCm:C<=maxLen)
 (hb:w.heap[b]? = some (.cells cs T (0,0))) (hfit:o+C*2<=cs.size) (hcs:∀j,j<(i+1+m)*2->cs.getD (o+j) undef=us.getD j undef) (h1:∀v∈us,v.oneCell'=true) :
 Calls Tryz.prog 104 #[.slice (some ⟨b,o,none⟩) (i+1+m) C,.int .i64 i,.int .i64 ((i:Int)+1)] w λe w'=>
  e=.returned (.slice (some ⟨b,o,none⟩) (i+m) C)/\Placed w w' (some b) b o C (i+m) 2 (us.take (i*2)++us.drop ((i+1)*2)):=by
 have u0:=bj Tryz.underlying36;have mixed:Tryz.prog.follows .mixedOrders=true:=al;obtain⟨i0,z0,hi0,hzs,hzb,hz0,hzc,-⟩:=(aw 104 _ zE).info;have hzs:i0.size=2:=hzs;have hC63:C<=9223372036854775807:=by unfold maxLen at hCm;omega
 have hne:¬((i:Int)=(i:Int)+1):=aa;have hiC:i+1<=C:=aa;have hi0':i<=C:=aa;have htn:((i:Int)+1).toNat=i+1:=aa;have hb1:(0:Int)<=(i:Int)+1:=aa;have hb2:(i:Int)<=(i:Int)+1:=aa;have hb3:¬(i=i+1):=aa;have hb4:i+1+m-(i+1)=m:=aa;have hb5:i<=i+1+m:=aa;have hb6:i+1<=i+1+m:=aa;have hb7:(i:Int)+1<=(i:Int)+1+(m:Int):=aa;obtain⟨news,hnews⟩:∃news,news=us.drop ((i+1)*2):=⟨_,rfl⟩;have hdl:news.length=m*2:=by rw[hnews,iq,hul];omega
 have hnm:∀v∈news,v.oneCell'=true:=λv hv=>h1 v (a8 (hnews ▸ hv))
 have hget:∀j,j<m*2->cs.getD (o+(i+1)*2+j) undef=news.getD j undef:=λj hj=>by
  rw[hnews,et,hcs _ aa];simp only[aL,dA]
 obtain⟨A,hA,hsrc⟩:∃A:Addr,(if C=i+1 then some (⟨b,o,none⟩:Addr)else some ⟨b,o+(i+1)*2,none⟩)=some A/\∀j v,news[j]? = some v->w.drew.cell? (A.add j)=some v:=by
  by_cases h:C=i+1
  ·refine⟨⟨b,o,none⟩,by simp[h],λj v hv=>?_⟩
   have h0:news.length=0:=by rw[hdl];omega
   rw[List.length_eq_zero_iff.1 h0]at hv;simp at hv
  ·refine⟨⟨b,o+(i+1)*2,none⟩,by simp[h],λj v hv=>?_⟩
   rw[dz];exact fF (w:=w.drew) hb (λj hj=>hget j aa) aa j v hv
 have hrun:=λty=>Go.AM.run_append_room (P:=Tryz.prog) (w:=w.drew) (ty:=ty) (c:=C-(i+1)) (n:=i) (m:=m) (C:=C) Tryz.underlying36 hi0 hb A news (by rw[hzs];exact hdl) hsrc hnm aa yN
 rw[hzs]at hrun;obtain⟨cs1,hcs1⟩:∃c,c=(cs.toList.take (o+i*2)++news++cs.toList.drop (o+i*2+news.length)).toArray:=⟨_,rfl⟩;obtain⟨s1,g1⟩:=dp cs (o+i*2) news aa;rw[<-hcs1]at s1 g1 hrun;have zl:z0.cells.size=2:=by have:=nP List.length hzc;simpa using this
 have hzn:(Builtin.zeroCells z0.cells 1).toList.length=2:=by rw[Dv,gU,zl]
 have hz1:∀v∈(Builtin.zeroCells z0.cells 1).toList,v.oneCell'=true:=by
  have hzz:(Builtin.zeroCells z0.cells 1).toList=z0.cells.toList:=by
   simp[Builtin.zeroCells];refine eA ab (λj h1 h2=>?_);simp at h1;simp[pe (show j<z0.cells.size from aa),show j<z0.cells.size from aa]
  rw[hzz,hzc];intro v hv;simp[zv]at hv;rcases hv with rfl|rfl<;>rfl
 obtain⟨cs2,hcs2⟩:∃c,c=(cs1.toList.take (o+(i+m)*2)++(Builtin.zeroCells z0.cells 1).toList++cs1.toList.drop (o+(i+m)*2+(Builtin.zeroCells z0.cells 1).toList.length)).toArray:=⟨_,rfl⟩;obtain⟨s2,g2⟩:=dp cs1 (o+(i+m)*2) (Builtin.zeroCells z0.cells 1).toList aa;rw[<-hcs2]at s2 g2
 have hP:Placed w ((w.drew.setRow b cs1).setRow b cs2) (some b) b o C (i+m) 2 (us.take (i*2)++us.drop ((i+1)*2)):=by
  refine⟨⟨cs2,T,dy _ b cs1 cs2 T (0,0) (dy w.drew b cs cs1 T (0,0) hb),aa,λj hj=>?_⟩,aa,hCm,ab,⟨rfl,rfl,rfl⟩,.inr rfl,λc _ hc=>?_⟩
  ·rw[g2,g1,aq aa]
   have hl:(us.take (i*2)).length=i*2:=aN;by_cases c1:j<i*2
   ·rw[aq aa,hcs j aa]
    simp only[aL];rw[cq aa,cA,an c1]
   ·rw[an aa,hnews]
    simp only[aL];rw[a9 aa,hl]
    congr 2<;>omega
  ·exact zd
 obtain⟨W1,hW1⟩:∃W1,W1=w.drew.setRow b cs1:=⟨_,rfl⟩;have hb1':W1.heap[b]? = some (.cells cs1 T (0,0)):=by rw[hW1];exact dy w.drew b cs cs1 T (0,0) hb
 have hzv:∀w,(zeroValue 104).run Tryz.prog w=.ok z0 w:=λw=>by simp[zeroValue,typeInfo,hi0,hz0]
 have hcl:=λty=>Jv (P:=Tryz.prog) (w:=W1) (ty:=ty) (b:=b) (o:=o+(i+m)*2) (n:=1) (c:=C-(i+m)) Tryz.underlying36 hzv hb1' hz1 (by rw[hzn,s1];omega) aa
 rw[<-hcs2]at hcl;have hc1:¬(C=i+m):=aa;have hc2:i+1+m-(i+m)=1:=aa;have hc3:i+m<=i+1+m:=aa;have hc4:i+m<=C:=aa;have hc5:(i:Int)+m<=(i:Int)+1+m:=aa;have hc6:(0:Int)<=(i:Int)+m:=aa;have hc7:(0:Int)<=(i:Int)+1+m:=aa;have hc8:((i:Int)+m).toNat=i+m:=aa;have hc9:((i:Int)+1+m).toNat=i+1+m:=aa;rw[<-hW1]at hrun hP
 clear hW1 hcs1 hcs2 g1 g2 hb1' hzv hget hsrc
 go_enter Tryz.func104,Tryz.ntmps104
 go_wp2_with fail
 go_region_law_o (refine wv rfl (.tmp 22) (.tmp 25) 36 36 rfl (.slice (some ⟨b,o,none⟩) i C) (.slice (some A) m (C-(i+1))) (by simp[Act.eval,Act.put]) (by simp[Act.eval,Act.put,hA]) (hrun _) ?_)
 go_wp2
 go_ret
 exact⟨rfl,hP⟩
theorem Kt:Pz Tryz.prog 104 2:=by
 refine⟨⟨_,Tryz.func104,al,rfl⟩,λw us n i s ob hul hi hs=>?_⟩;rcases hs with⟨h0,-⟩|⟨b,o,C,cs,T,rfl,rfl,hb,hnC,hCm,hfit,hcs,h1⟩
 ·omega
 obtain⟨m,rfl⟩:∃m,n=i+1+m:=⟨n-(i+1),aa⟩;refine(Gt w us i m b o C cs T hul hnC hCm hb hfit hcs h1).mono ?_
 rintro e w' ⟨rfl,hp⟩
 have e1:i+1+m-1=i+m:=aa;rw[e1];exact⟨b,o,C,rfl,rfl,hp⟩
set_option maxRecDepth 20000
set_option maxHeartbeats 6400000
theorem GP{E:Env}{id:Nat}{ops:List Oper}{Q:Exit->ASt->Prop}{n kb:Nat}{t:List (Nat×AV)}{h:AH}(h':aY E id ops Q ⟨n,kb,AM.hush t,h⟩):aY E id ops Q ⟨n,kb,t,h⟩:=λa w hR=>h' a w hR.hush
theorem xu(w:Wld)(hl:bY w<=2^30)(name:ByteArray):ar Tryz.prog 51 [.agg w.row,.c (.v (.string name))] (.tup [.agg (ia w name).1.res,.c (.v (.bool (ia w name).2)) 1]):=by
 refine ar.introL aw Tryz.func51 al rfl rfl rfl (ai rfl) rfl (λw0 base us hrd=>?_);have hno:=@Da w name;have hwo:=jT w aa;have hcp:=tc w aa;obtain⟨nh,n2,n3,n4⟩:=bI hl;have hle:=aS n4;have hlq:=aS n3;simp[Wld.row]at hrd;obtain⟨r1,r2,r3,r4,r5⟩:=hrd;simp[Wld.row];intro b2 b4;refine ag.pure (kE (w.h.docs.map Doc.row) (w.h.subs.map Sub.row) (w.locks.map aG) (w.tasks.map Task.row) w.h.shut w.h.last w.step (s6 w.queues) aa name) (by simp[r1,r2,r3,r4,r5]) ?_;simp;refine ag.pure hwo pO ?_;by_cases c1:bo w
 rotate_left
 ·exact Ed
 have hhb:=(ke c1.2.1).1;simp[c1];by_cases c2:w.step=1000000
 ·exact Ea
 simp[c2];rcases ix w.queues name with⟨i,hi,eq,hd⟩|eq;rotate_left
 ·simp[eq,hno (λh=>by have:=h.2.2;omega),Wld.res,Wld.zero,Hub.zero]
 obtain⟨k,hk,rest,hql,hrl⟩:=p8 c1 hi;have hi0:¬(i:Int)<0:=aa;rw[tl c1 c2 hi eq hk hql];obtain⟨q,hq⟩:∃q,w.queues[i]=q:=⟨_,rfl⟩;rw[hq]at hql⊢;simp[eq,hi0];refine ag.pure hcp pO ?_;have htk:=(c1.1 _ (ak hk));obtain⟨t,ht⟩:∃t,w.tasks[k]=t:=⟨_,rfl⟩;rw[ht]at htk⊢;have hm:=λg=>j9 (f:=Task.row) hk ht g
 have ew:Go.IntKind.i64.wrap (w.step+1)=w.step+1:=ae _ so;have ei:Go.IntKind.i64.wrap ((i:Int)+1)=((i+1:Nat):Int):=aR aa;have hk2:=(Ah (xn.1 c1) hi hk (hq.symm ▸ hql)).1;rw[ht]at hk2;have hdo:=PQ w.h aa t.c sm (htk.2.2.2.2.1 hk2);have hlen:q.list.length=rest.length+1:=by rw[hql];rfl
 simp[Wld.res,hi,hq,Queue.row,hql];intro H1 H2 H3 H4 H5 b7;have hrow:∀d,lK (w.queues.map Queue.row) i 1 d=(w.queues.map Queue.row).set i [.v (.string q.doc),d]:=λd=>by have:=j9 (f:=Queue.row) hi hq (λrow=>row.set 1 d);exact this
 refine GP ?_;simp;refine aY.open (λ_ h=>h) (k:=437) (i:=i) (j:=1) (k':=60000) (sz':=1) (sz:=2) (H:=H4) (rows:=w.queues.map Queue.row) (srows:=q.list.map aG) (row:=q.row) ab (by simp[hi,hq]) rfl ab ah i5 ab (λG=>?_);have hpos:0<q.list.length:=aa;refine drw eok mix [0,1,2,3,4,5,6,7,8,9,10,11] [12] (.c 12 12 4093 2 (.l 12 2) .s) ?_;simp[hi,hrow,hlen]
 try intros
 refine⟨aa,?_⟩;have hct:cut (q.list.map aG) 1 rest.length=rest.map aG:=by rw[hql,fu,bL,Yw,VE];exact aB ab
 have hA:∀Y,cut ((w.queues.map Queue.row).set i Y) 0 i=(w.queues.take i).map Queue.row:=λY=>by rw[fu,jA,List.take_set,List.set_eq_of_length_le aN,dU]
 have hB:∀Y,cut ((w.queues.map Queue.row).set i Y) (i+1) (w.queues.length-(i+1))=(w.queues.drop (i+1)).map Queue.row:=λY=>by
  rw[fu,List.drop_set_of_lt aa,mz];exact ve
 have hmin:min i w.queues.length=i:=aa;generalize hR:fDo w.h t.c=R at hdo;obtain⟨h',a'⟩:=R;by_cases hz:rest=[]
 ·subst hz
  simp at hct;simp[hct,ei,bf,hA,hB,hmin];intro b56;refine⟨aa,aa,λH=>⟨aa,aa,aa,aa,λH6=>?_⟩⟩;refine inl aw Tryz.func25 40000 (λw1 F=>?_);refine dS (λx:(Hd×Hd×Hd×Hd)×Nat×Nat=>[(4,.p 40064 x.2.1 0),(5,.p 40080 x.2.2 0)]) (λx=>[(40064,.vars x.2.1 35 [.v (.bool h'.shut),.sl 40305 x.1.1 5 0 h'.docs.length,.sl 40306 x.1.2.1 6 0 h'.subs.length,.v (.int .i64 h'.last)]),(40080,.vars x.2.2 64 [.v (.int .i64 a'.code),.v (.int .i64 a'.rev),.sl 40310 x.1.2.2.1 1 0 a'.text.length,.sl 40311 x.1.2.2.2 3 0 a'.list.length]),(40305,.rows x.1.1 5 (h'.docs.map Doc.row) true),(40306,.rows x.1.2.1 6 (h'.subs.map Sub.row) true),(40310,.rows x.1.2.2.1 1 (a'.text.map aG) true),(40311,.rows x.1.2.2.2 3 (a'.list.map Entry.row) true)]) [0,1] ?_ ?_
  ·exact zr
  rintro⟨⟨K1,K2,K3,K4⟩,e1,e2⟩
  simp;refine drw eok mix [0,1,2,3,4,5,6,7] [8] (.c 8 8 253 2 (.l 8 2) .s) ?_;simp[hk,Task.row,hm]
  try intros
  refine drw eok mix [0,1,2,3,4,5,6,7,8,9,10] [11] (.c 11 11 2045 2 (.l 11 2) .s) ?_;simp[hk,bf]
  try intros
  simp[ew,eg,mH,hR,Task.row,ou,oN,hmin];exact⟨λr hr=>hr.elim (λh=>Fu (br h)) (λh=>Fu (a8 h)),λr hr=>oR rfl r hr⟩
 ·simp[hct,hz]
  refine inl aw Tryz.func25 20000 (λw1 F=>?_);refine dS (λx:(Hd×Hd×Hd×Hd)×Nat×Nat=>[(4,.p 20064 x.2.1 0),(5,.p 20080 x.2.2 0)]) (λx=>[(20064,.vars x.2.1 35 [.v (.bool h'.shut),.sl 20305 x.1.1 5 0 h'.docs.length,.sl 20306 x.1.2.1 6 0 h'.subs.length,.v (.int .i64 h'.last)]),(20080,.vars x.2.2 64 [.v (.int .i64 a'.code),.v (.int .i64 a'.rev),.sl 20310 x.1.2.2.1 1 0 a'.text.length,.sl 20311 x.1.2.2.2 3 0 a'.list.length]),(20305,.rows x.1.1 5 (h'.docs.map Doc.row) true),(20306,.rows x.1.2.1 6 (h'.subs.map Sub.row) true),(20310,.rows x.1.2.2.1 1 (a'.text.map aG) true),(20311,.rows x.1.2.2.2 3 (a'.list.map Entry.row) true)]) [0,1] ?_ ?_
  ·exact zr
  rintro⟨⟨K1,K2,K3,K4⟩,e1,e2⟩
  simp;refine drw eok mix [0,1,2,3,4,5,6,7] [8] (.c 8 8 253 2 (.l 8 2) .s) ?_;simp[hk,Task.row,hm]
  try intros
  refine drw eok mix [0,1,2,3,4,5,6,7,8,9,10] [11] (.c 11 11 2045 2 (.l 11 2) .s) ?_;simp[hk,bf]
  try intros
  simp[ew,eg,mH,hR,Task.row,ou,hz];exact⟨λr hr=>SV rfl r hr,rfl,λr hr=>oR rfl r hr⟩
theorem aY.weak{E:Env}{id:Nat}{ops:List Oper}{Q:Exit->ASt->Prop}{st:ASt}(st2:ASt)(hw:Bx st st2)(h2:aY E id ops Q st2):aY E id ops Q st:=aY.ent λ_a _w hR=>⟨st2,h2,hw.rep hR⟩
theorem kF(w:Wld)(hl:bY w<=2^30)(name:ByteArray):ar Tryz.prog 54 [.agg w.row,.c (.v (.string name))] (.tup [.agg (ia w name).1.res,.c (.v (.bool (ia w name).2)) 1]):=by
 refine pci aw Tryz.func54 (λw0 base=>?_);have hno:=@Da w name;have hwo:=hQ w aa;have hcp:=iA w aa;obtain⟨nh,n2,n3,n4⟩:=bI hl;have hle:=aS n4;have hlq:=aS n3;simp[Wld.row];intro b2 b3 b4;refine inl aw Tryz.func102 20000 (λw1 F=>?_);simp
 refine aV.intro eok (λi:Nat=>i<=w.queues.length/\∀j,j<i->∀hj:j<w.queues.length,¬w.queues[j].doc=name) (λi=>⟨19,20000,[(8,.v (.int .i64 i)),(7,.v (.int .i64 w.queues.length)),(0,.ro (w.queues.map Queue.row)),(1,.clo 103 [.p 48 b3 0])],
  [(48, .vars b3 9 [.v (.string name)]),(64, .vars b4 39 [.v (.bool false), .nil, .nil, .v (.int .i64 0), .nil, .nil, .nil, .v (.int .i64 0)]),
   (32,.vars b2 39 [.v (.bool w.h.shut),.ro (w.h.docs.map Doc.row),.ro (w.h.subs.map Sub.row),.v (.int .i64 w.h.last),.ro (w.locks.map aG),.ro (w.queues.map Queue.row),.ro (w.tasks.map Task.row),.v (.int .i64 w.step)])]⟩) (λi=>w.queues.length-i) 0 ab ab (λi hi=>?_)
 by_cases hlt:i<w.queues.length
 rotate_left
 ·have eq:dR w.queues name = -1:=pG (λj hj=>hi.2 j aa hj)
  simp[hlt,hno (λh=>by have:=h.2.2;omega),Wld.res,Wld.zero,Hub.zero]
 simp[hlt];refine inl aw Tryz.func103 40000 (λw2 F2=>?_);simp[Queue.row];intro b;by_cases c:w.queues[i].doc=name
 rotate_left
 ·exact EY
 have eq:dR w.queues name=i:=vT hlt c hi.2;have hi0:¬(i:Int)<0:=aa;simp[c,hi0];refine ag.pure hwo bS ?_;by_cases c1:bo w
 rotate_left
 ·exact Ed
 have hhb:=(ke c1.2.1).1;simp[c1];by_cases c2:w.step=1000000
 ·exact Ea
 simp[c2];obtain⟨k,hk,rest,hql,hrl⟩:=p8 c1 hlt;rw[tl c1 c2 hlt eq hk hql];have hk2:=(Ah (xn.1 c1) hlt hk hql).1;obtain⟨q,hq⟩:∃q,w.queues[i]=q:=⟨_,rfl⟩;rw[hq]at hql⊢;refine ag.pure hcp bS ?_;have htk:=(c1.1 _ (ak hk));obtain⟨t,ht⟩:∃t,w.tasks[k]=t:=⟨_,rfl⟩;rw[ht]at htk hk2⊢;have hm:=λg=>j9 (f:=Task.row) hk ht g
 have ew:Go.IntKind.i64.wrap (w.step+1)=w.step+1:=ae _ so;have ei:Go.IntKind.i64.wrap ((i:Int)+1)=(i:Int)+1:=ae _ aa;have hdo:=QN w.h aa t.c sm (htk.2.2.2.2.1 hk2);have hlen:q.list.length=rest.length+1:=by rw[hql];rfl
 simp[Wld.res,hlt,hq,Queue.row,hql];intro H1 H2 H3 H4 H5 b7;refine inl aw Tryz.func36 50000 (λw3 F3=>?_);simp[hk];generalize hR:fDo w.h t.c=R at hdo;obtain⟨h',a'⟩:=R;refine drw eok mix [0,1,2,3,4,5,6,7,8,9,14,15,17,18] [10,11,12,13,16,19] (.c 14 10 272 16111 (.c 14 11 0 16111 (.c 14 12 0 16111 (.c 14 13 0 16111 (.c 14 16 12004 4107 (.c 14 19 4105 2 (.l 14 2) .s) .s) .s) .s) .s) .s) ?_;simp[hk,ht,Task.row]
 try intros
 refine ag.pure (hdo) (by simp[Hub.row,Call.row]) ?_;simp[Hub.res,Answer.res,hk,Task.row,hm,bf]
 try intros
 rename_i K1 K2 K3 K4
 refine aY.weak (⟨68,0,[(4,.p 64 b4 0),(6,.v (.int .i64 i)),(7,.p 112 b7 0)],
  [(422, .rows H5 15 ((w.tasks.map Task.row).set k (Task.row ⟨t.c,3,t.inv,w.step,t.rs,a'⟩)) true),
   (112,.vars b7 39 [.v (.bool h'.shut),.sl 50353 K1 5 0 h'.docs.length,.sl 50354 K2 6 0 h'.subs.length,.v (.int .i64 h'.last),.sl 420 H3 1 0 w.locks.length,.sl 421 H4 2 0 w.queues.length,.sl 422 H5 15 0 w.tasks.length,.v (.int .i64 w.step)]),
   (50354,.rows K2 6 (h'.subs.map Sub.row) true),(50353,.rows K1 5 (h'.docs.map Doc.row) true),(421,.rows H4 2 (w.queues.map Queue.row) true),(420,.rows H3 1 (w.locks.map aG) true),
   (64,.vars b4 39 [.v (.bool false),.nil,.nil,.v (.int .i64 0),.nil,.nil,.nil,.v (.int .i64 0)])]⟩) lW ?_
 have hrow:∀d,lK (w.queues.map Queue.row) i 1 d=(w.queues.map Queue.row).set i [.v (.string q.doc),d]:=λd=>by have:=j9 (f:=Queue.row) hlt hq (λrow=>row.set 1 d);exact this
 refine aY.open (λ_ h=>h) (k:=421) (i:=i) (j:=1) (k':=60000) (sz':=1) (sz:=2) (H:=H4) (rows:=w.queues.map Queue.row) (srows:=q.list.map aG) (row:=q.row) ab (by simp[hlt,hq]) rfl ab ah i5 ab (λG=>?_);have hpos:0<q.list.length:=aa;refine drw eok mix [0,1,2,3,4,5,6,7,8,9,10,11] [12] (.c 12 12 4093 2 (.l 12 2) .s) ?_;simp[hlt,hrow,hlen]
 try intros
 refine⟨aa,?_⟩;have hct:cut (q.list.map aG) 1 rest.length=rest.map aG:=by rw[hql,fu,bL,Yw,VE];exact aB ab
 have hE:∀Y,((w.queues.map Queue.row).set i Y).eraseIdx i=(w.queues.eraseIdx i).map Queue.row:=λY=>by rw[List.eraseIdx_set_eq,oN,oN];simp
 have hEl:(w.queues.eraseIdx i).length=w.queues.length-1:=by rw[List.length_eraseIdx,an hlt]
 by_cases hz:rest=[]
 ·subst hz
  simp at hct;simp[hct,ei,bf];refine GR Kt ah (n:=w.queues.length) (rows:=(w.queues.map Queue.row).set i [.v (.string q.doc),.s []]) (own:=true) (i:=i) (k:=421) ab ab aN (λH6=>?_);simp[ew,eg,mH,hR,ou,hE,Task.row];exact⟨aa,by unfold cut;rw[an ⟨rfl,by simp[hEl]⟩],λr hr=>oR rfl r hr⟩
 ·simp[hct,hz,bf,ew,eg,mH,hR,ou,Task.row]
  exact⟨λr hr=>SV rfl r hr,rfl,λr hr=>oR rfl r hr⟩
end Go.Proofs.YtklblkobegcljaaGreat
namespace Go.AM
open Go.RowKit
def uQ(w:World)(S:Nat->Prop)(v:Value):VD->Prop
 | .c d=>Rd w false S v d
 | .agg ds=>∃xs:Array Value,v=.agg xs/\xs.size=ds.length/\∀j d,ds[j]? = some d->Rd w false S (xs.getD j undef) d
def aeV(P:Program)(T:TypeId)(bs:List (List CD))(f:Nat)(args:List VD)(R:RR->Prop):Prop:=
 xj P f/\∀(w:World) (b:Nat) (u:Value) (i h:Int) (xs:Array Value),0<=i->i<=bs.length ->
  w.heap[b]? = some (.cells #[u,.int .i64 i,.int .i64 h] T (0,0))->Rd w false (λc=>c≠b) u (.s bs) ->
  xs.size=args.length+1->xs.getD 0 undef=.pointer (some ⟨b,0,none⟩)->(∀j vd,args[j]? = some vd->uQ w (λc=>c≠b) (xs.getD (j+1) undef) vd) ->
  Calls P f xs w λe w'=>∃(v:Value) (rr:RR) (i' h':Int),e=.returned v/\R rr/\0<=i'/\i'<=bs.length/\w'.heap[b]? = some (.cells #[u,.int .i64 i',.int .i64 h'] T (0,0)) /\
   BelowF (λc=>c<w.heap.size/\c≠b) w w'/\GK w' (λc=>w.heap.size<=c/\c<w'.heap.size) v rr
theorem uQ.rel{w:World}{M:Nat->Prop}{v:Value}{d:VD}(h:uQ w (λb=>¬M b) v d):VRel w M d.toAV v:=by
 cases d with
 |c d=>exact jR h
 | agg ds =>
   obtain⟨xs,rfl,hs,hr⟩:=h;refine .agg _ _ (by simp[hs]) (λi av hi=>?_);simp only[ch,aU]at hi;obtain⟨d,hd,rfl⟩:=hi;exact jR (hr i d hd)
theorem Bo{base:Bs}{h:AH}{w:World}{E:Nat->Nat->Prop}(H:HRel base h w E){S:Nat->Prop}(hS:∀c,¬h.M c->S c)(hSr:∀k b o C sz rows own,h.get k=.rows (some (b,o,C)) sz rows own->S b)
 {x:AV}{u:Value}{R:Value->CD->Prop}(hR:∀u d,R u d->Rd w false S u d) (hv:VRel w h.M x u) {d:CD}(hk:aIn R h x d):Rd w false S u d:=by
 unfold aIn at hk
 split at hk
 ·cases hv;exact hR _ _ hk
 ·rename_i k Hd sz len
  split at hk
  ·rename_i H' sz' rows own hget
   obtain⟨rfl,rfl,rfl,rfl⟩:=hk
   cases hv with
   | ml _ _ _ _ _ hx =>
     rcases hx with⟨hp,hx⟩|⟨h0,-,a,c,rfl⟩
     ·have ho:=H.obj k
      rw[hget]at ho
      cases Hd with
      | none =>
        obtain⟨⟨a,rfl⟩,h0⟩:=hx;exact vg
      | some q =>
        obtain⟨b,o,C⟩:=q;obtain⟨S0,hrd,hS0⟩:=iP ho ⟨k,i7⟩ hx (show 0+rows.length<=rows.length from aa);have:=hrd.weaken.map (S':=S) (λ_ _ _=>rfl) (λc hc _=>(hS0 c hc).elim (λe=>e ▸ hSr _ _ _ _ _ _ _ hget) (λh=>hS c h.2))
        simpa[fu]using this
     ·exact vg
  ·exact hk.elim
 ·subst hk;cases hv with|v u hp=>exact .plain hp
 ·subst hk;cases hv;exact .empty _ _ eS
 ·subst hk;cases hv with|ro rows x hr=>exact hr.map (λ_ _ _=>rfl) (λc hc _=>hS c hc)
 ·rename_i k Hd sz off len
  split at hk
  ·rename_i H' sz' rows own hget
   obtain⟨rfl,rfl,hlen,rfl⟩:=hk
   cases hv with
   | sl _ _ _ _ _ _ hx =>
     have ho:=H.obj k;rw[hget]at ho
     cases Hd with
     | none =>
       exact Ls
     | some q =>
       obtain⟨b,o,C⟩:=q;obtain⟨S0,hrd,hS0⟩:=iP ho ⟨k,i7⟩ hx hlen;exact hrd.weaken.map (λ_ _ _=>rfl) (λc hc _=>(hS0 c hc).elim (λe=>e ▸ hSr _ _ _ _ _ _ _ hget) (λh=>hS c h.2))
  ·rename_i H' sz' rows hget
   obtain⟨rfl,rfl,rfl,rfl,rfl⟩:=hk
   cases hv with
   | sl _ _ _ _ _ _ hx =>
     have ho:=H.obj k;rw[hget]at ho;exact(ho.2.2 _ hx).map (λ_ _ _=>rfl) (λc hc _=>hS c hc)
  ·exact hk.elim
 ·exact hk.elim
theorem yd{base:Bs}{h:AH}{w:World}{E:Nat->Nat->Prop}(H:HRel base h w E){S:Nat->Prop}(hS:∀c,¬h.M c->S c)(hSr:∀k b o C sz rows own,h.get k=.rows (some (b,o,C)) sz rows own->S b)
 {R:Value->CD->Prop}(hR:∀u d,R u d->Rd w false S u d):∀(l:List AV) (ds:List CD) {us:Nat->Value}(_:∀i av,l[i]? = some av->VRel w h.M av (us i)) (_:Bq R h l ds),
 l.length=ds.length/\∀i d,ds[i]? = some d->Rd w false S (us i) d
 | [],[],us,hv,hk=>⟨rfl,λi d hd=>oe⟩
 | a :: l, d :: ds, us, hv, hk => by
   obtain⟨h1,h2⟩:=yd H hS hSr hR l ds (us:=λi=>us (i+1)) (λi av hi=>hv (i+1) av ee) hk.2;refine⟨kW,λi d' hd=>?_⟩
   cases i with
   |zero=>simp at hd;subst hd;exact Bo H hS hSr hR (hv 0 a rfl) hk.1
   |succ i=>exact h2 i d' mO
 | [],_::_,us,hv,hk=>hk.elim
 |_::_,[],us,hv,hk=>hk.elim
end Go.AM
