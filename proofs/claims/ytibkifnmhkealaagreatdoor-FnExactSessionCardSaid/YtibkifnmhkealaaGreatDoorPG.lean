import Derived.Test.YtibkifnmhkealaaGreatDoorPF
import Derived.Test.YtibkifnmhkealaaGreatDoorMH
import Derived.Shelf.RegionOpenPlain
namespace Go.Proofs.YtibkifnmhkealaaGreatDoor
open Go.AM Go.RowKit
set_option maxRecDepth 100000
set_option maxHeartbeats 4000000
set_option linter.unusedVariables false
set_option linter.unusedSimpArgs false
theorem yV (w:World) (us xs:List Value) (n i b o C bv ov Cv:Nat) (cs cv:Array Value) (T Tv:TypeId) (hul:us.length=n*3) (hxl:xs.length=3) (hi:i<n) (hroom:n+1<=C) (hC:C<=maxLen)
 (hb:w.heap[b]? = some (.cells cs T (0,0))) (hfit:o+C*3<=cs.size) (hcs:∀ j,j<n*3->cs.getD (o+j) undef=us.getD j undef) (h1:∀ v∈us,v.oneCell'=true)
 (hbv:w.heap[bv]? = some (.cells cv Tv (0,0))) (hCv:1<=Cv) (hfv:ov+Cv*3<=cv.size) (hcv:∀ j,j<3->cv.getD (ov+j) undef=xs.getD j undef) (h1v:∀ v∈xs,v.oneCell'=true) (hne:bv≠b) :
 Calls Tryz.prog 262 #[.slice (some ⟨b,o,none⟩) n C,.int .i64 i,.slice (some ⟨bv,ov,none⟩) 1 Cv] w λe w'=>
  e=.returned (.slice (some ⟨b,o,none⟩) (n+1) C)/\Placed w w' (some b) b o C (n+1) 3 (us.take (i*3)++xs++us.drop (i*3)):=by
 have u0:=run_underlying Tryz.underlying33;have mixed:Tryz.prog.follows .mixedOrders=true:=by kernel_rfl
 obtain ⟨i0,z0,hi0,hzs,hzb,hz0,hzc,-⟩:=(ae 119 _ AW).info;have hzs:i0.size=3:=hzs;have hC63:C<=9223372036854775807:=by unfold maxLen at hC;omega
 have hz1:¬ ((1:Int)=0):=by omega
 have hz2:¬ ((i:Int)=(n:Int)):=by omega
 have hdl:(us.drop (i*3)).length=(n - i)*3:=by rw [List.length_drop,hul,Nat.sub_mul]
 have hov:∀ lb cb,(callFunc 299 #[.slice (some ⟨bv,ov,none⟩) 1 Cv,.slice (some ⟨b,o+(i*3+3),none⟩) lb cb]).run Tryz.prog w=.ok (.value (.bool false)) w:=λlb cb=>by
  rw [run_callFunc_extern Tryz.func299 (by kernel_rfl) (by kernel_rfl) (by kernel_rfl) (e:=Extern.SlicesOverlaps.overlaps #[33,33] #[4]) (by kernel_rfl),
   Lib.run_overlaps_apart w 33 4 119 Tryz.underlying33 3 Tryz.sizeOf119 ⟨bv,ov,none⟩ ⟨b,o+(i*3+3),none⟩ 1 Cv lb cb hne Tv T cv.size cs.size (by simp [World.shape?,hbv]) (by simp [World.shape?,hb]) (by omega) (by simp [World.frozen?,hbv]) (by simp [World.frozen?,hbv])]
  rfl
 have hmm:(n+1)*3<=C*3:=Nat.mul_le_mul_right _ hroom;have hii:i*3+3<=n*3:=by have:=Nat.mul_le_mul_right 3 (show i+1<=n by omega);omega
 have e1:(i+1)*3=i*3+3:=Nat.succ_mul i 3;have e2:(n+1)*3=n*3+3:=Nat.succ_mul n 3;have e3:(n - i)*3=n*3 - i*3:=Nat.sub_mul n i 3;obtain ⟨cs1,hcs1⟩:∃ c,c=(cs.toList.take (o+(i+1)*3)++us.drop (i*3)++cs.toList.drop (o+(i+1)*3+(us.drop (i*3)).length)).toArray:=⟨_,rfl⟩;obtain ⟨s1,g1⟩:=d4 cs (o+(i+1)*3) (us.drop (i*3)) (by omega);rw [<- hcs1] at s1 g1
 have hcp1:∀ (W:World),W.heap=w.heap->∀ ty dl dc sl sc,Nat.min sl dl=n - i->(Builtin.copy_ #[33,33] ty #[.slice (some ⟨b,o+(i*3+3),none⟩) dl dc,.slice (some ⟨b,o+i*3,none⟩) sl sc]).run Tryz.prog W=.ok (goInt (n - i:Nat)) (W.setRow b cs1):=λW hW ty dl dc sl sc hm=>by
  have hb':W.heap[b]? = some (.cells cs T (0,0)):=by rw [hW];exact hb
  rw [hcs1,e1]
  exact iN Tryz.underlying33 hi0 hb' ⟨b,o+i*3,none⟩ (us.drop (i*3)) (n - i) hm (by rw [hdl,hzs])
   (λj v hj=>by
    rw [Addr.add_lit];refine gu hb' (o:=o+i*3) (vs:=us.drop (i*3)) (λj hj=>?_) (by omega) j v hj;rw [Nat.add_assoc,hcs _ (by omega)];simp [List.getD_eq_getElem?_getD])
   (λv hv=>h1 v (List.mem_of_mem_drop hv)) (by omega)
 obtain ⟨cs2,hcs2⟩:∃ c,c=(cs1.toList.take (o+i*3)++xs++cs1.toList.drop (o+i*3+xs.length)).toArray:=⟨_,rfl⟩;obtain ⟨s2,g2⟩:=d4 cs1 (o+i*3) xs (by omega);rw [<- hcs2] at s2 g2
 have hcp2:∀ (W:World),W.heap[b]? = some (.cells cs1 T (0,0))->W.heap[bv]? = some (.cells cv Tv (0,0))->∀ ty dl dc,0<dl->(Builtin.copy_ #[33,33] ty #[.slice (some ⟨b,o+i*3,none⟩) dl dc,.slice (some ⟨bv,ov,none⟩) 1 Cv]).run Tryz.prog W=.ok (goInt (1:Nat)) (W.setRow b cs2):=λW hW hWv ty dl dc hm=>by
  rw [hcs2]
  exact iN Tryz.underlying33 hi0 hW ⟨bv,ov,none⟩ xs 1 (by simp only [Nat.min_def];split<;>omega) (by rw [hxl,hzs])
   (λj v hj=>by
    rw [Addr.add_lit];exact gu hWv (λj hj=>hcv j (by omega)) (by omega) j v hj)
   h1v (by omega)
 have hw1:IntKind.i64.wrap ((i:Int)+1)=(i:Int)+1:=by rw [IntKind.wrap_i64];omega
 have hb1:(0:Int)<=(i:Int)+1:=by omega
 have hin:i<=n:=by omega
 have htn:((i:Int)+1).toNat=i+1:=by omega
 have hb2:¬ (C=i+1):=by omega
 have hb3:(i:Int)<=(n:Int)+1:=by omega
 have hb4:¬ (C=i):=by omega
 go_enter Tryz.func262,Tryz.ntmps262
 go_wp2_with (simp only [hov])
 have hE:=hcp1 w.drew rfl 3 (n - i) (C - (i+1)) (n+1 - i) (C - i) (by simp only [Nat.min_def];split<;>omega);have hE2:=hcp2 (w.drew.setRow b cs1) (by simp [setRow_heap w.drew b cs cs1 T (0,0) hb]) (by rw [setRow_other w.drew b bv cs1 hne];exact hbv) 3 (n+1 - i) (C - i) (by omega)
 have hP:Placed w ((w.drew.setRow b cs1).setRow b cs2) (some b) b o C (n+1) 3 (us.take (i*3)++xs++us.drop (i*3)):=by
  refine ⟨⟨cs2,T,setRow_heap _ b cs1 cs2 T (0,0) (setRow_heap w.drew b cs cs1 T (0,0) hb),by omega,λj hj=>?_⟩,hroom,hC,by simp,⟨rfl,rfl,rfl⟩,.inr rfl,λc _ hc=>?_⟩
  ·rw [g2,g1]
   have hl:(us.take (i*3)).length=i*3:=by simp;omega
   simp only [List.getD_eq_getElem?_getD];rw [List.append_assoc];by_cases c1:j<i*3
   ·rw [if_neg (by omega),if_neg (by omega),List.getElem?_append_left (by omega),List.getElem?_take,if_pos c1,hcs j (by omega)]
    simp
   ·rw [List.getElem?_append_right (by omega),hl]
    by_cases c2:j<i*3+3
    ·rw [if_pos (by omega),List.getElem?_append_left (by omega)]
     congr 2
     omega
    ·rw [if_neg (by omega),if_pos (by omega),List.getElem?_append_right (by omega),List.getElem?_drop,List.getElem?_drop]
     congr 2
     omega
  ·rw [setRow_other _ b c _ hc,setRow_other _ b c _ hc];rfl
 clear hcs1 hcs2
 go_region
 go_wp2
 go_ret
 all_goals exact ⟨rfl,hP⟩
theorem oO (w:World) (a:Option Addr) (n C bv ov Cv:Nat) (r:Value) (w1:World) (hnC:n<=C) (hC:C<=maxLen)
 (hr:∀ ty,(Builtin.append_ #[33,33] ty #[.slice a n C,.slice (some ⟨bv,ov,none⟩) 1 Cv]).run Tryz.prog w=.ok r w1) :
 Calls Tryz.prog 262 #[.slice a n C,.int .i64 n,.slice (some ⟨bv,ov,none⟩) 1 Cv] w λe w'=>e=.returned r/\w'=w1:=by
 have u0:=run_underlying Tryz.underlying33;have mixed:Tryz.prog.follows .mixedOrders=true:=by kernel_rfl
 have hC63:C<=9223372036854775807:=by unfold maxLen at hC;omega
 have hz1:¬ ((1:Int)=0):=by omega
 cases a with
 | none =>
   by_cases hc:C=n
   ·subst hc
    go_enter Tryz.func262,Tryz.ntmps262
    go_wp2_with (at_builtin;refine Lib.wpList_append_run _ rfl _ _ _ _ rfl _ _ rfl rfl _ _ (hr _) ?_)
    go_ret
    exact ⟨rfl,rfl⟩
   ·go_enter Tryz.func262,Tryz.ntmps262
    go_wp2_with (at_builtin;refine Lib.wpList_append_run _ rfl _ _ _ _ rfl _ _ rfl rfl _ _ (hr _) ?_)
    go_ret
    exact ⟨rfl,rfl⟩
 | some q =>
   by_cases hc:C=n
   ·subst hc
    go_enter Tryz.func262,Tryz.ntmps262
    go_wp2_with (at_builtin;refine Lib.wpList_append_run _ rfl _ _ _ _ rfl _ _ rfl rfl _ _ (hr _) ?_)
    go_ret
    exact ⟨rfl,rfl⟩
   ·go_enter Tryz.func262,Tryz.ntmps262
    go_wp2_with (at_builtin;refine Lib.wpList_append_run _ rfl _ _ _ _ rfl _ _ rfl rfl _ _ (hr _) ?_)
    go_ret
    exact ⟨rfl,rfl⟩
theorem Bt (w:World) (us xs:List Value) (n i b o C bv ov Cv:Nat) (cs cv:Array Value) (T Tv:TypeId) (hul:us.length=n*3) (hxl:xs.length=3) (hi:i<n) (hnc:n<=C) (hroom:C<n+1) (hbig:(n+1)*qd.bytes<=140737488355328)
 (hb:w.heap[b]? = some (.cells cs T (0,0))) (hfit:o+C*3<=cs.size) (hcs:∀ j,j<n*3->cs.getD (o+j) undef=us.getD j undef) (h1:∀ v∈us,v.oneCell'=true)
 (hbv:w.heap[bv]? = some (.cells cv Tv (0,0))) (hCv:1<=Cv) (hfv:ov+Cv*3<=cv.size) (hcv:∀ j,j<3->cv.getD (ov+j) undef=xs.getD j undef) (h1v:∀ v∈xs,v.oneCell'=true) :
 Calls Tryz.prog 262 #[.slice (some ⟨b,o,none⟩) n C,.int .i64 i,.slice (some ⟨bv,ov,none⟩) 1 Cv] w λe w'=>
  ∃ nC,e=.returned (.slice (some ⟨w.heap.size,0,none⟩) (n+1) nC)/\Placed w w' (some b) w.heap.size 0 nC (n+1) 3 (us.take (i*3)++xs++us.drop (i*3)):=by
 have u0:=run_underlying Tryz.underlying33;have mixed:Tryz.prog.follows .mixedOrders=true:=by kernel_rfl
 obtain ⟨i0,z0,hi0,hzs,hzb,hz0,hzc,-⟩:=(ae 119 _ AW).info;have hzz:=jw hzc;have hzs:i0.size=3:=hzs;have hzb:i0.bytes=qd.bytes:=hzb;have hby:0<qd.bytes:=by decide
 have hzz:z0.cells.size=3:=hzz;have hnb:(n+1)<=140737488355328:=Nat.le_trans (Nat.le_mul_of_pos_right _ hby) hbig;have hz1:¬ ((1:Int)=0):=by omega
 have hz2:¬ ((i:Int)=(n:Int)):=by omega
 have hz3:(C:Int)<(n:Int)+1:=by omega
 have hmm:n*3<=C*3:=Nat.mul_le_mul_right _ hnc;have hii:i*3+3<=n*3:=by have:=Nat.mul_le_mul_right 3 (show i+1<=n by omega);omega
 have e1:(i+1)*3=i*3+3:=Nat.succ_mul i 3;have e2:(n+1)*3=n*3+3:=Nat.succ_mul n 3;have e3:(n - i)*3=n*3 - i*3:=Nat.sub_mul n i 3;have hdl:(us.drop (i*3)).length=(n - i)*3:=by rw [List.length_drop,hul,Nat.sub_mul]
 have htl:(us.take (i*3)).length=i*3:=by simp;omega
 have hbw:b<w.heap.size:=dw hb;have hvw:bv<w.heap.size:=dw hbv;have hkk:(n:Int)+1 - (i:Int)=((n+1 - i:Nat):Int):=by omega
 have hik:i+(n+1 - i)=n+1:=by omega
 have hold:(Builtin.firstCells i0.size i (.slice (some ⟨b,o,none⟩) i C)).run Tryz.prog w.drew=.ok (us.take (i*3)).toArray w.drew:=by
  rw [hzs]
  exact run_firstCells_some w.drew 3 i ⟨b,o,none⟩ i C (us.take (i*3)) (by rw [htl]) (λj v hj=>by
   rw [Addr.add_lit]
   exact gu (w:=w.drew) (o:=o) (vs:=us.take (i*3)) (cs:=cs) (T:=T) hb (λj hj=>by
    rw [hcs _ (by omega)];rw [htl] at hj;simp only [List.getD_eq_getElem?_getD,List.getElem?_take,if_pos hj]) (by omega) j v hj)
 have hrz:∀ ty,(Builtin.append_ #[33,3] ty #[.slice (some ⟨b,o,none⟩) i C,.int .i64 ((n:Int)+1 - (i:Int))]).run Tryz.prog w =
  .ok (.slice (some ⟨w.heap.size,0,none⟩) (n+1) (grownCap w (n+1) C 119)) (w.drew.alloc (.cells ((us.take (i*3)).toArray++Builtin.zeroCells z0.cells (n+1 - i)++Builtin.zeroCells z0.cells (grownCap w (n+1) C 119 - (n+1))) 119)):=λty=>by
  have h:=Lib.run_append_grow_zeros w 33 3 ty 119 i0 z0 .i64 .i64 Tryz.underlying33 Tryz.underlying3 hi0 hz0 (some ⟨b,o,none⟩) i C (us.take (i*3)) hold (n+1 - i) (by omega) (by omega) (by omega) (by omega) (by rw [hzb];have:=Nat.mul_le_mul_right qd.bytes (show n+1 - i<=n+1 by omega);omega) (by rw [hzb,hik];exact growslice_fits hroom hbig);rw [hik] at h;rw [hkk];exact h
 obtain ⟨G,hG⟩:∃ G,G=grownCap w (n+1) C 119:=⟨_,rfl⟩;obtain ⟨ROW,hROW⟩:∃ ROW:Array Value,ROW=(us.take (i*3)).toArray++Builtin.zeroCells z0.cells (n+1 - i)++Builtin.zeroCells z0.cells (G - (n+1)):=⟨_,rfl⟩;rw [<- hG] at hrz;rw [<- hROW] at hrz;have hGn:n+1<=G:=by rw [hG];exact grownCap_ge w _ _ _
 have hGm:G<=maxLen:=by rw [hG];exact grownCap_le_maxLen w (n+1) C 119 (by unfold maxLen;omega)
 have hG63:G<=9223372036854775807:=by unfold maxLen at hGm;omega
 have hRs:ROW.size=G*3:=by
  rw [hROW];simp only [Array.size_append,List.size_toArray,eP,hzz,htl];rw [<- Nat.add_mul,<- Nat.add_mul]
  congr 1
  omega
 have hGK:(n+1)*3<=G*3:=Nat.mul_le_mul_right _ hGn
 have hRg:∀ j,j<i*3->ROW.getD j undef=us.getD j undef:=by
  intro j hj;rw [hROW];simp only [Array.getD_eq_getD_getElem?];rw [Array.getElem?_append_left (by simp [eP];omega),Array.getElem?_append_left (by simp;omega)];simp [List.getElem?_take,hj,List.getD_eq_getElem?_getD]
 obtain ⟨W1,hW1⟩:∃ W1,W1=w.drew.alloc (.cells ROW 119):=⟨_,rfl⟩;rw [<- hW1] at hrz;have hN:W1.heap[w.heap.size]? = some (.cells ROW 119 (0,0)):=by rw [hW1];exact mA w.drew _
 have hO:∀ c,c<w.heap.size->W1.heap[c]? = w.heap[c]?:=λc hc=>by rw [hW1];exact mz w.drew _ hc
 have hS:W1.heap.size=w.heap.size+1:=by rw [hW1];simp
 obtain ⟨cs1,hcs1⟩:∃ c,c=(ROW.toList.take (i*3)++xs++ROW.toList.drop (i*3+xs.length)).toArray:=⟨_,rfl⟩;obtain ⟨s1,g1⟩:=d4 ROW (i*3) xs (by omega);rw [<- hcs1] at s1 g1
 have hcpA:=iN (P:=Tryz.prog) (w:=W1) (ty:=3) Tryz.underlying33 hi0 (dl:=n+1 - i) (dc:=G - i) (o:=i*3) hN ⟨bv,ov,none⟩ (sl:=1) (sc:=Cv) xs 1 (by simp only [Nat.min_def];split<;>omega) (by rw [hxl,hzs])
  (λj v hj=>by
   rw [Addr.add_lit];exact gu (by rw [hO _ hvw];exact hbv) (λj hj=>hcv j (by omega)) (by omega) j v hj) h1v (by omega)
 rw [<- hcs1] at hcpA;have hN1:(W1.setRow w.heap.size cs1).heap[w.heap.size]? = some (.cells cs1 119 (0,0)):=setRow_heap _ _ _ _ _ _ hN;obtain ⟨cs2,hcs2⟩:∃ c,c=(cs1.toList.take (i*3+3)++us.drop (i*3)++cs1.toList.drop (i*3+3+(us.drop (i*3)).length)).toArray:=⟨_,rfl⟩;obtain ⟨s2,g2⟩:=d4 cs1 (i*3+3) (us.drop (i*3)) (by omega);rw [<- hcs2] at s2 g2;have hbN:b≠w.heap.size:=by omega
 have hcpB:=iN (P:=Tryz.prog) (w:=(W1.setRow w.heap.size cs1).drew) (ty:=3) Tryz.underlying33 hi0 (dl:=n - i) (dc:=G - (i+1)) (o:=i*3+3) hN1 ⟨b,o+i*3,none⟩ (sl:=n - i) (sc:=C - i) (us.drop (i*3)) (n - i) (by simp only [Nat.min_def];split<;>omega) (by rw [hdl,hzs])
  (λj v hj=>by
   rw [Addr.add_lit]
   have hb':(W1.setRow w.heap.size cs1).drew.heap[b]? = some (.cells cs T (0,0)):=by
    show (W1.setRow w.heap.size cs1).heap[b]? = _
    rw [setRow_other _ _ _ _ hbN,hO _ hbw];exact hb
   refine gu hb' (o:=o+i*3) (vs:=us.drop (i*3)) (λj hj=>?_) (by omega) j v hj;rw [Nat.add_assoc,hcs _ (by omega)];simp [List.getD_eq_getElem?_getD])
  (λv hv=>h1 v (List.mem_of_mem_drop hv)) (by omega)
 rw [<- hcs2] at hcpB
 have hP:Placed w ((W1.setRow w.heap.size cs1).drew.setRow w.heap.size cs2) (some b) w.heap.size 0 G (n+1) 3 (us.take (i*3)++xs++us.drop (i*3)):=by
  refine ⟨⟨cs2,119,setRow_heap _ _ cs1 cs2 _ (0,0) hN1,by omega,λj hj=>?_⟩,hGn,hGm,?_,?_,.inl (Nat.le_refl _),λc hc hne=>?_⟩
  ·rw [Nat.zero_add,g2,g1]
   simp only [List.getD_eq_getElem?_getD];rw [List.append_assoc];by_cases c1:j<i*3
   ·rw [if_neg (by omega),if_neg (by omega),List.getElem?_append_left (by omega),List.getElem?_take,if_pos c1,hRg j c1]
    simp [List.getD_eq_getElem?_getD]
   ·rw [List.getElem?_append_right (by omega),htl]
    by_cases c2:j<i*3+3
    ·rw [if_neg (by omega),if_pos (by omega),List.getElem?_append_left (by omega)]
    ·rw [if_pos (by omega),List.getElem?_append_right (by omega),List.getElem?_drop,List.getElem?_drop]
     congr 2
     omega
  ·simp [hS]
  ·rw [hW1];exact ⟨rfl,rfl,rfl⟩
  ·rw [setRow_other _ _ c _ hne]
   show (W1.setRow w.heap.size cs1).heap[c]? = _
   rw [setRow_other _ _ c _ hne,hO c hc]
 have hw1:IntKind.i64.wrap ((i:Int)+1)=(i:Int)+1:=by rw [IntKind.wrap_i64];omega
 have hb1:(0:Int)<=(i:Int)+1:=by omega
 have hin:i<=n:=by omega
 have htn:((i:Int)+1).toNat=i+1:=by omega
 have hGi:¬ (G=i):=by omega
 have hGim:¬ (G=i+1):=by omega
 have hci:¬ (C=i):=by omega
 have hb3:(i:Int)<=(n:Int):=by omega
 clear hkk hik hold hROW hG hcs1 hcs2 hN hN1 hO hS hRs hRg hW1
 go_enter Tryz.func262,Tryz.ntmps262
 go_wp2_with (first
  |(at_builtin;refine Lib.wpList_append_run _ rfl _ _ _ _ rfl _ _ rfl rfl _ _ (hrz _) ?_)
  |(at_builtin;refine mh _ rfl _ _ 33 33 rfl _ _ rfl rfl hcpA ?_))
 go_region
 go_wp2
 go_ret
 all_goals exact ⟨_,rfl,hP⟩
theorem Ai:Cl Tryz.prog 262 3 qd.bytes:=by
 refine ⟨⟨_,Tryz.func262,by kernel_rfl,by kernel_rfl⟩,λw us xs n i s v ob bv0 hul hxl hi hbig hs hv hap=>?_⟩;obtain ⟨i0,z0,hi0,hzs,hzb,hz0,hzc,-⟩:=(ae 119 _ AW).info;have hzz:=jw hzc;have hzs:i0.size=3:=hzs;have hzb:i0.bytes=qd.bytes:=hzb;have hby:0<qd.bytes:=by decide
 have hzz:z0.cells.size=3:=hzz;have hnb:(n+1)<=140737488355328:=Nat.le_trans (Nat.le_mul_of_pos_right _ hby) hbig;rcases hv with ⟨h0,-⟩|⟨bv,ov,Cv,cv,Tv,rfl,rfl,hbv,hCv,hCvm,hfv,hcv,h1v⟩
 ·omega
 have hcellv:∀ j v,xs[j]? = some v->w.cell? (Addr.add ⟨bv,ov,none⟩ j)=some v:=λj v hj=>by
  rw [Addr.add_lit];exact gu hbv (λj hj=>hcv j (by omega)) (by omega) j v hj
 have fresh:∀ (C0 nC:Nat) (rest:Array Value) (ob:Option Nat),n+1 <= nC -> nC <= maxLen -> rest.size=(nC - (n+1))*3 ->
  Placed w (w.drew.alloc (.cells (us.toArray++xs.toArray++rest) 119)) ob w.heap.size 0 nC (n+1) 3 (us.take (n*3)++xs++us.drop (n*3)):=by
  intro C0 nC rest ob h1 h2 h3;have e:nC*3=n*3+3+(nC - (n+1))*3:=by rw [<- Nat.succ_mul,<- Nat.add_mul];congr 1;omega
  refine ⟨⟨_,_,mA w.drew _,by simp [hul,hxl,h3];omega,λj hj=>?_⟩,h1,h2,by simp,⟨rfl,rfl,rfl⟩,.inl (Nat.le_refl _),λc hc _=>mz w.drew _ hc⟩;rw [List.take_of_length_le (by omega),List.drop_eq_nil_of_le (by omega),List.append_nil,Nat.zero_add];have e2:(n+1)*3=n*3+3:=Nat.succ_mul n 3;simp only [Array.getD_eq_getD_getElem?,List.getD_eq_getElem?_getD];rw [Array.getElem?_append_left (by simp;omega),List.append_toArray,List.getElem?_toArray]
 rcases hs with ⟨rfl,rfl,a,rfl⟩|⟨b,o,C,cs,T,rfl,rfl,hb,hnC,hCm,hfit,hcs,h1⟩
 ·obtain rfl:i=0:=by omega
  have hun:us=[]:=List.eq_nil_of_length_eq_zero (by omega);subst hun;have hrun:=λty=>jz (P:=Tryz.prog) (w:=w) (ty:=ty) Tryz.underlying33 hi0 hz0 a ⟨bv,ov,none⟩ 1 Cv xs (by rw [hxl,hzs]) hcellv (by omega) (by omega) (by rw [hzb];omega)
  refine (oO w a 0 0 bv ov Cv _ _ (Nat.le_refl _) (by unfold maxLen;omega) hrun).mono ?_
  rintro e w' ⟨rfl,rfl⟩
  have hge:=grownCap_ge w 1 0 119;have hcm:=grownCap_le_maxLen w 1 0 119 (by unfold maxLen;omega);refine ⟨_,_,_,rfl,?_⟩;have:=fresh 0 (grownCap w 1 0 119) (Builtin.zeroCells z0.cells (grownCap w 1 0 119 - 1)) none hge hcm (by rw [eP,hzz])
  simpa using this
 ·by_cases hin:i=n
  ·subst hin
   by_cases hroom:i+1<=C
   ·have hmm:(i+1)*3<=C*3:=Nat.mul_le_mul_right _ hroom
    have e2:(i+1)*3=i*3+3:=Nat.succ_mul i 3;have hrun:=λty=>Go.AM.run_append_room (P:=Tryz.prog) (ty:=ty) (c:=Cv) (n:=i) (m:=1) Tryz.underlying33 hi0 hb ⟨bv,ov,none⟩ xs (by rw [hxl,hzs]) hcellv h1v hroom (by rw [hzs];exact hfit)
    refine (oO w _ i C bv ov Cv _ _ hnC hCm hrun).mono ?_
    rintro e w' ⟨rfl,rfl⟩
    obtain ⟨g0,g⟩:=d4 cs (o+i*i0.size) xs (by rw [hzs];omega);refine ⟨_,_,_,rfl,⟨_,_,setRow_heap w b cs _ T (0,0) hb,by rw [g0];exact hfit,λj hj=>?_⟩,hroom,hCm,by simp,⟨rfl,rfl,rfl⟩,.inr rfl,λc _ hc=>setRow_other w b c _ hc⟩;rw [g,hzs,List.take_of_length_le (by omega),List.drop_eq_nil_of_le (by omega),List.append_nil];by_cases c1:j<i*3
    ·rw [if_neg (by omega),hcs j c1]
     simp only [List.getD_eq_getElem?_getD];rw [List.getElem?_append_left (by omega)]
    ·rw [if_pos (by omega)]
     simp only [List.getD_eq_getElem?_getD];rw [List.getElem?_append_right (by omega)]
     congr 2
     omega
   ·have hrun:=λty=>run_append_grow (P:=Tryz.prog) w 33 ty 119 i0 z0 Tryz.underlying33 hi0 hz0 ⟨b,o,none⟩ i C us (by rw [hzs];exact hul) (λj v hj=>by
     rw [Addr.add_lit];have:=Nat.mul_le_mul_right 3 hnC;exact gu hb (λj hj=>hcs j (by omega)) (by omega) j v hj) ⟨bv,ov,none⟩ 1 Cv xs (by rw [hxl,hzs]) hcellv (by omega) (by omega) (by rw [hzb];exact growslice_fits (by omega) hbig)
    refine (oO w _ i C bv ov Cv _ _ hnC hCm hrun).mono ?_
    rintro e w' ⟨rfl,rfl⟩
    have hge:=grownCap_ge w (i+1) C 119;have hcm:=grownCap_le_maxLen w (i+1) C 119 (by unfold maxLen;omega);exact ⟨_,_,_,rfl,fresh C _ _ _ hge hcm (by rw [eP,hzz])⟩
  ·by_cases hroom:n+1<=C
   ·refine (yV w us xs n i b o C bv ov Cv cs cv T Tv hul hxl (by omega) hroom hCm hb hfit hcs h1 hbv hCv hfv (λj hj=>hcv j (by omega)) h1v (λh=>hap b rfl (by rw [h]))).mono ?_
    rintro e w' ⟨rfl,hp⟩
    exact ⟨_,_,_,rfl,hp⟩
   ·refine (Bt w us xs n i b o C bv ov Cv cs cv T Tv hul hxl (by omega) hnC (by omega) hbig hb hfit hcs h1 hbv hCv hfv (λj hj=>hcv j (by omega)) h1v).mono ?_
    rintro e w' ⟨nC,rfl,hp⟩
    exact ⟨_,_,_,rfl,hp⟩
open Go.AM
set_option maxRecDepth 20000
set_option maxHeartbeats 3200000
theorem wJ {c s r:Int}:∀ {l:List Seen} {k:Nat},k <= l.length -> (∀ j,∀ h:j<l.length,j<k -> l[j].client<c) -> (∀ h:k<l.length,¬ l[k].client<c) ->
 bS c s r l=if ∃ h:k<l.length,l[k].client=c then l.set k ⟨c,s,r⟩ else l.take k++⟨c,s,r⟩::l.drop k
 | [], k, hk, _, _ => by
   have:k=0:=by simpa using hk
   subst this;simp [bS]
 | x :: l, 0, hk, h1, h2 => by
   have:=h2 (by simp);simp at this;have h3:¬ x.client<c:=by omega
   unfold bS;rw [if_neg h3];by_cases h4:x.client=c
   ·simp [h4]
   ·simp [h4]
 | x :: l, k + 1, hk, h1, h2 => by
   have h3:x.client<c:=h1 0 (by simp) (by omega);have ih:=wJ (s:=s) (r:=r) (l:=l) (k:=k) (by simpa using hk) (λj h hj=>by have:=h1 (j+1) (by simpa using h) (by omega);simpa using this) (λh=>by have:=h2 (by simpa using h);simpa using this);unfold bS;rw [if_pos h3,ih];by_cases h4:∃ h:k<l.length,l[k].client=c
   ·have h5:∃ h:k+1<(x::l).length,(x::l)[k+1].client=c:=by simpa using h4
    rw [if_pos h4,if_pos h5];rfl
   ·have h5:¬ ∃ h:k+1<(x::l).length,(x::l)[k+1].client=c:=by simpa using h4
    rw [if_neg h4,if_neg h5];rfl
theorem eq {l:List Entry} {x y z:CD}:∀ row:List CD,(∃ a,a∈l/\[vi a.client,vi a.seq,CD.s (List.map Part.row a.o)]=row)\/row=[x,y,z]->row.length=3:=by
 rintro row (⟨a,-,rfl⟩|rfl)<;>rfl
theorem zL {l:List Seen} {i:Nat} {x y z:CD}:∀ row∈(l.map Seen.row).set i [x,y,z],row.length=3:=by
 intro row h;rcases List.mem_or_eq_of_mem_set h with h|rfl
 ·rw [List.mem_map] at h
  obtain ⟨a,-,rfl⟩:=h;rfl
 ·rfl
theorem pF {l:List Seen} {i:Nat} {x y z:CD}:∀ row:List CD,row∈List.take i (l.map Seen.row)\/row=[x,y,z]\/row∈List.drop i (l.map Seen.row)->row.length=3:=by
 have key:∀ row∈l.map Seen.row,row.length=3:=by
  intro row h;rw [List.mem_map] at h;obtain ⟨a,-,rfl⟩:=h;rfl
 rintro row (h|rfl|h)
 ·exact key row (List.mem_of_mem_take h)
 ·rfl
 ·exact key row (List.mem_of_mem_drop h)
theorem CU {l:List Seen} {r:List CD}:l.map Seen.row++[r]=List.take l.length (l.map Seen.row)++r::List.drop l.length (l.map Seen.row):=by
 rw [List.take_of_length_le (by simp),List.drop_eq_nil_of_le (by simp)]
theorem If {L:List (List CD)} {n:Nat} (h:L.length<=n):L=cut L 0 n:=by
 unfold cut
 split
 ·rfl
 ·rw [List.drop_zero,List.take_of_length_le h]
theorem xE {d:Doc} {client seq base:Int} {o:List Part} (h:¬ CG d client seq o):bQ d client seq base o=(Doc.zero,0,1):=by unfold bQ;rw [if_neg h]
theorem uU {d:Doc} {client seq base:Int} {o:List Part} (h:CG d client seq o):bQ d client seq base o=if (cr d client).1.seq=seq then (d,(cr d client).1.rev,0)
 else if (cr d client).1.seq+1=seq then
  if (dL d base o).2=0 then
   if 999999000<=ac d then (Doc.zero,0,5) else (bE d ⟨client,seq,(dL d base o).1⟩,ac d+1,0)
  else (Doc.zero,0,(dL d base o).2)
 else (Doc.zero,0,4):=by unfold bQ;rw [if_pos h]
theorem pT (d:Doc) (base:Int) (o:List Part):nL aq (dL d base o).1<=2 ^ 20:=by
 unfold dL
 split
 ·split
  ·simp [nL,cJ]
  ·split
   ·simp [nL,cJ]
   ·split
    ·split
     ·exact Gx _ _
     ·simp [nL,cJ]
    ·simp [nL,cJ]
 ·simp [nL,cJ]
theorem nc (d:Doc) (hl:cO d<=2 ^ 28) (client seq base:Int) (o:List Part) (ho:nL aq o<=2 ^ 40) :
 ai Tryz.prog 193 [.agg d.row,.c (vi client),.c (vi seq),.c (vi base),.c (.s (o.map Part.row))] (.tup [.agg (bQ d client seq base o).1.res,.c (vi (bQ d client seq base o).2.1) 1,.c (vi (bQ d client seq base o).2.2) 1]):=by
 refine pci ae Tryz.func193 (λw0 bs=>?_);have hl':cO d<=2 ^ 30:=by omega
 obtain ⟨n1,n2,n3,n4⟩:=cQ hl;simp [Doc.row];intro b5 b10;refine aa.pure (fh d hl') (by simp [Doc.row]) ?_;have hno:¬ CG d client seq o->bQ d client seq base o=(Doc.zero,0,1):=xE;by_cases c1:aQ d
 rotate_left
 ·simp [ab c1,hno (λh=>c1 h.1),Doc.res,Doc.zero]
 simp [c1];refine aa.pure (aT client 1 8) (by simp) ?_;by_cases c2:1<=client/\client<=8
 rotate_left
 ·simp [ab c2,hno (λh=>c2 h.2.1),Doc.res,Doc.zero]
 simp [c2];refine aa.pure (aT seq 1 1000000000) (by simp) ?_;by_cases c3:1<=seq/\seq<=1000000000
 rotate_left
 ·simp [ab c3,hno (λh=>c3 h.2.2.1),Doc.res,Doc.zero]
 simp [c3];refine aa.pure (cF o ho) (by simp) ?_;by_cases c4:aR o
 rotate_left
 ·simp [ab c4,hno (λh=>c4 h.2.2.2),Doc.res,Doc.zero]
 have e:=uU (base:=base) ⟨c1,c2,c3,c4⟩;have hh:=bV c1;have hsb:=oC c1 client;simp [c4];refine aa.pure (kG d (by omega) client) (by simp [Doc.row]) ?_;generalize cr d client=S at e hsb ⊢;obtain ⟨sn,there⟩:=S;simp only at e hsb ⊢;have e1:Go.IntKind.i64.wrap (sn.seq+1)=sn.seq+1:=Go.IntWalk.i64_in _ (by omega);simp [Seen.res];intro b13;by_cases c5:sn.seq=seq
 ·simp only [c5,if_true] at e
  simp [c5];refine drw eok mix [0,2,3,5,6] [1,4] (.c 5 1 16 15 (.c 5 4 0 15 (.l 5 15) .s) .s) ?_;simp
  try intros
  refine aa.pure (pY d hl') (by simp [Doc.row]) ?_;simp [Doc.res]
  try intros
  simp [e]
 simp only [c5,if_false] at e;simp [c5,e1];by_cases c6:sn.seq+1=seq
 rotate_left
 ·simp only [c6,if_false] at e
  simp [c6,e,Doc.res,Doc.zero]
 simp only [c6,if_true] at e;simp [c6];refine aa.pure (BB d hl' base o ho) (by simp [Doc.row]) ?_;have hvn:=pT d base o;generalize dL d base o=R at e hvn ⊢;obtain ⟨v,code⟩:=R;simp only at e hvn ⊢;simp;intro H1;by_cases c7:code=0
 rotate_left
 ·simp only [c7,if_false] at e
  simp [c7,e,Doc.res,Doc.zero]
 simp only [c7,if_true] at e;simp [c7];refine aa.pure (bC d) (by simp [Doc.row]) ?_;by_cases c8:999999000<=ac d
 ·simp only [c8,if_true] at e
  simp [c8,e,Doc.res,Doc.zero]
 simp only [c8,if_false] at e;simp [c8];refine aa.pure (pY d hl') (by simp [Doc.row]) ?_;simp [Doc.res];intro H2 H3 H4 b17 b87;refine ⟨by omega,λH5=>?_⟩;refine aa.pure (bC ⟨d.name,d.fr,d.text,d.list++[⟨client,seq,v⟩],d.seen⟩) (by simp [Doc.row,Entry.row]) ?_
 have hr:ac ⟨d.name,d.fr,d.text,d.list++[⟨client,seq,v⟩],d.seen⟩=ac d+1:=by
  unfold ac;simp only [List.length_append,List.length_cons,List.length_nil];have h1:=hh.1;unfold ac at h1;rw [h1,Go.IntWalk.i64_in _ (by omega)];omega
 rw [hr];simp
 refine ah eok (λi:Nat=>i<=d.seen.length/\∀ j,∀ h:j<d.seen.length,j<i->d.seen[j].client<client) (λi=>⟨169,0,[(19,.v (.int .i64 i)),(1,.v (.int .i64 client)),(2,.v (.int .i64 seq)),(18,.v (.int .i64 (ac d+1))),(17,.p 272 b17 0),(10,.p 160 b10 0)],
  [(272, .vars b17 35 [.v (.string d.name), .v (.int .i64 d.fr), .sl 1282 H2 1 0 d.text.length, .sl 1283 H5 3 0 (d.list.length+1), .sl 1284 H4 3 0 d.seen.length]),
   (160,.vars b10 35 [.v (.string ⟨#[]⟩),.v (.int .i64 0),.nil,.nil,.nil]),
   (1282,.rows H2 1 (d.text.map al) true),(1283,.rows H5 3 ((d.list++([⟨client,seq,v⟩]:List Entry)).map Entry.row) true),(1284,.rows H4 3 (d.seen.map Seen.row) true)]⟩) (λi=>d.seen.length - i) 0 (by simp) (by simp [Entry.row]) (λi hi=>Ent.refl ?_)
 obtain ⟨hi1,hi2⟩:=hi;by_cases hgo:∃ h:i<d.seen.length,d.seen[i].client<client
 ·obtain ⟨hlt,hc⟩:=hgo
  simp [hlt,Seen.row,hc];refine Ent.refl ⟨i+1,⟨by omega,λj h hj=>?_⟩,by omega,?_⟩
  ·by_cases hji:j=i
   ·subst hji;exact hc
   ·exact hi2 j h (by omega)
  ·simp
   exact aj (by omega)
 have hput:=wJ (c:=client) (s:=seq) (r:=ac d+1) hi1 hi2 (λh hc=>hgo ⟨h,hc⟩);by_cases hat:∃ h:i<d.seen.length,d.seen[i].client=client
 ·rw [if_pos hat] at hput
  obtain ⟨hlt,hc⟩:=hat;have hc':¬ d.seen[i].client<client:=by omega
  simp [hlt,Seen.row,hc];by_cases c9:d.list.length<8
  ·have c9':¬ 8<(d.list.length:Int)+1:=by omega
   simp [c9',e,bE,c9,hput,Entry.row,Seen.row];exact ⟨eq,zL⟩
  ·have hpd:bE d ⟨client,seq,v⟩=⟨d.name,d.fr+1,(apply ((d.list++([⟨client,seq,v⟩]:List Entry))[0]'(by simp)).o d.text).1,(d.list++([⟨client,seq,v⟩]:List Entry)).drop 1,bS client seq (ac d+1) d.seen⟩:=by unfold bE;rw [if_neg c9]
   obtain ⟨e0,l',hd⟩:∃ e0 l',d.list=e0::l':=by
    cases h:d.list with
    |nil=>rw [h] at c9;simp at c9
    |cons a l=>exact ⟨a,l,rfl⟩
   have hm0:nL aq e0.o<=2 ^ 40:=by
    have:=dK n1 (a:=e0) (by rw [hd];simp);unfold aU at this;omega
   have hll:d.list.length=l'.length+1:=by rw [hd];simp
   have c9':8<(l'.length:Int)+1+1:=by omega
   have ef:Go.IntKind.i64.wrap (d.fr+1)=d.fr+1:=Go.IntWalk.i64_in _ (by omega);have hpd2:bE d ⟨client,seq,v⟩=⟨d.name,d.fr+1,(apply e0.o d.text).1,l'++([⟨client,seq,v⟩]:List Entry),bS client seq (ac d+1) d.seen⟩:=by rw [hpd];simp [hd]
   simp [c9',hd,Entry.row];refine ⟨by omega,λb20=>?_⟩;refine aa.pure (iQ e0.o d.text hm0 (by omega)) (by simp) ?_;simp [ef];have hlen1:1+(l'.length+1)<=l'.length+1+1:=by omega
   simp [e,hpd2,hput,Seen.row,Entry.row,cut,hlen1];exact ⟨eq,(List.take_of_length_le (by simp)).symm,zL⟩
 ·rw [if_neg hat] at hput
  have hstop:i=d.seen.length\/∃ h:i<d.seen.length,client<d.seen[i].client:=by
   rcases Nat.lt_or_ge i d.seen.length with h|h
   ·right
    refine ⟨h,?_⟩;rcases Int.lt_trichotomy client d.seen[i].client with h1|h1|h1
    ·exact h1
    ·exact (hat ⟨h,h1.symm⟩).elim
    ·exact (hgo ⟨h,h1⟩).elim
   ·left;omega
  rcases hstop with hs|⟨hlt,hc⟩
  ·subst hs
   simp;intro b139;refine kN Ai (by decide) (n:=d.seen.length) (rows:=d.seen.map Seen.row) (row:=[vi client,vi seq,vi (ac d+1)]) (k:=1284) (kv:=2224) (own:=true) (ownv:=true) (i:=d.seen.length) (by simp) (by simp) (by simp) (by decide) (by simp) (by simp;omega) (λH6=>?_);simp;by_cases c9:d.list.length<8
   ·have c9':¬ 8<(d.list.length:Int)+1:=by omega
    simp [c9',e,bE,c9,hput,Entry.row,Seen.row];exact ⟨eq,pF,CU⟩
   ·have hpd:bE d ⟨client,seq,v⟩=⟨d.name,d.fr+1,(apply ((d.list++([⟨client,seq,v⟩]:List Entry))[0]'(by simp)).o d.text).1,(d.list++([⟨client,seq,v⟩]:List Entry)).drop 1,bS client seq (ac d+1) d.seen⟩:=by unfold bE;rw [if_neg c9]
    obtain ⟨e0,l',hd⟩:∃ e0 l',d.list=e0::l':=by
     cases h:d.list with
     |nil=>rw [h] at c9;simp at c9
     |cons a l=>exact ⟨a,l,rfl⟩
    have hm0:nL aq e0.o<=2 ^ 40:=by
     have:=dK n1 (a:=e0) (by rw [hd];simp);unfold aU at this;omega
    have hll:d.list.length=l'.length+1:=by rw [hd];simp
    have c9':8<(l'.length:Int)+1+1:=by omega
    have ef:Go.IntKind.i64.wrap (d.fr+1)=d.fr+1:=Go.IntWalk.i64_in _ (by omega);have hpd2:bE d ⟨client,seq,v⟩=⟨d.name,d.fr+1,(apply e0.o d.text).1,l'++([⟨client,seq,v⟩]:List Entry),bS client seq (ac d+1) d.seen⟩:=by rw [hpd];simp [hd]
    simp [c9',hd,Entry.row];refine ⟨by omega,λb20=>?_⟩;refine aa.pure (iQ e0.o d.text hm0 (by omega)) (by simp) ?_;simp [ef];have hlen1:1+(l'.length+1)<=l'.length+1+1:=by omega
    simp [e,hpd2,hput,Seen.row,Entry.row,cut,hlen1];exact ⟨eq,(List.take_of_length_le (by simp)).symm,pF,CU⟩
  ·have hc1:¬ d.seen[i].client<client:=by omega
   have hc2:¬ d.seen[i].client=client:=by omega
   simp [hlt,Seen.row,hc1,hc2];intro b139;refine kN Ai (by decide) (n:=d.seen.length) (rows:=d.seen.map Seen.row) (row:=[vi client,vi seq,vi (ac d+1)]) (k:=1284) (kv:=2224) (own:=true) (ownv:=true) (i:=i) (by simp) (by simp) (by simp) (by decide) (by simp;omega) (by simp;omega) (λH6=>?_);simp;by_cases c9:d.list.length<8
   ·have c9':¬ 8<(d.list.length:Int)+1:=by omega
    simp [c9',e,bE,c9,hput,Entry.row,Seen.row];exact ⟨eq,by omega,pF,If (by simp;omega)⟩
   ·have hpd:bE d ⟨client,seq,v⟩=⟨d.name,d.fr+1,(apply ((d.list++([⟨client,seq,v⟩]:List Entry))[0]'(by simp)).o d.text).1,(d.list++([⟨client,seq,v⟩]:List Entry)).drop 1,bS client seq (ac d+1) d.seen⟩:=by unfold bE;rw [if_neg c9]
    obtain ⟨e0,l',hd⟩:∃ e0 l',d.list=e0::l':=by
     cases h:d.list with
     |nil=>rw [h] at c9;simp at c9
     |cons a l=>exact ⟨a,l,rfl⟩
    have hm0:nL aq e0.o<=2 ^ 40:=by
     have:=dK n1 (a:=e0) (by rw [hd];simp);unfold aU at this;omega
    have hll:d.list.length=l'.length+1:=by rw [hd];simp
    have c9':8<(l'.length:Int)+1+1:=by omega
    have ef:Go.IntKind.i64.wrap (d.fr+1)=d.fr+1:=Go.IntWalk.i64_in _ (by omega);have hpd2:bE d ⟨client,seq,v⟩=⟨d.name,d.fr+1,(apply e0.o d.text).1,l'++([⟨client,seq,v⟩]:List Entry),bS client seq (ac d+1) d.seen⟩:=by rw [hpd];simp [hd]
    simp [c9',hd,Entry.row];refine ⟨by omega,λb20=>?_⟩;refine aa.pure (iQ e0.o d.text hm0 (by omega)) (by simp) ?_;simp [ef];have hlen1:1+(l'.length+1)<=l'.length+1+1:=by omega
    simp [e,hpd2,hput,Seen.row,Entry.row,cut,hlen1];exact ⟨eq,(List.take_of_length_le (by simp)).symm,by omega,pF,λh=>absurd (by omega) h⟩
theorem mX {l:List Seen} {x y z:CD}:∀ row:List CD,(∃ a,a∈l/\[vi a.client,vi a.seq,vi a.rev]=row)\/row=[x,y,z]->row.length=3:=by
 rintro row (⟨a,-,rfl⟩|rfl)<;>rfl
def fT (c s r:Int) (st:List Seen×Bool) (x:Seen):List Seen×Bool:=
 if x.client=c then st else if st.2=false/\c<x.client then (st.1++[⟨c,s,r⟩,x],true) else (st.1++[x],st.2)
def nR (c s r:Int) (l:List Seen):List Seen×Bool:=l.foldl (fT c s r) ([],false)
def qn (c s r:Int) (st:List Seen×Bool):List Seen:=if st.2=true then st.1 else st.1++[⟨c,s,r⟩]
theorem tF {c s r:Int} {l:List Seen} {i:Nat} (h:i<l.length):nR c s r (l.take (i+1))=fT c s r (nR c s r (l.take i)) l[i]:=by
 unfold nR;rw [<- List.take_append_getElem h,List.foldl_append];rfl
def Asc (l:List Seen):Prop:=l.Pairwise λa b=>a.client<b.client
theorem PN {l:List Seen} (h:∀ i,∀ hi:i+1<l.length,l[i].client<l[i+1].client):Asc l:=by
 unfold Asc;rw [List.pairwise_iff_getElem];intro i j hi hj hij
 induction j with
 |zero=>omega
 | succ j ih =>
   have h1:=h j hj;by_cases e:i=j
   ·subst e;exact h1
   ·have:=ih (by omega) (by omega)
    omega
theorem EG {c s r:Int}:∀ (l:List Seen) (A:List Seen),(∀ x∈l,c<x.client)->l.foldl (fT c s r) (A,true)=(A++l,true)
 | [],A,_=>by simp
 | x :: l, A, h => by
   have h1:=h x (by simp);have h2:¬ x.client=c:=by omega
   rw [List.foldl_cons,show fT c s r (A,true) x=(A++[x],true) by unfold fT;rw [if_neg h2];simp,EG l _ (λy hy=>h y (by simp [hy]))];simp
theorem Nl {c s r:Int}:∀ (l:List Seen) (A:List Seen),Asc l->qn c s r (l.foldl (fT c s r) (A,false))=A++bS c s r l
 | [],A,_=>by simp [qn,bS]
 | x :: l, A, h => by
   obtain ⟨h1,h2⟩:=List.pairwise_cons.1 h;rw [List.foldl_cons];by_cases c1:x.client<c
   ·have c2:¬ x.client=c:=by omega
    have c3:¬ c<x.client:=by omega
    rw [show fT c s r (A,false) x=(A++[x],false) by unfold fT;rw [if_neg c2];simp [c3],Nl l _ h2,bS,if_pos c1];simp
   ·by_cases c2:x.client=c
    ·rw [show fT c s r (A,false) x=(A,false) by unfold fT;rw [if_pos c2],bS,if_neg c1,if_pos c2]
     cases l with
     |nil=>simp [qn]
     | cons y l =>
       have hy:=h1 y (by simp);obtain ⟨h3,-⟩:=List.pairwise_cons.1 h2;have c4:¬ y.client=c:=by omega
       have c5:c<y.client:=by omega
       rw [List.foldl_cons,show fT c s r (A,false) y=(A++[⟨c,s,r⟩,y],true) by unfold fT;rw [if_neg c4];simp [c5],EG l _ (λz hz=>by have:=h3 z hz;omega)];simp [qn]
    ·have c3:c<x.client:=by omega
     rw [show fT c s r (A,false) x=(A++[⟨c,s,r⟩,x],true) by unfold fT;rw [if_neg c2];simp [c3],EG l _ (λz hz=>by have:=h1 z hz;omega),bS,if_neg c1,if_neg c2];simp [qn]
theorem GT {c s r:Int} {l:List Seen} (h:Asc l):qn c s r (nR c s r l)=bS c s r l:=by
 have:=Nl (c:=c) (s:=s) (r:=r) l [] h
 simpa [nR] using this
theorem Id {d:Doc} (h:aQ d):Asc d.seen:=PN λi hi=>by
 have:=(h.2.2.2.2.2.2 (i+1) hi).2.2.2 (by omega)
 simpa using this
theorem CV (d:Doc) (c:Int):(cr d c).2=false->(cr d c).1.seq=0:=by
 unfold cr
 split<;>simp
theorem zC {c s r:Int} (l:List Seen):∀ i,i<=l.length->(nR c s r (l.take i)).1.length<=2*i
 |0,_=>by simp [nR]
 | i + 1, hi => by
   have ih:=zC (c:=c) (s:=s) (r:=r) l i (by omega);rw [tF (show i<l.length by omega)];generalize nR c s r (l.take i)=st at ih;unfold fT
   split
   ·omega
   ·split
    ·simp;omega
    ·simp;omega
theorem mS (d:Doc) (hl:cO d<=2 ^ 28) (client seq base:Int) (o:List Part) (ho:nL aq o<=2 ^ 40) :
 ai Tryz.prog 149 [.agg d.row,.c (vi client),.c (vi seq),.c (vi base),.c (.s (o.map Part.row))] (.tup [.agg (bQ d client seq base o).1.res,.c (vi (bQ d client seq base o).2.1) 1,.c (vi (bQ d client seq base o).2.2) 1]):=by
 refine pci ae Tryz.func149 (λw0 bs=>?_);have hl':cO d<=2 ^ 30:=by omega
 obtain ⟨n1,n2,n3,n4⟩:=cQ hl;simp [Doc.row];intro b5 b10;refine aa.pure (fe d hl') (by simp [Doc.row]) ?_;have hno:¬ CG d client seq o->bQ d client seq base o=(Doc.zero,0,1):=xE;by_cases c1:aQ d
 rotate_left
 ·simp [ab c1,hno (λh=>c1 h.1),Doc.res,Doc.zero]
 simp [c1];refine aa.pure (bX client 1 8) (by simp) ?_;by_cases c2:1<=client/\client<=8
 rotate_left
 ·simp [ab c2,hno (λh=>c2 h.2.1),Doc.res,Doc.zero]
 simp [c2];refine aa.pure (bX seq 1 1000000000) (by simp) ?_;by_cases c3:1<=seq/\seq<=1000000000
 rotate_left
 ·simp [ab c3,hno (λh=>c3 h.2.2.1),Doc.res,Doc.zero]
 simp [c3];refine aa.pure (cE o ho) (by simp) ?_;by_cases c4:aR o
 rotate_left
 ·simp [ab c4,hno (λh=>c4 h.2.2.2),Doc.res,Doc.zero]
 have e:=uU (base:=base) ⟨c1,c2,c3,c4⟩;have hh:=bV c1;have hsb:=oC c1 client;have hnone:=CV d client;simp [c4];refine aa.pure (kz d (by omega) client) (by simp [Doc.row]) ?_;generalize cr d client=S at e hsb hnone ⊢;obtain ⟨sn,there⟩:=S;simp only at e hsb hnone ⊢;have e1:Go.IntKind.i64.wrap (sn.seq+1)=sn.seq+1:=Go.IntWalk.i64_in _ (by omega);simp [Seen.res];intro b13;by_cases c5:sn.seq=seq
 ·simp only [c5,if_true] at e
  have ht:there=true:=by
   cases there with
   |true=>rfl
   |false=>have:=hnone rfl;omega
  simp [ht,c5];refine drw eok mix [0,2,3,5,6] [1,4] (.c 5 1 16 15 (.c 5 4 0 15 (.l 5 15) .s) .s) ?_;simp
  try intros
  refine aa.pure (mt d hl') (by simp [Doc.row]) ?_;simp [Doc.res]
  try intros
  simp [e]
 simp only [c5,if_false] at e;have c5b:¬ seq=sn.seq:=λh=>c5 h.symm
 by_cases c6:sn.seq+1=seq
 rotate_left
 ·simp only [c6,if_false] at e
  have c6b:¬ seq=sn.seq+1:=λh=>c6 h.symm
  cases there<;>simp [c5,e1,c6b,e,Doc.res,Doc.zero]
 simp only [c6,if_true] at e;have hasc:=GT (c:=client) (s:=seq) (r:=ac d+1) (Id c1);have hsl:=zC (c:=client) (s:=seq) (r:=ac d+1) d.seen
 cases there with
 | false =>
   have e2:Go.IntKind.i64.wrap seq=seq:=Go.IntWalk.i64_in _ (by omega);simp [c6,e2];refine aa.pure (rL d hl' base o ho) (by simp [Doc.row]) ?_;have hvn:=pT d base o;generalize dL d base o=R at e hvn ⊢;obtain ⟨v,code⟩:=R;simp only at e hvn ⊢;simp;intro H1;by_cases c7:code=0
   rotate_left
   ·simp only [c7,if_false] at e
    simp [c7,e,Doc.res,Doc.zero]
   simp only [c7,if_true] at e;simp [c7];refine aa.pure (bi d) (by simp [Doc.row]) ?_;by_cases c8:999999000<=ac d
   ·simp only [c8,if_true] at e
    simp [c8,e,Doc.res,Doc.zero]
   simp only [c8,if_false] at e;simp [c8];refine aa.pure (mt d hl') (by simp [Doc.row]) ?_;simp [Doc.res];intro H2 H3 H4 b17 b87;refine ⟨by omega,λH5=>?_⟩;refine aa.pure (bi ⟨d.name,d.fr,d.text,d.list++[⟨client,seq,v⟩],d.seen⟩) (by simp [Doc.row,Entry.row]) ?_
   have hr:ac ⟨d.name,d.fr,d.text,d.list++[⟨client,seq,v⟩],d.seen⟩=ac d+1:=by
    unfold ac;simp only [List.length_append,List.length_cons,List.length_nil];have h1:=hh.1;unfold ac at h1;rw [h1,Go.IntWalk.i64_in _ (by omega)];omega
   have hrr:=hr;rw [hrr];simp;intro b93;obtain ⟨sp,hspd⟩:∃ sp:Nat->List Seen×Bool,sp=λi=>nR client seq (ac d+1) (d.seen.take i):=⟨_,rfl⟩
   have hs0:sp 0=([],false):=by rw [hspd];simp [nR]
   have hsuc:∀ i,∀ h:i<d.seen.length,sp (i+1)=fT client seq (ac d+1) (sp i) d.seen[i]:=λi h=>by rw [hspd];exact tF h
   have hspl:∀ i,i<=d.seen.length->(sp i).1.length<=2*i:=λi h=>by rw [hspd];exact hsl i h
   have hall:qn client seq (ac d+1) (sp d.seen.length)=bS client seq (ac d+1) d.seen:=by rw [hspd];simp only [List.take_length];exact hasc
   clear hspd
   refine ah eok (λx:Nat×Hd=>x.1<=d.seen.length) (λx=>⟨162,0,[(97,.v (.int .i64 x.1)),(96,.v (.int .i64 d.seen.length)),(95,.sl 1300 H4 3 0 d.seen.length),(20,.v (.bool (sp x.1).2)),(19,.sl 1488 x.2 3 0 (sp x.1).1.length),(1,.v (.int .i64 client)),(2,.v (.int .i64 seq)),(18,.v (.int .i64 (ac d+1))),(17,.p 272 b17 0),(10,.p 160 b10 0)],
    [(272, .vars b17 35 [.v (.string d.name), .v (.int .i64 d.fr), .sl 1298 H2 1 0 d.text.length, .sl 1299 H5 3 0 (d.list.length+1), .sl 1300 H4 3 0 d.seen.length]),
     (160,.vars b10 35 [.v (.string ⟨#[]⟩),.v (.int .i64 0),.nil,.nil,.nil]),
     (1298,.rows H2 1 (d.text.map al) true),(1299,.rows H5 3 ((d.list++([⟨client,seq,v⟩]:List Entry)).map Entry.row) true),(1300,.rows H4 3 (d.seen.map Seen.row) true),(1488,.rows x.2 3 ((sp x.1).1.map Seen.row) true)]⟩) (λx=>d.seen.length - x.1) (0,some (b93,0,0)) (by simp) (by simp [Entry.row,hs0]) (λx hi=>Ent.refl ?_)
   obtain ⟨i,H⟩:=x;simp only at hi ⊢;have hLl:=hspl i hi;by_cases hlt:i<d.seen.length
   ·have hsu:=hsuc i hlt
    generalize sp i=st at hLl hsu ⊢;obtain ⟨L,done⟩:=st;simp only at hLl ⊢;obtain ⟨x,hx⟩:∃ x,d.seen[i]=x:=⟨_,rfl⟩;rw [hx] at hsu;simp [hlt,hx,Seen.row];intro b22;unfold fT at hsu;by_cases k1:x.client=client
    ·simp only [k1,if_true] at hsu
     simp [k1];exact Ent.refl ⟨i+1,by omega,by omega,H,by simp [Entry.row,hsu];exact aj (by omega)⟩
    simp only [k1,if_false] at hsu;simp [k1];by_cases k2:done=false/\client<x.client
    ·obtain ⟨rfl,k2⟩:=k2
     simp only [k2,and_self,if_true] at hsu;simp [k2];intro b118;refine ⟨by omega,λH6 b122=>⟨by omega,λH7=>Ent.refl ⟨i+1,by omega,by omega,H7,?_⟩⟩⟩;simp [Seen.row,Entry.row,hsu];exact aj (by omega)
    ·simp only [k2,if_false] at hsu
     have k3:done=true\/done=false/\¬ client<x.client:=by
      cases done with
      |true=>exact .inl rfl
      |false=>exact .inr ⟨rfl,λh=>k2 ⟨rfl,h⟩⟩
     rcases k3 with rfl|⟨rfl,k3⟩
     ·simp
      intro b122;refine ⟨by omega,λH7=>Ent.refl ⟨i+1,by omega,by omega,H7,?_⟩⟩;simp [Seen.row,Entry.row,hsu];exact aj (by omega)
     ·simp [k3]
      intro b122;refine ⟨by omega,λH7=>Ent.refl ⟨i+1,by omega,by omega,H7,?_⟩⟩;simp [Seen.row,Entry.row,hsu];exact aj (by omega)
   ·obtain rfl:i=d.seen.length:=by omega
    generalize sp d.seen.length=st at hLl hall ⊢;obtain ⟨L,done⟩:=st;simp only at hLl ⊢;unfold qn at hall
    cases done with
    | true =>
      simp only [if_true] at hall;simp;by_cases c9:d.list.length<8
      ·have c9':¬ 8<(d.list.length:Int)+1:=by omega
       simp [c9',e,bE,c9,<- hall,Entry.row,Seen.row];exact eq
      ·have hpd:bE d ⟨client,seq,v⟩=⟨d.name,d.fr+1,(apply ((d.list++([⟨client,seq,v⟩]:List Entry))[0]'(by simp)).o d.text).1,(d.list++([⟨client,seq,v⟩]:List Entry)).drop 1,bS client seq (ac d+1) d.seen⟩:=by unfold bE;rw [if_neg c9]
       obtain ⟨e0,l',hd⟩:∃ e0 l',d.list=e0::l':=by
        cases h:d.list with
        |nil=>rw [h] at c9;simp at c9
        |cons a l=>exact ⟨a,l,rfl⟩
       have hm0:nL aq e0.o<=2 ^ 40:=by
        have:=dK n1 (a:=e0) (by rw [hd];simp);unfold aU at this;omega
       have hll:d.list.length=l'.length+1:=by rw [hd];simp
       have c9':8<(l'.length:Int)+1+1:=by omega
       have c90:0<(l'.length:Int)+1+1:=by omega
       have ef:Go.IntKind.i64.wrap (d.fr+1)=d.fr+1:=Go.IntWalk.i64_in _ (by omega);have hpd2:bE d ⟨client,seq,v⟩=⟨d.name,d.fr+1,(apply e0.o d.text).1,l'++([⟨client,seq,v⟩]:List Entry),bS client seq (ac d+1) d.seen⟩:=by rw [hpd];simp [hd]
       simp [c9',hd,Entry.row];refine drw eok mix [0,1,2,3,4,5,6,11] [7,8,9,10,12] (.c 8 7 10 245 (.c 8 8 0 245 (.c 8 9 0 245 (.c 8 10 0 245 (.c 8 12 245 0 (.l 8 0) .s) .s) .s) .s) .s) ?_;simp [c90]
       try intros
       refine aa.pure (ff e0.o d.text hm0 (by omega)) (by simp) ?_;simp
       try intros
       simp [ef];have hlen1:1+(l'.length+1)<=l'.length+1+1:=by omega
       simp [e,hpd2,<- hall,Entry.row,cut,hlen1];exact ⟨eq,(List.take_of_length_le (by simp)).symm⟩
    | false =>
      simp only [Bool.false_eq_true,if_false] at hall;simp;intro b132;refine ⟨by omega,λH6=>?_⟩;by_cases c9:d.list.length<8
      ·have c9':¬ 8<(d.list.length:Int)+1:=by omega
       simp [c9',e,bE,c9,<- hall,Entry.row,Seen.row];exact ⟨eq,mX⟩
      ·have hpd:bE d ⟨client,seq,v⟩=⟨d.name,d.fr+1,(apply ((d.list++([⟨client,seq,v⟩]:List Entry))[0]'(by simp)).o d.text).1,(d.list++([⟨client,seq,v⟩]:List Entry)).drop 1,bS client seq (ac d+1) d.seen⟩:=by unfold bE;rw [if_neg c9]
       obtain ⟨e0,l',hd⟩:∃ e0 l',d.list=e0::l':=by
        cases h:d.list with
        |nil=>rw [h] at c9;simp at c9
        |cons a l=>exact ⟨a,l,rfl⟩
       have hm0:nL aq e0.o<=2 ^ 40:=by
        have:=dK n1 (a:=e0) (by rw [hd];simp);unfold aU at this;omega
       have hll:d.list.length=l'.length+1:=by rw [hd];simp
       have c9':8<(l'.length:Int)+1+1:=by omega
       have c90:0<(l'.length:Int)+1+1:=by omega
       have ef:Go.IntKind.i64.wrap (d.fr+1)=d.fr+1:=Go.IntWalk.i64_in _ (by omega);have hpd2:bE d ⟨client,seq,v⟩=⟨d.name,d.fr+1,(apply e0.o d.text).1,l'++([⟨client,seq,v⟩]:List Entry),bS client seq (ac d+1) d.seen⟩:=by rw [hpd];simp [hd]
       simp [c9',hd,Entry.row];refine drw eok mix [0,1,2,3,4,5,6,11] [7,8,9,10,12] (.c 8 7 10 245 (.c 8 8 0 245 (.c 8 9 0 245 (.c 8 10 0 245 (.c 8 12 245 0 (.l 8 0) .s) .s) .s) .s) .s) ?_;simp [c90]
       try intros
       refine aa.pure (ff e0.o d.text hm0 (by omega)) (by simp) ?_;simp
       try intros
       simp [ef];have hlen1:1+(l'.length+1)<=l'.length+1+1:=by omega
       simp [e,hpd2,<- hall,Seen.row,Entry.row,cut,hlen1];exact ⟨eq,(List.take_of_length_le (by simp)).symm,mX⟩
 | true =>
   have e2:Go.IntKind.i64.wrap seq=seq:=Go.IntWalk.i64_in _ (by omega);simp [c5,c6,e2];refine aa.pure (rL d hl' base o ho) (by simp [Doc.row]) ?_;have hvn:=pT d base o;generalize dL d base o=R at e hvn ⊢;obtain ⟨v,code⟩:=R;simp only at e hvn ⊢;simp;intro H1;by_cases c7:code=0
   rotate_left
   ·simp only [c7,if_false] at e
    simp [c7,e,Doc.res,Doc.zero]
   simp only [c7,if_true] at e;simp [c7];refine aa.pure (bi d) (by simp [Doc.row]) ?_;by_cases c8:999999000<=ac d
   ·simp only [c8,if_true] at e
    simp [c8,e,Doc.res,Doc.zero]
   simp only [c8,if_false] at e;simp [c8];refine aa.pure (mt d hl') (by simp [Doc.row]) ?_;simp [Doc.res];intro H2 H3 H4 b17 b87;refine ⟨by omega,λH5=>?_⟩;refine aa.pure (bi ⟨d.name,d.fr,d.text,d.list++[⟨client,seq,v⟩],d.seen⟩) (by simp [Doc.row,Entry.row]) ?_
   have hr:ac ⟨d.name,d.fr,d.text,d.list++[⟨client,seq,v⟩],d.seen⟩=ac d+1:=by
    unfold ac;simp only [List.length_append,List.length_cons,List.length_nil];have h1:=hh.1;unfold ac at h1;rw [h1,Go.IntWalk.i64_in _ (by omega)];omega
   have hrr:=hr;rw [hrr];simp;intro b93;obtain ⟨sp,hspd⟩:∃ sp:Nat->List Seen×Bool,sp=λi=>nR client seq (ac d+1) (d.seen.take i):=⟨_,rfl⟩
   have hs0:sp 0=([],false):=by rw [hspd];simp [nR]
   have hsuc:∀ i,∀ h:i<d.seen.length,sp (i+1)=fT client seq (ac d+1) (sp i) d.seen[i]:=λi h=>by rw [hspd];exact tF h
   have hspl:∀ i,i<=d.seen.length->(sp i).1.length<=2*i:=λi h=>by rw [hspd];exact hsl i h
   have hall:qn client seq (ac d+1) (sp d.seen.length)=bS client seq (ac d+1) d.seen:=by rw [hspd];simp only [List.take_length];exact hasc
   clear hspd
   refine ah eok (λx:Nat×Hd=>x.1<=d.seen.length) (λx=>⟨162,0,[(97,.v (.int .i64 x.1)),(96,.v (.int .i64 d.seen.length)),(95,.sl 1300 H4 3 0 d.seen.length),(20,.v (.bool (sp x.1).2)),(19,.sl 1488 x.2 3 0 (sp x.1).1.length),(1,.v (.int .i64 client)),(2,.v (.int .i64 seq)),(18,.v (.int .i64 (ac d+1))),(17,.p 272 b17 0),(10,.p 160 b10 0)],
    [(272, .vars b17 35 [.v (.string d.name), .v (.int .i64 d.fr), .sl 1298 H2 1 0 d.text.length, .sl 1299 H5 3 0 (d.list.length+1), .sl 1300 H4 3 0 d.seen.length]),
     (160,.vars b10 35 [.v (.string ⟨#[]⟩),.v (.int .i64 0),.nil,.nil,.nil]),
     (1298,.rows H2 1 (d.text.map al) true),(1299,.rows H5 3 ((d.list++([⟨client,seq,v⟩]:List Entry)).map Entry.row) true),(1300,.rows H4 3 (d.seen.map Seen.row) true),(1488,.rows x.2 3 ((sp x.1).1.map Seen.row) true)]⟩) (λx=>d.seen.length - x.1) (0,some (b93,0,0)) (by simp) (by simp [Entry.row,hs0]) (λx hi=>Ent.refl ?_)
   obtain ⟨i,H⟩:=x;simp only at hi ⊢;have hLl:=hspl i hi;by_cases hlt:i<d.seen.length
   ·have hsu:=hsuc i hlt
    generalize sp i=st at hLl hsu ⊢;obtain ⟨L,done⟩:=st;simp only at hLl ⊢;obtain ⟨x,hx⟩:∃ x,d.seen[i]=x:=⟨_,rfl⟩;rw [hx] at hsu;simp [hlt,hx,Seen.row];intro b22;unfold fT at hsu;by_cases k1:x.client=client
    ·simp only [k1,if_true] at hsu
     simp [k1];exact Ent.refl ⟨i+1,by omega,by omega,H,by simp [Entry.row,hsu];exact aj (by omega)⟩
    simp only [k1,if_false] at hsu;simp [k1];by_cases k2:done=false/\client<x.client
    ·obtain ⟨rfl,k2⟩:=k2
     simp only [k2,and_self,if_true] at hsu;simp [k2];intro b118;refine ⟨by omega,λH6 b122=>⟨by omega,λH7=>Ent.refl ⟨i+1,by omega,by omega,H7,?_⟩⟩⟩;simp [Seen.row,Entry.row,hsu];exact aj (by omega)
    ·simp only [k2,if_false] at hsu
     have k3:done=true\/done=false/\¬ client<x.client:=by
      cases done with
      |true=>exact .inl rfl
      |false=>exact .inr ⟨rfl,λh=>k2 ⟨rfl,h⟩⟩
     rcases k3 with rfl|⟨rfl,k3⟩
     ·simp
      intro b122;refine ⟨by omega,λH7=>Ent.refl ⟨i+1,by omega,by omega,H7,?_⟩⟩;simp [Seen.row,Entry.row,hsu];exact aj (by omega)
     ·simp [k3]
      intro b122;refine ⟨by omega,λH7=>Ent.refl ⟨i+1,by omega,by omega,H7,?_⟩⟩;simp [Seen.row,Entry.row,hsu];exact aj (by omega)
   ·obtain rfl:i=d.seen.length:=by omega
    generalize sp d.seen.length=st at hLl hall ⊢;obtain ⟨L,done⟩:=st;simp only at hLl ⊢;unfold qn at hall
    cases done with
    | true =>
      simp only [if_true] at hall;simp;by_cases c9:d.list.length<8
      ·have c9':¬ 8<(d.list.length:Int)+1:=by omega
       simp [c9',e,bE,c9,<- hall,Entry.row,Seen.row];exact eq
      ·have hpd:bE d ⟨client,seq,v⟩=⟨d.name,d.fr+1,(apply ((d.list++([⟨client,seq,v⟩]:List Entry))[0]'(by simp)).o d.text).1,(d.list++([⟨client,seq,v⟩]:List Entry)).drop 1,bS client seq (ac d+1) d.seen⟩:=by unfold bE;rw [if_neg c9]
       obtain ⟨e0,l',hd⟩:∃ e0 l',d.list=e0::l':=by
        cases h:d.list with
        |nil=>rw [h] at c9;simp at c9
        |cons a l=>exact ⟨a,l,rfl⟩
       have hm0:nL aq e0.o<=2 ^ 40:=by
        have:=dK n1 (a:=e0) (by rw [hd];simp);unfold aU at this;omega
       have hll:d.list.length=l'.length+1:=by rw [hd];simp
       have c9':8<(l'.length:Int)+1+1:=by omega
       have c90:0<(l'.length:Int)+1+1:=by omega
       have ef:Go.IntKind.i64.wrap (d.fr+1)=d.fr+1:=Go.IntWalk.i64_in _ (by omega);have hpd2:bE d ⟨client,seq,v⟩=⟨d.name,d.fr+1,(apply e0.o d.text).1,l'++([⟨client,seq,v⟩]:List Entry),bS client seq (ac d+1) d.seen⟩:=by rw [hpd];simp [hd]
       simp [c9',hd,Entry.row];refine drw eok mix [0,1,2,3,4,5,6,11] [7,8,9,10,12] (.c 8 7 10 245 (.c 8 8 0 245 (.c 8 9 0 245 (.c 8 10 0 245 (.c 8 12 245 0 (.l 8 0) .s) .s) .s) .s) .s) ?_;simp [c90]
       try intros
       refine aa.pure (ff e0.o d.text hm0 (by omega)) (by simp) ?_;simp
       try intros
       simp [ef];have hlen1:1+(l'.length+1)<=l'.length+1+1:=by omega
       simp [e,hpd2,<- hall,Entry.row,cut,hlen1];exact ⟨eq,(List.take_of_length_le (by simp)).symm⟩
    | false =>
      simp only [Bool.false_eq_true,if_false] at hall;simp;intro b132;refine ⟨by omega,λH6=>?_⟩;by_cases c9:d.list.length<8
      ·have c9':¬ 8<(d.list.length:Int)+1:=by omega
       simp [c9',e,bE,c9,<- hall,Entry.row,Seen.row];exact ⟨eq,mX⟩
      ·have hpd:bE d ⟨client,seq,v⟩=⟨d.name,d.fr+1,(apply ((d.list++([⟨client,seq,v⟩]:List Entry))[0]'(by simp)).o d.text).1,(d.list++([⟨client,seq,v⟩]:List Entry)).drop 1,bS client seq (ac d+1) d.seen⟩:=by unfold bE;rw [if_neg c9]
       obtain ⟨e0,l',hd⟩:∃ e0 l',d.list=e0::l':=by
        cases h:d.list with
        |nil=>rw [h] at c9;simp at c9
        |cons a l=>exact ⟨a,l,rfl⟩
       have hm0:nL aq e0.o<=2 ^ 40:=by
        have:=dK n1 (a:=e0) (by rw [hd];simp);unfold aU at this;omega
       have hll:d.list.length=l'.length+1:=by rw [hd];simp
       have c9':8<(l'.length:Int)+1+1:=by omega
       have c90:0<(l'.length:Int)+1+1:=by omega
       have ef:Go.IntKind.i64.wrap (d.fr+1)=d.fr+1:=Go.IntWalk.i64_in _ (by omega);have hpd2:bE d ⟨client,seq,v⟩=⟨d.name,d.fr+1,(apply e0.o d.text).1,l'++([⟨client,seq,v⟩]:List Entry),bS client seq (ac d+1) d.seen⟩:=by rw [hpd];simp [hd]
       simp [c9',hd,Entry.row];refine drw eok mix [0,1,2,3,4,5,6,11] [7,8,9,10,12] (.c 8 7 10 245 (.c 8 8 0 245 (.c 8 9 0 245 (.c 8 10 0 245 (.c 8 12 245 0 (.l 8 0) .s) .s) .s) .s) .s) ?_;simp [c90]
       try intros
       refine aa.pure (ff e0.o d.text hm0 (by omega)) (by simp) ?_;simp
       try intros
       simp [ef];have hlen1:1+(l'.length+1)<=l'.length+1+1:=by omega
       simp [e,hpd2,<- hall,Seen.row,Entry.row,cut,hlen1];exact ⟨eq,(List.take_of_length_le (by simp)).symm,mX⟩
end Go.Proofs.YtibkifnmhkealaaGreatDoor
