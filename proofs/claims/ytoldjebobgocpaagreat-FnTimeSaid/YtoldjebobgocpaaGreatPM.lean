import Derived.Test.YtoldjebobgocpaaGreatPE
import Derived.Test.YtoldjebobgocpaaGreatMH
import Derived.Shelf.RegionOpenPlain
import Derived.Test.YtoldjebobgocpaaGreatPH
import Derived.Test.YtoldjebobgocpaaGreatPI
namespace Go.Proofs.YtoldjebobgocpaaGreat
open Go.AM Go.RowKit
set_option maxRecDepth 100000
set_option maxHeartbeats 4000000
set_option linter.unusedVariables false
set_option linter.unusedSimpArgs false
theorem wo (w : World) (us xs : List Value) (n i b o C bv ov Cv : Nat) (cs cv : Array Value) (T Tv : TypeId) (hul : us.length = n * 5) (hxl : xs.length = 5) (hi : i < n) (hroom : n + 1<=C) (hC : C<=maxLen)
 (hb : w.heap[b]? = some (.cells cs T (0,0))) (hfit : o + C * 5<=cs.size) (hcs : ∀ j,j < n * 5->cs.getD (o + j) undef = us.getD j undef) (h1 : ∀ v∈us,v.oneCell' = true)
 (hbv : w.heap[bv]? = some (.cells cv Tv (0,0))) (hCv : 1<=Cv) (hfv : ov + Cv * 5<=cv.size) (hcv : ∀ j,j < 5->cv.getD (ov + j) undef = xs.getD j undef) (h1v : ∀ v∈xs,v.oneCell' = true) (hne : bv≠b) :
 Calls Tryz.prog 300 #[.slice (some ⟨b,o,none⟩) n C,.int .i64 i,.slice (some ⟨bv,ov,none⟩) 1 Cv] w λe w'=>
  e = .returned (.slice (some ⟨b,o,none⟩) (n + 1) C)/\Placed w w' (some b) b o C (n + 1) 5 (us.take (i * 5) ++ xs ++ us.drop (i * 5)):=by
 have u0:=run_underlying Tryz.underlying32;have mixed : Tryz.prog.follows .mixedOrders = true:=by kernel_rfl
 obtain ⟨i0,z0,hi0,hzs,hzb,hz0,hzc,-⟩:=(ae 89 _ Bl).info;have hzs : i0.size = 5:=hzs;have hC63 : C<=9223372036854775807:=by unfold maxLen at hC;omega
 have hz1 : ¬ ((1 : Int) = 0):=by omega
 have hz2 : ¬ ((i : Int) = (n : Int)):=by omega
 have hdl : (us.drop (i * 5)).length = (n - i) * 5:=by rw [List.length_drop,hul,Nat.sub_mul]
 have hov : ∀ lb cb,(callFunc 361 #[.slice (some ⟨bv,ov,none⟩) 1 Cv,.slice (some ⟨b,o + (i * 5 + 5),none⟩) lb cb]).run Tryz.prog w = .ok (.value (.bool false)) w:=λlb cb=>by
  rw [run_callFunc_extern Tryz.func361 (by kernel_rfl) (by kernel_rfl) (by kernel_rfl) (e:=Extern.SlicesOverlaps.overlaps #[32,32] #[4]) (by kernel_rfl),
   Lib.run_overlaps_apart w 32 4 89 Tryz.underlying32 5 Tryz.sizeOf89 ⟨bv,ov,none⟩ ⟨b,o + (i * 5 + 5),none⟩ 1 Cv lb cb hne Tv T cv.size cs.size (by simp [World.shape?,hbv]) (by simp [World.shape?,hb]) (by omega) (by simp [World.frozen?,hbv]) (by simp [World.frozen?,hbv])]
  rfl
 have hmm : (n + 1) * 5<=C * 5:=Nat.mul_le_mul_right _ hroom;have hii : i * 5 + 5<=n * 5:=by have:=Nat.mul_le_mul_right 5 (show i + 1<=n by omega);omega
 have e1 : (i + 1) * 5 = i * 5 + 5:=Nat.succ_mul i 5;have e2 : (n + 1) * 5 = n * 5 + 5:=Nat.succ_mul n 5;have e3 : (n - i) * 5 = n * 5 - i * 5:=Nat.sub_mul n i 5;obtain ⟨cs1,hcs1⟩ : ∃ c,c = (cs.toList.take (o + (i + 1) * 5) ++ us.drop (i * 5) ++ cs.toList.drop (o + (i + 1) * 5 + (us.drop (i * 5)).length)).toArray:=⟨_,rfl⟩;obtain ⟨s1,g1⟩:=bL cs (o + (i + 1) * 5) (us.drop (i * 5)) (by omega);rw [<- hcs1] at s1 g1
 have hcp1 : ∀ (W : World),W.heap = w.heap->∀ ty dl dc sl sc,Nat.min sl dl = n - i->(Builtin.copy_ #[32,32] ty #[.slice (some ⟨b,o + (i * 5 + 5),none⟩) dl dc,.slice (some ⟨b,o + i * 5,none⟩) sl sc]).run Tryz.prog W = .ok (goInt (n - i : Nat)) (W.setRow b cs1):=λW hW ty dl dc sl sc hm=>by
  have hb' : W.heap[b]? = some (.cells cs T (0,0)):=by rw [hW];exact hb
  rw [hcs1,e1]
  exact dN Tryz.underlying32 hi0 hb' ⟨b,o + i * 5,none⟩ (us.drop (i * 5)) (n - i) hm (by rw [hdl,hzs])
   (λj v hj=>by
    rw [Addr.add_lit];refine cO hb' (o:=o + i * 5) (vs:=us.drop (i * 5)) (λj hj=>?_) (by omega) j v hj;rw [Nat.add_assoc,hcs _ (by omega)];simp [List.getD_eq_getElem?_getD])
   (λv hv=>h1 v (List.mem_of_mem_drop hv)) (by omega)
 obtain ⟨cs2,hcs2⟩ : ∃ c,c = (cs1.toList.take (o + i * 5) ++ xs ++ cs1.toList.drop (o + i * 5 + xs.length)).toArray:=⟨_,rfl⟩;obtain ⟨s2,g2⟩:=bL cs1 (o + i * 5) xs (by omega);rw [<- hcs2] at s2 g2
 have hcp2 : ∀ (W : World),W.heap[b]? = some (.cells cs1 T (0,0))->W.heap[bv]? = some (.cells cv Tv (0,0))->∀ ty dl dc,0 < dl->(Builtin.copy_ #[32,32] ty #[.slice (some ⟨b,o + i * 5,none⟩) dl dc,.slice (some ⟨bv,ov,none⟩) 1 Cv]).run Tryz.prog W = .ok (goInt (1 : Nat)) (W.setRow b cs2):=λW hW hWv ty dl dc hm=>by
  rw [hcs2]
  exact dN Tryz.underlying32 hi0 hW ⟨bv,ov,none⟩ xs 1 (by simp only [Nat.min_def];split<;>omega) (by rw [hxl,hzs])
   (λj v hj=>by
    rw [Addr.add_lit];exact cO hWv (λj hj=>hcv j (by omega)) (by omega) j v hj)
   h1v (by omega)
 have hw1 : IntKind.i64.wrap ((i : Int) + 1) = (i : Int) + 1:=by rw [IntKind.wrap_i64];omega
 have hb1 : (0 : Int)<=(i : Int) + 1:=by omega
 have hin : i<=n:=by omega
 have htn : ((i : Int) + 1).toNat = i + 1:=by omega
 have hb2 : ¬ (C = i + 1):=by omega
 have hb3 : (i : Int)<=(n : Int) + 1:=by omega
 have hb4 : ¬ (C = i):=by omega
 go_enter Tryz.func300,Tryz.ntmps300
 go_wp2_with (simp only [hov])
 have hE:=hcp1 w.drew rfl 3 (n - i) (C - (i + 1)) (n + 1 - i) (C - i) (by simp only [Nat.min_def];split<;>omega);have hE2:=hcp2 (w.drew.setRow b cs1) (by simp [setRow_heap w.drew b cs cs1 T (0,0) hb]) (by rw [setRow_other w.drew b bv cs1 hne];exact hbv) 3 (n + 1 - i) (C - i) (by omega)
 have hP : Placed w ((w.drew.setRow b cs1).setRow b cs2) (some b) b o C (n + 1) 5 (us.take (i * 5) ++ xs ++ us.drop (i * 5)):=by
  refine ⟨⟨cs2,T,setRow_heap _ b cs1 cs2 T (0,0) (setRow_heap w.drew b cs cs1 T (0,0) hb),by omega,λj hj=>?_⟩,hroom,hC,by simp,⟨rfl,rfl,rfl⟩,.inr rfl,λc _ hc=>?_⟩
  ·rw [g2,g1]
   have hl : (us.take (i * 5)).length = i * 5:=by simp;omega
   simp only [List.getD_eq_getElem?_getD];rw [List.append_assoc];by_cases c1 : j < i * 5
   ·rw [if_neg (by omega),if_neg (by omega),List.getElem?_append_left (by omega),List.getElem?_take,if_pos c1,hcs j (by omega)]
    simp
   ·rw [List.getElem?_append_right (by omega),hl]
    by_cases c2 : j < i * 5 + 5
    ·rw [if_pos (by omega),List.getElem?_append_left (by omega)]
     congr 2
     omega
    ·rw [if_neg (by omega),if_pos (by omega),List.getElem?_append_right (by omega),List.getElem?_drop,List.getElem?_drop]
     congr 2
     omega
  ·rw [setRow_other _ b c _ hc,setRow_other _ b c _ hc];rfl
 clear hcs1 hcs2
 go_region
 go_wp2
 go_ret
 all_goals exact ⟨rfl,hP⟩
theorem ol (w : World) (a : Option Addr) (n C bv ov Cv : Nat) (r : Value) (w1 : World) (hnC : n<=C) (hC : C<=maxLen)
 (hr : ∀ ty,(Builtin.append_ #[32,32] ty #[.slice a n C,.slice (some ⟨bv,ov,none⟩) 1 Cv]).run Tryz.prog w = .ok r w1) :
 Calls Tryz.prog 300 #[.slice a n C,.int .i64 n,.slice (some ⟨bv,ov,none⟩) 1 Cv] w λe w'=>e = .returned r/\w' = w1:=by
 have u0:=run_underlying Tryz.underlying32;have mixed : Tryz.prog.follows .mixedOrders = true:=by kernel_rfl
 have hC63 : C<=9223372036854775807:=by unfold maxLen at hC;omega
 have hz1 : ¬ ((1 : Int) = 0):=by omega
 cases a with
 | none =>
   by_cases hc : C = n
   ·subst hc
    go_enter Tryz.func300,Tryz.ntmps300
    go_wp2_with (at_builtin;refine Lib.wpList_append_run _ rfl _ _ _ _ rfl _ _ rfl rfl _ _ (hr _) ?_)
    go_ret
    exact ⟨rfl,rfl⟩
   ·go_enter Tryz.func300,Tryz.ntmps300
    go_wp2_with (at_builtin;refine Lib.wpList_append_run _ rfl _ _ _ _ rfl _ _ rfl rfl _ _ (hr _) ?_)
    go_ret
    exact ⟨rfl,rfl⟩
 | some q =>
   by_cases hc : C = n
   ·subst hc
    go_enter Tryz.func300,Tryz.ntmps300
    go_wp2_with (at_builtin;refine Lib.wpList_append_run _ rfl _ _ _ _ rfl _ _ rfl rfl _ _ (hr _) ?_)
    go_ret
    exact ⟨rfl,rfl⟩
   ·go_enter Tryz.func300,Tryz.ntmps300
    go_wp2_with (at_builtin;refine Lib.wpList_append_run _ rfl _ _ _ _ rfl _ _ rfl rfl _ _ (hr _) ?_)
    go_ret
    exact ⟨rfl,rfl⟩
theorem yL (w : World) (us xs : List Value) (n i b o C bv ov Cv : Nat) (cs cv : Array Value) (T Tv : TypeId) (hul : us.length = n * 5) (hxl : xs.length = 5) (hi : i < n) (hnc : n<=C) (hroom : C < n + 1) (hbig : (n + 1) * t9.bytes<=140737488355328)
 (hb : w.heap[b]? = some (.cells cs T (0,0))) (hfit : o + C * 5<=cs.size) (hcs : ∀ j,j < n * 5->cs.getD (o + j) undef = us.getD j undef) (h1 : ∀ v∈us,v.oneCell' = true)
 (hbv : w.heap[bv]? = some (.cells cv Tv (0,0))) (hCv : 1<=Cv) (hfv : ov + Cv * 5<=cv.size) (hcv : ∀ j,j < 5->cv.getD (ov + j) undef = xs.getD j undef) (h1v : ∀ v∈xs,v.oneCell' = true) :
 Calls Tryz.prog 300 #[.slice (some ⟨b,o,none⟩) n C,.int .i64 i,.slice (some ⟨bv,ov,none⟩) 1 Cv] w λe w'=>
  ∃ nC,e = .returned (.slice (some ⟨w.heap.size,0,none⟩) (n + 1) nC)/\Placed w w' (some b) w.heap.size 0 nC (n + 1) 5 (us.take (i * 5) ++ xs ++ us.drop (i * 5)):=by
 have u0:=run_underlying Tryz.underlying32;have mixed : Tryz.prog.follows .mixedOrders = true:=by kernel_rfl
 obtain ⟨i0,z0,hi0,hzs,hzb,hz0,hzc,-⟩:=(ae 89 _ Bl).info;have hzz:=fA hzc;have hzs : i0.size = 5:=hzs;have hzb : i0.bytes = t9.bytes:=hzb;have hby : 0 < t9.bytes:=by decide
 have hzz : z0.cells.size = 5:=hzz;have hnb : (n + 1)<=140737488355328:=Nat.le_trans (Nat.le_mul_of_pos_right _ hby) hbig;have hz1 : ¬ ((1 : Int) = 0):=by omega
 have hz2 : ¬ ((i : Int) = (n : Int)):=by omega
 have hz3 : (C : Int) < (n : Int) + 1:=by omega
 have hmm : n * 5<=C * 5:=Nat.mul_le_mul_right _ hnc;have hii : i * 5 + 5<=n * 5:=by have:=Nat.mul_le_mul_right 5 (show i + 1<=n by omega);omega
 have e1 : (i + 1) * 5 = i * 5 + 5:=Nat.succ_mul i 5;have e2 : (n + 1) * 5 = n * 5 + 5:=Nat.succ_mul n 5;have e3 : (n - i) * 5 = n * 5 - i * 5:=Nat.sub_mul n i 5;have hdl : (us.drop (i * 5)).length = (n - i) * 5:=by rw [List.length_drop,hul,Nat.sub_mul]
 have htl : (us.take (i * 5)).length = i * 5:=by simp;omega
 have hbw : b < w.heap.size:=cU hb;have hvw : bv < w.heap.size:=cU hbv;have hkk : (n : Int) + 1 - (i : Int) = ((n + 1 - i : Nat) : Int):=by omega
 have hik : i + (n + 1 - i) = n + 1:=by omega
 have hold : (Builtin.firstCells i0.size i (.slice (some ⟨b,o,none⟩) i C)).run Tryz.prog w.drew = .ok (us.take (i * 5)).toArray w.drew:=by
  rw [hzs]
  exact run_firstCells_some w.drew 5 i ⟨b,o,none⟩ i C (us.take (i * 5)) (by rw [htl]) (λj v hj=>by
   rw [Addr.add_lit]
   exact cO (w:=w.drew) (o:=o) (vs:=us.take (i * 5)) (cs:=cs) (T:=T) hb (λj hj=>by
    rw [hcs _ (by omega)];rw [htl] at hj;simp only [List.getD_eq_getElem?_getD,List.getElem?_take,if_pos hj]) (by omega) j v hj)
 have hrz : ∀ ty,(Builtin.append_ #[32,3] ty #[.slice (some ⟨b,o,none⟩) i C,.int .i64 ((n : Int) + 1 - (i : Int))]).run Tryz.prog w =
  .ok (.slice (some ⟨w.heap.size,0,none⟩) (n + 1) (grownCap w (n + 1) C 89)) (w.drew.alloc (.cells ((us.take (i * 5)).toArray ++ Builtin.zeroCells z0.cells (n + 1 - i) ++ Builtin.zeroCells z0.cells (grownCap w (n + 1) C 89 - (n + 1))) 89)):=λty=>by
  have h:=Lib.run_append_grow_zeros w 32 3 ty 89 i0 z0 .i64 .i64 Tryz.underlying32 Tryz.underlying3 hi0 hz0 (some ⟨b,o,none⟩) i C (us.take (i * 5)) hold (n + 1 - i) (by omega) (by omega) (by omega) (by omega) (by rw [hzb];have:=Nat.mul_le_mul_right t9.bytes (show n + 1 - i<=n + 1 by omega);omega) (by rw [hzb,hik];exact growslice_fits hroom hbig);rw [hik] at h;rw [hkk];exact h
 obtain ⟨G,hG⟩ : ∃ G,G = grownCap w (n + 1) C 89:=⟨_,rfl⟩;obtain ⟨ROW,hROW⟩ : ∃ ROW : Array Value,ROW = (us.take (i * 5)).toArray ++ Builtin.zeroCells z0.cells (n + 1 - i) ++ Builtin.zeroCells z0.cells (G - (n + 1)):=⟨_,rfl⟩;rw [<- hG] at hrz;rw [<- hROW] at hrz;have hGn : n + 1<=G:=by rw [hG];exact grownCap_ge w _ _ _
 have hGm : G<=maxLen:=by rw [hG];exact grownCap_le_maxLen w (n + 1) C 89 (by unfold maxLen;omega)
 have hG63 : G<=9223372036854775807:=by unfold maxLen at hGm;omega
 have hRs : ROW.size = G * 5:=by
  rw [hROW];simp only [Array.size_append,List.size_toArray,cg,hzz,htl];rw [<- Nat.add_mul,<- Nat.add_mul]
  congr 1
  omega
 have hGK : (n + 1) * 5<=G * 5:=Nat.mul_le_mul_right _ hGn
 have hRg : ∀ j,j < i * 5->ROW.getD j undef = us.getD j undef:=by
  intro j hj;rw [hROW];simp only [Array.getD_eq_getD_getElem?];rw [Array.getElem?_append_left (by simp [cg];omega),Array.getElem?_append_left (by simp;omega)];simp [List.getElem?_take,hj,List.getD_eq_getElem?_getD]
 obtain ⟨W1,hW1⟩ : ∃ W1,W1 = w.drew.alloc (.cells ROW 89):=⟨_,rfl⟩;rw [<- hW1] at hrz;have hN : W1.heap[w.heap.size]? = some (.cells ROW 89 (0,0)):=by rw [hW1];exact jw w.drew _
 have hO : ∀ c,c < w.heap.size->W1.heap[c]? = w.heap[c]?:=λc hc=>by rw [hW1];exact iA w.drew _ hc
 have hS : W1.heap.size = w.heap.size + 1:=by rw [hW1];simp
 obtain ⟨cs1,hcs1⟩ : ∃ c,c = (ROW.toList.take (i * 5) ++ xs ++ ROW.toList.drop (i * 5 + xs.length)).toArray:=⟨_,rfl⟩;obtain ⟨s1,g1⟩:=bL ROW (i * 5) xs (by omega);rw [<- hcs1] at s1 g1
 have hcpA:=dN (P:=Tryz.prog) (w:=W1) (ty:=3) Tryz.underlying32 hi0 (dl:=n + 1 - i) (dc:=G - i) (o:=i * 5) hN ⟨bv,ov,none⟩ (sl:=1) (sc:=Cv) xs 1 (by simp only [Nat.min_def];split<;>omega) (by rw [hxl,hzs])
  (λj v hj=>by
   rw [Addr.add_lit];exact cO (by rw [hO _ hvw];exact hbv) (λj hj=>hcv j (by omega)) (by omega) j v hj) h1v (by omega)
 rw [<- hcs1] at hcpA;have hN1 : (W1.setRow w.heap.size cs1).heap[w.heap.size]? = some (.cells cs1 89 (0,0)):=setRow_heap _ _ _ _ _ _ hN;obtain ⟨cs2,hcs2⟩ : ∃ c,c = (cs1.toList.take (i * 5 + 5) ++ us.drop (i * 5) ++ cs1.toList.drop (i * 5 + 5 + (us.drop (i * 5)).length)).toArray:=⟨_,rfl⟩;obtain ⟨s2,g2⟩:=bL cs1 (i * 5 + 5) (us.drop (i * 5)) (by omega);rw [<- hcs2] at s2 g2;have hbN : b≠w.heap.size:=by omega
 have hcpB:=dN (P:=Tryz.prog) (w:=(W1.setRow w.heap.size cs1).drew) (ty:=3) Tryz.underlying32 hi0 (dl:=n - i) (dc:=G - (i + 1)) (o:=i * 5 + 5) hN1 ⟨b,o + i * 5,none⟩ (sl:=n - i) (sc:=C - i) (us.drop (i * 5)) (n - i) (by simp only [Nat.min_def];split<;>omega) (by rw [hdl,hzs])
  (λj v hj=>by
   rw [Addr.add_lit]
   have hb' : (W1.setRow w.heap.size cs1).drew.heap[b]? = some (.cells cs T (0,0)):=by
    show (W1.setRow w.heap.size cs1).heap[b]? = _
    rw [setRow_other _ _ _ _ hbN,hO _ hbw];exact hb
   refine cO hb' (o:=o + i * 5) (vs:=us.drop (i * 5)) (λj hj=>?_) (by omega) j v hj;rw [Nat.add_assoc,hcs _ (by omega)];simp [List.getD_eq_getElem?_getD])
  (λv hv=>h1 v (List.mem_of_mem_drop hv)) (by omega)
 rw [<- hcs2] at hcpB
 have hP : Placed w ((W1.setRow w.heap.size cs1).drew.setRow w.heap.size cs2) (some b) w.heap.size 0 G (n + 1) 5 (us.take (i * 5) ++ xs ++ us.drop (i * 5)):=by
  refine ⟨⟨cs2,89,setRow_heap _ _ cs1 cs2 _ (0,0) hN1,by omega,λj hj=>?_⟩,hGn,hGm,?_,?_,.inl (Nat.le_refl _),λc hc hne=>?_⟩
  ·rw [Nat.zero_add,g2,g1]
   simp only [List.getD_eq_getElem?_getD];rw [List.append_assoc];by_cases c1 : j < i * 5
   ·rw [if_neg (by omega),if_neg (by omega),List.getElem?_append_left (by omega),List.getElem?_take,if_pos c1,hRg j c1]
    simp [List.getD_eq_getElem?_getD]
   ·rw [List.getElem?_append_right (by omega),htl]
    by_cases c2 : j < i * 5 + 5
    ·rw [if_neg (by omega),if_pos (by omega),List.getElem?_append_left (by omega)]
    ·rw [if_pos (by omega),List.getElem?_append_right (by omega),List.getElem?_drop,List.getElem?_drop]
     congr 2
     omega
  ·simp [hS]
  ·rw [hW1];exact ⟨rfl,rfl,rfl⟩
  ·rw [setRow_other _ _ c _ hne]
   show (W1.setRow w.heap.size cs1).heap[c]? = _
   rw [setRow_other _ _ c _ hne,hO c hc]
 have hw1 : IntKind.i64.wrap ((i : Int) + 1) = (i : Int) + 1:=by rw [IntKind.wrap_i64];omega
 have hb1 : (0 : Int)<=(i : Int) + 1:=by omega
 have hin : i<=n:=by omega
 have htn : ((i : Int) + 1).toNat = i + 1:=by omega
 have hGi : ¬ (G = i):=by omega
 have hGim : ¬ (G = i + 1):=by omega
 have hci : ¬ (C = i):=by omega
 have hb3 : (i : Int)<=(n : Int):=by omega
 clear hkk hik hold hROW hG hcs1 hcs2 hN hN1 hO hS hRs hRg hW1
 go_enter Tryz.func300,Tryz.ntmps300
 go_wp2_with (first
  | (at_builtin;refine Lib.wpList_append_run _ rfl _ _ _ _ rfl _ _ rfl rfl _ _ (hrz _) ?_)
  | (at_builtin;refine gX _ rfl _ _ 32 32 rfl _ _ rfl rfl hcpA ?_))
 go_region
 go_wp2
 go_ret
 all_goals exact ⟨_,rfl,hP⟩
theorem yM : rN Tryz.prog 300 5 t9.bytes:=by
 refine ⟨⟨_,Tryz.func300,by kernel_rfl,by kernel_rfl⟩,λw us xs n i s v ob bv0 hul hxl hi hbig hs hv hap=>?_⟩;obtain ⟨i0,z0,hi0,hzs,hzb,hz0,hzc,-⟩:=(ae 89 _ Bl).info;have hzz:=fA hzc;have hzs : i0.size = 5:=hzs;have hzb : i0.bytes = t9.bytes:=hzb;have hby : 0 < t9.bytes:=by decide
 have hzz : z0.cells.size = 5:=hzz;have hnb : (n + 1)<=140737488355328:=Nat.le_trans (Nat.le_mul_of_pos_right _ hby) hbig;rcases hv with ⟨h0,-⟩ | ⟨bv,ov,Cv,cv,Tv,rfl,rfl,hbv,hCv,hCvm,hfv,hcv,h1v⟩
 ·omega
 have hcellv : ∀ j v,xs[j]? = some v->w.cell? (Addr.add ⟨bv,ov,none⟩ j) = some v:=λj v hj=>by
  rw [Addr.add_lit];exact cO hbv (λj hj=>hcv j (by omega)) (by omega) j v hj
 have fresh : ∀ (C0 nC : Nat) (rest : Array Value) (ob : Option Nat),n + 1 <= nC -> nC <= maxLen -> rest.size = (nC - (n + 1)) * 5 ->
  Placed w (w.drew.alloc (.cells (us.toArray ++ xs.toArray ++ rest) 89)) ob w.heap.size 0 nC (n + 1) 5 (us.take (n * 5) ++ xs ++ us.drop (n * 5)):=by
  intro C0 nC rest ob h1 h2 h3;have e : nC * 5 = n * 5 + 5 + (nC - (n + 1)) * 5:=by rw [<- Nat.succ_mul,<- Nat.add_mul];congr 1;omega
  refine ⟨⟨_,_,jw w.drew _,by simp [hul,hxl,h3];omega,λj hj=>?_⟩,h1,h2,by simp,⟨rfl,rfl,rfl⟩,.inl (Nat.le_refl _),λc hc _=>iA w.drew _ hc⟩;rw [List.take_of_length_le (by omega),List.drop_eq_nil_of_le (by omega),List.append_nil,Nat.zero_add];have e2 : (n + 1) * 5 = n * 5 + 5:=Nat.succ_mul n 5;simp only [Array.getD_eq_getD_getElem?,List.getD_eq_getElem?_getD];rw [Array.getElem?_append_left (by simp;omega),List.append_toArray,List.getElem?_toArray]
 rcases hs with ⟨rfl,rfl,a,rfl⟩ | ⟨b,o,C,cs,T,rfl,rfl,hb,hnC,hCm,hfit,hcs,h1⟩
 ·obtain rfl : i = 0:=by omega
  have hun : us = []:=List.eq_nil_of_length_eq_zero (by omega);subst hun;have hrun:=λty=>fG (P:=Tryz.prog) (w:=w) (ty:=ty) Tryz.underlying32 hi0 hz0 a ⟨bv,ov,none⟩ 1 Cv xs (by rw [hxl,hzs]) hcellv (by omega) (by omega) (by rw [hzb];omega)
  refine (ol w a 0 0 bv ov Cv _ _ (Nat.le_refl _) (by unfold maxLen;omega) hrun).mono ?_
  rintro e w' ⟨rfl,rfl⟩
  have hge:=grownCap_ge w 1 0 89;have hcm:=grownCap_le_maxLen w 1 0 89 (by unfold maxLen;omega);refine ⟨_,_,_,rfl,?_⟩;have:=fresh 0 (grownCap w 1 0 89) (Builtin.zeroCells z0.cells (grownCap w 1 0 89 - 1)) none hge hcm (by rw [cg,hzz])
  simpa using this
 ·by_cases hin : i = n
  ·subst hin
   by_cases hroom : i + 1<=C
   ·have hmm : (i + 1) * 5<=C * 5:=Nat.mul_le_mul_right _ hroom
    have e2 : (i + 1) * 5 = i * 5 + 5:=Nat.succ_mul i 5;have hrun:=λty=>Go.AM.run_append_room (P:=Tryz.prog) (ty:=ty) (c:=Cv) (n:=i) (m:=1) Tryz.underlying32 hi0 hb ⟨bv,ov,none⟩ xs (by rw [hxl,hzs]) hcellv h1v hroom (by rw [hzs];exact hfit)
    refine (ol w _ i C bv ov Cv _ _ hnC hCm hrun).mono ?_
    rintro e w' ⟨rfl,rfl⟩
    obtain ⟨g0,g⟩:=bL cs (o + i * i0.size) xs (by rw [hzs];omega);refine ⟨_,_,_,rfl,⟨_,_,setRow_heap w b cs _ T (0,0) hb,by rw [g0];exact hfit,λj hj=>?_⟩,hroom,hCm,by simp,⟨rfl,rfl,rfl⟩,.inr rfl,λc _ hc=>setRow_other w b c _ hc⟩;rw [g,hzs,List.take_of_length_le (by omega),List.drop_eq_nil_of_le (by omega),List.append_nil];by_cases c1 : j < i * 5
    ·rw [if_neg (by omega),hcs j c1]
     simp only [List.getD_eq_getElem?_getD];rw [List.getElem?_append_left (by omega)]
    ·rw [if_pos (by omega)]
     simp only [List.getD_eq_getElem?_getD];rw [List.getElem?_append_right (by omega)]
     congr 2
     omega
   ·have hrun:=λty=>run_append_grow (P:=Tryz.prog) w 32 ty 89 i0 z0 Tryz.underlying32 hi0 hz0 ⟨b,o,none⟩ i C us (by rw [hzs];exact hul) (λj v hj=>by
     rw [Addr.add_lit];have:=Nat.mul_le_mul_right 5 hnC;exact cO hb (λj hj=>hcs j (by omega)) (by omega) j v hj) ⟨bv,ov,none⟩ 1 Cv xs (by rw [hxl,hzs]) hcellv (by omega) (by omega) (by rw [hzb];exact growslice_fits (by omega) hbig)
    refine (ol w _ i C bv ov Cv _ _ hnC hCm hrun).mono ?_
    rintro e w' ⟨rfl,rfl⟩
    have hge:=grownCap_ge w (i + 1) C 89;have hcm:=grownCap_le_maxLen w (i + 1) C 89 (by unfold maxLen;omega);exact ⟨_,_,_,rfl,fresh C _ _ _ hge hcm (by rw [cg,hzz])⟩
  ·by_cases hroom : n + 1<=C
   ·refine (wo w us xs n i b o C bv ov Cv cs cv T Tv hul hxl (by omega) hroom hCm hb hfit hcs h1 hbv hCv hfv (λj hj=>hcv j (by omega)) h1v (λh=>hap b rfl (by rw [h]))).mono ?_
    rintro e w' ⟨rfl,hp⟩
    exact ⟨_,_,_,rfl,hp⟩
   ·refine (yL w us xs n i b o C bv ov Cv cs cv T Tv hul hxl (by omega) hnC (by omega) hbig hb hfit hcs h1 hbv hCv hfv (λj hj=>hcv j (by omega)) h1v).mono ?_
    rintro e w' ⟨nC,rfl,hp⟩
    exact ⟨_,_,_,rfl,hp⟩
open Go.AM
set_option maxRecDepth 20000
set_option maxHeartbeats 6400000
theorem nP (room rev : Int) (hr : -4611686018427387904<=rev/\rev<=4611686018427387904) : aj Tryz.prog 302 [.c (vi room),.c (vi rev)] (.tup [.agg (db room rev).1.res,.c (.v (.bool (db room rev).2)) 1]):=by
 refine pci ae Tryz.func302 (λw0 base=>?_);have ew : Go.IntKind.i64.wrap (rev + 1) = rev + 1:=Go.IntWalk.i64_in _ (by omega);simp [ew];intro b4 b6;refine aa.pure (fH (aY room rev) (by rw [mg];omega)) (by simp [aY,Ring.row]) ?_;by_cases c2 : aX (aY room rev)
 ·have e:=jc c2
  rw [show aY room rev = ⟨room,rev + 1,false,[]⟩ from rfl] at c2;simp [c2,e,Ring.res,aY]
 ·simp [ab c2,mC c2,Ring.res,Ring.zero]
theorem sV (r : Ring) (hl : cP r<=2 ^ 30) (e : Entry) (he : aQ e<=2 ^ 29) : aj Tryz.prog 301 [.agg r.row,.agg e.row] (.one (.agg (bU r e).res)):=by
 refine pci ae Tryz.func301 (λw0 base=>?_);have hno:=@lG r e;have hfull:=@jy r e;have hroom:=@jx r e;have hle:=aA (f:=aQ) (B:=2 ^ 30) (l:=r.list) (by unfold cP at hl;omega);have he1 : nL aQ [e]<=2 ^ 30:=by simp [nL,bR];omega
 simp [Ring.row,Entry.row];intro b2 b3 b4;refine aa.pure (ow r hl) (by simp [Ring.row]) ?_;simp [Ring.res];intro H b5;refine aa.pure (fH r (by omega)) (by simp [Ring.row]) ?_;by_cases c1 : aX r
 rotate_left
 ·simp [ab c1,hno (λh=>c1 h.1)]
 simp [c1];refine aa.pure (kg e (by omega)) (by simp [Entry.row]) ?_;by_cases c2 : bn e
 rotate_left
 ·simp [ab c2,hno (λh=>c2 h.2.1)]
 simp [c2]
 cases c3 : r.out with
 | true=>simp [hno (λh=>by rw [c3] at h;exact absurd h.2.2 (by simp)),c3]
 | false=>
 simp;by_cases c4 : (r.list.length : Int) = r.cap
 ·have e1:=hfull ⟨c1,c2,c3⟩ c4
  simp [c4,e1]
 have e1:=hroom ⟨c1,c2,c3⟩ c4;simp [c4];refine drw eok mix [0,1,2,6] [3,4,5,7] (.c 4 3 2 13 (.c 4 4 0 13 (.c 4 5 4 9 (.c 4 7 9 0 (.l 4 0) .s) .s) .s) .s) ?_;simp
 try intros
 refine aa.pure (fV [e] he1) (by simp [Entry.row]) ?_;simp
 try intros
 refine ⟨by omega,?_⟩;rw [e1];simp [c3,Entry.row]
 try (rintro row (⟨a,-,rfl⟩ | rfl)<;>rfl)
theorem p7 (r : Ring) (hl : cP r<=2 ^ 30) (rev : Int) (hr : -4611686018427387904<=rev/\rev<=4611686018427387904) : aj Tryz.prog 305 [.agg r.row,.c (vi rev)] (.tup [.agg (bu r rev).1.res,.c (.v (.bool (bu r rev).2)) 1]):=by
 refine pci ae Tryz.func305 (λw0 base=>?_);have hno:=@mB r rev;have hyes:=@iK r rev;simp [Ring.row];intro b2 b4;refine aa.pure (fH r (by omega)) (by simp [Ring.row]) ?_;by_cases c1 : aX r
 rotate_left
 ·simp [ab c1,hno c1,Ring.res,Ring.zero]
 simp [c1];have hc:=nP r.cap rev hr;rw [<- hyes c1] at hc;generalize bu r rev = R at hc ⊢;obtain ⟨R1,R2⟩:=R;refine aa.pure hc (by simp) ?_;simp [Ring.res]
theorem o9 (h : Hub) (hl : ch h<=2 ^ 40) (id : Int) : aj Tryz.prog 303 [.agg h.row,.c (vi id)] (.one (.c (vi (et h.subs id)) 1)):=by
 refine pci ae Tryz.func303 (λw0 base=>?_);obtain ⟨sh,docs,l,last⟩:=h;have hle:=aA (fc hl).2;simp only at hle;simp [Hub.row];intro b2 b3;refine inl ae Tryz.func363 20000 (λw1 F=>?_);simp
 refine au.intro eok (λi : Nat=>i<=l.length/\∀ j,j < i->∀ hj : j < l.length,¬ l[j].id = id) (λi=>⟨19,20000,[(8,.v (.int .i64 i)),(7,.v (.int .i64 l.length)),(0,.ro (l.map Sub.row)),(1,.clo 364 [.p 48 b3 0])],
  [(48,.vars b3 3 [.v (.int .i64 id)])]⟩) (λi=>l.length - i) 0 (by simp) (by simp) (λi hi=>?_)
 by_cases hlt : i < l.length
 ·simp [hlt]
  refine inl ae Tryz.func364 40000 (λw2 F2=>?_);simp [Sub.row];intro b;by_cases c : l[i].id = id
  ·have e : et l id = i:=jT hlt c hi.2
   simp [c,e]
  ·simp [c]
   exact ⟨i + 1,⟨by omega,λj hj hjl=>by
    by_cases hji : j = i
    ·subst hji;exact c
    ·exact hi.2 j (by omega) hjl⟩,by omega,ah (by omega)⟩
 ·have e : et l id = -1:=ie (λj hj=>hi.2 j (by omega) hj)
  simp [hlt,e]
theorem ut (h : Hub) (hl : ch h<=2 ^ 30) : aj Tryz.prog 224 [.agg h.row] (.tup [.agg (bX h).1.res,.c (vi (bX h).2) 1]):=by
 refine pci ae Tryz.func224 (λw0 base=>?_);simp [Hub.row];intro b1 b2;refine aa.pure (dD h hl) (by simp [Hub.row]) ?_;by_cases c1 : an h
 rotate_left
 ·simp [ab c1,q9 c1,Hub.res,Hub.zero]
 simp [c1]
 cases c2 : h.shut with
 | true=>simp [nU c1 c2,Hub.res,Hub.zero]
 | false=>
 have e:=pi c1 (by rw [c2];simp);simp;refine aa.pure (bP h hl) (by simp [Hub.row,c2]) ?_;simp [Hub.res,e]
theorem om (h : Hub) (hl : ch h<=2 ^ 28) (name : ByteArray) (room : Int) : aj Tryz.prog 221 [.agg h.row,.c (.v (.string name)),.c (vi room)]
 (.tup [.agg (aw h name room).1.res,.c (vi (aw h name room).2.1) 1,.c (vi (aw h name room).2.2) 1]):=by
 refine pci ae Tryz.func221 (λw0 base=>?_);have hls:=aA (fc hl).2;simp [Hub.row];intro b3 b6;refine aa.pure (dx h (by omega) name) (by simp [Hub.row]) ?_;simp;refine aa.pure (dD h (by omega)) (by simp [Hub.row]) ?_;by_cases c1 : an h
 rotate_left
 ·simp [ab c1,eA (λh=>c1 h.1),Hub.res,Hub.zero]
 simp [c1];refine aa.pure (aO room 1 6) (by simp) ?_;by_cases c2 : 1<=room/\room<=6
 rotate_left
 ·simp [ab c2,eA (λh=>c2 h.2),Hub.res,Hub.zero]
 simp [c2]
 cases c3 : h.shut with
 | true=>simp [gc ⟨c1,c2⟩ c3,Hub.res,Hub.zero]
 | false=>
 simp;rcases bD h.docs name with ⟨k,hk,e,-⟩ | e;rotate_left
 ·simp [e,gd ⟨c1,c2⟩ (by rw [c3];simp) e,Hub.res,Hub.zero]
 have hk0 : ¬ (k : Int) < 0:=by omega
 have hat:=ig ⟨c1,c2⟩ (by rw [c3];simp) hk e;simp [e,hk0];have hlast:=c1.2.2.1;by_cases c4 : h.subs.length = 6
 ·have c4' : (h.subs.length : Int) = 6:=by omega
  rw [if_pos (.inl c4)] at hat;simp [c4',hat,Hub.res,Hub.zero]
 have c4' : ¬ (h.subs.length : Int) = 6:=by omega
 simp [c4'];by_cases c5 : h.last = 1000000000
 ·rw [if_pos (.inr c5)] at hat
  simp [c5,hat,Hub.res,Hub.zero]
 rw [if_neg (λh=>h.elim c4 c5)] at hat;have ew : Go.IntKind.i64.wrap (h.last + 1) = h.last + 1:=Go.IntWalk.i64_in _ (by omega);have hh:=aV (cj c1 hk);obtain ⟨d,hd⟩ : ∃ d,h.docs[k] = d:=⟨_,rfl⟩;rw [hd] at hat hh;simp [c5];refine aa.pure (bP h (by omega)) (by simp [Hub.row,c3]) ?_;simp [Hub.res,ew,c3,hk,hd,Doc.row];intro H1 H2 b10;refine aa.pure (bo d) (by simp [Doc.row]) ?_;simp;have hc:=nP room (ac d) (by omega);generalize db room (ac d) = R at hc hat;obtain ⟨⟨cp,nx,ot,ls⟩,ok⟩:=R;refine aa.pure hc (by simp) ?_;simp [Ring.res];intro H11 H12 b11;refine ⟨by omega,λH=>?_⟩;refine drw eok mix [0,1,2,4,5] [3] (.c 5 3 16 15 (.l 5 15) .s) ?_;simp
 try intros
 rw [hat];simp [c3,Sub.row]
 try (rintro row (⟨a,-,rfl⟩ | rfl)<;>rfl)
theorem rx (h : Hub) (hl : ch h<=2 ^ 28) (id : Int) : aj Tryz.prog 223 [.agg h.row,.c (vi id)]
 (.tup [.agg (aM h id).1.res,.c (.s ((aM h id).2.1.map ak)) 1,.c (vi (aM h id).2.2.1) 1,.c (vi (aM h id).2.2.2) 1]):=by
 refine pci ae Tryz.func223 (λw0 base=>?_);have hls:=aA (fc hl).2;simp [Hub.row];intro b2 b4;refine aa.pure (o9 h (by omega) id) (by simp [Hub.row]) ?_;simp;refine aa.pure (dD h (by omega)) (by simp [Hub.row]) ?_;by_cases c1 : an h
 rotate_left
 ·simp [ab c1,kz c1,Hub.res,Hub.zero]
 simp [c1];rcases fB h.subs id with ⟨k,hk,e,-⟩ | e;rotate_left
 ·simp [e,iN c1 e,Hub.res,Hub.zero]
 have hk0 : ¬ (k : Int) < 0:=by omega
 obtain ⟨hro,j,hj,ej⟩:=rI c1 hk;have hat:=kA c1 hk e hj ej;have hm:=dB (f:=ee) (fc hl).2 hk;have hdn:=dB (f:=cu) (fc hl).1 hj;have hh:=aV (cj c1 hj);unfold ee at hm;have hmod:=m6 hk;obtain ⟨s,hs⟩ : ∃ s,h.subs[k] = s:=⟨_,rfl⟩;obtain ⟨d,hd⟩ : ∃ d,h.docs[j] = d:=⟨_,rfl⟩;rw [hs] at hat hm hmod ej;rw [hd] at hat hdn hh;have hc:=p7 s.r (by omega) (ac d) (by omega);generalize bu s.r (ac d) = R at hc hat;obtain ⟨r,ok⟩:=R;simp only at hat hc;simp [e,hk0];refine bE (λx : Nat=>[(9,.p 144 x 0)]) (λx=>[(144,.vars x 89 [.v (.string d.name),.v (.int .i64 d.fr),.ro (d.text.map ak),.ro (d.list.map Entry.row),.ro (d.seen.map Seen.row)])]) [1,2,4,5,6,7,8] ?_ ?_
 ·refine drw eok mix [0,1,2,3,4,5,6,7,8] [9,10,11,12,13] (.c 9 9 65 446 (.c 9 10 128 318 (.c 9 11 0 318 (.c 9 12 0 318 (.c 9 13 318 0 (.l 9 0) .s) .s) (.c 9 12 0 318 (.c 9 11 0 318 (.c 9 13 318 0 (.l 9 0) .s) .s) .s)) (.c 9 12 0 446 (.c 9 10 128 318 (.c 9 11 0 318 (.c 9 13 318 0 (.l 9 0) .s) .s) .s) .s)) (.c 9 12 0 511 (.c 9 9 65 446 (.c 9 10 128 318 (.c 9 11 0 318 (.c 9 13 318 0 (.l 9 0) .s) .s) .s) .s) .s)) ?_
  simp [hk,hs,Sub.row]
  try intros
  repeat' first
   | (refine aa.pure (dx h (by omega) s.doc) (by simp [Hub.row]) ?_;simp [hj,hd,Doc.row,ej];try intros)
   | (rw [Trc];refine ⟨?_,?_⟩<;>(try simp [hk,hs,hj,hd,Sub.row,Doc.row])<;>try intros)
 rintro b9
 simp;refine aa.pure (bP h (by omega)) (by simp [Hub.row]) ?_;simp [Hub.res];intro H1 H2 b10;refine drw eok mix [0,1,2,3,4,5,6,7,8,9,15,16] [10,11,12,13,14,17] (.c 12 10 4 4091 (.c 12 11 8 4083 (.c 12 12 0 4083 (.c 12 13 0 4083 (.c 12 14 0 4083 (.c 12 17 4081 2 (.l 12 2) .s) .s) .s) .s) .s) .s) ?_;simp [hk,hs,Sub.row]
 try intros
 refine aa.pure (bo d) (by simp [Doc.row]) ?_;simp
 try intros
 refine aa.pure (hc) (by simp [Ring.row]) ?_;simp [Ring.res,hk]
 try intros
 refine drw eok mix [0,1,3,8] [2,4,5,6,7] (.c 4 2 4 11 (.c 4 4 2 9 (.c 4 5 8 1 (.c 4 6 0 1 (.c 4 7 0 1 (.l 4 1) .s) .s) .s) .s) .s) ?_;simp
 try intros
 refine aa.pure (mt d (by omega)) (by simp [Doc.row]) ?_;simp
 try intros
 refine aa.pure (bo d) (by simp [Doc.row]) ?_;simp
 try intros
 rw [hat];simp [hmod r];exact pS
theorem AE (h : Hub) (hl : ch h<=2 ^ 28) (_c1 : an h) (c : Call) : aj Tryz.prog 220 [.agg h.row,.agg c.row] (.one (.agg (jS h c).res)):=by
 refine pci ae Tryz.func220 (λw0 base=>?_);simp [Hub.row,Call.row];intro b2 b3 b4;refine aa.pure (dx h (by omega) c.doc) (by simp [Hub.row]) ?_;simp
 cases c3 : h.shut with
 | true=>simp [tg c3,Answer.res,bK]
 | false=>
 simp;rcases bD h.docs c.doc with ⟨k,hk,e,-⟩ | e;rotate_left
 ·simp [e,th (by rw [c3];simp) e,Answer.res,bK]
 have hk0 : ¬ (k : Int) < 0:=by omega
 have hat:=y9 (c:=c) (by rw [c3];simp) hk e;have hdn:=dB (f:=cu) (fc hl).1 hk;obtain ⟨d,hd⟩ : ∃ d,h.docs[k] = d:=⟨_,rfl⟩;rw [hd] at hat hdn;simp [e,hk0];by_cases c4 : c.kind = 4
 ·rw [if_pos c4] at hat
  simp [c4];refine drw eok mix [0,1,2,3,4,6,7,8,9,10] [5,11,12,13] (.c 10 5 32 991 (.c 10 11 1 990 (.c 10 12 0 990 (.c 10 13 990 0 (.l 10 0) .s) .s) .s) .s) ?_;simp [hk,hd,Doc.row]
  try intros
  refine aa.pure (mt d (by omega)) (by simp [Doc.row,Doc.row]) ?_;simp
  try intros
  refine aa.pure (bo d) (by simp [Doc.row,Doc.row]) ?_;simp
  try intros
  rw [hat];simp [Answer.res]
 rw [if_neg c4] at hat;have hf:=yQ d (by omega) c.n;generalize ge d c.n = R at hat hf;obtain ⟨list,code⟩:=R;simp only at hat hf;simp [c4];refine drw eok mix [0,1,2,3,4,5,6] [7,8,9,10,11,12] (.c 7 7 5 122 (.c 7 8 0 122 (.c 7 9 0 122 (.c 7 10 0 122 (.c 7 11 122 0 (.c 7 12 0 0 (.l 7 0) .s) .s) .s) .s) .s) .s) ?_;simp [hk,hd,Doc.row]
 try intros
 refine aa.pure (hf) (by simp [Doc.row,Doc.row]) ?_;simp
 try intros
 rw [hat];simp [Answer.res]
theorem xc {name : ByteArray} {t : List Int} : aL (dy name t) ↔ eZ name/\cH t:=by
 constructor
 ·rintro ⟨h1,-,h3,-⟩
  exact ⟨h1,h3⟩
 ·rintro ⟨h1,h2⟩
  exact ⟨h1,by simp [dy],h2,by simp [dy],by simp [dy],by simp [dy,az],λi hi=>by simp [dy] at hi⟩
theorem uv (h : Hub) (hl : ch h<=2 ^ 28) (name : ByteArray) (hs : name.size<=2 ^ 28) (t : List Int) (ht : t.length<=2 ^ 28) : aj Tryz.prog 218 [.agg h.row,.c (.v (.string name)),.c (.s (t.map ak))]
 (.tup [.agg (ba h name t).1.res,.c (vi (ba h name t).2) 1]):=by
 refine pci ae Tryz.func218 (λw0 base=>?_);have hld:=aA (fc hl).1;have hdn:=wI name t hs ht;unfold fd at hdn;simp [Hub.row];intro b3 b6;refine aa.pure (dD h (by omega)) (by simp [Hub.row]) ?_;by_cases c1 : an h
 rotate_left
 ·simp [ab c1,gt (λh=>c1 h.1),Hub.res,Hub.zero]
 simp [c1];refine aa.pure (o8 name (by omega)) (by simp) ?_;by_cases d1 : eZ name
 rotate_left
 ·simp [ab d1,gt (λh=>d1 (xc.1 h.2).1),Hub.res,Hub.zero]
 simp [d1];refine aa.pure (gJ t (by omega)) (by simp) ?_;by_cases d2 : cH t
 rotate_left
 ·simp [ab d2,gt (λh=>d2 (xc.1 h.2).2),Hub.res,Hub.zero]
 have c0 : aL (dy name t):=xc.2 ⟨d1,d2⟩;rw [if_pos c0] at hdn;simp [d2]
 cases c2 : h.shut with
 | true=>simp [nW ⟨c1,c0⟩ c2,Hub.res,Hub.zero]
 | false=>
 have c2' : ¬ h.shut = true:=by rw [c2];simp
 simp;refine aa.pure (dx h (by omega) name) (by simp [Hub.row,c2]) ?_;simp;by_cases c3 : 0<=ar h.docs name
 ·simp [c3,nX ⟨c1,c0⟩ c2' c3,Hub.res,Hub.zero]
 simp [c3];by_cases c4 : h.docs.length = 5
 ·have c4' : (h.docs.length : Int) = 5:=by omega
  simp [c4',nY ⟨c1,c0⟩ c2' c3 c4,Hub.res,Hub.zero]
 have c4' : ¬ (h.docs.length : Int) = 5:=by omega
 have hat:=pj ⟨c1,c0⟩ c2' c3 c4;rw [nj] at hat;have hal:=mF (dy name t).name h.docs;have hon:=λ{k : Nat} h1 h2=>mG (name:=(dy name t).name) (l:=h.docs) (k:=k) h1 h2
 rw [show (dy name t).name = name from rfl] at hat hal hon;generalize du name h.docs = a at hat hal hon;simp [c4'];refine aa.pure hdn (by simp) ?_;simp [Doc.res,dy];intro G1 G2 G3 b8;refine aa.pure (bP h (by omega)) (by simp [Hub.row,c2]) ?_;simp [Hub.res,c2];intro K1 K2 b10
 refine ag eok (λk : Nat=>k<=a) (λk=>⟨76,0,[(11,.v (.int .i64 k)),(1,.v (.string name)),(6,.p 96 b6 0),(8,.p 128 b8 0),(10,.p 160 b10 0)],
  [(160, .vars b10 35 [.v (.bool false), .sl 801 K1 5 0 h.docs.length, .sl 802 K2 6 0 h.subs.length, .v (.int .i64 h.last)]), (96, .vars b6 35 [.v (.bool false), .nil, .nil, .v (.int .i64 0)]),
   (128,.vars b8 89 [.v (.string name),.v (.int .i64 0),.sl 738 G1 1 0 t.length,.sl 739 G2 3 0 0,.sl 740 G3 3 0 0]),(738,.rows G1 1 (t.map ak) true),(739,.rows G2 3 [] true),(740,.rows G3 3 [] true),
   (801,.rows K1 5 (h.docs.map Doc.row) true),(802,.rows K2 6 (h.subs.map Sub.row) true)]⟩) (λk=>h.docs.length - k) 0 (by simp) (by simp) (λk hk=>Ent.refl ?_)
 have hdz : Doc.row ⟨name,0,t,[],[]⟩ = [.v (.string name),.v (.int .i64 0),.s (t.map ak),.s [],.s []]:=rfl;by_cases hlt : k < h.docs.length
 ·obtain ⟨x,hx⟩ : ∃ x,h.docs[k] = x:=⟨_,rfl⟩
  have hiff:=hon hk hlt;rw [hx] at hiff;simp [hlt,hx,Doc.row];by_cases s : sLt x.name name
  ·simp [s]
   exact Ent.refl ⟨k + 1,by have:=hiff.1 s;omega,by omega,by simp;exact ah (by omega)⟩
  have hka : k = a:=by
   have : ¬ k < a:=λh=>s (hiff.2 h)
   omega
  subst hka;simp [ab s];intro b72;refine fM yM (by decide) (n:=h.docs.length) (rows:=h.docs.map Doc.row) (row:=[.v (.string name),.v (.int .i64 0),.s (t.map ak),.s [],.s []]) (k:=801) (kv:=1152) (own:=true) (ownv:=true) (i:=k) (by simp) (by simp) (by simp) (by decide) (by simp;omega) (by simp;omega) (λH6=>?_);simp [hat,c2,dy,hdz];have hm : min k h.docs.length = k:=by omega
  refine ⟨by rw [hm];omega,?_,?_⟩
  ·rintro row (h | rfl | h)
   ·exact CQ (List.mem_of_mem_take h)
   ·rfl
   ·exact CQ (List.mem_of_mem_drop h)
  ·rw [pr (by simp [hm];omega)]
 have hka : k = h.docs.length:=by omega
 have hka2 : a = h.docs.length:=by omega
 subst hka2;subst hka;simp;intro b72;refine fM yM (by decide) (n:=h.docs.length) (rows:=h.docs.map Doc.row) (row:=[.v (.string name),.v (.int .i64 0),.s (t.map ak),.s [],.s []]) (k:=801) (kv:=1152) (own:=true) (ownv:=true) (i:=h.docs.length) (by simp) (by simp) (by simp) (by decide) (by simp) (by simp;omega) (λH6=>?_);simp [hat,c2,dy,hdz];refine ⟨?_,?_⟩
 ·rintro row (h | rfl | h)
  ·exact CQ (List.mem_of_mem_take h)
  ·rfl
  ·exact CQ (List.mem_of_mem_drop h)
 ·rw [List.take_of_length_le (by simp),List.drop_eq_nil_of_le (by simp)]
theorem lZ (h : Hub) (hl : ch h<=2 ^ 28) (name : ByteArray) (client seq base : Int) (o : List Part) (ho : nL aF o<=2 ^ 40) :
 aj Tryz.prog 219 [.agg h.row,.c (.v (.string name)),.c (vi client),.c (vi seq),.c (vi base),.c (.s (o.map Part.row))]
 (.tup [.agg (aG h name client seq base o).1.res,.c (vi (aG h name client seq base o).2.1) 1,.c (vi (aG h name client seq base o).2.2) 1]):=by
 refine pci ae Tryz.func219 (λw0 bs=>?_);have hls:=aA (fc hl).2;simp [Hub.row];intro b6 b12;refine aa.pure (dx h (by omega) name) (by simp [Hub.row]) ?_;simp;refine aa.pure (dD h (by omega)) (by simp [Hub.row]) ?_;by_cases c1 : an h
 rotate_left
 ·simp [ab c1,ku c1,Hub.res,Hub.zero]
 simp [c1]
 cases c2 : h.shut with
 | true=>simp [iL c1 c2,Hub.res,Hub.zero]
 | false=>
 have c2' : ¬ h.shut = true:=by rw [c2];simp
 simp;rcases bD h.docs name with ⟨k,hk,e,-⟩ | e;rotate_left
 ·simp [e,iM c1 c2' e,Hub.res,Hub.zero]
 have hk0 : ¬ (k : Int) < 0:=by omega
 have hat:=kw (client:=client) (seq:=seq) (base:=base) (o:=o) c1 c2' hk e;have hdn:=dB (f:=cu) (fc hl).1 hk;have hdo:=cj c1 hk;have hDn:=qi (client:=client) (seq:=seq) (base:=base) (o:=o) hdo;have hok:=s9 (client:=client) (seq:=seq) (base:=base) (o:=o) hdo;obtain ⟨d,hd⟩ : ∃ d,h.docs[k] = d:=⟨_,rfl⟩;rw [hd] at hat hdn hDn hok;have hc:=wv d hdn client seq base o ho;generalize bJ d client seq base o = S at hc hat hDn hok;obtain ⟨D,rev,code⟩:=S;simp only at hc hat hDn hok;simp [e,hk0,hk,hd,Doc.row];refine aa.pure hc (by simp [Doc.row]) ?_;simp [Doc.res];intro H1 H2 H3 b16;by_cases c3 : code = 0
 rotate_left
 ·rw [if_neg c3] at hat
  simp [c3,hat,Hub.res,Hub.zero]
 rw [if_pos c3] at hat;have hok:=hok c3;simp [c3];refine aa.pure (bP h (by omega)) (by simp [Hub.row,c2]) ?_;simp [Hub.res,c2,hk];intro K1 K2 b19;refine drw eok mix [0,2,3,4,5,6] [1,7,8] (.c 6 1 32 31 (.c 6 7 1 30 (.c 6 8 0 30 (.l 6 30) .s) .s) .s) ?_;simp [hk,hd,Doc.row]
 try intros
 refine aa.pure (bo D) (by simp [Doc.row,Doc.row]) ?_;simp
 try intros
 refine aa.pure (bo d) (by simp [Doc.row,Doc.row]) ?_;simp
 try intros
 by_cases c5 : ac D = ac d
 ·have hcm : cm h name k d D = ⟨h.shut,h.docs.set k D,h.subs,h.last⟩:=by unfold cm;rw [if_neg (by omega)]
  rw [hcm] at hat;simp [c5,hat,c2];exact ⟨mX,rfl⟩
 rcases hok with rfl | ⟨e,he1,he2⟩
 ·exact absurd rfl c5
 have hcm : cm h name k d D = ⟨h.shut,h.docs.set k D,h.subs.map (cV name e),h.last⟩:=by unfold cm;rw [if_pos (by omega),he2]
 rw [hcm] at hat;have hgt : ac d < ac D:=by omega
 have hmem : e∈D.list:=List.mem_of_getLast? he2;have hpos : 0 < D.list.length:=List.length_pos_of_mem hmem;obtain ⟨m,hm⟩ : ∃ m,D.list.length = m + 1:=⟨D.list.length - 1,by omega⟩;have hml : m < D.list.length:=by omega
 have hme : D.list[m] = e:=by
  rw [List.getLast?_eq_getElem?,hm,Nat.add_sub_cancel,List.getElem?_eq_getElem hml] at he2;exact Option.some.inj he2
 have hDl : nL aQ D.list<=2 ^ 24:=by unfold cu at hDn;omega
 have hen:=dr (f:=aQ) hDl hmem;have hlen24:=aA hDl;have ew : Go.IntKind.i64.wrap ((D.list.length : Int) - 1) = (m : Int):=by rw [Go.IntWalk.i64_in _ (by omega)];omega
 have em : Go.IntKind.i64.wrap (m : Int) = m:=ep (by omega);simp [hgt]
 refine ag eok (λi : Nat=>i<=h.subs.length) (λi=>⟨103,0,[(75,.v (.int .i64 i)),(74,.v (.int .i64 h.subs.length)),(73,.sl 914 K2 6 0 h.subs.length),(19,.p 304 b19 0),(16,.p 256 b16 0),(17,.v (.int .i64 rev)),(1,.v (.string name)),(12,.p 192 b12 0)],
  [(304, .vars b19 35 [.v (.bool false), .sl 913 K1 5 0 h.docs.length, .sl 914 K2 6 0 h.subs.length, .v (.int .i64 h.last)]), (192, .vars b12 35 [.v (.bool false), .nil, .nil, .v (.int .i64 0)]),
   (256,.vars b16 89 [.v (.string D.name),.v (.int .i64 D.fr),.sl 770 H1 1 0 D.text.length,.sl 771 H2 3 0 D.list.length,.sl 772 H3 3 0 D.seen.length]),
   (771,.lent H2 3 (D.list.map Entry.row)),(913,.rows K1 5 ((h.docs.set k D).map Doc.row) true),(914,.rows K2 6 ((fi name e h.subs i).map Sub.row) true)]⟩) (λi=>h.subs.length - i) 0 (by simp) (by simp [qA];rfl) (λi hi=>Ent.refl ?_)
 have htl:=oa name e h.subs i;by_cases hlt : i < h.subs.length
 ·have hti:=pM (name:=name) (e:=e) hlt
  have hlt' : i < (fi name e h.subs i).length:=by omega
  have hsk:=qB (name:=name) (e:=e) hlt;have hsu:=n9 (name:=name) (e:=e) hlt;have hmd:=m6 hlt' (bU h.subs[i].r e);have hmn:=dB (f:=ee) (fc hl).2 hlt;unfold ee at hmn;rw [hti] at hmd;obtain ⟨s,hs⟩ : ∃ s,h.subs[i] = s:=⟨_,rfl⟩;rw [hs] at hti hsk hsu hmd hmn;simp [hlt,htl,hti,Sub.row];intro b21;by_cases c6 : s.doc = name
  rotate_left
  ·simp [c6]
   refine Ent.refl ⟨i + 1,by omega,by omega,?_⟩;rw [<- hsk c6];simp;exact ah (by omega)
  have htell : cV name e s = ⟨s.id,s.doc,bU s.r e⟩:=by unfold cV;rw [if_pos c6]
  rw [htell] at hsu;rw [hsu] at hmd;have hpc:=sV s.r (by omega) e (by omega);generalize bU s.r e = R at hpc hmd;simp [c6];have hmm : (m : Int) < (m : Int) + 1:=by omega
  refine drw eok mix [0,1,2,3,4,5,6,7,8,9,10,11,12,14,15] [13,16] (.c 15 13 1028 31739 (.c 15 16 31737 2 (.l 15 2) .s) .s) ?_;simp [hlt,hm,em,hme,hmm,Entry.row]
  try intros
  refine aa.pure (hpc) (by simp [Ring.row,Entry.row,Entry.row]) ?_;simp [Ring.res,hlt,htl]
  try intros
  refine Ent.refl ⟨i + 1,by omega,by omega,?_⟩;rw [<- hmd];simp;exact ah (by omega)
 have hie : i = h.subs.length:=by omega
 subst hie;rw [rV];simp [hat,c2];exact mX
theorem Dd (h : Hub) (hl : ch h<=2 ^ 28) (c : Call) (hc : dC c<=2 ^ 28) (n6 : ¬ c.kind = 6) : aj Tryz.prog 116 [.agg h.row,.agg c.row] (.tup [.agg (fDo h c).1.res,.agg (fDo h c).2.res]):=by
 refine pci ae Tryz.func116 (λw0 base=>?_);have hcn : c.doc.size<=2 ^ 28/\nL aF c.o<=2 ^ 28/\c.text.length<=2 ^ 28:=by unfold dC at hc;omega
 simp [Hub.row,Call.row];intro b2 b3 b4 b5;refine aa.pure (dD h (by omega)) (by simp [Hub.row]) ?_;by_cases c1 : an h
 rotate_left
 ·simp [ab c1]
  refine aa.pure (bP h (by omega)) (by simp [Hub.row]) ?_;simp [Hub.res,kC (λh=>c1 h.1),Answer.res,bK]
 simp [c1];refine aa.pure (jb c (by omega)) (by simp [Call.row]) ?_;by_cases c2 : bm c
 rotate_left
 ·simp [ab c2]
  refine aa.pure (bP h (by omega)) (by simp [Hub.row]) ?_;simp [Hub.res,kC (λh=>c2 h.2),Answer.res,bK]
 simp [c2];intro b6 b7;have hk : c.kind = 1\/c.kind = 2\/(c.kind = 3\/c.kind = 4)\/c.kind = 5\/c.kind = 6\/c.kind = 7\/c.kind = 8:=by have:=c2.1;omega
 rcases hk with k | k | k | k | k | k | k
 ·-- kind 1
  have hat:=JJ ⟨c1,c2⟩ k;have hd:=uv h (by omega) c.doc hcn.1 c.text hcn.2.2;generalize ba h c.doc c.text = R at hd hat;obtain ⟨X,code⟩:=R;simp only at hd hat;simp [k];refine aa.pure hd (by simp [Hub.row]) ?_;simp [Hub.res];intros;by_cases z : code = 0
  ·rw [if_pos z] at hat
   simp [z];refine drw eok mix [0,1] [2,3] (.c 2 2 2 1 (.c 2 3 1 0 (.l 2 0) .s) .s) ?_;simp
   try intros
   rw [hat];simp [Answer.res,bK]
  ·rw [if_neg z] at hat
   simp [z];refine drw eok mix [0,2,3,4] [1,5,6] (.c 4 1 8 7 (.c 4 5 0 7 (.c 4 6 7 0 (.l 4 0) .s) .s) .s) ?_;simp
   try intros
   refine aa.pure (bP h (by omega)) (by simp [Hub.row]) ?_;simp [Hub.res]
   try intros
   rw [hat];simp [Answer.res,bK]
 ·-- kind 2
  have hat:=B6 ⟨c1,c2⟩ k;have hd:=lZ h (by omega) c.doc c.client c.seq c.n c.o (by omega);generalize aG h c.doc c.client c.seq c.n c.o = R at hd hat;obtain ⟨X,rev,code⟩:=R;simp only at hd hat;simp [k];refine aa.pure hd (by simp [Hub.row]) ?_;simp [Hub.res];intros;by_cases z : code = 0
  ·rw [if_pos z] at hat
   simp [z];refine drw eok mix [0,1] [2,3] (.c 2 2 2 1 (.c 2 3 1 0 (.l 2 0) .s) .s) ?_;simp
   try intros
   rw [hat];simp [Answer.res]
  ·rw [if_neg z] at hat
   simp [z];refine drw eok mix [0,2,3,4] [1,5,6] (.c 4 1 8 7 (.c 4 5 0 7 (.c 4 6 7 0 (.l 4 0) .s) .s) .s) ?_;simp
   try intros
   refine aa.pure (bP h (by omega)) (by simp [Hub.row]) ?_;simp [Hub.res]
   try intros
   rw [hat];simp [Answer.res,bK]
 ·-- kinds 3, 4
  have hat:=GA ⟨c1,c2⟩ k;have hd:=AE h (by omega) c1 c;generalize jS h c = A at hd hat;have k1 : ¬ c.kind = 1:=by omega
  have k2 : ¬ c.kind = 2:=by omega
  have fin : ∀ _ : c.kind = 3\/(¬ c.kind = 3/\c.kind = 4),True:=λ_=>trivial
  rcases k with k | k
  ·simp [k]
   refine drw eok mix [0,2,3] [1,4,5,6] (.c 3 1 4 3 (.c 3 4 3 0 (.c 3 5 0 0 (.c 3 6 0 0 (.l 3 0) .s) .s) .s) .s) ?_;simp
   try intros
   refine aa.pure (bP h (by omega)) (by simp [Hub.row]) ?_;simp [Hub.res]
   try intros
   refine aa.pure (hd) (by simp [Hub.row,Call.row,k]) ?_;simp [Answer.res]
   try intros
   rw [hat];simp
  ·simp [k]
   refine drw eok mix [0,2,3] [1,4,5,6] (.c 3 1 4 3 (.c 3 4 3 0 (.c 3 5 0 0 (.c 3 6 0 0 (.l 3 0) .s) .s) .s) .s) ?_;simp
   try intros
   refine aa.pure (bP h (by omega)) (by simp [Hub.row]) ?_;simp [Hub.res]
   try intros
   refine aa.pure (hd) (by simp [Hub.row,Call.row,k]) ?_;simp [Answer.res]
   try intros
   rw [hat];simp
 ·-- kind 5
  have hat:=JI ⟨c1,c2⟩ k;have hd:=om h (by omega) c.doc c.n;generalize aw h c.doc c.n = R at hd hat;obtain ⟨X,rev,code⟩:=R;simp only at hd hat;simp [k];refine aa.pure hd (by simp [Hub.row]) ?_;simp [Hub.res];intros;by_cases z : code = 0
  ·rw [if_pos z] at hat
   simp [z];refine drw eok mix [0,1] [2,3] (.c 2 2 2 1 (.c 2 3 1 0 (.l 2 0) .s) .s) ?_;simp
   try intros
   rw [hat];simp [Answer.res]
  ·rw [if_neg z] at hat
   simp [z];refine drw eok mix [0,2,3,4] [1,5,6] (.c 4 1 8 7 (.c 4 5 0 7 (.c 4 6 7 0 (.l 4 0) .s) .s) .s) ?_;simp
   try intros
   refine aa.pure (bP h (by omega)) (by simp [Hub.row]) ?_;simp [Hub.res]
   try intros
   rw [hat];simp [Answer.res,bK]
 ·exact absurd k n6
 ·-- kind 7
  have hat:=JG ⟨c1,c2⟩ k;have hd:=rx h (by omega) c.client;generalize aM h c.client = R at hd hat;obtain ⟨X,text,rev,code⟩:=R;simp only at hd hat;simp [k];refine aa.pure hd (by simp [Hub.row]) ?_;simp [Hub.res];intros;by_cases z : code = 0
  ·rw [if_pos z] at hat
   simp [z];refine drw eok mix [0,1] [2,3] (.c 2 2 2 1 (.c 2 3 1 0 (.l 2 0) .s) .s) ?_;simp
   try intros
   rw [hat];simp [Answer.res]
  ·rw [if_neg z] at hat
   simp [z];refine drw eok mix [0,2,3,4] [1,5,6] (.c 4 1 8 7 (.c 4 5 0 7 (.c 4 6 7 0 (.l 4 0) .s) .s) .s) ?_;simp
   try intros
   refine aa.pure (bP h (by omega)) (by simp [Hub.row]) ?_;simp [Hub.res]
   try intros
   rw [hat];simp [Answer.res,bK]
 ·-- kind 8
  have hat:=JF ⟨c1,c2⟩ k;have hd:=ut h (by omega);generalize bX h = R at hd hat;obtain ⟨X,code⟩:=R;simp only at hd hat;simp [k];refine aa.pure hd (by simp [Hub.row]) ?_;simp [Hub.res];intros;by_cases z : code = 0
  ·rw [if_pos z] at hat
   simp [z];refine drw eok mix [0,1] [2,3] (.c 2 2 2 1 (.c 2 3 1 0 (.l 2 0) .s) .s) ?_;simp
   try intros
   rw [hat];simp [Answer.res,bK]
  ·rw [if_neg z] at hat
   simp [z];refine drw eok mix [0,2,3,4] [1,5,6] (.c 4 1 8 7 (.c 4 5 0 7 (.c 4 6 7 0 (.l 4 0) .s) .s) .s) ?_;simp
   try intros
   refine aa.pure (bP h (by omega)) (by simp [Hub.row]) ?_;simp [Hub.res]
   try intros
   rw [hat];simp [Answer.res,bK]
theorem Cl (h : Hub) (hl : ch h<=2 ^ 28) (c : Call) (hc : dC c<=2 ^ 28) (k : c.kind = 2) : aj Tryz.prog 165 [.agg h.row,.agg c.row] (.tup [.agg (fDo h c).1.res,.agg (fDo h c).2.res]):=by
 refine pci ae Tryz.func165 (λw0 base=>?_);have hcn : c.doc.size<=2 ^ 28/\nL aF c.o<=2 ^ 28/\c.text.length<=2 ^ 28:=by unfold dC at hc;omega
 simp [Hub.row,Call.row];intro b2 b3 b4 b5;refine aa.pure (da h (by omega)) (by simp [Hub.row]) ?_;by_cases c1 : an h
 rotate_left
 ·simp [ab c1]
  refine aa.pure (bT h (by omega)) (by simp [Hub.row]) ?_;simp [Hub.res,kC (λh=>c1 h.1),Answer.res,bK]
 simp [c1];refine aa.pure (iT c (by omega)) (by simp [Call.row]) ?_;by_cases c2 : bm c
 rotate_left
 ·simp [ab c2]
  refine aa.pure (bT h (by omega)) (by simp [Hub.row]) ?_;simp [Hub.res,kC (λh=>c2 h.2),Answer.res,bK]
 simp [c2];intro b6 b23 b24;have hat:=B6 ⟨c1,c2⟩ k;have hd:=dM h (by omega) c.doc c.client c.seq c.n c.o (by omega);generalize aG h c.doc c.client c.seq c.n c.o = R at hd hat;obtain ⟨X,rev,code⟩:=R;simp only at hd hat;simp [k];refine aa.pure hd (by simp [Hub.row]) ?_;simp [Hub.res];intros;by_cases z : code = 0
 ·rw [if_pos z] at hat
  simp [z,hat,Answer.res]
 ·rw [if_neg z] at hat
  simp [z];refine aa.pure (bT h (by omega)) (by simp [Hub.row]) ?_;simp [Hub.res,hat,Answer.res,bK]
theorem De (h : Hub) (hl : ch h<=2 ^ 28) (c : Call) (hc : dC c<=2 ^ 28) (k : c.kind = 2) : aj Tryz.prog 116 [.agg h.row,.agg c.row] (.tup [.agg (fDo h c).1.res,.agg (fDo h c).2.res]):=by
 refine pci ae Tryz.func116 (λw0 base=>?_);have hcn : c.doc.size<=2 ^ 28/\nL aF c.o<=2 ^ 28/\c.text.length<=2 ^ 28:=by unfold dC at hc;omega
 simp [Hub.row,Call.row];intro b2 b3 b4 b5;refine aa.pure (dD h (by omega)) (by simp [Hub.row]) ?_;by_cases c1 : an h
 rotate_left
 ·simp [ab c1]
  refine aa.pure (bP h (by omega)) (by simp [Hub.row]) ?_;simp [Hub.res,kC (λh=>c1 h.1),Answer.res,bK]
 simp [c1];refine aa.pure (jb c (by omega)) (by simp [Call.row]) ?_;by_cases c2 : bm c
 rotate_left
 ·simp [ab c2]
  refine aa.pure (bP h (by omega)) (by simp [Hub.row]) ?_;simp [Hub.res,kC (λh=>c2 h.2),Answer.res,bK]
 simp [c2];intro b6 b7;have hat:=B6 ⟨c1,c2⟩ k;have hd:=lZ h (by omega) c.doc c.client c.seq c.n c.o (by omega);generalize aG h c.doc c.client c.seq c.n c.o = R at hd hat;obtain ⟨X,rev,code⟩:=R;simp only at hd hat;simp [k];refine aa.pure hd (by simp [Hub.row]) ?_;simp [Hub.res];intros;by_cases z : code = 0
 ·rw [if_pos z] at hat
  simp [z];refine drw eok mix [0,1] [2,3] (.c 2 2 2 1 (.c 2 3 1 0 (.l 2 0) .s) .s) ?_;simp
  try intros
  rw [hat];simp [Answer.res]
 ·rw [if_neg z] at hat
  simp [z];refine drw eok mix [0,2,3,4] [1,5,6] (.c 4 1 8 7 (.c 4 5 0 7 (.c 4 6 7 0 (.l 4 0) .s) .s) .s) ?_;simp
  try intros
  refine aa.pure (bP h (by omega)) (by simp [Hub.row]) ?_;simp [Hub.res]
  try intros
  rw [hat];simp [Answer.res,bK]
set_option maxRecDepth 100000
set_option maxHeartbeats 4000000
theorem pN {P : Program} {ops : Array Oper} {o : Oper} {a : Act} {w : World} {K : Act->World->Prop} {Q : Exit->Act->World->Prop} {E : Prop}
 (hg : o.guard = none) (d x : Operand) (dT sT : TypeId) (hop : o.op = Op.call { callee:=Callee.builtin Builtin.append,args:=#[d,x],argTypes:=#[dT,sT] })
 (v u : Value) (hd : a.eval d = v) (hx : a.eval x = u) {v' : Value} {w' : World} (hr : (Builtin.append_ #[dT,sT] o.type #[v,u]).run P w = .ok v' w') (hK : K (a.put o.dst v') w') :
 if Region.wanted o (yielded ops a.tmps) = true then Oper.wp P o a w K Q else E:=by
 have hw : Region.wanted o (yielded ops a.tmps) = true:=by simp [Region.wanted,hg]
 rw [if_pos hw];unfold Oper.wp;simp [execOp,hop,resolve,invoke,builtin,hd,hx,hr,Result.andThen];exact hK
theorem zT {P : Program} {w : World} {t ty e : TypeId} {z : Value} (hu : P.underlying t = some (.slice e)) (hv : ∀ w,(zeroValue e).run P w = .ok z w) {b o n c : Nat} {cs : Array Value} {T : TypeId}
 (hb : w.heap[b]? = some (.cells cs T (0,0))) (h1 : ∀ v∈(Builtin.zeroCells z.cells n).toList,v.oneCell' = true) (hfit : o + (Builtin.zeroCells z.cells n).toList.length<=cs.size) (hn : 0 < n) :
 (Builtin.clear_ #[t] ty #[.slice (some ⟨b,o,none⟩) n c]).run P w = .ok (.tuple #[]) (w.setRow b (cs.toList.take o ++ (Builtin.zeroCells z.cells n).toList ++ cs.toList.drop (o + (Builtin.zeroCells z.cells n).toList.length)).toArray):=by
 have hst:=run_storeCells_at (P:=P) b o T (Builtin.zeroCells z.cells n).toList 0 cs w hb (by omega) h1;simp only [Nat.add_zero] at hst;obtain ⟨m,rfl⟩ : ∃ m,n = m + 1:=⟨n - 1,by omega⟩;simp [Builtin.clear_,run_underlying hu,hv];simp [hst]
theorem xd (w : World) (us : List Value) (i m b o C : Nat) (cs : Array Value) (T : TypeId) (hul : us.length = (i + 1 + m) * 2) (hnC : i + 1 + m<=C) (hCm : C<=maxLen)
 (hb : w.heap[b]? = some (.cells cs T (0,0))) (hfit : o + C * 2<=cs.size) (hcs : ∀ j,j < (i + 1 + m) * 2->cs.getD (o + j) undef = us.getD j undef) (h1 : ∀ v∈us,v.oneCell' = true) :
 Calls Tryz.prog 132 #[.slice (some ⟨b,o,none⟩) (i + 1 + m) C,.int .i64 i,.int .i64 ((i : Int) + 1)] w λe w'=>
  e = .returned (.slice (some ⟨b,o,none⟩) (i + m) C)/\Placed w w' (some b) b o C (i + m) 2 (us.take (i * 2) ++ us.drop ((i + 1) * 2)):=by
 have u0:=run_underlying Tryz.underlying36;have mixed : Tryz.prog.follows .mixedOrders = true:=by kernel_rfl
 obtain ⟨i0,z0,hi0,hzs,hzb,hz0,hzc,-⟩:=(ae 166 _ rQ).info;have hzs : i0.size = 2:=hzs;have hC63 : C<=9223372036854775807:=by unfold maxLen at hCm;omega
 have hne : ¬ ((i : Int) = (i : Int) + 1):=by omega
 have hiC : i + 1<=C:=by omega
 have hi0' : i<=C:=by omega
 have htn : ((i : Int) + 1).toNat = i + 1:=by omega
 have hb1 : (0 : Int)<=(i : Int) + 1:=by omega
 have hb2 : (i : Int)<=(i : Int) + 1:=by omega
 have hb3 : ¬ (i = i + 1):=by omega
 have hb4 : i + 1 + m - (i + 1) = m:=by omega
 have hb5 : i<=i + 1 + m:=by omega
 have hb6 : i + 1<=i + 1 + m:=by omega
 have hb7 : (i : Int) + 1<=(i : Int) + 1 + (m : Int):=by omega
 obtain ⟨news,hnews⟩ : ∃ news,news = us.drop ((i + 1) * 2):=⟨_,rfl⟩;have hdl : news.length = m * 2:=by rw [hnews,List.length_drop,hul];omega
 have hnm : ∀ v∈news,v.oneCell' = true:=λv hv=>h1 v (List.mem_of_mem_drop (hnews ▸ hv))
 have hget : ∀ j,j < m * 2->cs.getD (o + (i + 1) * 2 + j) undef = news.getD j undef:=λj hj=>by
  rw [hnews,Nat.add_assoc,hcs _ (by omega)];simp only [List.getD_eq_getElem?_getD,List.getElem?_drop]
 obtain ⟨A,hA,hsrc⟩ : ∃ A : Addr,(if C = i + 1 then some (⟨b,o,none⟩ : Addr) else some ⟨b,o + (i + 1) * 2,none⟩) = some A/\∀ j v,news[j]? = some v->w.drew.cell? (A.add j) = some v:=by
  by_cases h : C = i + 1
  ·refine ⟨⟨b,o,none⟩,by simp [h],λj v hv=>?_⟩
   have h0 : news.length = 0:=by rw [hdl];omega
   rw [List.length_eq_zero_iff.1 h0] at hv;simp at hv
  ·refine ⟨⟨b,o + (i + 1) * 2,none⟩,by simp [h],λj v hv=>?_⟩
   rw [Addr.add_lit];exact cO (w:=w.drew) hb (λj hj=>hget j (by omega)) (by omega) j v hv
 have hrun:=λty=>Go.AM.run_append_room (P:=Tryz.prog) (w:=w.drew) (ty:=ty) (c:=C - (i + 1)) (n:=i) (m:=m) (C:=C) Tryz.underlying36 hi0 hb A news (by rw [hzs];exact hdl) hsrc hnm (by omega) (by rw [hzs];exact hfit)
 rw [hzs] at hrun;obtain ⟨cs1,hcs1⟩ : ∃ c,c = (cs.toList.take (o + i * 2) ++ news ++ cs.toList.drop (o + i * 2 + news.length)).toArray:=⟨_,rfl⟩;obtain ⟨s1,g1⟩:=bL cs (o + i * 2) news (by omega);rw [<- hcs1] at s1 g1 hrun;have zl : z0.cells.size = 2:=by have:=congrArg List.length hzc;simpa using this
 have hzn : (Builtin.zeroCells z0.cells 1).toList.length = 2:=by rw [Array.length_toList,cg,zl]
 have hz1 : ∀ v∈(Builtin.zeroCells z0.cells 1).toList,v.oneCell' = true:=by
  have hzz : (Builtin.zeroCells z0.cells 1).toList = z0.cells.toList:=by
   simp [Builtin.zeroCells];refine List.ext_getElem (by simp) (λj h1 h2=>?_);simp at h1;simp [Nat.mod_eq_of_lt (show j < z0.cells.size by omega),show j < z0.cells.size by omega]
  rw [hzz,hzc];intro v hv;simp [zv] at hv;rcases hv with rfl | rfl<;>rfl
 obtain ⟨cs2,hcs2⟩ : ∃ c,c = (cs1.toList.take (o + (i + m) * 2) ++ (Builtin.zeroCells z0.cells 1).toList ++ cs1.toList.drop (o + (i + m) * 2 + (Builtin.zeroCells z0.cells 1).toList.length)).toArray:=⟨_,rfl⟩;obtain ⟨s2,g2⟩:=bL cs1 (o + (i + m) * 2) (Builtin.zeroCells z0.cells 1).toList (by omega);rw [<- hcs2] at s2 g2
 have hP : Placed w ((w.drew.setRow b cs1).setRow b cs2) (some b) b o C (i + m) 2 (us.take (i * 2) ++ us.drop ((i + 1) * 2)):=by
  refine ⟨⟨cs2,T,setRow_heap _ b cs1 cs2 T (0,0) (setRow_heap w.drew b cs cs1 T (0,0) hb),by omega,λj hj=>?_⟩,by omega,hCm,by simp,⟨rfl,rfl,rfl⟩,.inr rfl,λc _ hc=>?_⟩
  ·rw [g2,g1,if_neg (by omega)]
   have hl : (us.take (i * 2)).length = i * 2:=by simp;omega
   by_cases c1 : j < i * 2
   ·rw [if_neg (by omega),hcs j (by omega)]
    simp only [List.getD_eq_getElem?_getD];rw [List.getElem?_append_left (by omega),List.getElem?_take,if_pos c1]
   ·rw [if_pos (by omega),hnews]
    simp only [List.getD_eq_getElem?_getD];rw [List.getElem?_append_right (by omega),hl]
    congr 2<;>omega
  ·rw [setRow_other _ b c _ hc,setRow_other _ b c _ hc];rfl
 obtain ⟨W1,hW1⟩ : ∃ W1,W1 = w.drew.setRow b cs1:=⟨_,rfl⟩;have hb1' : W1.heap[b]? = some (.cells cs1 T (0,0)):=by rw [hW1];exact setRow_heap w.drew b cs cs1 T (0,0) hb
 have hzv : ∀ w,(zeroValue 166).run Tryz.prog w = .ok z0 w:=λw=>by simp [zeroValue,typeInfo,hi0,hz0]
 have hcl:=λty=>zT (P:=Tryz.prog) (w:=W1) (ty:=ty) (b:=b) (o:=o + (i + m) * 2) (n:=1) (c:=C - (i + m)) Tryz.underlying36 hzv hb1' hz1 (by rw [hzn,s1];omega) (by omega)
 rw [<- hcs2] at hcl;have hc1 : ¬ (C = i + m):=by omega
 have hc2 : i + 1 + m - (i + m) = 1:=by omega
 have hc3 : i + m<=i + 1 + m:=by omega
 have hc4 : i + m<=C:=by omega
 have hc5 : (i : Int) + m<=(i : Int) + 1 + m:=by omega
 have hc6 : (0 : Int)<=(i : Int) + m:=by omega
 have hc7 : (0 : Int)<=(i : Int) + 1 + m:=by omega
 have hc8 : ((i : Int) + m).toNat = i + m:=by omega
 have hc9 : ((i : Int) + 1 + m).toNat = i + 1 + m:=by omega
 rw [<- hW1] at hrun hP
 clear hW1 hcs1 hcs2 g1 g2 hb1' hzv hget hsrc
 go_enter Tryz.func132,Tryz.ntmps132
 go_wp2_with fail
 go_region_law_o (refine pN rfl (.tmp 22) (.tmp 25) 36 36 rfl (.slice (some ⟨b,o,none⟩) i C) (.slice (some A) m (C - (i + 1))) (by simp [Act.eval,Act.put]) (by simp [Act.eval,Act.put,hA]) (hrun _) ?_)
 go_wp2
 go_ret
 exact ⟨rfl,hP⟩
theorem AY : Cf Tryz.prog 132 2:=by
 refine ⟨⟨_,Tryz.func132,by kernel_rfl,rfl⟩,λw us n i s ob hul hi hs=>?_⟩;rcases hs with ⟨h0,-⟩ | ⟨b,o,C,cs,T,rfl,rfl,hb,hnC,hCm,hfit,hcs,h1⟩
 ·omega
 obtain ⟨m,rfl⟩ : ∃ m,n = i + 1 + m:=⟨n - (i + 1),by omega⟩;refine (xd w us i m b o C cs T hul hnC hCm hb hfit hcs h1).mono ?_
 rintro e w' ⟨rfl,hp⟩
 have e1 : i + 1 + m - 1 = i + m:=by omega
 rw [e1];exact ⟨b,o,C,rfl,rfl,hp⟩
end Go.Proofs.YtoldjebobgocpaaGreat
