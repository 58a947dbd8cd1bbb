import Derived.Test.YtoldjebobgocpaaGreatPE
import Derived.Test.YtoldjebobgocpaaGreatMH
import Derived.Shelf.RegionOpenPlain
import Derived.Test.YtoldjebobgocpaaGreatPN
import Derived.Test.YtoldjebobgocpaaGreatPO
import Derived.Test.YtoldjebobgocpaaGreatPK
import Derived.Test.YtoldjebobgocpaaGreatPL
import Derived.Test.YtoldjebobgocpaaGreatPM
import Derived.Test.YtoldjebobgocpaaGreatPJ
import Derived.Test.YtoldjebobgocpaaGreatPG
namespace Go.Proofs.YtoldjebobgocpaaGreat
open Go.AM Go.RowKit
set_option maxRecDepth 100000
set_option maxHeartbeats 4000000
set_option linter.unusedVariables false
set_option linter.unusedSimpArgs false
theorem sr (w : World) (us xs : List Value) (n i b o C bv ov Cv : Nat) (cs cv : Array Value) (T Tv : TypeId) (hul : us.length = n * 2) (hxl : xs.length = 2) (hi : i < n) (hroom : n + 1<=C) (hC : C<=maxLen)
 (hb : w.heap[b]? = some (.cells cs T (0,0))) (hfit : o + C * 2<=cs.size) (hcs : ∀ j,j < n * 2->cs.getD (o + j) undef = us.getD j undef) (h1 : ∀ v∈us,v.oneCell' = true)
 (hbv : w.heap[bv]? = some (.cells cv Tv (0,0))) (hCv : 1<=Cv) (hfv : ov + Cv * 2<=cv.size) (hcv : ∀ j,j < 2->cv.getD (ov + j) undef = xs.getD j undef) (h1v : ∀ v∈xs,v.oneCell' = true) (hne : bv≠b) :
 Calls Tryz.prog 177 #[.slice (some ⟨b,o,none⟩) n C,.int .i64 i,.slice (some ⟨bv,ov,none⟩) 1 Cv] w λe w'=>
  e = .returned (.slice (some ⟨b,o,none⟩) (n + 1) C)/\Placed w w' (some b) b o C (n + 1) 2 (us.take (i * 2) ++ xs ++ us.drop (i * 2)):=by
 have u0:=run_underlying Tryz.underlying36;have mixed : Tryz.prog.follows .mixedOrders = true:=by kernel_rfl
 obtain ⟨i0,z0,hi0,hzs,hzb,hz0,hzc,-⟩:=(ae 166 _ ru).info;have hzs : i0.size = 2:=hzs;have hC63 : C<=9223372036854775807:=by unfold maxLen at hC;omega
 have hz1 : ¬ ((1 : Int) = 0):=by omega
 have hz2 : ¬ ((i : Int) = (n : Int)):=by omega
 have hdl : (us.drop (i * 2)).length = (n - i) * 2:=by rw [List.length_drop,hul,Nat.sub_mul]
 have hov : ∀ lb cb,(callFunc 273 #[.slice (some ⟨bv,ov,none⟩) 1 Cv,.slice (some ⟨b,o + (i * 2 + 2),none⟩) lb cb]).run Tryz.prog w = .ok (.value (.bool false)) w:=λlb cb=>by
  rw [run_callFunc_extern Tryz.func273 (by kernel_rfl) (by kernel_rfl) (by kernel_rfl) (e:=Extern.SlicesOverlaps.overlaps #[36,36] #[4]) (by kernel_rfl),
   Lib.run_overlaps_apart w 36 4 166 Tryz.underlying36 2 Tryz.sizeOf166 ⟨bv,ov,none⟩ ⟨b,o + (i * 2 + 2),none⟩ 1 Cv lb cb hne Tv T cv.size cs.size (by simp [World.shape?,hbv]) (by simp [World.shape?,hb]) (by omega) (by simp [World.frozen?,hbv]) (by simp [World.frozen?,hbv])]
  rfl
 have hmm : (n + 1) * 2<=C * 2:=Nat.mul_le_mul_right _ hroom;have hii : i * 2 + 2<=n * 2:=by have:=Nat.mul_le_mul_right 2 (show i + 1<=n by omega);omega
 have e1 : (i + 1) * 2 = i * 2 + 2:=Nat.succ_mul i 2;have e2 : (n + 1) * 2 = n * 2 + 2:=Nat.succ_mul n 2;have e3 : (n - i) * 2 = n * 2 - i * 2:=Nat.sub_mul n i 2;obtain ⟨cs1,hcs1⟩ : ∃ c,c = (cs.toList.take (o + (i + 1) * 2) ++ us.drop (i * 2) ++ cs.toList.drop (o + (i + 1) * 2 + (us.drop (i * 2)).length)).toArray:=⟨_,rfl⟩;obtain ⟨s1,g1⟩:=bH cs (o + (i + 1) * 2) (us.drop (i * 2)) (by omega);rw [<- hcs1] at s1 g1
 have hcp1 : ∀ (W : World),W.heap = w.heap->∀ ty dl dc sl sc,Nat.min sl dl = n - i->(Builtin.copy_ #[36,36] ty #[.slice (some ⟨b,o + (i * 2 + 2),none⟩) dl dc,.slice (some ⟨b,o + i * 2,none⟩) sl sc]).run Tryz.prog W = .ok (goInt (n - i : Nat)) (W.setRow b cs1):=λW hW ty dl dc sl sc hm=>by
  have hb' : W.heap[b]? = some (.cells cs T (0,0)):=by rw [hW];exact hb
  rw [hcs1,e1]
  exact dK Tryz.underlying36 hi0 hb' ⟨b,o + i * 2,none⟩ (us.drop (i * 2)) (n - i) hm (by rw [hdl,hzs])
   (λj v hj=>by
    rw [Addr.add_lit];refine cJ hb' (o:=o + i * 2) (vs:=us.drop (i * 2)) (λj hj=>?_) (by omega) j v hj;rw [Nat.add_assoc,hcs _ (by omega)];simp [List.getD_eq_getElem?_getD])
   (λv hv=>h1 v (List.mem_of_mem_drop hv)) (by omega)
 obtain ⟨cs2,hcs2⟩ : ∃ c,c = (cs1.toList.take (o + i * 2) ++ xs ++ cs1.toList.drop (o + i * 2 + xs.length)).toArray:=⟨_,rfl⟩;obtain ⟨s2,g2⟩:=bH cs1 (o + i * 2) xs (by omega);rw [<- hcs2] at s2 g2
 have hcp2 : ∀ (W : World),W.heap[b]? = some (.cells cs1 T (0,0))->W.heap[bv]? = some (.cells cv Tv (0,0))->∀ ty dl dc,0 < dl->(Builtin.copy_ #[36,36] ty #[.slice (some ⟨b,o + i * 2,none⟩) dl dc,.slice (some ⟨bv,ov,none⟩) 1 Cv]).run Tryz.prog W = .ok (goInt (1 : Nat)) (W.setRow b cs2):=λW hW hWv ty dl dc hm=>by
  rw [hcs2]
  exact dK Tryz.underlying36 hi0 hW ⟨bv,ov,none⟩ xs 1 (by simp only [Nat.min_def];split<;>omega) (by rw [hxl,hzs])
   (λj v hj=>by
    rw [Addr.add_lit];exact cJ hWv (λj hj=>hcv j (by omega)) (by omega) j v hj)
   h1v (by omega)
 have hw1 : IntKind.i64.wrap ((i : Int) + 1) = (i : Int) + 1:=by rw [IntKind.wrap_i64];omega
 have hb1 : (0 : Int)<=(i : Int) + 1:=by omega
 have hin : i<=n:=by omega
 have htn : ((i : Int) + 1).toNat = i + 1:=by omega
 have hb2 : ¬ (C = i + 1):=by omega
 have hb3 : (i : Int)<=(n : Int) + 1:=by omega
 have hb4 : ¬ (C = i):=by omega
 go_enter Tryz.func177,Tryz.ntmps177
 go_wp2_with (simp only [hov])
 have hE:=hcp1 w.drew rfl 3 (n - i) (C - (i + 1)) (n + 1 - i) (C - i) (by simp only [Nat.min_def];split<;>omega);have hE2:=hcp2 (w.drew.setRow b cs1) (by simp [setRow_heap w.drew b cs cs1 T (0,0) hb]) (by rw [setRow_other w.drew b bv cs1 hne];exact hbv) 3 (n + 1 - i) (C - i) (by omega)
 have hP : Placed w ((w.drew.setRow b cs1).setRow b cs2) (some b) b o C (n + 1) 2 (us.take (i * 2) ++ xs ++ us.drop (i * 2)):=by
  refine ⟨⟨cs2,T,setRow_heap _ b cs1 cs2 T (0,0) (setRow_heap w.drew b cs cs1 T (0,0) hb),by omega,λj hj=>?_⟩,hroom,hC,by simp,⟨rfl,rfl,rfl⟩,.inr rfl,λc _ hc=>?_⟩
  ·rw [g2,g1]
   have hl : (us.take (i * 2)).length = i * 2:=by simp;omega
   simp only [List.getD_eq_getElem?_getD];rw [List.append_assoc];by_cases c1 : j < i * 2
   ·rw [if_neg (by omega),if_neg (by omega),List.getElem?_append_left (by omega),List.getElem?_take,if_pos c1,hcs j (by omega)]
    simp
   ·rw [List.getElem?_append_right (by omega),hl]
    by_cases c2 : j < i * 2 + 2
    ·rw [if_pos (by omega),List.getElem?_append_left (by omega)]
     congr 2
     omega
    ·rw [if_neg (by omega),if_pos (by omega),List.getElem?_append_right (by omega),List.getElem?_drop,List.getElem?_drop]
     congr 2
     omega
  ·rw [setRow_other _ b c _ hc,setRow_other _ b c _ hc];rfl
 clear hcs1 hcs2
 go_region
 go_wp2
 go_ret
 all_goals exact ⟨rfl,hP⟩
theorem kZ (w : World) (a : Option Addr) (n C bv ov Cv : Nat) (r : Value) (w1 : World) (hnC : n<=C) (hC : C<=maxLen)
 (hr : ∀ ty,(Builtin.append_ #[36,36] ty #[.slice a n C,.slice (some ⟨bv,ov,none⟩) 1 Cv]).run Tryz.prog w = .ok r w1) :
 Calls Tryz.prog 177 #[.slice a n C,.int .i64 n,.slice (some ⟨bv,ov,none⟩) 1 Cv] w λe w'=>e = .returned r/\w' = w1:=by
 have u0:=run_underlying Tryz.underlying36;have mixed : Tryz.prog.follows .mixedOrders = true:=by kernel_rfl
 have hC63 : C<=9223372036854775807:=by unfold maxLen at hC;omega
 have hz1 : ¬ ((1 : Int) = 0):=by omega
 cases a with
 | none =>
   by_cases hc : C = n
   ·subst hc
    go_enter Tryz.func177,Tryz.ntmps177
    go_wp2_with (at_builtin;refine Lib.wpList_append_run _ rfl _ _ _ _ rfl _ _ rfl rfl _ _ (hr _) ?_)
    go_ret
    exact ⟨rfl,rfl⟩
   ·go_enter Tryz.func177,Tryz.ntmps177
    go_wp2_with (at_builtin;refine Lib.wpList_append_run _ rfl _ _ _ _ rfl _ _ rfl rfl _ _ (hr _) ?_)
    go_ret
    exact ⟨rfl,rfl⟩
 | some q =>
   by_cases hc : C = n
   ·subst hc
    go_enter Tryz.func177,Tryz.ntmps177
    go_wp2_with (at_builtin;refine Lib.wpList_append_run _ rfl _ _ _ _ rfl _ _ rfl rfl _ _ (hr _) ?_)
    go_ret
    exact ⟨rfl,rfl⟩
   ·go_enter Tryz.func177,Tryz.ntmps177
    go_wp2_with (at_builtin;refine Lib.wpList_append_run _ rfl _ _ _ _ rfl _ _ rfl rfl _ _ (hr _) ?_)
    go_ret
    exact ⟨rfl,rfl⟩
theorem t5 (w : World) (us xs : List Value) (n i b o C bv ov Cv : Nat) (cs cv : Array Value) (T Tv : TypeId) (hul : us.length = n * 2) (hxl : xs.length = 2) (hi : i < n) (hnc : n<=C) (hroom : C < n + 1) (hbig : (n + 1) * nv.bytes<=140737488355328)
 (hb : w.heap[b]? = some (.cells cs T (0,0))) (hfit : o + C * 2<=cs.size) (hcs : ∀ j,j < n * 2->cs.getD (o + j) undef = us.getD j undef) (h1 : ∀ v∈us,v.oneCell' = true)
 (hbv : w.heap[bv]? = some (.cells cv Tv (0,0))) (hCv : 1<=Cv) (hfv : ov + Cv * 2<=cv.size) (hcv : ∀ j,j < 2->cv.getD (ov + j) undef = xs.getD j undef) (h1v : ∀ v∈xs,v.oneCell' = true) :
 Calls Tryz.prog 177 #[.slice (some ⟨b,o,none⟩) n C,.int .i64 i,.slice (some ⟨bv,ov,none⟩) 1 Cv] w λe w'=>
  ∃ nC,e = .returned (.slice (some ⟨w.heap.size,0,none⟩) (n + 1) nC)/\Placed w w' (some b) w.heap.size 0 nC (n + 1) 2 (us.take (i * 2) ++ xs ++ us.drop (i * 2)):=by
 have u0:=run_underlying Tryz.underlying36;have mixed : Tryz.prog.follows .mixedOrders = true:=by kernel_rfl
 obtain ⟨i0,z0,hi0,hzs,hzb,hz0,hzc,-⟩:=(ae 166 _ ru).info;have hzz:=fk hzc;have hzs : i0.size = 2:=hzs;have hzb : i0.bytes = nv.bytes:=hzb;have hby : 0 < nv.bytes:=by decide
 have hzz : z0.cells.size = 2:=hzz;have hnb : (n + 1)<=140737488355328:=Nat.le_trans (Nat.le_mul_of_pos_right _ hby) hbig;have hz1 : ¬ ((1 : Int) = 0):=by omega
 have hz2 : ¬ ((i : Int) = (n : Int)):=by omega
 have hz3 : (C : Int) < (n : Int) + 1:=by omega
 have hmm : n * 2<=C * 2:=Nat.mul_le_mul_right _ hnc;have hii : i * 2 + 2<=n * 2:=by have:=Nat.mul_le_mul_right 2 (show i + 1<=n by omega);omega
 have e1 : (i + 1) * 2 = i * 2 + 2:=Nat.succ_mul i 2;have e2 : (n + 1) * 2 = n * 2 + 2:=Nat.succ_mul n 2;have e3 : (n - i) * 2 = n * 2 - i * 2:=Nat.sub_mul n i 2;have hdl : (us.drop (i * 2)).length = (n - i) * 2:=by rw [List.length_drop,hul,Nat.sub_mul]
 have htl : (us.take (i * 2)).length = i * 2:=by simp;omega
 have hbw : b < w.heap.size:=cN hb;have hvw : bv < w.heap.size:=cN hbv;have hkk : (n : Int) + 1 - (i : Int) = ((n + 1 - i : Nat) : Int):=by omega
 have hik : i + (n + 1 - i) = n + 1:=by omega
 have hold : (Builtin.firstCells i0.size i (.slice (some ⟨b,o,none⟩) i C)).run Tryz.prog w.drew = .ok (us.take (i * 2)).toArray w.drew:=by
  rw [hzs]
  exact run_firstCells_some w.drew 2 i ⟨b,o,none⟩ i C (us.take (i * 2)) (by rw [htl]) (λj v hj=>by
   rw [Addr.add_lit]
   exact cJ (w:=w.drew) (o:=o) (vs:=us.take (i * 2)) (cs:=cs) (T:=T) hb (λj hj=>by
    rw [hcs _ (by omega)];rw [htl] at hj;simp only [List.getD_eq_getElem?_getD,List.getElem?_take,if_pos hj]) (by omega) j v hj)
 have hrz : ∀ ty,(Builtin.append_ #[36,3] ty #[.slice (some ⟨b,o,none⟩) i C,.int .i64 ((n : Int) + 1 - (i : Int))]).run Tryz.prog w =
  .ok (.slice (some ⟨w.heap.size,0,none⟩) (n + 1) (grownCap w (n + 1) C 166)) (w.drew.alloc (.cells ((us.take (i * 2)).toArray ++ Builtin.zeroCells z0.cells (n + 1 - i) ++ Builtin.zeroCells z0.cells (grownCap w (n + 1) C 166 - (n + 1))) 166)):=λty=>by
  have h:=Lib.run_append_grow_zeros w 36 3 ty 166 i0 z0 .i64 .i64 Tryz.underlying36 Tryz.underlying3 hi0 hz0 (some ⟨b,o,none⟩) i C (us.take (i * 2)) hold (n + 1 - i) (by omega) (by omega) (by omega) (by omega) (by rw [hzb];have:=Nat.mul_le_mul_right nv.bytes (show n + 1 - i<=n + 1 by omega);omega) (by rw [hzb,hik];exact growslice_fits hroom hbig);rw [hik] at h;rw [hkk];exact h
 obtain ⟨G,hG⟩ : ∃ G,G = grownCap w (n + 1) C 166:=⟨_,rfl⟩;obtain ⟨ROW,hROW⟩ : ∃ ROW : Array Value,ROW = (us.take (i * 2)).toArray ++ Builtin.zeroCells z0.cells (n + 1 - i) ++ Builtin.zeroCells z0.cells (G - (n + 1)):=⟨_,rfl⟩;rw [<- hG] at hrz;rw [<- hROW] at hrz;have hGn : n + 1<=G:=by rw [hG];exact grownCap_ge w _ _ _
 have hGm : G<=maxLen:=by rw [hG];exact grownCap_le_maxLen w (n + 1) C 166 (by unfold maxLen;omega)
 have hG63 : G<=9223372036854775807:=by unfold maxLen at hGm;omega
 have hRs : ROW.size = G * 2:=by
  rw [hROW];simp only [Array.size_append,List.size_toArray,cf,hzz,htl];rw [<- Nat.add_mul,<- Nat.add_mul]
  congr 1
  omega
 have hGK : (n + 1) * 2<=G * 2:=Nat.mul_le_mul_right _ hGn
 have hRg : ∀ j,j < i * 2->ROW.getD j undef = us.getD j undef:=by
  intro j hj;rw [hROW];simp only [Array.getD_eq_getD_getElem?];rw [Array.getElem?_append_left (by simp [cf];omega),Array.getElem?_append_left (by simp;omega)];simp [List.getElem?_take,hj,List.getD_eq_getElem?_getD]
 obtain ⟨W1,hW1⟩ : ∃ W1,W1 = w.drew.alloc (.cells ROW 166):=⟨_,rfl⟩;rw [<- hW1] at hrz;have hN : W1.heap[w.heap.size]? = some (.cells ROW 166 (0,0)):=by rw [hW1];exact jk w.drew _
 have hO : ∀ c,c < w.heap.size->W1.heap[c]? = w.heap[c]?:=λc hc=>by rw [hW1];exact it w.drew _ hc
 have hS : W1.heap.size = w.heap.size + 1:=by rw [hW1];simp
 obtain ⟨cs1,hcs1⟩ : ∃ c,c = (ROW.toList.take (i * 2) ++ xs ++ ROW.toList.drop (i * 2 + xs.length)).toArray:=⟨_,rfl⟩;obtain ⟨s1,g1⟩:=bH ROW (i * 2) xs (by omega);rw [<- hcs1] at s1 g1
 have hcpA:=dK (P:=Tryz.prog) (w:=W1) (ty:=3) Tryz.underlying36 hi0 (dl:=n + 1 - i) (dc:=G - i) (o:=i * 2) hN ⟨bv,ov,none⟩ (sl:=1) (sc:=Cv) xs 1 (by simp only [Nat.min_def];split<;>omega) (by rw [hxl,hzs])
  (λj v hj=>by
   rw [Addr.add_lit];exact cJ (by rw [hO _ hvw];exact hbv) (λj hj=>hcv j (by omega)) (by omega) j v hj) h1v (by omega)
 rw [<- hcs1] at hcpA;have hN1 : (W1.setRow w.heap.size cs1).heap[w.heap.size]? = some (.cells cs1 166 (0,0)):=setRow_heap _ _ _ _ _ _ hN;obtain ⟨cs2,hcs2⟩ : ∃ c,c = (cs1.toList.take (i * 2 + 2) ++ us.drop (i * 2) ++ cs1.toList.drop (i * 2 + 2 + (us.drop (i * 2)).length)).toArray:=⟨_,rfl⟩;obtain ⟨s2,g2⟩:=bH cs1 (i * 2 + 2) (us.drop (i * 2)) (by omega);rw [<- hcs2] at s2 g2;have hbN : b≠w.heap.size:=by omega
 have hcpB:=dK (P:=Tryz.prog) (w:=(W1.setRow w.heap.size cs1).drew) (ty:=3) Tryz.underlying36 hi0 (dl:=n - i) (dc:=G - (i + 1)) (o:=i * 2 + 2) hN1 ⟨b,o + i * 2,none⟩ (sl:=n - i) (sc:=C - i) (us.drop (i * 2)) (n - i) (by simp only [Nat.min_def];split<;>omega) (by rw [hdl,hzs])
  (λj v hj=>by
   rw [Addr.add_lit]
   have hb' : (W1.setRow w.heap.size cs1).drew.heap[b]? = some (.cells cs T (0,0)):=by
    show (W1.setRow w.heap.size cs1).heap[b]? = _
    rw [setRow_other _ _ _ _ hbN,hO _ hbw];exact hb
   refine cJ hb' (o:=o + i * 2) (vs:=us.drop (i * 2)) (λj hj=>?_) (by omega) j v hj;rw [Nat.add_assoc,hcs _ (by omega)];simp [List.getD_eq_getElem?_getD])
  (λv hv=>h1 v (List.mem_of_mem_drop hv)) (by omega)
 rw [<- hcs2] at hcpB
 have hP : Placed w ((W1.setRow w.heap.size cs1).drew.setRow w.heap.size cs2) (some b) w.heap.size 0 G (n + 1) 2 (us.take (i * 2) ++ xs ++ us.drop (i * 2)):=by
  refine ⟨⟨cs2,166,setRow_heap _ _ cs1 cs2 _ (0,0) hN1,by omega,λj hj=>?_⟩,hGn,hGm,?_,?_,.inl (Nat.le_refl _),λc hc hne=>?_⟩
  ·rw [Nat.zero_add,g2,g1]
   simp only [List.getD_eq_getElem?_getD];rw [List.append_assoc];by_cases c1 : j < i * 2
   ·rw [if_neg (by omega),if_neg (by omega),List.getElem?_append_left (by omega),List.getElem?_take,if_pos c1,hRg j c1]
    simp [List.getD_eq_getElem?_getD]
   ·rw [List.getElem?_append_right (by omega),htl]
    by_cases c2 : j < i * 2 + 2
    ·rw [if_neg (by omega),if_pos (by omega),List.getElem?_append_left (by omega)]
    ·rw [if_pos (by omega),List.getElem?_append_right (by omega),List.getElem?_drop,List.getElem?_drop]
     congr 2
     omega
  ·simp [hS]
  ·rw [hW1];exact ⟨rfl,rfl,rfl⟩
  ·rw [setRow_other _ _ c _ hne]
   show (W1.setRow w.heap.size cs1).heap[c]? = _
   rw [setRow_other _ _ c _ hne,hO c hc]
 have hw1 : IntKind.i64.wrap ((i : Int) + 1) = (i : Int) + 1:=by rw [IntKind.wrap_i64];omega
 have hb1 : (0 : Int)<=(i : Int) + 1:=by omega
 have hin : i<=n:=by omega
 have htn : ((i : Int) + 1).toNat = i + 1:=by omega
 have hGi : ¬ (G = i):=by omega
 have hGim : ¬ (G = i + 1):=by omega
 have hci : ¬ (C = i):=by omega
 have hb3 : (i : Int)<=(n : Int):=by omega
 clear hkk hik hold hROW hG hcs1 hcs2 hN hN1 hO hS hRs hRg hW1
 go_enter Tryz.func177,Tryz.ntmps177
 go_wp2_with (first
  | (at_builtin;refine Lib.wpList_append_run _ rfl _ _ _ _ rfl _ _ rfl rfl _ _ (hrz _) ?_)
  | (at_builtin;refine gR _ rfl _ _ 36 36 rfl _ _ rfl rfl hcpA ?_))
 go_region
 go_wp2
 go_ret
 all_goals exact ⟨_,rfl,hP⟩
theorem su : rn Tryz.prog 177 2 nv.bytes:=by
 refine ⟨⟨_,Tryz.func177,by kernel_rfl,by kernel_rfl⟩,λw us xs n i s v ob bv0 hul hxl hi hbig hs hv hap=>?_⟩;obtain ⟨i0,z0,hi0,hzs,hzb,hz0,hzc,-⟩:=(ae 166 _ ru).info;have hzz:=fk hzc;have hzs : i0.size = 2:=hzs;have hzb : i0.bytes = nv.bytes:=hzb;have hby : 0 < nv.bytes:=by decide
 have hzz : z0.cells.size = 2:=hzz;have hnb : (n + 1)<=140737488355328:=Nat.le_trans (Nat.le_mul_of_pos_right _ hby) hbig;rcases hv with ⟨h0,-⟩ | ⟨bv,ov,Cv,cv,Tv,rfl,rfl,hbv,hCv,hCvm,hfv,hcv,h1v⟩
 ·omega
 have hcellv : ∀ j v,xs[j]? = some v->w.cell? (Addr.add ⟨bv,ov,none⟩ j) = some v:=λj v hj=>by
  rw [Addr.add_lit];exact cJ hbv (λj hj=>hcv j (by omega)) (by omega) j v hj
 have fresh : ∀ (C0 nC : Nat) (rest : Array Value) (ob : Option Nat),n + 1 <= nC -> nC <= maxLen -> rest.size = (nC - (n + 1)) * 2 ->
  Placed w (w.drew.alloc (.cells (us.toArray ++ xs.toArray ++ rest) 166)) ob w.heap.size 0 nC (n + 1) 2 (us.take (n * 2) ++ xs ++ us.drop (n * 2)):=by
  intro C0 nC rest ob h1 h2 h3;have e : nC * 2 = n * 2 + 2 + (nC - (n + 1)) * 2:=by rw [<- Nat.succ_mul,<- Nat.add_mul];congr 1;omega
  refine ⟨⟨_,_,jk w.drew _,by simp [hul,hxl,h3];omega,λj hj=>?_⟩,h1,h2,by simp,⟨rfl,rfl,rfl⟩,.inl (Nat.le_refl _),λc hc _=>it w.drew _ hc⟩;rw [List.take_of_length_le (by omega),List.drop_eq_nil_of_le (by omega),List.append_nil,Nat.zero_add];have e2 : (n + 1) * 2 = n * 2 + 2:=Nat.succ_mul n 2;simp only [Array.getD_eq_getD_getElem?,List.getD_eq_getElem?_getD];rw [Array.getElem?_append_left (by simp;omega),List.append_toArray,List.getElem?_toArray]
 rcases hs with ⟨rfl,rfl,a,rfl⟩ | ⟨b,o,C,cs,T,rfl,rfl,hb,hnC,hCm,hfit,hcs,h1⟩
 ·obtain rfl : i = 0:=by omega
  have hun : us = []:=List.eq_nil_of_length_eq_zero (by omega);subst hun;have hrun:=λty=>fp (P:=Tryz.prog) (w:=w) (ty:=ty) Tryz.underlying36 hi0 hz0 a ⟨bv,ov,none⟩ 1 Cv xs (by rw [hxl,hzs]) hcellv (by omega) (by omega) (by rw [hzb];omega)
  refine (kZ w a 0 0 bv ov Cv _ _ (Nat.le_refl _) (by unfold maxLen;omega) hrun).mono ?_
  rintro e w' ⟨rfl,rfl⟩
  have hge:=grownCap_ge w 1 0 166;have hcm:=grownCap_le_maxLen w 1 0 166 (by unfold maxLen;omega);refine ⟨_,_,_,rfl,?_⟩;have:=fresh 0 (grownCap w 1 0 166) (Builtin.zeroCells z0.cells (grownCap w 1 0 166 - 1)) none hge hcm (by rw [cf,hzz])
  simpa using this
 ·by_cases hin : i = n
  ·subst hin
   by_cases hroom : i + 1<=C
   ·have hmm : (i + 1) * 2<=C * 2:=Nat.mul_le_mul_right _ hroom
    have e2 : (i + 1) * 2 = i * 2 + 2:=Nat.succ_mul i 2;have hrun:=λty=>Go.AM.run_append_room (P:=Tryz.prog) (ty:=ty) (c:=Cv) (n:=i) (m:=1) Tryz.underlying36 hi0 hb ⟨bv,ov,none⟩ xs (by rw [hxl,hzs]) hcellv h1v hroom (by rw [hzs];exact hfit)
    refine (kZ w _ i C bv ov Cv _ _ hnC hCm hrun).mono ?_
    rintro e w' ⟨rfl,rfl⟩
    obtain ⟨g0,g⟩:=bH cs (o + i * i0.size) xs (by rw [hzs];omega);refine ⟨_,_,_,rfl,⟨_,_,setRow_heap w b cs _ T (0,0) hb,by rw [g0];exact hfit,λj hj=>?_⟩,hroom,hCm,by simp,⟨rfl,rfl,rfl⟩,.inr rfl,λc _ hc=>setRow_other w b c _ hc⟩;rw [g,hzs,List.take_of_length_le (by omega),List.drop_eq_nil_of_le (by omega),List.append_nil];by_cases c1 : j < i * 2
    ·rw [if_neg (by omega),hcs j c1]
     simp only [List.getD_eq_getElem?_getD];rw [List.getElem?_append_left (by omega)]
    ·rw [if_pos (by omega)]
     simp only [List.getD_eq_getElem?_getD];rw [List.getElem?_append_right (by omega)]
     congr 2
     omega
   ·have hrun:=λty=>run_append_grow (P:=Tryz.prog) w 36 ty 166 i0 z0 Tryz.underlying36 hi0 hz0 ⟨b,o,none⟩ i C us (by rw [hzs];exact hul) (λj v hj=>by
     rw [Addr.add_lit];have:=Nat.mul_le_mul_right 2 hnC;exact cJ hb (λj hj=>hcs j (by omega)) (by omega) j v hj) ⟨bv,ov,none⟩ 1 Cv xs (by rw [hxl,hzs]) hcellv (by omega) (by omega) (by rw [hzb];exact growslice_fits (by omega) hbig)
    refine (kZ w _ i C bv ov Cv _ _ hnC hCm hrun).mono ?_
    rintro e w' ⟨rfl,rfl⟩
    have hge:=grownCap_ge w (i + 1) C 166;have hcm:=grownCap_le_maxLen w (i + 1) C 166 (by unfold maxLen;omega);exact ⟨_,_,_,rfl,fresh C _ _ _ hge hcm (by rw [cf,hzz])⟩
  ·by_cases hroom : n + 1<=C
   ·refine (sr w us xs n i b o C bv ov Cv cs cv T Tv hul hxl (by omega) hroom hCm hb hfit hcs h1 hbv hCv hfv (λj hj=>hcv j (by omega)) h1v (λh=>hap b rfl (by rw [h]))).mono ?_
    rintro e w' ⟨rfl,hp⟩
    exact ⟨_,_,_,rfl,hp⟩
   ·refine (t5 w us xs n i b o C bv ov Cv cs cv T Tv hul hxl (by omega) hnC (by omega) hbig hb hfit hcs h1 hbv hCv hfv (λj hj=>hcv j (by omega)) h1v).mono ?_
    rintro e w' ⟨nC,rfl,hp⟩
    exact ⟨_,_,_,rfl,hp⟩
open Go.AM
set_option maxRecDepth 20000
set_option maxHeartbeats 12800000
theorem rQ {l : List Queue} (hp : l.Pairwise iP) {name : ByteArray} (i : Nat) (hi : i < l.length) (h : l[i].doc = name) : aN name l = i:=by
 have hon:=λ{k : Nat} h1 h2=>jX (name:=name) (l:=l) (k:=k) h1 h2
 rcases Nat.lt_trichotomy (aN name l) i with hlt | e | hgt
 ·have h1:=List.pairwise_iff_getElem.1 hp (aN name l) i (by omega) hi hlt
  have h2:=(hon (Nat.le_refl _) (by omega)).1 (by unfold iP at h1;rw [h] at h1;exact h1);omega
 ·exact e
 ·have:=(hon (by omega) hi).2 hgt
  rw [h] at this;exact absurd this (kU name)
theorem sB (w : Wld) (hl : fZ w<=2 ^ 30) (k : Nat) (hy : (d5 w k).2 = true) : di Tryz.prog 15 [.agg w.row,.c (vi k)] (λrr=>rr = .tup [.agg (d5 w k).1.res,.c (.v (.bool true)) 1]):=by
 have c0 : ar w/\¬ w.step = 1000000/\(0<=(k : Int)/\(k : Int)<=(w.tasks.length : Int) - 1):=Classical.byContradiction λc=>by rw [ix c] at hy;simp at hy
 obtain ⟨c1,hs,-,hk⟩:=c0;have hk : k < w.tasks.length:=by omega
 have hab:=(f3 c1 hs hk).1 hy;have hat:=jp c1 hs hk;have hwo:=fI w (by omega);have hcp:=jN w (by omega);have hao:=nM w (by omega) c1 k hk;obtain ⟨nh,n2,n3,n4⟩:=cB hl;have hle:=aK n4;have hlq:=aK n3;have hhb:=(eb c1.2.1).1;have htk:=(c1.1 _ (List.getElem_mem hk))
 obtain ⟨t,ht⟩ : ∃ t,w.tasks[k] = t:=⟨_,rfl⟩;rw [ht] at htk hab hat hao;have hm:=λg=>mU (f:=Task.row) hk ht g
 have hs1:=mL t.c.doc c1.2.2.1.1;have hdsz:=htk.1.2.1;have ew : Go.IntKind.i64.wrap (w.step + 1) = w.step + 1:=Go.IntWalk.i64_in _ (by have:=c1.2.2.2.2.1;omega);rw [hat] at hy ⊢;refine xp ae Tryz.func15 (by kernel_rfl) rfl rfl rfl (Nat.le_of_ble_eq_true rfl) (λw0 base o=>?_);simp [Wld.row];intro b2 b4;refine aa.ro hwo (by simp [Wld.row]) ?_;simp [c1];refine aa.ro hao (by simp [Wld.row]) ?_;simp [hs,hab];refine aa.pure hcp (by simp [Wld.row]) ?_;simp [Wld.res,hk];intro H1 H2 H3 H4 H5 b6;refine au.quiet eok mix (by kernel_rfl) ?_;simp [hk,ht,Task.row];refine ⟨_,_,ld t.c.doc (by omega) w.locks.length (by omega) (by omega),by simp,?_⟩;simp;have hs2:=hs1.2;have hdo:=yJ w.h (by omega) t.c (by have:=jt htk.1;omega);by_cases p0 : t.pc = 0
 ·simp [p0,hk,ht,Task.row]
  refine aa.ro (aQ t.c.kind) (by simp) ?_;by_cases d : aM t.c.kind
  ·rw [fg p0 d (hab.1 ⟨p0,d⟩)]
   simp [d,hs2,hm,hk,Task.row,ew]
  ·rw [fh p0 d]
   simp [ab d,hk,ht,Task.row,p0];generalize hR : fDo w.h t.c = R at hdo;obtain ⟨h',a'⟩:=R;refine inl ae Tryz.func79 50000 (λw3 F3=>?_);simp [hk];refine au.freeze 321 (H:=H1) (sz:=5) (rs:=w.h.docs.map Doc.row) (own:=true) (by simp) ?_;simp;refine au.freeze 322 (H:=H2) (sz:=6) (rs:=w.h.subs.map Sub.row) (own:=true) (by simp) ?_;simp;refine drw eok mix [0,1,2,3,4,5,6,7,8,9,14,15,17,18] [10,11,12,13,16,19] (.c 14 10 272 16111 (.c 14 11 0 16111 (.c 14 12 0 16111 (.c 14 13 0 16111 (.c 14 16 12004 4107 (.c 14 19 4105 2 (.l 14 2) .s) .s) .s) .s) .s) .s) ?_;simp [hk,ht,Task.row]
   try intros
   refine cH hdo (by simp [Hub.row,Call.row]) ?_;rintro _ rfl;simp [Hub.res,Answer.res,hk,Task.row,hm,dY]
   try intros
   simp [ew,bQ,jL,hR,Task.row]
 by_cases p1 : t.pc = 1
 ·rw [d4 p1]
  simp [p1,hs2,hk,ht,Task.row];have hdoc:=dm w.h (by omega) t.c.doc;obtain ⟨q0,hq0⟩ : ∃ q : Prop,q = (¬ t.c.kind = 2\/w.h.shut = true\/az w.h.docs t.c.doc < 0):=⟨_,rfl⟩;by_cases q : q0
  ·rw [gJ (by rw [<- hq0];exact q)]
   refine gb (λ_ : Unit=>[(89,.v (.bool (dc q0)))]) (λ_=>[]) [1,4,6,7] ?_ ?_
   ·by_cases q1 : t.c.kind = 2
    ·cases q2 : w.h.shut with
     | true =>
       have hq : q0:=by rw [hq0];exact .inr (.inl q2)
       refine au.quiet eok mix (by kernel_rfl) ?_;simp [hk,ht,Task.row,q1,hq]
     | false =>
       have hq : q0 ↔ az w.h.docs t.c.doc < 0:=by rw [hq0,q1,q2];simp
       refine au.quiet eok mix (by kernel_rfl) ?_;simp [hk,ht,Task.row,q1];refine ⟨_,_,hdoc,by simp [Hub.row,q2],?_⟩;simp [hq]
    ·have hq : q0:=by rw [hq0];exact .inl q1
     refine au.quiet eok mix (by kernel_rfl) ?_;simp [hk,ht,Task.row,q1,hq]
   intro _;simp [q];generalize hR : fDo w.h t.c = R at hdo;obtain ⟨h',a'⟩:=R;refine inl ae Tryz.func79 50000 (λw3 F3=>?_);simp [hk];refine au.freeze 321 (H:=H1) (sz:=5) (rs:=w.h.docs.map Doc.row) (own:=true) (by simp) ?_;simp;refine au.freeze 322 (H:=H2) (sz:=6) (rs:=w.h.subs.map Sub.row) (own:=true) (by simp) ?_;simp;refine drw eok mix [0,1,2,3,4,5,6,7,8,9,14,15,17,18] [10,11,12,13,16,19] (.c 14 10 272 16111 (.c 14 11 0 16111 (.c 14 12 0 16111 (.c 14 13 0 16111 (.c 14 16 12004 4107 (.c 14 19 4105 2 (.l 14 2) .s) .s) .s) .s) .s) .s) ?_;simp [hk,ht,Task.row]
   try intros
   refine cH hdo (by simp [Hub.row,Call.row]) ?_;rintro _ rfl;simp [Hub.res,Answer.res,hk,Task.row,hm,dY]
   try intros
   simp [ew,bQ,jL,hR,Task.row]
  have q' : ¬ (¬ t.c.kind = 2\/w.h.shut = true\/az w.h.docs t.c.doc < 0):=by rw [<- hq0];exact q
  have hal:=nF t.c.doc w.queues;have hon:=λ{k : Nat} h1 h2=>jX (name:=t.c.doc) (l:=w.queues) (k:=k) h1 h2
  have hpw:=(kW.1 c1.2.2.2.2.2.2.2).ord;have hsame : ∀ i,∀ hi : i < w.queues.length,w.queues[i].doc = t.c.doc->aN t.c.doc w.queues = i:=rQ hpw;have hi1 : ∀ x : Int,ao x = [CD.v (.int .i64 x)]:=λ_=>rfl
  rcases cz w.queues t.c.doc with ⟨i,hi,eq,hd⟩ | eq
  ·have ha:=hsame i hi hd
   by_cases fl : w.queues[i].list.length = 2
   ·rw [iU q' hi eq fl]
    refine gb (λ_ : Unit=>[(89,.v (.bool (dc q0)))]) (λ_=>[]) [1,4,6,7] ?_ ?_
    ·by_cases q1 : t.c.kind = 2
     ·cases q2 : w.h.shut with
      | true =>
        have hq : q0:=by rw [hq0];exact .inr (.inl q2)
        refine au.quiet eok mix (by kernel_rfl) ?_;simp [hk,ht,Task.row,q1,hq]
      | false =>
        have hq : q0 ↔ az w.h.docs t.c.doc < 0:=by rw [hq0,q1,q2];simp
        refine au.quiet eok mix (by kernel_rfl) ?_;simp [hk,ht,Task.row,q1];refine ⟨_,_,hdoc,by simp [Hub.row,q2],?_⟩;simp [hq]
     ·have hq : q0:=by rw [hq0];exact .inl q1
      refine au.quiet eok mix (by kernel_rfl) ?_;simp [hk,ht,Task.row,q1,hq]
    intro _;simp [ab q];refine inl ae Tryz.func81 30000 (λw3 F3=>?_);simp [hk,ht,Task.row]
    refine ah eok (λm : Nat=>m<=aN t.c.doc w.queues) (λm=>⟨96,30000,[(6,.v (.int .i64 m)),(5,.v (.string t.c.doc)),(0,.p 96 b6 0),(1,.v (.int .i64 k))],
     (324,.rows H3 1 ((w.locks.map ao).set (bc t.c.doc w.locks.length) [.v (.int .i64 (-1))]) true) :: (96,.vars b6 39 [.v (.bool w.h.shut),.sl 321 H1 5 0 w.h.docs.length,.sl 322 H2 6 0 w.h.subs.length,.v (.int .i64 w.h.last),.sl 324 H3 1 0 w.locks.length,.sl 325 H4 2 0 w.queues.length,.sl 326 H5 15 0 w.tasks.length,.v (.int .i64 w.step)]) ::  (326,.rows H5 15 (w.tasks.map Task.row) true) :: (325,.rows H4 2 (w.queues.map Queue.row) true) :: (322,.rows H2 6 (w.h.subs.map Sub.row) true) :: (321,.rows H1 5 (w.h.docs.map Doc.row) true) :: (64,.vars b4 39 [.v (.bool false),.nil,.nil,.v (.int .i64 0),.nil,.nil,.nil,.v (.int .i64 0)]) ::  phs o⟩) (λm=>w.queues.length - m) 0 (by simp) (by simp) (λm hmm=>Ent.refl ?_)
    by_cases hlt : m < w.queues.length
    rotate_left
    ·exfalso;omega
    obtain ⟨x,hx⟩ : ∃ x,w.queues[m] = x:=⟨_,rfl⟩;have hiff:=hon hmm hlt;rw [hx] at hiff;simp [hlt,hx,Queue.row];by_cases s : sLt x.doc t.c.doc
    ·simp [s]
     exact Ent.refl ⟨m + 1,by have:=hiff.1 s;omega,by omega,by simp;exact ag (by omega)⟩
    have hma : m = i:=by
     have : ¬ m < aN t.c.doc w.queues:=λh=>s (hiff.2 h)
     omega
    subst hma;have hmne : ¬ (m : Int) = w.queues.length:=by omega
    rw [hx] at fl hd;simp [hmne,hlt,hx,hd,fl,Queue.row,ab (kU t.c.doc),hk,hm,dY,bQ,ew,Task.row,hi1]
   ·have hqa:=(Classical.byContradiction (p:=fO w.h w.queues i) λhn=>il hi (ic hi hn) c1.2.2.2.2.2.2.2) hi
    have hpos : 0 < w.queues[i].list.length:=hqa.2.1.1;have hle2:=hqa.2.1.2;have hrow : ∀ d,jB (w.queues.map Queue.row) i 1 d = (w.queues.map Queue.row).set i [.v (.string w.queues[i].doc),d]:=λd=>mU (f:=Queue.row) hi rfl _
    rw [iT q' hi eq fl]
    refine au.weak (⟨125,0,[(1,.v (.int .i64 k)),(4,.p 64 b4 0),(6,.p 96 b6 0),(7,.e 326 H5 15 k 0)],
     (324,.rows H3 1 ((w.locks.map ao).set (bc t.c.doc w.locks.length) [.v (.int .i64 (-1))]) true) :: (96,.vars b6 39 [.v (.bool w.h.shut),.sl 321 H1 5 0 w.h.docs.length,.sl 322 H2 6 0 w.h.subs.length,.v (.int .i64 w.h.last),.sl 324 H3 1 0 w.locks.length,.sl 325 H4 2 0 w.queues.length,.sl 326 H5 15 0 w.tasks.length,.v (.int .i64 w.step)]) :: (326,.rows H5 15 (w.tasks.map Task.row) true) :: (325,.rows H4 2 (w.queues.map Queue.row) true) :: (322,.rows H2 6 (w.h.subs.map Sub.row) true) :: (321,.rows H1 5 (w.h.docs.map Doc.row) true) :: (64,.vars b4 39 [.v (.bool false),.nil,.nil,.v (.int .i64 0),.nil,.nil,.nil,.v (.int .i64 0)]) :: phs o⟩) (by simp) ?_
    refine au.open (λ_ h=>h) (k:=325) (i:=i) (j:=1) (k':=60000) (sz':=1) (sz:=2) (H:=H4) (rows:=w.queues.map Queue.row) (srows:=w.queues[i].list.map ao) (row:=w.queues[i].row) (by simp) (by simp [hi]) rfl (by simp) (by decide) (by simp [ao]) (by simp [ASt.quiet,qT,qH,AV.q,AV.qL,AObj.q]) (λG=>?_);simp only [hrow];refine gb (λ_ : Unit=>[(89,.v (.bool (dc q0)))]) (λ_=>[]) [1,4,6,7] ?_ ?_
    ·by_cases q1 : t.c.kind = 2
     ·cases q2 : w.h.shut with
      | true =>
        have hq : q0:=by rw [hq0];exact .inr (.inl q2)
        refine au.quiet eok mix (by kernel_rfl) ?_;simp [hk,ht,Task.row,q1,hq]
      | false =>
        have hq : q0 ↔ az w.h.docs t.c.doc < 0:=by rw [hq0,q1,q2];simp
        refine au.quiet eok mix (by kernel_rfl) ?_;simp [hk,ht,Task.row,q1];refine ⟨_,_,hdoc,by simp [Hub.row,q2],?_⟩;simp [hq]
     ·have hq : q0:=by rw [hq0];exact .inl q1
      refine au.quiet eok mix (by kernel_rfl) ?_;simp [hk,ht,Task.row,q1,hq]
    intro _;simp [ab q];refine inl ae Tryz.func81 30000 (λw3 F3=>?_);simp [hk,ht,Task.row]
    refine ah eok (λm : Nat=>m<=aN t.c.doc w.queues) (λm=>⟨96,30000,[(6,.v (.int .i64 m)),(5,.v (.string t.c.doc)),(0,.p 96 b6 0),(1,.v (.int .i64 k))],
     (324,.rows H3 1 ((w.locks.map ao).set (bc t.c.doc w.locks.length) [.v (.int .i64 (-1))]) true) :: (96,.vars b6 39 [.v (.bool w.h.shut),.sl 321 H1 5 0 w.h.docs.length,.sl 322 H2 6 0 w.h.subs.length,.v (.int .i64 w.h.last),.sl 324 H3 1 0 w.locks.length,.sl 325 H4 2 0 w.queues.length,.sl 326 H5 15 0 w.tasks.length,.v (.int .i64 w.step)]) :: (60000,.rows G 1 (w.queues[i].list.map ao) true) :: (326,.rows H5 15 (w.tasks.map Task.row) true) :: (325,.rows H4 2 ((w.queues.map Queue.row).set i [.v (.string w.queues[i].doc),.h 60000 G 1 w.queues[i].list.length]) true) :: (322,.rows H2 6 (w.h.subs.map Sub.row) true) :: (321,.rows H1 5 (w.h.docs.map Doc.row) true) :: (64,.vars b4 39 [.v (.bool false),.nil,.nil,.v (.int .i64 0),.nil,.nil,.nil,.v (.int .i64 0)]) ::  phs o⟩) (λm=>w.queues.length - m) 0 (by simp) (by simp) (λm hmm=>Ent.refl ?_)
    by_cases hlt : m < w.queues.length
    rotate_left
    ·exfalso;omega
    by_cases hmi : m = i
    rotate_left
    ·have hne : ¬ i = m:=λh=>hmi h.symm
     have s : sLt w.queues[m].doc t.c.doc:=(hon hmm hlt).2 (by omega);simp [hlt,Queue.row,hne,s];exact Ent.refl ⟨m + 1,by omega,by omega,by simp;exact ag (by omega)⟩
    subst hmi;have hmne : ¬ (m : Int) = w.queues.length:=by omega
    have fl' : ¬ (w.queues[m].list.length : Int) = 2:=by omega
    simp [hlt,hd,ab (kU t.c.doc),hmne,fl'];refine drw eok mix [0,1,2,3,4,5,6,7,8,9,10,11,12,13,16,17] [14,15,18] (.c 16 14 4 65531 (.c 16 15 8 65523 (.c 16 18 65521 2 (.l 16 2) .s) .s) .s) ?_;simp [hlt,hpos,dY]
    try intros
    simp [Queue.row,hk,hm,bQ,ew,Task.row,hi1];omega
  ·rw [iA q' eq]
   refine au.weak (⟨125,0,[(1,.v (.int .i64 k)),(4,.p 64 b4 0),(6,.p 96 b6 0),(7,.e 326 H5 15 k 0)],
    (324,.rows H3 1 ((w.locks.map ao).set (bc t.c.doc w.locks.length) [.v (.int .i64 (-1))]) true) :: (96,.vars b6 39 [.v (.bool w.h.shut),.sl 321 H1 5 0 w.h.docs.length,.sl 322 H2 6 0 w.h.subs.length,.v (.int .i64 w.h.last),.sl 324 H3 1 0 w.locks.length,.sl 325 H4 2 0 w.queues.length,.sl 326 H5 15 0 w.tasks.length,.v (.int .i64 w.step)]) :: (326,.rows H5 15 (w.tasks.map Task.row) true) :: (325,.rows H4 2 (w.queues.map Queue.row) true) :: (322,.rows H2 6 (w.h.subs.map Sub.row) true) :: (321,.rows H1 5 (w.h.docs.map Doc.row) true) :: (64,.vars b4 39 [.v (.bool false),.nil,.nil,.v (.int .i64 0),.nil,.nil,.nil,.v (.int .i64 0)]) :: phs o⟩) (by simp) ?_
   refine gb (λ_ : Unit=>[(89,.v (.bool (dc q0)))]) (λ_=>[]) [1,4,6,7] ?_ ?_
   ·by_cases q1 : t.c.kind = 2
    ·cases q2 : w.h.shut with
     | true =>
       have hq : q0:=by rw [hq0];exact .inr (.inl q2)
       refine au.quiet eok mix (by kernel_rfl) ?_;simp [hk,ht,Task.row,q1,hq]
     | false =>
       have hq : q0 ↔ az w.h.docs t.c.doc < 0:=by rw [hq0,q1,q2];simp
       refine au.quiet eok mix (by kernel_rfl) ?_;simp [hk,ht,Task.row,q1];refine ⟨_,_,hdoc,by simp [Hub.row,q2],?_⟩;simp [hq]
    ·have hq : q0:=by rw [hq0];exact .inl q1
     refine au.quiet eok mix (by kernel_rfl) ?_;simp [hk,ht,Task.row,q1,hq]
   intro _;simp [ab q];refine uw ae Tryz.func81 (by kernel_rfl) rfl rfl rfl (Nat.le_of_ble_eq_true rfl) 30000 rfl (by simp) ?_;simp [hk,ht,Task.row]
   refine ah eok (λm : Nat=>m<=aN t.c.doc w.queues) (λm=>⟨96,30000,[(6,.v (.int .i64 m)),(5,.v (.string t.c.doc)),(0,.p 96 b6 0),(1,.v (.int .i64 k))],
    (324,.rows H3 1 ((w.locks.map ao).set (bc t.c.doc w.locks.length) [.v (.int .i64 (-1))]) true) :: (96,.vars b6 39 [.v (.bool w.h.shut),.sl 321 H1 5 0 w.h.docs.length,.sl 322 H2 6 0 w.h.subs.length,.v (.int .i64 w.h.last),.sl 324 H3 1 0 w.locks.length,.sl 325 H4 2 0 w.queues.length,.sl 326 H5 15 0 w.tasks.length,.v (.int .i64 w.step)]) ::  (326,.rows H5 15 (w.tasks.map Task.row) true) :: (325,.rows H4 2 (w.queues.map Queue.row) true) :: (322,.rows H2 6 (w.h.subs.map Sub.row) true) :: (321,.rows H1 5 (w.h.docs.map Doc.row) true) :: (64,.vars b4 39 [.v (.bool false),.nil,.nil,.v (.int .i64 0),.nil,.nil,.nil,.v (.int .i64 0)]) ::  phs o⟩) (λm=>w.queues.length - m) 0 (by simp) (by simp) (λm hmm=>Ent.refl ?_)
   have hnone : ∀ j,∀ hj : j < w.queues.length,¬ w.queues[j].doc = t.c.doc:=by
    rcases eF (λq : Queue=>q.doc = t.c.doc) w.queues with ⟨j,hj,e,-⟩ | ⟨-,hn⟩
    ·have e' : bK w.queues t.c.doc = j:=e
     omega
    ·exact hn
   generalize aN t.c.doc w.queues = a at hal hon hmm;by_cases hlt : m < w.queues.length
   ·obtain ⟨x,hx⟩ : ∃ x,w.queues[m] = x:=⟨_,rfl⟩
    have hiff:=hon hmm hlt;have hxn:=hnone m hlt;rw [hx] at hiff hxn;simp [hlt,hx,Queue.row];by_cases s : sLt x.doc t.c.doc
    ·simp [s]
     exact Ent.refl ⟨m + 1,by have:=hiff.1 s;omega,by omega,by simp;exact ag (by omega)⟩
    have hka : m = a:=by
     have : ¬ m < a:=λh=>s (hiff.2 h)
     omega
    subst hka;have hmn : min m w.queues.length = m:=by omega
    have hmne : ¬ (m : Int) = w.queues.length:=by omega
    simp [ab s,hmne,hxn,hlt,hx,Queue.row];intro b65;refine fA su (by decide) (n:=w.queues.length) (rows:=w.queues.map Queue.row) (row:=[.v (.string t.c.doc),.s []]) (k:=325) (kv:=31024) (own:=true) (ownv:=true) (i:=m) (by simp) (by simp) (by simp) (by decide) (by simp;try omega) (by simp;omega) (λH6=>?_);obtain ⟨Z,hZ⟩ : ∃ Z,Z = (w.queues.map Queue.row).take m ++ [.v (.string t.c.doc),.s []] :: (w.queues.map Queue.row).drop m:=⟨_,rfl⟩;have hZl : Z.length = w.queues.length + 1:=by subst hZ;simp;try omega
    have hZm : m < Z.length:=by omega
    have hZe : Z[m] = [.v (.string t.c.doc),.s []]:=by subst hZ;rw [List.getElem_append_right (by rw [List.length_take];exact Nat.min_le_left _ _)];simp [Nat.min_eq_left hal]
    have hZs : ∀ d,jB Z m 1 d = Z.set m [.v (.string t.c.doc),d]:=λd=>by have:=mU (f:=λx : List CD=>x) hZm hZe (λrow=>row.set 1 d);rw [List.map_id'] at this;exact this
    have hZt : ∀ r,Z.set m r = (w.queues.map Queue.row).take m ++ r :: (w.queues.map Queue.row).drop m:=λr=>by subst hZ;rw [List.set_append_right _ _ (by rw [List.length_take];exact Nat.min_le_left _ _)];simp [Nat.min_eq_left hal]
    rw [<- hZ];have hml : (m : Int) < (w.queues.length : Int) + 1:=by omega
    have hml2 : m < w.queues.length + 1:=by omega
    simp [hZl,hZe,hml,hml2]
    refine au.weak (⟨96,30000,[(6,.v (.int .i64 (m : Nat))),(0,.p 96 b6 0),(1,.v (.int .i64 k))],
     (324,.rows H3 1 ((w.locks.map ao).set (bc t.c.doc w.locks.length) [.v (.int .i64 (-1))]) true) :: (96,.vars b6 39 [.v (.bool w.h.shut),.sl 321 H1 5 0 w.h.docs.length,.sl 322 H2 6 0 w.h.subs.length,.v (.int .i64 w.h.last),.sl 324 H3 1 0 w.locks.length,.sl 325 H6 2 0 (w.queues.length + 1),.sl 326 H5 15 0 w.tasks.length,.v (.int .i64 w.step)]) :: (326,.rows H5 15 (w.tasks.map Task.row) true) :: (325,.rows H6 2 Z true) :: (322,.rows H2 6 (w.h.subs.map Sub.row) true) :: (321,.rows H1 5 (w.h.docs.map Doc.row) true) :: (64,.vars b4 39 [.v (.bool false),.nil,.nil,.v (.int .i64 0),.nil,.nil,.nil,.v (.int .i64 0)]) :: phs o⟩) (by simp) ?_
    refine au.open (λ_ h=>h) (k:=325) (i:=m) (j:=1) (k':=60000) (sz':=1) (sz:=2) (H:=H6) (rows:=Z) (srows:=[]) (row:=[.v (.string t.c.doc),.s []]) (by simp) (by rw [List.getElem?_eq_getElem hZm,hZe]) rfl (by simp) (by decide) (by simp) (by simp [ASt.quiet,qT,qH,AV.q,AV.qL,AObj.q]) (λG=>?_);simp only [hZs];refine drw eok mix [0,1,2,3,4,5,6,7,8,9,10,11,12,13,16,17] [14,15,18] (.c 16 14 4 65531 (.c 16 15 8 65523 (.c 16 18 65521 2 (.l 16 2) .s) .s) .s) ?_;simp [hZl,hml,hml2,dY,Hx]
    try intros
    simp [hk,hm,bQ,ew,Task.row,hi1,hZt,Queue.row]
    all_goals rw [List.take_of_length_le (by simp),List.drop_eq_nil_of_le (by simp)]
   have hka : m = w.queues.length:=by omega
   have hka2 : a = w.queues.length:=by omega
   subst hka2;subst hka;simp;intro b65;refine fA su (by decide) (n:=w.queues.length) (rows:=w.queues.map Queue.row) (row:=[.v (.string t.c.doc),.s []]) (k:=325) (kv:=31024) (own:=true) (ownv:=true) (i:=w.queues.length) (by simp) (by simp) (by simp) (by decide) (by simp;try omega) (by simp;omega) (λH6=>?_);obtain ⟨Z,hZ⟩ : ∃ Z,Z = (w.queues.map Queue.row).take w.queues.length ++ [.v (.string t.c.doc),.s []] :: (w.queues.map Queue.row).drop w.queues.length:=⟨_,rfl⟩;have hZl : Z.length = w.queues.length + 1:=by subst hZ;simp;try omega
   have hZm : w.queues.length < Z.length:=by omega
   have hZe : Z[w.queues.length] = [.v (.string t.c.doc),.s []]:=by subst hZ;rw [List.getElem_append_right (by rw [List.length_take];exact Nat.min_le_left _ _)];simp [Nat.min_eq_left hal]
   have hZs : ∀ d,jB Z w.queues.length 1 d = Z.set w.queues.length [.v (.string t.c.doc),d]:=λd=>by have:=mU (f:=λx : List CD=>x) hZm hZe (λrow=>row.set 1 d);rw [List.map_id'] at this;exact this
   have hZt : ∀ r,Z.set w.queues.length r = (w.queues.map Queue.row).take w.queues.length ++ r :: (w.queues.map Queue.row).drop w.queues.length:=λr=>by subst hZ;rw [List.set_append_right _ _ (by rw [List.length_take];exact Nat.min_le_left _ _)];simp [Nat.min_eq_left hal]
   rw [<- hZ];have hml : (w.queues.length : Int) < (w.queues.length : Int) + 1:=by omega
   have hml2 : w.queues.length < w.queues.length + 1:=by omega
   simp [hZl,hZe,hml,hml2]
   refine au.weak (⟨96,30000,[(6,.v (.int .i64 (w.queues.length : Nat))),(0,.p 96 b6 0),(1,.v (.int .i64 k))],
    (324,.rows H3 1 ((w.locks.map ao).set (bc t.c.doc w.locks.length) [.v (.int .i64 (-1))]) true) :: (96,.vars b6 39 [.v (.bool w.h.shut),.sl 321 H1 5 0 w.h.docs.length,.sl 322 H2 6 0 w.h.subs.length,.v (.int .i64 w.h.last),.sl 324 H3 1 0 w.locks.length,.sl 325 H6 2 0 (w.queues.length + 1),.sl 326 H5 15 0 w.tasks.length,.v (.int .i64 w.step)]) :: (326,.rows H5 15 (w.tasks.map Task.row) true) :: (325,.rows H6 2 Z true) :: (322,.rows H2 6 (w.h.subs.map Sub.row) true) :: (321,.rows H1 5 (w.h.docs.map Doc.row) true) :: (64,.vars b4 39 [.v (.bool false),.nil,.nil,.v (.int .i64 0),.nil,.nil,.nil,.v (.int .i64 0)]) :: phs o⟩) (by simp) ?_
   refine au.open (λ_ h=>h) (k:=325) (i:=w.queues.length) (j:=1) (k':=60000) (sz':=1) (sz:=2) (H:=H6) (rows:=Z) (srows:=[]) (row:=[.v (.string t.c.doc),.s []]) (by simp) (by rw [List.getElem?_eq_getElem hZm,hZe]) rfl (by simp) (by decide) (by simp) (by simp [ASt.quiet,qT,qH,AV.q,AV.qL,AObj.q]) (λG=>?_);simp only [hZs];refine drw eok mix [0,1,2,3,4,5,6,7,8,9,10,11,12,13,16,17] [14,15,18] (.c 16 14 4 65531 (.c 16 15 8 65523 (.c 16 18 65521 2 (.l 16 2) .s) .s) .s) ?_;simp [hZl,hml,hml2,dY,Hx]
   try intros
   simp [hk,hm,bQ,ew,Task.row,hi1,hZt,Queue.row]
   all_goals rw [List.take_of_length_le (by simp),List.drop_eq_nil_of_le (by simp)]
 have p3 : t.pc = 3:=by
  have h1:=htk.2.2.1;have h2:=hab.2;omega
 rw [ff p3];simp [p3,hm,dY,Task.row,hk,ht,ew]
theorem IV (p : Int) {n : Int} (h : 0 < n) : (p.tmod n + n).tmod n = p % n:=by
 have h0 : 0<=p.tmod n + n:=by
  have:=Int.lt_tmod_of_pos p h;omega
 rw [Int.tmod_eq_emod_of_nonneg h0,Int.tmod_def,Int.add_emod,Int.emod_self,Int.add_zero,Int.emod_emod,Int.sub_mul_emod_self_left]
theorem wh (w0 : Wld) (i0 : Nat) (hi0 : i0<=1024) (ht : kH w0 i0) (hs0 : 0<=w0.step) (hs1 : w0.step<=1000000) (picks : List Int) (_hpl : picks.length<=2 ^ 40) (_hp : ∀ p∈picks,RM p) :
 di Tryz.prog 21 [.agg w0.row,.c (.s (picks.map ao))] (λrr=>rr = .tup [.agg (iV w0 picks).1.res,.c (vi (iV w0 picks).2) 1]):=by
 refine di.intro ae Tryz.func21 (by kernel_rfl) rfl rfl rfl (Nat.le_of_ble_eq_true rfl) (λwz base o=>?_);have hw:=wx ht (by omega);simp [Wld.row];intro b2 b4;refine aa.ro (jN w0 (by omega)) (by simp [Wld.row]) ?_;simp [Wld.res];intro b6
 refine ah eok (λx : Wld × Nat=>kH x.1 (i0 + x.2)/\x.2<=1000000/\x.1.step = w0.step + x.2/\x.1.step<=1000000/\iV w0 picks = jm picks (1000001 - x.2) x.2 x.1)
  (λx=>⟨68,0,[(7,.v (.int .i64 x.2)),(6,.p 96 b6 0),(4,.p 64 b4 0),(1,.ro (picks.map ao))],
   (96,.vars b6 39 [.v (.bool x.1.h.shut),.ro (x.1.h.docs.map Doc.row),.ro (x.1.h.subs.map Sub.row),.v (.int .i64 x.1.h.last),.ro (x.1.locks.map ao),.ro (x.1.queues.map Queue.row),.ro (x.1.tasks.map Task.row),.v (.int .i64 x.1.step)]) :: (64,.vars b4 39 [.v (.bool false),.nil,.nil,.v (.int .i64 0),.nil,.nil,.nil,.v (.int .i64 0)]) :: phs o⟩) (λx=>1000001 - x.2)
  (w0,0) ⟨ht,by omega,by simp,hs1,rfl⟩ (by simp) (λx hx=>Ent.refl ?_)
 obtain ⟨w,n⟩:=x;obtain ⟨x1,x2,x3,x4,x5⟩:=hx;simp only at x1 x2 x3 x4 x5;have hwn:=wx x1 (by omega);have c3:=AJ w hwn;have c4:=wa w hwn;obtain ⟨-,-,n3,n4⟩:=cB hwn;have hlt:=aK n4;have hlq:=aK n3
 have hal : (bZ w).length<=w.tasks.length:=by
  by_cases c : ar w/\¬ w.step = 1000000
  ·rw [m8 c]
   unfold dF;rw [List.length_map];exact Nat.le_trans (List.length_filter_le _ _) (by simp)
  ·rw [pg c];simp
 have hsl : (bC w).length<=w.queues.length:=by
  by_cases c : ar w/\¬ w.step = 1000000
  ·rw [iw c];simp
  ·rw [lq c];simp
 have wsum:=Go.IntWalk.i64_in (((bZ w).length : Int) + ((bC w).length : Int)) (by omega);simp;refine au.quiet eok mix (by kernel_rfl) ?_;simp;refine ⟨_,_,c3,by simp [Wld.row],?_⟩;simp;refine ⟨_,_,c4,by simp [Wld.row],?_⟩;simp [wsum];by_cases hm : d8 w = 0
 ·rw [oi hm] at x5
  have hz : ((bZ w).length : Int) + ((bC w).length : Int) = 0:=by unfold d8 at hm;omega
  simp [hz,x5]
 have hz : ¬ ((bZ w).length : Int) + ((bC w).length : Int) = 0:=by unfold d8 at hm;omega
 obtain ⟨wok,wst⟩:=mV hm;rw [show 1000001 - n = (1000001 - (n + 1)) + 1 by omega,pW hm] at x5;have hmz : (d8 w : Int) = ((bZ w).length : Int) + ((bC w).length : Int):=by unfold d8;omega
 have hpl:=pL picks n (show 0 < d8 w by omega);have yT:=Du x1 hm hpl;have ys:=wA hm hpl;have wn:=Go.IntWalk.i64_in ((n : Int) + 1) (by omega);simp [hz];by_cases hpk : n < picks.length
 ·have e1 : (Go.IntKind.i64.wrap (picks[n].tmod (((bZ w).length : Int) + ((bC w).length : Int)) + (((bZ w).length : Int) + ((bC w).length : Int)))).tmod (((bZ w).length : Int) + ((bC w).length : Int)) = ((kX picks n (d8 w) : Nat) : Int):=by
   rw [<- hmz];have hm0 : (0 : Int) < d8 w:=by omega
   have h1:=Int.lt_tmod_of_pos picks[n] hm0;have h2:=Int.tmod_lt_of_pos picks[n] hm0;rw [Go.IntWalk.i64_in _ (by omega),IV _ hm0];unfold kX;rw [List.getElem?_eq_getElem hpk];have h3:=Int.emod_nonneg picks[n] (show (d8 w : Int)≠0 by omega);simp only;omega
  simp [hpk,e1,hz];generalize kX picks n (d8 w) = p at hpl yT ys x5;by_cases ha : p < (bZ w).length
  ·simp [ha]
   obtain ⟨k,hk,hke,hky⟩:=nk ha;have ey : bR w p = (d5 w k).1:=by unfold bR;rw [List.getElem?_eq_getElem ha];simp only [hke]
   have hc:=sB w hwn k hky;rw [<- ey] at hc;generalize bR w p = y at yT ys x5 hc;refine drw eok mix [0,1,2,3,4] [5,6,7,8,9] (.c 5 5 17 14 (.c 5 6 0 14 (.c 5 7 0 14 (.c 5 8 0 14 (.c 5 9 14 0 (.l 5 0) .s) .s) .s) .s) .s) ?_;simp [ha,hke]
   try intros
   refine cH hc (by simp [Wld.row]) ?_;rintro _ rfl;simp [Wld.res]
   try intros
   refine Ent.refl ⟨y,n + 1,⟨yT,by omega,by omega,by omega,x5⟩,by omega,?_⟩;simp [wn]
  have hs : p - (bZ w).length < (bC w).length:=by unfold d8 at hpl;omega
  have wsub : Go.IntKind.i64.wrap (((p : Nat) : Int) - ((bZ w).length : Int)) = ((p - (bZ w).length : Nat) : Int):=by rw [Go.IntWalk.i64_in _ (by omega)];omega
  have ey : bR w p = (cO w (bC w)[p - (bZ w).length]).1:=by unfold bR;rw [List.getElem?_eq_none (by omega),List.getElem?_eq_getElem hs]
  generalize p - (bZ w).length = jj at hs wsub ey;have hc:=qE w hwn (bC w)[jj];rw [<- ey] at hc;generalize bR w p = y at yT ys x5 hc
  try simp only [Int.zero_sub] at wsub
  simp [ha];refine drw eok mix [0,1,2,3,4,5,6,7] [8,9,10,11,12] (.c 8 8 129 126 (.c 8 9 0 126 (.c 8 10 0 126 (.c 8 11 0 126 (.c 8 12 126 0 (.l 8 0) .s) .s) .s) .s) .s) ?_;simp [hs,wsub,Cm]
  try intros
  refine aa.ro hc (by simp [Wld.row]) ?_;simp [Wld.res]
  try intros
  refine Ent.refl ⟨y,n + 1,⟨yT,by omega,by omega,by omega,x5⟩,by omega,?_⟩;simp [wn]
 have e1 : kX picks n (d8 w) = 0:=by unfold kX;rw [List.getElem?_eq_none (by omega)]
 rw [e1] at hpl yT ys x5;simp [hpk];by_cases ha : 0 < (bZ w).length
 ·simp [ha,hz]
  obtain ⟨k,hk,hke,hky⟩:=nk ha;have ey : bR w 0 = (d5 w k).1:=by unfold bR;rw [List.getElem?_eq_getElem ha];simp only [hke]
  have hc:=sB w hwn k hky;rw [<- ey] at hc;generalize bR w 0 = y at yT ys x5 hc;refine drw eok mix [0,1,2,3,4] [5,6,7,8,9] (.c 5 5 17 14 (.c 5 6 0 14 (.c 5 7 0 14 (.c 5 8 0 14 (.c 5 9 14 0 (.l 5 0) .s) .s) .s) .s) .s) ?_;simp [ha,hke]
  try intros
  refine cH hc (by simp [Wld.row]) ?_;rintro _ rfl;simp [Wld.res]
  try intros
  refine Ent.refl ⟨y,n + 1,⟨yT,by omega,by omega,by omega,x5⟩,by omega,?_⟩;simp [wn]
 have hs : 0 - (bZ w).length < (bC w).length:=by unfold d8 at hpl;omega
 have wsub : Go.IntKind.i64.wrap ((0 : Int) - ((bZ w).length : Int)) = ((0 - (bZ w).length : Nat) : Int):=by rw [Go.IntWalk.i64_in _ (by omega)];omega
 have ey : bR w 0 = (cO w (bC w)[0 - (bZ w).length]).1:=by unfold bR;rw [List.getElem?_eq_none (by omega),List.getElem?_eq_getElem hs]
 generalize 0 - (bZ w).length = jj at hs wsub ey;have hc:=qE w hwn (bC w)[jj];rw [<- ey] at hc;generalize bR w 0 = y at yT ys x5 hc
 try simp only [Int.zero_sub] at wsub
 simp [ha,hz];refine drw eok mix [0,1,2,3,4,5,6,7] [8,9,10,11,12] (.c 8 8 129 126 (.c 8 9 0 126 (.c 8 10 0 126 (.c 8 11 0 126 (.c 8 12 126 0 (.l 8 0) .s) .s) .s) .s) .s) ?_;simp [hs,wsub,Cm]
 try intros
 refine aa.ro hc (by simp [Wld.row]) ?_;simp [Wld.res]
 try intros
 refine Ent.refl ⟨y,n + 1,⟨yT,by omega,by omega,by omega,x5⟩,by omega,?_⟩;simp [wn]
set_option maxHeartbeats 3200000
theorem Dz {w : Wld} {c : Call} (h : (ar w/\be c)/\¬ w.tasks.length = 10/\¬ w.step = 1000000) : d6 w c = (⟨w.h,w.locks,w.queues,w.tasks ++ [cA c w.step],w.step + 1⟩,true):=by unfold d6;rw [if_pos h]
theorem GE {w : Wld} {c : Call} (h : ¬ ((ar w/\be c)/\¬ w.tasks.length = 10/\¬ w.step = 1000000)) : d6 w c = (Wld.zero,false):=by unfold d6;rw [if_neg h]
theorem AG (w : Wld) (hl : fZ w<=2 ^ 30) (c : Call) (hc : dy c<=2 ^ 30) : ai Tryz.prog 33 [.agg w.row,.agg c.row] (.tup [.agg (d6 w c).1.res,.c (.v (.bool (d6 w c).2)) 1]):=by
 refine pci ae Tryz.func33 (λw0 base=>?_);have hno:=@GE w c;have hyes:=@Dz w c;have hle:=aK (cB hl).2.2.2;simp [Wld.row,Call.row];intro b2 b3 b4;refine aa.pure (fI w hl) (by simp [Wld.row]) ?_;by_cases c1 : ar w
 rotate_left
 ·simp [ab c1,hno (λh=>c1 h.1.1),Wld.res,Wld.zero,Hub.zero]
 simp [c1];refine aa.pure (gH c (by omega)) (by simp [Call.row]) ?_;by_cases c2 : be c
 rotate_left
 ·simp [ab c2,hno (λh=>c2 h.1.2),Wld.res,Wld.zero,Hub.zero]
 simp [c2];by_cases c3 : w.tasks.length = 10
 ·have c3' : (w.tasks.length : Int) = 10:=by omega
  simp [c3',hno (λh=>h.2.1 c3),Wld.res,Wld.zero,Hub.zero]
 have c3' : ¬ (w.tasks.length : Int) = 10:=by omega
 simp [c3'];by_cases c4 : w.step = 1000000
 ·simp [c4,hno (λh=>h.2.2 c4),Wld.res,Wld.zero,Hub.zero]
 have hst:=c1.2.2.2.2.1;have ew : Go.IntKind.i64.wrap (w.step + 1) = w.step + 1:=Go.IntWalk.i64_in _ (by omega);have e:=hyes ⟨⟨c1,c2⟩,c3,c4⟩;simp [c4];refine aa.pure (jN w hl) (by simp [Wld.row]) ?_;simp [Wld.res];intro H1 H2 H3 H4 H5 b6;refine drw eok mix [0,1,2,4,5,9] [3,6,7,8,10] (.c 6 3 8 55 (.c 6 6 2 53 (.c 6 7 0 53 (.c 6 8 16 37 (.c 6 10 37 0 (.l 6 0) .s) .s) .s) .s) .s) ?_;simp
 try intros
 refine aa.pure (s7 c hc) (by simp [Call.row]) ?_;simp [Call.res]
 try intros
 refine ⟨by omega,?_⟩;rw [e];simp [ew,cA,Answer.zero,Task.row]
 rintro row (⟨a,-,rfl⟩ | rfl)<;>rfl
set_option maxHeartbeats 12800000
theorem v3 (l : List UInt8) (hl : l.length<=9223372036854775807) : ai Tryz.prog 6 [.c (.s (l.map eA))] (.one (.c (.v (.bool true)) 1)):=by
 refine Ec rfl (di.intro ae Tryz.func6 (by kernel_rfl) rfl rfl rfl (Nat.le_of_ble_eq_true rfl) (λw0 base o=>?_));simp;by_cases hbig : 1048576 < (l.length : Int)
 ·simp [hbig]
 have hl2 : l.length<=2 ^ 40:=by omega
 simp [hbig];refine cH (CO l hl2) (by simp) ?_
 rintro _ ⟨h,hok,rfl⟩
 have hn : bW h<=2 ^ 28:=Nat.le_trans (eb hok).1 (by decide);simp [Hub.res];intro b3;refine cH (yu l hl2 h hok) (by simp [Hub.row]) ?_
 rintro _ ⟨L,⟨hL,hLc⟩,rfl⟩
 simp;refine cH (CN l hl2 4) (by simp) ?_
 rintro _ ⟨z,hz,rfl⟩
 have hz1:=hz.1;have hz2:=hz.2.2 (by omega);have wz:=Go.IntWalk.i64_in (1 + z) (by omega);have hnew:=A8 (h:=h) (n:=1 + z) (L:=L) ⟨hok,by omega⟩;have hny : (dM h (1 + z)).2 = true:=by rw [fJ ⟨hok,by omega⟩]
 have hcn:=sw h (by omega) (1 + z);generalize hq : dM h (1 + z) = q at hnew hny hcn;obtain ⟨w,ok⟩:=q;simp only at hnew hny hcn;subst hny;simp [wz];refine aa.ro hcn (by simp [Hub.row]) ?_;simp [Wld.res];intro b6
 refine ah eok (λx : Nat × Wld=>xa h (1 + z) L x.1 x.2)
  (λx=>⟨102,0,[(35,.v (.int .i64 x.1)),(34,.v (.int .i64 L.length)),(33,.ro (L.map Call.row)),(7,.v (.bool true)),(6,.p 96 b6 0),(4,.ro (L.map Call.row)),(3,.p 48 b3 0)],
   (96,.vars b6 39 [.v (.bool x.2.h.shut),.ro (x.2.h.docs.map Doc.row),.ro (x.2.h.subs.map Sub.row),.v (.int .i64 x.2.h.last),.ro (x.2.locks.map ao),.ro (x.2.queues.map Queue.row),.ro (x.2.tasks.map Task.row),.v (.int .i64 x.2.step)]) :: (48,.vars b3 35 [.v (.bool h.shut),.ro (h.docs.map Doc.row),.ro (h.subs.map Sub.row),.v (.int .i64 h.last)]) :: phs o⟩) (λx=>L.length - x.1)
  (0,w) hnew (by simp) (λx hx=>Ent.refl ?_)
 obtain ⟨i,y⟩:=x;simp only at hx ⊢;obtain ⟨yok,ys,yt⟩:=kw hok hx.2.1;have hi9:=hx.1;by_cases hlt : i < L.length
 ·obtain ⟨hcy,hcr,hnx⟩:=A9 hok hL hLc hx hlt
  have hci:=jt (hLc _ (List.getElem_mem hlt));have hcc:=AG y (wx yt (by omega)) L[i] (by omega);obtain ⟨c,hce⟩ : ∃ c,L[i] = c:=⟨_,rfl⟩;rw [hce] at hcy hcr hnx hcc;obtain ⟨xok,⟨xs0,xs1⟩,xt⟩:=kw hok hcr;have hcf:=wh (d6 y c).1 (41 * i + 1) (by omega) xt xs0 (by omega) [] (by simp) (by simp);generalize (iV (d6 y c).1 []) = v at hnx hcf;generalize d6 y c = q at hcy hcc hcf;obtain ⟨x,okx⟩:=q;simp only at hcy hcc hcf;subst hcy;simp [hlt,hce,Call.row];intro b9;refine aa.ro hcc (by simp [Wld.row,Call.row]) ?_;simp [Wld.res];intro b10;refine cH hcf (by simp [Wld.row]) ?_
  rintro _ rfl
  simp [Wld.res];refine Ent.refl ⟨i + 1,v.1,hnx,by omega,?_⟩;simp;exact ag (by omega)
 have hie : i = L.length:=by omega
 subst hie;obtain ⟨-,-,yl,-,yh,ya⟩:=hx;rw [List.take_of_length_le (Nat.le_refl _)] at yh ya;simp;refine cH (yK h hok L (by omega) (λc hc=>by have:=jt (hLc c hc);omega)) (by simp [Hub.row]) ?_
 rintro _ rfl
 simp [Hub.res];intro b12;have hal:=ol L h;have hcd:=sX L h;have hn2 : bW (cD h L).1<=2 ^ 40:=by have:=sP (B:=2 ^ 28) (Nat.le_refl _) L h hn;omega
 have han : ∀ a∈(cD h L).2,dD a<=2 ^ 24:=(sP (B:=2 ^ 28) (Nat.le_refl _) L h hn).2;generalize cD h L = q at yh ya hal hcd hn2 han;obtain ⟨e,an⟩:=q;simp only at yh ya hal hcd hn2 han;simp [yl,hal]
 have hth : ∀ i,∀ hi : i < y.tasks.length,∀ hj : i < an.length,y.tasks[i].a = an[i]:=λi hi hj=>by
  have:=congrArg (λl=>l[i]?) ya;simp only [List.getElem?_map,List.getElem?_eq_getElem hi,List.getElem?_eq_getElem hj,Option.map_some,Option.some.injEq] at this;exact this
 have hb0 : GF y = 0:=tf (λt ht=>hcd _ (by rw [<- ya];exact List.mem_map_of_mem ht));have hny:=wx yt (by omega);have hcb:=AI y (by omega);rw [hb0] at hcb;have hcs:=ub e y.h (by omega);rw [yh] at hcs
 refine ah eok (λi : Nat=>i<=L.length)
  (λi=>⟨102,0,[(79,.v (.int .i64 i)),(78,.v (.int .i64 L.length)),(77,.ro (y.tasks.map Task.row)),(13,.ro (an.map Answer.row)),(12,.p 192 b12 0),(6,.p 96 b6 0)],
   (192,.vars b12 35 [.v (.bool e.shut),.ro (e.docs.map Doc.row),.ro (e.subs.map Sub.row),.v (.int .i64 e.last)]) :: (96,.vars b6 39 [.v (.bool y.h.shut),.ro (y.h.docs.map Doc.row),.ro (y.h.subs.map Sub.row),.v (.int .i64 y.h.last),.ro (y.locks.map ao),.ro (y.queues.map Queue.row),.ro (y.tasks.map Task.row),.v (.int .i64 y.step)]) :: phs o⟩) (λi=>L.length - i)
  0 (by simp) (by simp) (λi hi=>Ent.refl ?_)
 by_cases c : i < L.length
 ·have hi1 : i < y.tasks.length:=by omega
  have hi2 : i < an.length:=by omega
  have hsm:=hth i hi1 hi2;have hna:=han _ (List.getElem_mem hi2);obtain ⟨t,ht⟩ : ∃ t,y.tasks[i] = t:=⟨_,rfl⟩;obtain ⟨u,hu⟩ : ∃ u,an[i] = u:=⟨_,rfl⟩;rw [ht,hu] at hsm;rw [hu] at hna;simp [c,hi1,ht,Task.row];intro b15;refine au.quiet eok mix (by kernel_rfl) ?_;simp [hi2,hu,Answer.row];refine ⟨_,_,du t.a u (by rw [hsm];omega),by simp [Answer.row],?_⟩;simp [hsm];exact Ent.refl ⟨i + 1,by omega,by omega,by simp;exact ag (by omega)⟩
 simp [c];refine aa.ro hcs (by simp [Hub.row,yh]) ?_;simp;refine aa.ro hcb (by simp [Wld.row]) ?_;simp
end Go.Proofs.YtoldjebobgocpaaGreat
