import Derived.Test.YtibkifnmhkealaaGreatDoorPP
import Derived.Test.YtibkifnmhkealaaGreatDoorPJ
import Derived.Test.YtibkifnmhkealaaGreatDoorPL
import Derived.Test.YtibkifnmhkealaaGreatDoorPF
import Derived.Test.YtibkifnmhkealaaGreatDoorMH
import Derived.Shelf.RegionOpenPlain
import Derived.Test.YtibkifnmhkealaaGreatDoorPI
namespace Go.Proofs.YtibkifnmhkealaaGreatDoor
open Go.AM
set_option maxRecDepth 20000
set_option maxHeartbeats 6400000
attribute [local simp] gv eJ aX eD eA dv
theorem sF (h:Hub) (hl:dU h<=2 ^ 28) (W:List (List UInt8)) (h2:2<=W.length) (hWl:W.length<=2 ^ 31) (hWw:∀ w∈W,w.length<=2 ^ 31) :
 bY Tryz.prog LT 38 [.agg h.row,.c (.s (W.map wR))] (.one (.c (.v (.string (fu h (W.getD 0 []) (W.getD 1 []) (ak W 2)))) 1)):=by
 refine jK.toX LT.stay rfl ?_;refine jK.intro ae Tryz.func38 (by kernel_rfl) rfl rfl rfl (Nat.le_of_ble_eq_true rfl) (λw0 base o eok=>?_);have p0:0<W.length:=by omega
 have p1:1<W.length:=by omega
 have q1:(1:Int)<W.length:=by omega
 obtain ⟨x0,hx0⟩:∃ x,W[0]=x:=⟨_,rfl⟩;obtain ⟨x1,hx1⟩:∃ x,W[1]=x:=⟨_,rfl⟩;have g0:W.getD 0 []=x0:=by simp [List.getD,p0,hx0]
 have g1:W.getD 1 []=x1:=by simp [List.getD,p1,hx1]
 rw [g0,g1];simp [Hub.row];intro b2;refine be.quiet eok mix (by kernel_rfl) ?_;simp [p1,q1,hx1,wR];refine ⟨_,_,(f9 h (by omega) (bs x1)).up,by simp [Hub.row],?_⟩;simp;rcases ee h.docs (bs x1) with ⟨k,hk,e,hd⟩|e;rotate_left
 ·simp [e,fu,rX]
 obtain ⟨d,hd0⟩:∃ d,h.docs[k]=d:=⟨_,rfl⟩;have hdn:cO d<=2 ^ 28:=by rw [<- hd0];exact et (fL hl).1 hk
 have hget:h.docs.getD k Doc.zero=d:=by simp [List.getD,hk,hd0]
 have hsay:fu h x0 (x1) (ak W 2)=fj d x0 (ak W 2):=by
  unfold fu;rw [e,if_neg (by omega),Int.toNat_natCast,hget]
 rw [hsay];have hk0:¬ (k:Int)<0:=by omega
 simp [e,hk0,hk,hd0,Doc.row];intro b6;simp [p0,hx0,wR];by_cases t0:x0=of
 ·have e0:fj d x0 (ak W 2)=okS (ik (bc d)):=by unfold fj;rw [if_pos t0]
  rw [e0];have hlen:(bc d).length<=2 ^ 30:=iE d _;have hsz:=jy (bc d);rw [of] at t0;simp [t0];refine aa.ro (jk d (by omega)) (by simp [Doc.row]) ?_;simp;refine aa.ro (xu (bc d) (by omega)) (by simp) ?_;simp [okS];omega
 have t0':¬ x0=[116,101,120,116]:=t0;by_cases t1:x0=AU
 ·have e0:fj d x0 (ak W 2)=bs (mi (kC (bU d))):=by unfold fj;rw [if_neg t0,if_pos t1]
  rw [e0];have t1':x0=[119,104,111]:=t1;simp [t1'];refine dq (tR d (by omega)) (by simp [Doc.row]) ?_
  rintro _ rfl
  simp;have hwl:=lk d;refine aa.ro (Ff (bU d) (by omega)) (by simp) ?_;have hrl:=wL (bU d);generalize kC (bU d)=L at hrl ⊢;simp;refine ah eok (λi:Nat=>i<=L.length) (λi=>⟨70,0,[(39,.v (.int .i64 i)),(38,.v (.int .i64 L.length)),(37,.ro (L.map jq)),(7,.v (.string (bs (mi (L.take i)))))],phs o⟩) (λi=>L.length - i) 0 (by simp) (by simp [mi]) (λi hi=>Ent.refl ?_);by_cases c:i<L.length
  rotate_left
  ·have he:L.take i=L:=List.take_of_length_le (by omega)
   simp [c,he]
  have hs:=Cq c;have hwl:=vZ (L.take i);obtain ⟨r,hr⟩:∃ r,L[i]=r:=⟨_,rfl⟩;rw [hr] at hs;have htl:(L.take i).length<=i:=by rw [List.length_take];omega
  have n1:=aS r.1;have n2:=aS r.2;have e1:Go.IntKind.i64.wrap ((i:Int)+1)=((i+1:Nat):Int):=aj (by omega);simp [c,hr,jq];have q1:1+(ao r.1).length<=140737488355328:=by omega
  have q2:(ao r.1).length<=140737488355326:=by omega
  have q3:(ao r.1).length+1+1+(ao r.2).length<=140737488355328:=by omega
  have q4:(mi (L.take i)).length+((ao r.1).length+((ao r.2).length+1)+1)<=140737488355328:=by omega
  refine drw eok mix [0,1,2,3,7,8,9] [4,5,6,10,11,12,13] (.c 7 4 8 119 (.c 7 5 0 119 (.c 7 6 0 119 (.c 7 10 1 118 (.c 7 11 0 118 (.c 7 12 64 54 (.c 7 13 54 0 (.l 7 0) .s) .s) .s) .s) (.c 7 10 1 118 (.c 7 6 0 118 (.c 7 11 0 118 (.c 7 12 64 54 (.c 7 13 54 0 (.l 7 0) .s) .s) .s) .s) .s)) (.c 7 10 1 118 (.c 7 5 0 118 (.c 7 6 0 118 (.c 7 11 0 118 (.c 7 12 64 54 (.c 7 13 54 0 (.l 7 0) .s) .s) .s) .s) .s) .s)) .s) ?_;simp
  try intros
  refine ag eok (a7 r.1) (by simp) ?_;simp
  try intros
  rw [Trc];refine ⟨?_,?_⟩
  ·skip
   simp [q1]
   try intros
   rw [Trc];refine ⟨?_,?_⟩
   ·skip
    simp [q2]
    try intros
    refine ag eok (a7 r.2) (by simp) ?_;simp [q3,q4]
    try intros
    refine Ent.refl ⟨i+1,by omega,by omega,?_⟩;simp [e1,hs,yO]
   ·skip
    simp
    try intros
    refine ag eok (a7 r.2) (by simp) ?_;simp [q2,q3,q4]
    try intros
    refine Ent.refl ⟨i+1,by omega,by omega,?_⟩;simp [e1,hs,yO]
  ·skip
   simp
   try intros
   refine ag eok (a7 r.2) (by simp) ?_;simp [q1,q2,q3,q4]
   try intros
   refine Ent.refl ⟨i+1,by omega,by omega,?_⟩;simp [e1,hs,yO]
 have t1':¬ x0=[119,104,111]:=t1;have e0:fj d x0 (ak W 2)=if (cU d (ak W 2)).2=true then okS (bs (fJ (ba (cU d (ak W 2)).1))) else wK:=by unfold fj;rw [if_neg t0,if_neg t1]
 rw [e0];have hrn:=wM d (ak W 2);have hrv:=xx d (by omega) (ak W 2);generalize cU d (ak W 2)=R at hrn hrv ⊢;obtain ⟨r,ok⟩:=R;simp only at hrn hrv ⊢;simp [t0',t1'];refine drw eok mix [0,1] [2,3,4,5,6,7,8] (.c 2 2 1 2 (.c 2 3 2 0 (.c 2 4 0 0 (.c 2 5 0 0 (.c 2 6 0 0 (.c 2 7 0 0 (.c 2 8 0 0 (.l 2 0) .s) .s) .s) .s) .s) .s) .s) ?_;simp
 try intros
 refine ag eok (bK W 2 (by omega) hWl hWw) (by simp) ?_;simp
 try intros
 refine dq hrv (by simp [Doc.row]) ?_;rintro _ rfl;simp
 try intros
 cases ok with
 |false=>simp [wK]
 | true =>
   have hle:=fI r;simp;refine ag eok (kH r hrn) (by simp) ?_;simp [okS];omega
end Go.Proofs.YtibkifnmhkealaaGreatDoor
namespace Go.Proofs.YtibkifnmhkealaaGreatDoor
open Go.AM Go.RowKit
set_option maxRecDepth 100000
set_option maxHeartbeats 4000000
set_option linter.unusedVariables false
set_option linter.unusedSimpArgs false
theorem Bu (w:World) (us xs:List Value) (n i b o C bv ov Cv:Nat) (cs cv:Array Value) (T Tv:TypeId) (hul:us.length=n*5) (hxl:xs.length=5) (hi:i<n) (hroom:n+1<=C) (hC:C<=maxLen)
 (hb:w.heap[b]? = some (.cells cs T (0,0))) (hfit:o+C*5<=cs.size) (hcs:∀ j,j<n*5->cs.getD (o+j) undef=us.getD j undef) (h1:∀ v∈us,v.oneCell'=true)
 (hbv:w.heap[bv]? = some (.cells cv Tv (0,0))) (hCv:1<=Cv) (hfv:ov+Cv*5<=cv.size) (hcv:∀ j,j<5->cv.getD (ov+j) undef=xs.getD j undef) (h1v:∀ v∈xs,v.oneCell'=true) (hne:bv≠b) :
 Calls Tryz.prog 192 #[.slice (some ⟨b,o,none⟩) n C,.int .i64 i,.slice (some ⟨bv,ov,none⟩) 1 Cv] w λe w'=>
  e=.returned (.slice (some ⟨b,o,none⟩) (n+1) C)/\Placed w w' (some b) b o C (n+1) 5 (us.take (i*5)++xs++us.drop (i*5)):=by
 have u0:=run_underlying Tryz.underlying27;have mixed:Tryz.prog.follows .mixedOrders=true:=by kernel_rfl
 obtain ⟨i0,z0,hi0,hzs,hzb,hz0,hzc,-⟩:=(ae 35 _ FX).info;have hzs:i0.size=5:=hzs;have hC63:C<=9223372036854775807:=by unfold maxLen at hC;omega
 have hz1:¬ ((1:Int)=0):=by omega
 have hz2:¬ ((i:Int)=(n:Int)):=by omega
 have hdl:(us.drop (i*5)).length=(n - i)*5:=by rw [List.length_drop,hul,Nat.sub_mul]
 have hov:∀ lb cb,(callFunc 259 #[.slice (some ⟨bv,ov,none⟩) 1 Cv,.slice (some ⟨b,o+(i*5+5),none⟩) lb cb]).run Tryz.prog w=.ok (.value (.bool false)) w:=λlb cb=>by
  rw [run_callFunc_extern Tryz.func259 (by kernel_rfl) (by kernel_rfl) (by kernel_rfl) (e:=Extern.SlicesOverlaps.overlaps #[27,27] #[4]) (by kernel_rfl),
   Lib.run_overlaps_apart w 27 4 35 Tryz.underlying27 5 Tryz.sizeOf35 ⟨bv,ov,none⟩ ⟨b,o+(i*5+5),none⟩ 1 Cv lb cb hne Tv T cv.size cs.size (by simp [World.shape?,hbv]) (by simp [World.shape?,hb]) (by omega) (by simp [World.frozen?,hbv]) (by simp [World.frozen?,hbv])]
  rfl
 have hmm:(n+1)*5<=C*5:=Nat.mul_le_mul_right _ hroom;have hii:i*5+5<=n*5:=by have:=Nat.mul_le_mul_right 5 (show i+1<=n by omega);omega
 have e1:(i+1)*5=i*5+5:=Nat.succ_mul i 5;have e2:(n+1)*5=n*5+5:=Nat.succ_mul n 5;have e3:(n - i)*5=n*5 - i*5:=Nat.sub_mul n i 5;obtain ⟨cs1,hcs1⟩:∃ c,c=(cs.toList.take (o+(i+1)*5)++us.drop (i*5)++cs.toList.drop (o+(i+1)*5+(us.drop (i*5)).length)).toArray:=⟨_,rfl⟩;obtain ⟨s1,g1⟩:=d4 cs (o+(i+1)*5) (us.drop (i*5)) (by omega);rw [<- hcs1] at s1 g1
 have hcp1:∀ (W:World),W.heap=w.heap->∀ ty dl dc sl sc,Nat.min sl dl=n - i->(Builtin.copy_ #[27,27] ty #[.slice (some ⟨b,o+(i*5+5),none⟩) dl dc,.slice (some ⟨b,o+i*5,none⟩) sl sc]).run Tryz.prog W=.ok (goInt (n - i:Nat)) (W.setRow b cs1):=λW hW ty dl dc sl sc hm=>by
  have hb':W.heap[b]? = some (.cells cs T (0,0)):=by rw [hW];exact hb
  rw [hcs1,e1]
  exact iN Tryz.underlying27 hi0 hb' ⟨b,o+i*5,none⟩ (us.drop (i*5)) (n - i) hm (by rw [hdl,hzs])
   (λj v hj=>by
    rw [Addr.add_lit];refine gu hb' (o:=o+i*5) (vs:=us.drop (i*5)) (λj hj=>?_) (by omega) j v hj;rw [Nat.add_assoc,hcs _ (by omega)];simp [List.getD_eq_getElem?_getD])
   (λv hv=>h1 v (List.mem_of_mem_drop hv)) (by omega)
 obtain ⟨cs2,hcs2⟩:∃ c,c=(cs1.toList.take (o+i*5)++xs++cs1.toList.drop (o+i*5+xs.length)).toArray:=⟨_,rfl⟩;obtain ⟨s2,g2⟩:=d4 cs1 (o+i*5) xs (by omega);rw [<- hcs2] at s2 g2
 have hcp2:∀ (W:World),W.heap[b]? = some (.cells cs1 T (0,0))->W.heap[bv]? = some (.cells cv Tv (0,0))->∀ ty dl dc,0<dl->(Builtin.copy_ #[27,27] ty #[.slice (some ⟨b,o+i*5,none⟩) dl dc,.slice (some ⟨bv,ov,none⟩) 1 Cv]).run Tryz.prog W=.ok (goInt (1:Nat)) (W.setRow b cs2):=λW hW hWv ty dl dc hm=>by
  rw [hcs2]
  exact iN Tryz.underlying27 hi0 hW ⟨bv,ov,none⟩ xs 1 (by simp only [Nat.min_def];split<;>omega) (by rw [hxl,hzs])
   (λj v hj=>by
    rw [Addr.add_lit];exact gu hWv (λj hj=>hcv j (by omega)) (by omega) j v hj)
   h1v (by omega)
 have hw1:IntKind.i64.wrap ((i:Int)+1)=(i:Int)+1:=by rw [IntKind.wrap_i64];omega
 have hb1:(0:Int)<=(i:Int)+1:=by omega
 have hin:i<=n:=by omega
 have htn:((i:Int)+1).toNat=i+1:=by omega
 have hb2:¬ (C=i+1):=by omega
 have hb3:(i:Int)<=(n:Int)+1:=by omega
 have hb4:¬ (C=i):=by omega
 go_enter Tryz.func192,Tryz.ntmps192
 go_wp2_with (simp only [hov])
 have hE:=hcp1 w.drew rfl 3 (n - i) (C - (i+1)) (n+1 - i) (C - i) (by simp only [Nat.min_def];split<;>omega);have hE2:=hcp2 (w.drew.setRow b cs1) (by simp [setRow_heap w.drew b cs cs1 T (0,0) hb]) (by rw [setRow_other w.drew b bv cs1 hne];exact hbv) 3 (n+1 - i) (C - i) (by omega)
 have hP:Placed w ((w.drew.setRow b cs1).setRow b cs2) (some b) b o C (n+1) 5 (us.take (i*5)++xs++us.drop (i*5)):=by
  refine ⟨⟨cs2,T,setRow_heap _ b cs1 cs2 T (0,0) (setRow_heap w.drew b cs cs1 T (0,0) hb),by omega,λj hj=>?_⟩,hroom,hC,by simp,⟨rfl,rfl,rfl⟩,.inr rfl,λc _ hc=>?_⟩
  ·rw [g2,g1]
   have hl:(us.take (i*5)).length=i*5:=by simp;omega
   simp only [List.getD_eq_getElem?_getD];rw [List.append_assoc];by_cases c1:j<i*5
   ·rw [if_neg (by omega),if_neg (by omega),List.getElem?_append_left (by omega),List.getElem?_take,if_pos c1,hcs j (by omega)]
    simp
   ·rw [List.getElem?_append_right (by omega),hl]
    by_cases c2:j<i*5+5
    ·rw [if_pos (by omega),List.getElem?_append_left (by omega)]
     congr 2
     omega
    ·rw [if_neg (by omega),if_pos (by omega),List.getElem?_append_right (by omega),List.getElem?_drop,List.getElem?_drop]
     congr 2
     omega
  ·rw [setRow_other _ b c _ hc,setRow_other _ b c _ hc];rfl
 clear hcs1 hcs2
 go_region
 go_wp2
 go_ret
 all_goals exact ⟨rfl,hP⟩
theorem ri (w:World) (a:Option Addr) (n C bv ov Cv:Nat) (r:Value) (w1:World) (hnC:n<=C) (hC:C<=maxLen)
 (hr:∀ ty,(Builtin.append_ #[27,27] ty #[.slice a n C,.slice (some ⟨bv,ov,none⟩) 1 Cv]).run Tryz.prog w=.ok r w1) :
 Calls Tryz.prog 192 #[.slice a n C,.int .i64 n,.slice (some ⟨bv,ov,none⟩) 1 Cv] w λe w'=>e=.returned r/\w'=w1:=by
 have u0:=run_underlying Tryz.underlying27;have mixed:Tryz.prog.follows .mixedOrders=true:=by kernel_rfl
 have hC63:C<=9223372036854775807:=by unfold maxLen at hC;omega
 have hz1:¬ ((1:Int)=0):=by omega
 cases a with
 | none =>
   by_cases hc:C=n
   ·subst hc
    go_enter Tryz.func192,Tryz.ntmps192
    go_wp2_with (at_builtin;refine Lib.wpList_append_run _ rfl _ _ _ _ rfl _ _ rfl rfl _ _ (hr _) ?_)
    go_ret
    exact ⟨rfl,rfl⟩
   ·go_enter Tryz.func192,Tryz.ntmps192
    go_wp2_with (at_builtin;refine Lib.wpList_append_run _ rfl _ _ _ _ rfl _ _ rfl rfl _ _ (hr _) ?_)
    go_ret
    exact ⟨rfl,rfl⟩
 | some q =>
   by_cases hc:C=n
   ·subst hc
    go_enter Tryz.func192,Tryz.ntmps192
    go_wp2_with (at_builtin;refine Lib.wpList_append_run _ rfl _ _ _ _ rfl _ _ rfl rfl _ _ (hr _) ?_)
    go_ret
    exact ⟨rfl,rfl⟩
   ·go_enter Tryz.func192,Tryz.ntmps192
    go_wp2_with (at_builtin;refine Lib.wpList_append_run _ rfl _ _ _ _ rfl _ _ rfl rfl _ _ (hr _) ?_)
    go_ret
    exact ⟨rfl,rfl⟩
theorem Du (w:World) (us xs:List Value) (n i b o C bv ov Cv:Nat) (cs cv:Array Value) (T Tv:TypeId) (hul:us.length=n*5) (hxl:xs.length=5) (hi:i<n) (hnc:n<=C) (hroom:C<n+1) (hbig:(n+1)*yv.bytes<=140737488355328)
 (hb:w.heap[b]? = some (.cells cs T (0,0))) (hfit:o+C*5<=cs.size) (hcs:∀ j,j<n*5->cs.getD (o+j) undef=us.getD j undef) (h1:∀ v∈us,v.oneCell'=true)
 (hbv:w.heap[bv]? = some (.cells cv Tv (0,0))) (hCv:1<=Cv) (hfv:ov+Cv*5<=cv.size) (hcv:∀ j,j<5->cv.getD (ov+j) undef=xs.getD j undef) (h1v:∀ v∈xs,v.oneCell'=true) :
 Calls Tryz.prog 192 #[.slice (some ⟨b,o,none⟩) n C,.int .i64 i,.slice (some ⟨bv,ov,none⟩) 1 Cv] w λe w'=>
  ∃ nC,e=.returned (.slice (some ⟨w.heap.size,0,none⟩) (n+1) nC)/\Placed w w' (some b) w.heap.size 0 nC (n+1) 5 (us.take (i*5)++xs++us.drop (i*5)):=by
 have u0:=run_underlying Tryz.underlying27;have mixed:Tryz.prog.follows .mixedOrders=true:=by kernel_rfl
 obtain ⟨i0,z0,hi0,hzs,hzb,hz0,hzc,-⟩:=(ae 35 _ FX).info;have hzz:=jw hzc;have hzs:i0.size=5:=hzs;have hzb:i0.bytes=yv.bytes:=hzb;have hby:0<yv.bytes:=by decide
 have hzz:z0.cells.size=5:=hzz;have hnb:(n+1)<=140737488355328:=Nat.le_trans (Nat.le_mul_of_pos_right _ hby) hbig;have hz1:¬ ((1:Int)=0):=by omega
 have hz2:¬ ((i:Int)=(n:Int)):=by omega
 have hz3:(C:Int)<(n:Int)+1:=by omega
 have hmm:n*5<=C*5:=Nat.mul_le_mul_right _ hnc;have hii:i*5+5<=n*5:=by have:=Nat.mul_le_mul_right 5 (show i+1<=n by omega);omega
 have e1:(i+1)*5=i*5+5:=Nat.succ_mul i 5;have e2:(n+1)*5=n*5+5:=Nat.succ_mul n 5;have e3:(n - i)*5=n*5 - i*5:=Nat.sub_mul n i 5;have hdl:(us.drop (i*5)).length=(n - i)*5:=by rw [List.length_drop,hul,Nat.sub_mul]
 have htl:(us.take (i*5)).length=i*5:=by simp;omega
 have hbw:b<w.heap.size:=dw hb;have hvw:bv<w.heap.size:=dw hbv;have hkk:(n:Int)+1 - (i:Int)=((n+1 - i:Nat):Int):=by omega
 have hik:i+(n+1 - i)=n+1:=by omega
 have hold:(Builtin.firstCells i0.size i (.slice (some ⟨b,o,none⟩) i C)).run Tryz.prog w.drew=.ok (us.take (i*5)).toArray w.drew:=by
  rw [hzs]
  exact run_firstCells_some w.drew 5 i ⟨b,o,none⟩ i C (us.take (i*5)) (by rw [htl]) (λj v hj=>by
   rw [Addr.add_lit]
   exact gu (w:=w.drew) (o:=o) (vs:=us.take (i*5)) (cs:=cs) (T:=T) hb (λj hj=>by
    rw [hcs _ (by omega)];rw [htl] at hj;simp only [List.getD_eq_getElem?_getD,List.getElem?_take,if_pos hj]) (by omega) j v hj)
 have hrz:∀ ty,(Builtin.append_ #[27,3] ty #[.slice (some ⟨b,o,none⟩) i C,.int .i64 ((n:Int)+1 - (i:Int))]).run Tryz.prog w =
  .ok (.slice (some ⟨w.heap.size,0,none⟩) (n+1) (grownCap w (n+1) C 35)) (w.drew.alloc (.cells ((us.take (i*5)).toArray++Builtin.zeroCells z0.cells (n+1 - i)++Builtin.zeroCells z0.cells (grownCap w (n+1) C 35 - (n+1))) 35)):=λty=>by
  have h:=Lib.run_append_grow_zeros w 27 3 ty 35 i0 z0 .i64 .i64 Tryz.underlying27 Tryz.underlying3 hi0 hz0 (some ⟨b,o,none⟩) i C (us.take (i*5)) hold (n+1 - i) (by omega) (by omega) (by omega) (by omega) (by rw [hzb];have:=Nat.mul_le_mul_right yv.bytes (show n+1 - i<=n+1 by omega);omega) (by rw [hzb,hik];exact growslice_fits hroom hbig);rw [hik] at h;rw [hkk];exact h
 obtain ⟨G,hG⟩:∃ G,G=grownCap w (n+1) C 35:=⟨_,rfl⟩;obtain ⟨ROW,hROW⟩:∃ ROW:Array Value,ROW=(us.take (i*5)).toArray++Builtin.zeroCells z0.cells (n+1 - i)++Builtin.zeroCells z0.cells (G - (n+1)):=⟨_,rfl⟩;rw [<- hG] at hrz;rw [<- hROW] at hrz;have hGn:n+1<=G:=by rw [hG];exact grownCap_ge w _ _ _
 have hGm:G<=maxLen:=by rw [hG];exact grownCap_le_maxLen w (n+1) C 35 (by unfold maxLen;omega)
 have hG63:G<=9223372036854775807:=by unfold maxLen at hGm;omega
 have hRs:ROW.size=G*5:=by
  rw [hROW];simp only [Array.size_append,List.size_toArray,eP,hzz,htl];rw [<- Nat.add_mul,<- Nat.add_mul]
  congr 1
  omega
 have hGK:(n+1)*5<=G*5:=Nat.mul_le_mul_right _ hGn
 have hRg:∀ j,j<i*5->ROW.getD j undef=us.getD j undef:=by
  intro j hj;rw [hROW];simp only [Array.getD_eq_getD_getElem?];rw [Array.getElem?_append_left (by simp [eP];omega),Array.getElem?_append_left (by simp;omega)];simp [List.getElem?_take,hj,List.getD_eq_getElem?_getD]
 obtain ⟨W1,hW1⟩:∃ W1,W1=w.drew.alloc (.cells ROW 35):=⟨_,rfl⟩;rw [<- hW1] at hrz;have hN:W1.heap[w.heap.size]? = some (.cells ROW 35 (0,0)):=by rw [hW1];exact mA w.drew _
 have hO:∀ c,c<w.heap.size->W1.heap[c]? = w.heap[c]?:=λc hc=>by rw [hW1];exact mz w.drew _ hc
 have hS:W1.heap.size=w.heap.size+1:=by rw [hW1];simp
 obtain ⟨cs1,hcs1⟩:∃ c,c=(ROW.toList.take (i*5)++xs++ROW.toList.drop (i*5+xs.length)).toArray:=⟨_,rfl⟩;obtain ⟨s1,g1⟩:=d4 ROW (i*5) xs (by omega);rw [<- hcs1] at s1 g1
 have hcpA:=iN (P:=Tryz.prog) (w:=W1) (ty:=3) Tryz.underlying27 hi0 (dl:=n+1 - i) (dc:=G - i) (o:=i*5) hN ⟨bv,ov,none⟩ (sl:=1) (sc:=Cv) xs 1 (by simp only [Nat.min_def];split<;>omega) (by rw [hxl,hzs])
  (λj v hj=>by
   rw [Addr.add_lit];exact gu (by rw [hO _ hvw];exact hbv) (λj hj=>hcv j (by omega)) (by omega) j v hj) h1v (by omega)
 rw [<- hcs1] at hcpA;have hN1:(W1.setRow w.heap.size cs1).heap[w.heap.size]? = some (.cells cs1 35 (0,0)):=setRow_heap _ _ _ _ _ _ hN;obtain ⟨cs2,hcs2⟩:∃ c,c=(cs1.toList.take (i*5+5)++us.drop (i*5)++cs1.toList.drop (i*5+5+(us.drop (i*5)).length)).toArray:=⟨_,rfl⟩;obtain ⟨s2,g2⟩:=d4 cs1 (i*5+5) (us.drop (i*5)) (by omega);rw [<- hcs2] at s2 g2;have hbN:b≠w.heap.size:=by omega
 have hcpB:=iN (P:=Tryz.prog) (w:=(W1.setRow w.heap.size cs1).drew) (ty:=3) Tryz.underlying27 hi0 (dl:=n - i) (dc:=G - (i+1)) (o:=i*5+5) hN1 ⟨b,o+i*5,none⟩ (sl:=n - i) (sc:=C - i) (us.drop (i*5)) (n - i) (by simp only [Nat.min_def];split<;>omega) (by rw [hdl,hzs])
  (λj v hj=>by
   rw [Addr.add_lit]
   have hb':(W1.setRow w.heap.size cs1).drew.heap[b]? = some (.cells cs T (0,0)):=by
    show (W1.setRow w.heap.size cs1).heap[b]? = _
    rw [setRow_other _ _ _ _ hbN,hO _ hbw];exact hb
   refine gu hb' (o:=o+i*5) (vs:=us.drop (i*5)) (λj hj=>?_) (by omega) j v hj;rw [Nat.add_assoc,hcs _ (by omega)];simp [List.getD_eq_getElem?_getD])
  (λv hv=>h1 v (List.mem_of_mem_drop hv)) (by omega)
 rw [<- hcs2] at hcpB
 have hP:Placed w ((W1.setRow w.heap.size cs1).drew.setRow w.heap.size cs2) (some b) w.heap.size 0 G (n+1) 5 (us.take (i*5)++xs++us.drop (i*5)):=by
  refine ⟨⟨cs2,35,setRow_heap _ _ cs1 cs2 _ (0,0) hN1,by omega,λj hj=>?_⟩,hGn,hGm,?_,?_,.inl (Nat.le_refl _),λc hc hne=>?_⟩
  ·rw [Nat.zero_add,g2,g1]
   simp only [List.getD_eq_getElem?_getD];rw [List.append_assoc];by_cases c1:j<i*5
   ·rw [if_neg (by omega),if_neg (by omega),List.getElem?_append_left (by omega),List.getElem?_take,if_pos c1,hRg j c1]
    simp [List.getD_eq_getElem?_getD]
   ·rw [List.getElem?_append_right (by omega),htl]
    by_cases c2:j<i*5+5
    ·rw [if_neg (by omega),if_pos (by omega),List.getElem?_append_left (by omega)]
    ·rw [if_pos (by omega),List.getElem?_append_right (by omega),List.getElem?_drop,List.getElem?_drop]
     congr 2
     omega
  ·simp [hS]
  ·rw [hW1];exact ⟨rfl,rfl,rfl⟩
  ·rw [setRow_other _ _ c _ hne]
   show (W1.setRow w.heap.size cs1).heap[c]? = _
   rw [setRow_other _ _ c _ hne,hO c hc]
 have hw1:IntKind.i64.wrap ((i:Int)+1)=(i:Int)+1:=by rw [IntKind.wrap_i64];omega
 have hb1:(0:Int)<=(i:Int)+1:=by omega
 have hin:i<=n:=by omega
 have htn:((i:Int)+1).toNat=i+1:=by omega
 have hGi:¬ (G=i):=by omega
 have hGim:¬ (G=i+1):=by omega
 have hci:¬ (C=i):=by omega
 have hb3:(i:Int)<=(n:Int):=by omega
 clear hkk hik hold hROW hG hcs1 hcs2 hN hN1 hO hS hRs hRg hW1
 go_enter Tryz.func192,Tryz.ntmps192
 go_wp2_with (first
  |(at_builtin;refine Lib.wpList_append_run _ rfl _ _ _ _ rfl _ _ rfl rfl _ _ (hrz _) ?_)
  |(at_builtin;refine mh _ rfl _ _ 27 27 rfl _ _ rfl rfl hcpA ?_))
 go_region
 go_wp2
 go_ret
 all_goals exact ⟨_,rfl,hP⟩
theorem Dv:Cl Tryz.prog 192 5 yv.bytes:=by
 refine ⟨⟨_,Tryz.func192,by kernel_rfl,by kernel_rfl⟩,λw us xs n i s v ob bv0 hul hxl hi hbig hs hv hap=>?_⟩;obtain ⟨i0,z0,hi0,hzs,hzb,hz0,hzc,-⟩:=(ae 35 _ FX).info;have hzz:=jw hzc;have hzs:i0.size=5:=hzs;have hzb:i0.bytes=yv.bytes:=hzb;have hby:0<yv.bytes:=by decide
 have hzz:z0.cells.size=5:=hzz;have hnb:(n+1)<=140737488355328:=Nat.le_trans (Nat.le_mul_of_pos_right _ hby) hbig;rcases hv with ⟨h0,-⟩|⟨bv,ov,Cv,cv,Tv,rfl,rfl,hbv,hCv,hCvm,hfv,hcv,h1v⟩
 ·omega
 have hcellv:∀ j v,xs[j]? = some v->w.cell? (Addr.add ⟨bv,ov,none⟩ j)=some v:=λj v hj=>by
  rw [Addr.add_lit];exact gu hbv (λj hj=>hcv j (by omega)) (by omega) j v hj
 have fresh:∀ (C0 nC:Nat) (rest:Array Value) (ob:Option Nat),n+1 <= nC -> nC <= maxLen -> rest.size=(nC - (n+1))*5 ->
  Placed w (w.drew.alloc (.cells (us.toArray++xs.toArray++rest) 35)) ob w.heap.size 0 nC (n+1) 5 (us.take (n*5)++xs++us.drop (n*5)):=by
  intro C0 nC rest ob h1 h2 h3;have e:nC*5=n*5+5+(nC - (n+1))*5:=by rw [<- Nat.succ_mul,<- Nat.add_mul];congr 1;omega
  refine ⟨⟨_,_,mA w.drew _,by simp [hul,hxl,h3];omega,λj hj=>?_⟩,h1,h2,by simp,⟨rfl,rfl,rfl⟩,.inl (Nat.le_refl _),λc hc _=>mz w.drew _ hc⟩;rw [List.take_of_length_le (by omega),List.drop_eq_nil_of_le (by omega),List.append_nil,Nat.zero_add];have e2:(n+1)*5=n*5+5:=Nat.succ_mul n 5;simp only [Array.getD_eq_getD_getElem?,List.getD_eq_getElem?_getD];rw [Array.getElem?_append_left (by simp;omega),List.append_toArray,List.getElem?_toArray]
 rcases hs with ⟨rfl,rfl,a,rfl⟩|⟨b,o,C,cs,T,rfl,rfl,hb,hnC,hCm,hfit,hcs,h1⟩
 ·obtain rfl:i=0:=by omega
  have hun:us=[]:=List.eq_nil_of_length_eq_zero (by omega);subst hun;have hrun:=λty=>jz (P:=Tryz.prog) (w:=w) (ty:=ty) Tryz.underlying27 hi0 hz0 a ⟨bv,ov,none⟩ 1 Cv xs (by rw [hxl,hzs]) hcellv (by omega) (by omega) (by rw [hzb];omega)
  refine (ri w a 0 0 bv ov Cv _ _ (Nat.le_refl _) (by unfold maxLen;omega) hrun).mono ?_
  rintro e w' ⟨rfl,rfl⟩
  have hge:=grownCap_ge w 1 0 35;have hcm:=grownCap_le_maxLen w 1 0 35 (by unfold maxLen;omega);refine ⟨_,_,_,rfl,?_⟩;have:=fresh 0 (grownCap w 1 0 35) (Builtin.zeroCells z0.cells (grownCap w 1 0 35 - 1)) none hge hcm (by rw [eP,hzz])
  simpa using this
 ·by_cases hin:i=n
  ·subst hin
   by_cases hroom:i+1<=C
   ·have hmm:(i+1)*5<=C*5:=Nat.mul_le_mul_right _ hroom
    have e2:(i+1)*5=i*5+5:=Nat.succ_mul i 5;have hrun:=λty=>Go.AM.run_append_room (P:=Tryz.prog) (ty:=ty) (c:=Cv) (n:=i) (m:=1) Tryz.underlying27 hi0 hb ⟨bv,ov,none⟩ xs (by rw [hxl,hzs]) hcellv h1v hroom (by rw [hzs];exact hfit)
    refine (ri w _ i C bv ov Cv _ _ hnC hCm hrun).mono ?_
    rintro e w' ⟨rfl,rfl⟩
    obtain ⟨g0,g⟩:=d4 cs (o+i*i0.size) xs (by rw [hzs];omega);refine ⟨_,_,_,rfl,⟨_,_,setRow_heap w b cs _ T (0,0) hb,by rw [g0];exact hfit,λj hj=>?_⟩,hroom,hCm,by simp,⟨rfl,rfl,rfl⟩,.inr rfl,λc _ hc=>setRow_other w b c _ hc⟩;rw [g,hzs,List.take_of_length_le (by omega),List.drop_eq_nil_of_le (by omega),List.append_nil];by_cases c1:j<i*5
    ·rw [if_neg (by omega),hcs j c1]
     simp only [List.getD_eq_getElem?_getD];rw [List.getElem?_append_left (by omega)]
    ·rw [if_pos (by omega)]
     simp only [List.getD_eq_getElem?_getD];rw [List.getElem?_append_right (by omega)]
     congr 2
     omega
   ·have hrun:=λty=>run_append_grow (P:=Tryz.prog) w 27 ty 35 i0 z0 Tryz.underlying27 hi0 hz0 ⟨b,o,none⟩ i C us (by rw [hzs];exact hul) (λj v hj=>by
     rw [Addr.add_lit];have:=Nat.mul_le_mul_right 5 hnC;exact gu hb (λj hj=>hcs j (by omega)) (by omega) j v hj) ⟨bv,ov,none⟩ 1 Cv xs (by rw [hxl,hzs]) hcellv (by omega) (by omega) (by rw [hzb];exact growslice_fits (by omega) hbig)
    refine (ri w _ i C bv ov Cv _ _ hnC hCm hrun).mono ?_
    rintro e w' ⟨rfl,rfl⟩
    have hge:=grownCap_ge w (i+1) C 35;have hcm:=grownCap_le_maxLen w (i+1) C 35 (by unfold maxLen;omega);exact ⟨_,_,_,rfl,fresh C _ _ _ hge hcm (by rw [eP,hzz])⟩
  ·by_cases hroom:n+1<=C
   ·refine (Bu w us xs n i b o C bv ov Cv cs cv T Tv hul hxl (by omega) hroom hCm hb hfit hcs h1 hbv hCv hfv (λj hj=>hcv j (by omega)) h1v (λh=>hap b rfl (by rw [h]))).mono ?_
    rintro e w' ⟨rfl,hp⟩
    exact ⟨_,_,_,rfl,hp⟩
   ·refine (Du w us xs n i b o C bv ov Cv cs cv T Tv hul hxl (by omega) hnC (by omega) hbig hb hfit hcs h1 hbv hCv hfv (λj hj=>hcv j (by omega)) h1v).mono ?_
    rintro e w' ⟨nC,rfl,hp⟩
    exact ⟨_,_,_,rfl,hp⟩
open Go.AM
set_option maxRecDepth 20000
set_option maxHeartbeats 6400000
theorem qr (room rev:Int) (hr : -4611686018427387904<=rev/\rev<=4611686018427387904):ai Tryz.prog 196 [.c (vi room),.c (vi rev)] (.tup [.agg (eF room rev).1.res,.c (.v (.bool (eF room rev).2)) 1]):=by
 refine pci ae Tryz.func196 (λw0 base=>?_);have ew:Go.IntKind.i64.wrap (rev+1)=rev+1:=Go.IntWalk.i64_in _ (by omega);simp [ew];intro b4 b6;refine aa.pure (gT (db room rev) (by rw [oE];omega)) (by simp [db,Ring.row]) ?_;by_cases c2:bT (db room rev)
 ·have e:=sK c2
  rw [show db room rev=⟨room,rev+1,false,[]⟩ from rfl] at c2;simp [c2,e,Ring.res,db]
 ·simp [ab c2,o5 c2,Ring.res,Ring.zero]
theorem xv (r:Ring) (hl:dX r<=2 ^ 30) (e:Entry) (he:aU e<=2 ^ 29):ai Tryz.prog 194 [.agg r.row,.agg e.row] (.one (.agg (dz r e).res)):=by
 refine pci ae Tryz.func194 (λw0 base=>?_);have hno:=@sI r e;have hfull:=@oZ r e;have hroom:=@oY r e;have hle:=bf (f:=aU) (B:=2 ^ 30) (l:=r.list) (by unfold dX at hl;omega);have he1:nL aU [e]<=2 ^ 30:=by simp [nL,cJ];omega
 simp [Ring.row,Entry.row];intro b2 b3 b4;refine aa.pure (ru r hl) (by simp [Ring.row]) ?_;simp [Ring.res];intro H b5;refine aa.pure (gT r (by omega)) (by simp [Ring.row]) ?_;by_cases c1:bT r
 rotate_left
 ·simp [ab c1,hno (λh=>c1 h.1)]
 simp [c1];refine aa.pure (jM e (by omega)) (by simp [Entry.row]) ?_;by_cases c2:bD e
 rotate_left
 ·simp [ab c2,hno (λh=>c2 h.2.1)]
 simp [c2]
 cases c3:r.out with
 |true=>simp [hno (λh=>by rw [c3] at h;exact absurd h.2.2 (by simp)),c3]
 |false=>
 simp;by_cases c4:(r.list.length:Int)=r.cap
 ·have e1:=hfull ⟨c1,c2,c3⟩ c4
  simp [c4,e1]
 have e1:=hroom ⟨c1,c2,c3⟩ c4;simp [c4];refine drw eok mix [0,1,2,6] [3,4,5,7] (.c 4 3 2 13 (.c 4 4 0 13 (.c 4 5 4 9 (.c 4 7 9 0 (.l 4 0) .s) .s) .s) .s) ?_;simp
 try intros
 refine aa.pure (jO [e] he1) (by simp [Entry.row]) ?_;simp
 try intros
 refine ⟨by omega,?_⟩;rw [e1];simp [c3,Entry.row]
 try (rintro row (⟨a,-,rfl⟩|rfl)<;>rfl)
theorem tQ (r:Ring) (hl:dX r<=2 ^ 30) (rev:Int) (hr : -4611686018427387904<=rev/\rev<=4611686018427387904):ai Tryz.prog 199 [.agg r.row,.c (vi rev)] (.tup [.agg (co r rev).1.res,.c (.v (.bool (co r rev).2)) 1]):=by
 refine pci ae Tryz.func199 (λw0 base=>?_);have hno:=@oX r rev;have hyes:=@nX r rev;simp [Ring.row];intro b2 b4;refine aa.pure (gT r (by omega)) (by simp [Ring.row]) ?_;by_cases c1:bT r
 rotate_left
 ·simp [ab c1,hno c1,Ring.res,Ring.zero]
 simp [c1];have hc:=qr r.cap rev hr;rw [<- hyes c1] at hc;generalize co r rev=R at hc ⊢;obtain ⟨R1,R2⟩:=R;refine aa.pure hc (by simp) ?_;simp [Ring.res]
theorem sC (h:Hub) (hl:dU h<=2 ^ 40) (id:Int):ai Tryz.prog 197 [.agg h.row,.c (vi id)] (.one (.c (vi (fl h.subs id)) 1)):=by
 refine pci ae Tryz.func197 (λw0 base=>?_);obtain ⟨sh,docs,l,last⟩:=h;have hle:=bf (fL hl).2;simp only at hle;simp [Hub.row];intro b2 b3;refine inl ae Tryz.func264 20000 (λw1 F=>?_);simp
 refine az.intro eok (λi:Nat=>i<=l.length/\∀ j,j<i->∀ hj:j<l.length,¬ l[j].id=id) (λi=>⟨19,20000,[(8,.v (.int .i64 i)),(7,.v (.int .i64 l.length)),(0,.ro (l.map Sub.row)),(1,.clo 265 [.p 48 b3 0])],
  [(48,.vars b3 3 [.v (.int .i64 id)])]⟩) (λi=>l.length - i) 0 (by simp) (by simp) (λi hi=>?_)
 by_cases hlt:i<l.length
 ·simp [hlt]
  refine inl ae Tryz.func265 40000 (λw2 F2=>?_);simp [Sub.row];intro b;by_cases c:l[i].id=id
  ·have e:fl l id=i:=sO hlt c hi.2
   simp [c,e]
  ·simp [c]
   exact ⟨i+1,⟨by omega,λj hj hjl=>by
    by_cases hji:j=i
    ·subst hji;exact c
    ·exact hi.2 j (by omega) hjl⟩,by omega,aj (by omega)⟩
 ·have e:fl l id = -1:=mB (λj hj=>hi.2 j (by omega) hj)
  simp [hlt,e]
theorem y7 (h:Hub) (hl:dU h<=2 ^ 30):ai Tryz.prog 105 [.agg h.row] (.tup [.agg (dA h).1.res,.c (vi (dA h).2) 1]):=by
 refine pci ae Tryz.func105 (λw0 base=>?_);simp [Hub.row];intro b1 b2;refine aa.pure (fg h hl) (by simp [Hub.row]) ?_;by_cases c1:aI h
 rotate_left
 ·simp [ab c1,uY c1,Hub.res,Hub.zero]
 simp [c1]
 cases c2:h.shut with
 |true=>simp [qB c1 c2,Hub.res,Hub.zero]
 |false=>
 have e:=sP c1 (by rw [c2];simp);simp;refine aa.pure (dh h hl) (by simp [Hub.row,c2]) ?_;simp [Hub.res,e]
theorem rk (h:Hub) (hl:dU h<=2 ^ 28) (name:ByteArray) (room:Int):ai Tryz.prog 102 [.agg h.row,.c (.v (.string name)),.c (vi room)]
 (.tup [.agg (aM h name room).1.res,.c (vi (aM h name room).2.1) 1,.c (vi (aM h name room).2.2) 1]):=by
 refine pci ae Tryz.func102 (λw0 base=>?_);have hls:=bf (fL hl).2;simp [Hub.row];intro b3 b6;refine aa.pure (f9 h (by omega) name) (by simp [Hub.row]) ?_;simp;refine aa.pure (fg h (by omega)) (by simp [Hub.row]) ?_;by_cases c1:aI h
 rotate_left
 ·simp [ab c1,gV (λh=>c1 h.1),Hub.res,Hub.zero]
 simp [c1];refine aa.pure (aT room 1 6) (by simp) ?_;by_cases c2:1<=room/\room<=6
 rotate_left
 ·simp [ab c2,gV (λh=>c2 h.2),Hub.res,Hub.zero]
 simp [c2]
 cases c3:h.shut with
 |true=>simp [lg ⟨c1,c2⟩ c3,Hub.res,Hub.zero]
 |false=>
 simp;rcases ee h.docs name with ⟨k,hk,e,-⟩|e;rotate_left
 ·simp [e,lh ⟨c1,c2⟩ (by rw [c3];simp) e,Hub.res,Hub.zero]
 have hk0:¬ (k:Int)<0:=by omega
 have hat:=mC ⟨c1,c2⟩ (by rw [c3];simp) hk e;simp [e,hk0];have hlast:=c1.2.2.1;by_cases c4:h.subs.length=6
 ·have c4':(h.subs.length:Int)=6:=by omega
  rw [if_pos (.inl c4)] at hat;simp [c4',hat,Hub.res,Hub.zero]
 have c4':¬ (h.subs.length:Int)=6:=by omega
 simp [c4'];by_cases c5:h.last=1000000000
 ·rw [if_pos (.inr c5)] at hat
  simp [c5,hat,Hub.res,Hub.zero]
 rw [if_neg (λh=>h.elim c4 c5)] at hat;have ew:Go.IntKind.i64.wrap (h.last+1)=h.last+1:=Go.IntWalk.i64_in _ (by omega);have hh:=bV (gp c1 hk);obtain ⟨d,hd⟩:∃ d,h.docs[k]=d:=⟨_,rfl⟩;rw [hd] at hat hh;simp [c5];refine aa.pure (dh h (by omega)) (by simp [Hub.row,c3]) ?_;simp [Hub.res,ew,c3,hk,hd,Doc.row];intro H1 H2 b10;refine aa.pure (bC d) (by simp [Doc.row]) ?_;simp;have hc:=qr room (ac d) (by omega);generalize eF room (ac d)=R at hc hat;obtain ⟨⟨cp,nx,ot,ls⟩,ok⟩:=R;refine aa.pure hc (by simp) ?_;simp [Ring.res];intro H11 H12 b11;refine ⟨by omega,λH=>?_⟩;refine drw eok mix [0,1,2,4,5] [3] (.c 5 3 16 15 (.l 5 15) .s) ?_;simp
 try intros
 rw [hat];simp [c3,Sub.row]
 try (rintro row (⟨a,-,rfl⟩|rfl)<;>rfl)
theorem vv (h:Hub) (hl:dU h<=2 ^ 28) (id:Int):ai Tryz.prog 104 [.agg h.row,.c (vi id)]
 (.tup [.agg (bj h id).1.res,.c (.s ((bj h id).2.1.map al)) 1,.c (vi (bj h id).2.2.1) 1,.c (vi (bj h id).2.2.2) 1]):=by
 refine pci ae Tryz.func104 (λw0 base=>?_);have hls:=bf (fL hl).2;simp [Hub.row];intro b2 b4;refine aa.pure (sC h (by omega) id) (by simp [Hub.row]) ?_;simp;refine aa.pure (fg h (by omega)) (by simp [Hub.row]) ?_;by_cases c1:aI h
 rotate_left
 ·simp [ab c1,qC c1,Hub.res,Hub.zero]
 simp [c1];rcases kw h.subs id with ⟨k,hk,e,-⟩|e;rotate_left
 ·simp [e,n5 c1 e,Hub.res,Hub.zero]
 have hk0:¬ (k:Int)<0:=by omega
 obtain ⟨hro,j,hj,ej⟩:=BG c1 hk;have hat:=qD c1 hk e hj ej;have hm:=et (f:=fq) (fL hl).2 hk;have hdn:=et (f:=cO) (fL hl).1 hj;have hh:=bV (gp c1 hj);unfold fq at hm;have hmod:=pK hk;obtain ⟨s,hs⟩:∃ s,h.subs[k]=s:=⟨_,rfl⟩;obtain ⟨d,hd⟩:∃ d,h.docs[j]=d:=⟨_,rfl⟩;rw [hs] at hat hm hmod ej;rw [hd] at hat hdn hh;have hc:=tQ s.r (by omega) (ac d) (by omega);generalize co s.r (ac d)=R at hc hat;obtain ⟨r,ok⟩:=R;simp only at hat hc;simp [e,hk0];refine fw (λx:Nat=>[(9,.p 144 x 0)]) (λx=>[(144,.vars x 35 [.v (.string d.name),.v (.int .i64 d.fr),.ro (d.text.map al),.ro (d.list.map Entry.row),.ro (d.seen.map Seen.row)])]) [1,2,4,5,6,7,8] ?_ ?_
 ·refine drw eok mix [0,1,2,3,4,5,6,7,8] [9,10,11,12,13] (.c 9 9 65 446 (.c 9 10 128 318 (.c 9 11 0 318 (.c 9 12 0 318 (.c 9 13 318 0 (.l 9 0) .s) .s) (.c 9 12 0 318 (.c 9 11 0 318 (.c 9 13 318 0 (.l 9 0) .s) .s) .s)) (.c 9 12 0 446 (.c 9 10 128 318 (.c 9 11 0 318 (.c 9 13 318 0 (.l 9 0) .s) .s) .s) .s)) (.c 9 12 0 511 (.c 9 9 65 446 (.c 9 10 128 318 (.c 9 11 0 318 (.c 9 13 318 0 (.l 9 0) .s) .s) .s) .s) .s)) ?_
  simp [hk,hs,Sub.row]
  try intros
  repeat' first
   |(refine aa.pure (f9 h (by omega) s.doc) (by simp [Hub.row]) ?_;simp [hj,hd,Doc.row,ej];try intros)
   |(rw [Trc];refine ⟨?_,?_⟩<;>(try simp [hk,hs,hj,hd,Sub.row,Doc.row])<;>try intros)
 rintro b9
 simp;refine aa.pure (dh h (by omega)) (by simp [Hub.row]) ?_;simp [Hub.res];intro H1 H2 b10;refine drw eok mix [0,1,2,3,4,5,6,7,8,9,15,16] [10,11,12,13,14,17] (.c 12 10 4 4091 (.c 12 11 8 4083 (.c 12 12 0 4083 (.c 12 13 0 4083 (.c 12 14 0 4083 (.c 12 17 4081 2 (.l 12 2) .s) .s) .s) .s) .s) .s) ?_;simp [hk,hs,Sub.row]
 try intros
 refine aa.pure (bC d) (by simp [Doc.row]) ?_;simp
 try intros
 refine aa.pure (hc) (by simp [Ring.row]) ?_;simp [Ring.res,hk]
 try intros
 refine drw eok mix [0,1,3,8] [2,4,5,6,7] (.c 4 2 4 11 (.c 4 4 2 9 (.c 4 5 8 1 (.c 4 6 0 1 (.c 4 7 0 1 (.l 4 1) .s) .s) .s) .s) .s) ?_;simp
 try intros
 refine aa.pure (jk d (by omega)) (by simp [Doc.row]) ?_;simp
 try intros
 refine aa.pure (bC d) (by simp [Doc.row]) ?_;simp
 try intros
 rw [hat];simp [hmod r];exact tI
theorem Fj (h:Hub) (hl:dU h<=2 ^ 28) (_c1:aI h) (c:Call):ai Tryz.prog 101 [.agg h.row,.agg c.row] (.one (.agg (kn h c).res)):=by
 refine pci ae Tryz.func101 (λw0 base=>?_);simp [Hub.row,Call.row];intro b2 b3 b4;refine aa.pure (f9 h (by omega) c.doc) (by simp [Hub.row]) ?_;simp
 cases c3:h.shut with
 |true=>simp [xL c3,Answer.res,codeA]
 |false=>
 simp;rcases ee h.docs c.doc with ⟨k,hk,e,-⟩|e;rotate_left
 ·simp [e,xM (by rw [c3];simp) e,Answer.res,codeA]
 have hk0:¬ (k:Int)<0:=by omega
 have hat:=DN (c:=c) (by rw [c3];simp) hk e;have hdn:=et (f:=cO) (fL hl).1 hk;obtain ⟨d,hd⟩:∃ d,h.docs[k]=d:=⟨_,rfl⟩;rw [hd] at hat hdn;simp [e,hk0];by_cases c4:c.kind=4
 ·rw [if_pos c4] at hat
  simp [c4];refine drw eok mix [0,1,2,3,4,6,7,8,9,10] [5,11,12,13] (.c 10 5 32 991 (.c 10 11 1 990 (.c 10 12 0 990 (.c 10 13 990 0 (.l 10 0) .s) .s) .s) .s) ?_;simp [hk,hd,Doc.row]
  try intros
  refine aa.pure (jk d (by omega)) (by simp [Doc.row,Doc.row]) ?_;simp
  try intros
  refine aa.pure (bC d) (by simp [Doc.row,Doc.row]) ?_;simp
  try intros
  rw [hat];simp [Answer.res]
 rw [if_neg c4] at hat;have hf:=uS d (by omega) c.n;generalize dM d c.n=R at hat hf;obtain ⟨list,code⟩:=R;simp only at hat hf;simp [c4];refine drw eok mix [0,1,2,3,4,5,6] [7,8,9,10,11,12] (.c 7 7 5 122 (.c 7 8 0 122 (.c 7 9 0 122 (.c 7 10 0 122 (.c 7 11 122 0 (.c 7 12 0 0 (.l 7 0) .s) .s) .s) .s) .s) .s) ?_;simp [hk,hd,Doc.row]
 try intros
 refine aa.pure (hf) (by simp [Doc.row,Doc.row]) ?_;simp
 try intros
 rw [hat];simp [Answer.res]
theorem BW {name:ByteArray} {t:List Int}:aQ (eW name t) ↔ fY name/\cD t:=by
 constructor
 ·rintro ⟨h1,-,h3,-⟩
  exact ⟨h1,h3⟩
 ·rintro ⟨h1,h2⟩
  exact ⟨h1,by simp [eW],h2,by simp [eW],by simp [eW],by simp [eW,aB],λi hi=>by simp [eW] at hi⟩
theorem y9 (h:Hub) (hl:dU h<=2 ^ 28) (name:ByteArray) (hs:name.size<=2 ^ 28) (t:List Int) (ht:t.length<=2 ^ 28):ai Tryz.prog 99 [.agg h.row,.c (.v (.string name)),.c (.s (t.map al))]
 (.tup [.agg (cP h name t).1.res,.c (vi (cP h name t).2) 1]):=by
 refine pci ae Tryz.func99 (λw0 base=>?_);have hld:=bf (fL hl).1;have hdn:=sE name t hs ht;unfold dG at hdn;simp [Hub.row];intro b3 b6;refine aa.pure (fg h (by omega)) (by simp [Hub.row]) ?_;by_cases c1:aI h
 rotate_left
 ·simp [ab c1,iT (λh=>c1 h.1),Hub.res,Hub.zero]
 simp [c1];refine aa.pure (ng name (by omega)) (by simp) ?_;by_cases d1:fY name
 rotate_left
 ·simp [ab d1,iT (λh=>d1 (BW.1 h.2).1),Hub.res,Hub.zero]
 simp [d1];refine aa.pure (gS t (by omega)) (by simp) ?_;by_cases d2:cD t
 rotate_left
 ·simp [ab d2,iT (λh=>d2 (BW.1 h.2).2),Hub.res,Hub.zero]
 have c0:aQ (eW name t):=BW.2 ⟨d1,d2⟩;rw [if_pos c0] at hdn;simp [d2]
 cases c2:h.shut with
 |true=>simp [qF ⟨c1,c0⟩ c2,Hub.res,Hub.zero]
 |false=>
 have c2':¬ h.shut=true:=by rw [c2];simp
 simp;refine aa.pure (f9 h (by omega) name) (by simp [Hub.row,c2]) ?_;simp;by_cases c3:0<=bH h.docs name
 ·simp [c3,qG ⟨c1,c0⟩ c2' c3,Hub.res,Hub.zero]
 simp [c3];by_cases c4:h.docs.length=5
 ·have c4':(h.docs.length:Int)=5:=by omega
  simp [c4',qI ⟨c1,c0⟩ c2' c3 c4,Hub.res,Hub.zero]
 have c4':¬ (h.docs.length:Int)=5:=by omega
 have hat:=sQ ⟨c1,c0⟩ c2' c3 c4;rw [pV] at hat;have hal:=pd (eW name t).name h.docs;have hon:=λ{k:Nat} h1 h2=>pe (name:=(eW name t).name) (l:=h.docs) (k:=k) h1 h2
 rw [show (eW name t).name=name from rfl] at hat hal hon;generalize eG name h.docs=a at hat hal hon;simp [c4'];refine aa.pure hdn (by simp) ?_;simp [Doc.res,eW];intro G1 G2 G3 b8;refine aa.pure (dh h (by omega)) (by simp [Hub.row,c2]) ?_;simp [Hub.res,c2];intro K1 K2 b10
 refine ah eok (λk:Nat=>k<=a) (λk=>⟨76,0,[(11,.v (.int .i64 k)),(1,.v (.string name)),(6,.p 96 b6 0),(8,.p 128 b8 0),(10,.p 160 b10 0)],
  [(160, .vars b10 30 [.v (.bool false), .sl 801 K1 5 0 h.docs.length, .sl 802 K2 6 0 h.subs.length, .v (.int .i64 h.last)]), (96, .vars b6 30 [.v (.bool false), .nil, .nil, .v (.int .i64 0)]),
   (128,.vars b8 35 [.v (.string name),.v (.int .i64 0),.sl 738 G1 1 0 t.length,.sl 739 G2 3 0 0,.sl 740 G3 3 0 0]),(738,.rows G1 1 (t.map al) true),(739,.rows G2 3 [] true),(740,.rows G3 3 [] true),
   (801,.rows K1 5 (h.docs.map Doc.row) true),(802,.rows K2 6 (h.subs.map Sub.row) true)]⟩) (λk=>h.docs.length - k) 0 (by simp) (by simp) (λk hk=>Ent.refl ?_)
 have hdz:Doc.row ⟨name,0,t,[],[]⟩=[.v (.string name),.v (.int .i64 0),.s (t.map al),.s [],.s []]:=rfl;by_cases hlt:k<h.docs.length
 ·obtain ⟨x,hx⟩:∃ x,h.docs[k]=x:=⟨_,rfl⟩
  have hiff:=hon hk hlt;rw [hx] at hiff;simp [hlt,hx,Doc.row];by_cases s:sLt x.name name
  ·simp [s]
   exact Ent.refl ⟨k+1,by have:=hiff.1 s;omega,by omega,by simp;exact aj (by omega)⟩
  have hka:k=a:=by
   have:¬ k<a:=λh=>s (hiff.2 h)
   omega
  subst hka;simp [ab s];intro b72;refine kN Dv (by decide) (n:=h.docs.length) (rows:=h.docs.map Doc.row) (row:=[.v (.string name),.v (.int .i64 0),.s (t.map al),.s [],.s []]) (k:=801) (kv:=1152) (own:=true) (ownv:=true) (i:=k) (by simp) (by simp) (by simp) (by decide) (by simp;omega) (by simp;omega) (λH6=>?_);simp [hat,c2,eW,hdz];have hm:min k h.docs.length=k:=by omega
  refine ⟨by rw [hm];omega,?_,?_⟩
  ·rintro row (h|rfl|h)
   ·exact Hy (List.mem_of_mem_take h)
   ·rfl
   ·exact Hy (List.mem_of_mem_drop h)
  ·rw [vR (by simp [hm];omega)]
 have hka:k=h.docs.length:=by omega
 have hka2:a=h.docs.length:=by omega
 subst hka2;subst hka;simp;intro b72;refine kN Dv (by decide) (n:=h.docs.length) (rows:=h.docs.map Doc.row) (row:=[.v (.string name),.v (.int .i64 0),.s (t.map al),.s [],.s []]) (k:=801) (kv:=1152) (own:=true) (ownv:=true) (i:=h.docs.length) (by simp) (by simp) (by simp) (by decide) (by simp) (by simp;omega) (λH6=>?_);simp [hat,c2,eW,hdz];refine ⟨?_,?_⟩
 ·rintro row (h|rfl|h)
  ·exact Hy (List.mem_of_mem_take h)
  ·rfl
  ·exact Hy (List.mem_of_mem_drop h)
 ·rw [List.take_of_length_le (by simp),List.drop_eq_nil_of_le (by simp)]
theorem vu (h:Hub) (hl:dU h<=2 ^ 28) (name:ByteArray) (client seq base:Int) (o:List Part) (ho:nL aq o<=2 ^ 40) :
 ai Tryz.prog 100 [.agg h.row,.c (.v (.string name)),.c (vi client),.c (vi seq),.c (vi base),.c (.s (o.map Part.row))]
 (.tup [.agg (bL h name client seq base o).1.res,.c (vi (bL h name client seq base o).2.1) 1,.c (vi (bL h name client seq base o).2.2) 1]):=by
 refine pci ae Tryz.func100 (λw0 bs=>?_);have hls:=bf (fL hl).2;simp [Hub.row];intro b6 b12;refine aa.pure (f9 h (by omega) name) (by simp [Hub.row]) ?_;simp;refine aa.pure (fg h (by omega)) (by simp [Hub.row]) ?_;by_cases c1:aI h
 rotate_left
 ·simp [ab c1,qz c1,Hub.res,Hub.zero]
 simp [c1]
 cases c2:h.shut with
 |true=>simp [nY c1 c2,Hub.res,Hub.zero]
 |false=>
 have c2':¬ h.shut=true:=by rw [c2];simp
 simp;rcases ee h.docs name with ⟨k,hk,e,-⟩|e;rotate_left
 ·simp [e,nZ c1 c2' e,Hub.res,Hub.zero]
 have hk0:¬ (k:Int)<0:=by omega
 have hat:=qA (client:=client) (seq:=seq) (base:=base) (o:=o) c1 c2' hk e;have hdn:=et (f:=cO) (fL hl).1 hk;have hdo:=gp c1 hk;have hDn:=pS (client:=client) (seq:=seq) (base:=base) (o:=o) hdo;have hok:=xD (client:=client) (seq:=seq) (base:=base) (o:=o) hdo;obtain ⟨d,hd⟩:∃ d,h.docs[k]=d:=⟨_,rfl⟩;rw [hd] at hat hdn hDn hok;have hc:=nc d hdn client seq base o ho;generalize bQ d client seq base o=S at hc hat hDn hok;obtain ⟨D,rev,code⟩:=S;simp only at hc hat hDn hok;simp [e,hk0,hk,hd,Doc.row];refine aa.pure hc (by simp [Doc.row]) ?_;simp [Doc.res];intro H1 H2 H3 b16;by_cases c3:code=0
 rotate_left
 ·rw [if_neg c3] at hat
  simp [c3,hat,Hub.res,Hub.zero]
 rw [if_pos c3] at hat;have hok:=hok c3;simp [c3];refine aa.pure (dh h (by omega)) (by simp [Hub.row,c2]) ?_;simp [Hub.res,c2,hk];intro K1 K2 b19;refine drw eok mix [0,2,3,4,5,6] [1,7,8] (.c 6 1 32 31 (.c 6 7 1 30 (.c 6 8 0 30 (.l 6 30) .s) .s) .s) ?_;simp [hk,hd,Doc.row]
 try intros
 refine aa.pure (bC D) (by simp [Doc.row,Doc.row]) ?_;simp
 try intros
 refine aa.pure (bC d) (by simp [Doc.row,Doc.row]) ?_;simp
 try intros
 by_cases c5:ac D=ac d
 ·have hcm:eZ h name k d D=⟨h.shut,h.docs.set k D,h.subs,h.last⟩:=by unfold eZ;rw [if_neg (by omega)]
  rw [hcm] at hat;simp [c5,hat,c2];exact ⟨pE,rfl⟩
 rcases hok with rfl|⟨e,he1,he2⟩
 ·exact absurd rfl c5
 have hcm:eZ h name k d D=⟨h.shut,h.docs.set k D,h.subs.map (fb name e),h.last⟩:=by unfold eZ;rw [if_pos (by omega),he2]
 rw [hcm] at hat;have hgt:ac d<ac D:=by omega
 have hmem:e∈D.list:=List.mem_of_getLast? he2;have hpos:0<D.list.length:=List.length_pos_of_mem hmem;obtain ⟨m,hm⟩:∃ m,D.list.length=m+1:=⟨D.list.length - 1,by omega⟩;have hml:m<D.list.length:=by omega
 have hme:D.list[m]=e:=by
  rw [List.getLast?_eq_getElem?,hm,Nat.add_sub_cancel,List.getElem?_eq_getElem hml] at he2;exact Option.some.inj he2
 have hDl:nL aU D.list<=2 ^ 24:=by unfold cO at hDn;omega
 have hen:=dK (f:=aU) hDl hmem;have hlen24:=bf hDl;have ew:Go.IntKind.i64.wrap ((D.list.length:Int) - 1)=(m:Int):=by rw [Go.IntWalk.i64_in _ (by omega)];omega
 have em:Go.IntKind.i64.wrap (m:Int)=m:=ec (by omega);simp [hgt]
 refine ah eok (λi:Nat=>i<=h.subs.length) (λi=>⟨103,0,[(75,.v (.int .i64 i)),(74,.v (.int .i64 h.subs.length)),(73,.sl 914 K2 6 0 h.subs.length),(19,.p 304 b19 0),(16,.p 256 b16 0),(17,.v (.int .i64 rev)),(1,.v (.string name)),(12,.p 192 b12 0)],
  [(304, .vars b19 30 [.v (.bool false), .sl 913 K1 5 0 h.docs.length, .sl 914 K2 6 0 h.subs.length, .v (.int .i64 h.last)]), (192, .vars b12 30 [.v (.bool false), .nil, .nil, .v (.int .i64 0)]),
   (256,.vars b16 35 [.v (.string D.name),.v (.int .i64 D.fr),.sl 770 H1 1 0 D.text.length,.sl 771 H2 3 0 D.list.length,.sl 772 H3 3 0 D.seen.length]),
   (771,.lent H2 3 (D.list.map Entry.row)),(913,.rows K1 5 ((h.docs.set k D).map Doc.row) true),(914,.rows K2 6 ((gA name e h.subs i).map Sub.row) true)]⟩) (λi=>h.subs.length - i) 0 (by simp) (by simp [uk];rfl) (λi hi=>Ent.refl ?_)
 have htl:=qS name e h.subs i;by_cases hlt:i<h.subs.length
 ·have hti:=tq (name:=name) (e:=e) hlt
  have hlt':i<(gA name e h.subs i).length:=by omega
  have hsk:=ul (name:=name) (e:=e) hlt;have hsu:=qR (name:=name) (e:=e) hlt;have hmd:=pK hlt' (dz h.subs[i].r e);have hmn:=et (f:=fq) (fL hl).2 hlt;unfold fq at hmn;rw [hti] at hmd;obtain ⟨s,hs⟩:∃ s,h.subs[i]=s:=⟨_,rfl⟩;rw [hs] at hti hsk hsu hmd hmn;simp [hlt,htl,hti,Sub.row];intro b21;by_cases c6:s.doc=name
  rotate_left
  ·simp [c6]
   refine Ent.refl ⟨i+1,by omega,by omega,?_⟩;rw [<- hsk c6];simp;exact aj (by omega)
  have htell:fb name e s=⟨s.id,s.doc,dz s.r e⟩:=by unfold fb;rw [if_pos c6]
  rw [htell] at hsu;rw [hsu] at hmd;have hpc:=xv s.r (by omega) e (by omega);generalize dz s.r e=R at hpc hmd;simp [c6];have hmm:(m:Int)<(m:Int)+1:=by omega
  refine drw eok mix [0,1,2,3,4,5,6,7,8,9,10,11,12,14,15] [13,16] (.c 15 13 1028 31739 (.c 15 16 31737 2 (.l 15 2) .s) .s) ?_;simp [hlt,hm,em,hme,hmm,Entry.row]
  try intros
  refine aa.pure (hpc) (by simp [Ring.row,Entry.row,Entry.row]) ?_;simp [Ring.res,hlt,htl]
  try intros
  refine Ent.refl ⟨i+1,by omega,by omega,?_⟩;rw [<- hmd];simp;exact aj (by omega)
 have hie:i=h.subs.length:=by omega
 subst hie;rw [v7];simp [hat,c2];exact pE
theorem HT (h:Hub) (hl:dU h<=2 ^ 28) (c:Call) (hc:go c<=2 ^ 28) (n6:¬ c.kind=6):ai Tryz.prog 31 [.agg h.row,.agg c.row] (.tup [.agg (fDo h c).1.res,.agg (fDo h c).2.res]):=by
 refine pci ae Tryz.func31 (λw0 base=>?_);have hcn:c.doc.size<=2 ^ 28/\nL aq c.o<=2 ^ 28/\c.text.length<=2 ^ 28:=by unfold go at hc;omega
 simp [Hub.row,Call.row];intro b2 b3 b4 b5;refine aa.pure (fg h (by omega)) (by simp [Hub.row]) ?_;by_cases c1:aI h
 rotate_left
 ·simp [ab c1]
  refine aa.pure (dh h (by omega)) (by simp [Hub.row]) ?_;simp [Hub.res,tX (λh=>c1 h.1),Answer.res,codeA]
 simp [c1];refine aa.pure (nk c (by omega)) (by simp [Call.row]) ?_;by_cases c2:cH c
 rotate_left
 ·simp [ab c2]
  refine aa.pure (dh h (by omega)) (by simp [Hub.row]) ?_;simp [Hub.res,tX (λh=>c2 h.2),Answer.res,codeA]
 simp [c2];intro b6 b7;have hk:c.kind=1\/c.kind=2\/(c.kind=3\/c.kind=4)\/c.kind=5\/c.kind=6\/c.kind=7\/c.kind=8:=by have:=c2.1;omega
 rcases hk with k|k|k|k|k|k|k
 ·-- kind 1
  have hat:=Nv ⟨c1,c2⟩ k;have hd:=y9 h (by omega) c.doc hcn.1 c.text hcn.2.2;generalize cP h c.doc c.text=R at hd hat;obtain ⟨X,code⟩:=R;simp only at hd hat;simp [k];refine aa.pure hd (by simp [Hub.row]) ?_;simp [Hub.res];intros;by_cases z:code=0
  ·rw [if_pos z] at hat
   simp [z];refine drw eok mix [0,1] [2,3] (.c 2 2 2 1 (.c 2 3 1 0 (.l 2 0) .s) .s) ?_;simp
   try intros
   rw [hat];simp [Answer.res,codeA]
  ·rw [if_neg z] at hat
   simp [z];refine drw eok mix [0,2,3,4] [1,5,6] (.c 4 1 8 7 (.c 4 5 0 7 (.c 4 6 7 0 (.l 4 0) .s) .s) .s) ?_;simp
   try intros
   refine aa.pure (dh h (by omega)) (by simp [Hub.row]) ?_;simp [Hub.res]
   try intros
   rw [hat];simp [Answer.res,codeA]
 ·-- kind 2
  have hat:=Nu ⟨c1,c2⟩ k;have hd:=vu h (by omega) c.doc c.client c.seq c.n c.o (by omega);generalize bL h c.doc c.client c.seq c.n c.o=R at hd hat;obtain ⟨X,rev,code⟩:=R;simp only at hd hat;simp [k];refine aa.pure hd (by simp [Hub.row]) ?_;simp [Hub.res];intros;by_cases z:code=0
  ·rw [if_pos z] at hat
   simp [z];refine drw eok mix [0,1] [2,3] (.c 2 2 2 1 (.c 2 3 1 0 (.l 2 0) .s) .s) ?_;simp
   try intros
   rw [hat];simp [Answer.res]
  ·rw [if_neg z] at hat
   simp [z];refine drw eok mix [0,2,3,4] [1,5,6] (.c 4 1 8 7 (.c 4 5 0 7 (.c 4 6 7 0 (.l 4 0) .s) .s) .s) ?_;simp
   try intros
   refine aa.pure (dh h (by omega)) (by simp [Hub.row]) ?_;simp [Hub.res]
   try intros
   rw [hat];simp [Answer.res,codeA]
 ·-- kinds 3, 4
  have hat:=Ky ⟨c1,c2⟩ k;have hd:=Fj h (by omega) c1 c;generalize kn h c=A at hd hat;have k1:¬ c.kind=1:=by omega
  have k2:¬ c.kind=2:=by omega
  have fin:∀ _:c.kind=3\/(¬ c.kind=3/\c.kind=4),True:=λ_=>trivial
  rcases k with k|k
  ·simp [k]
   refine drw eok mix [0,2,3] [1,4,5,6] (.c 3 1 4 3 (.c 3 4 3 0 (.c 3 5 0 0 (.c 3 6 0 0 (.l 3 0) .s) .s) .s) .s) ?_;simp
   try intros
   refine aa.pure (dh h (by omega)) (by simp [Hub.row]) ?_;simp [Hub.res]
   try intros
   refine aa.pure (hd) (by simp [Hub.row,Call.row,k]) ?_;simp [Answer.res]
   try intros
   rw [hat];simp
  ·simp [k]
   refine drw eok mix [0,2,3] [1,4,5,6] (.c 3 1 4 3 (.c 3 4 3 0 (.c 3 5 0 0 (.c 3 6 0 0 (.l 3 0) .s) .s) .s) .s) ?_;simp
   try intros
   refine aa.pure (dh h (by omega)) (by simp [Hub.row]) ?_;simp [Hub.res]
   try intros
   refine aa.pure (hd) (by simp [Hub.row,Call.row,k]) ?_;simp [Answer.res]
   try intros
   rw [hat];simp
 ·-- kind 5
  have hat:=Nt ⟨c1,c2⟩ k;have hd:=rk h (by omega) c.doc c.n;generalize aM h c.doc c.n=R at hd hat;obtain ⟨X,rev,code⟩:=R;simp only at hd hat;simp [k];refine aa.pure hd (by simp [Hub.row]) ?_;simp [Hub.res];intros;by_cases z:code=0
  ·rw [if_pos z] at hat
   simp [z];refine drw eok mix [0,1] [2,3] (.c 2 2 2 1 (.c 2 3 1 0 (.l 2 0) .s) .s) ?_;simp
   try intros
   rw [hat];simp [Answer.res]
  ·rw [if_neg z] at hat
   simp [z];refine drw eok mix [0,2,3,4] [1,5,6] (.c 4 1 8 7 (.c 4 5 0 7 (.c 4 6 7 0 (.l 4 0) .s) .s) .s) ?_;simp
   try intros
   refine aa.pure (dh h (by omega)) (by simp [Hub.row]) ?_;simp [Hub.res]
   try intros
   rw [hat];simp [Answer.res,codeA]
 ·exact absurd k n6
 ·-- kind 7
  have hat:=Nr ⟨c1,c2⟩ k;have hd:=vv h (by omega) c.client;generalize bj h c.client=R at hd hat;obtain ⟨X,text,rev,code⟩:=R;simp only at hd hat;simp [k];refine aa.pure hd (by simp [Hub.row]) ?_;simp [Hub.res];intros;by_cases z:code=0
  ·rw [if_pos z] at hat
   simp [z];refine drw eok mix [0,1] [2,3] (.c 2 2 2 1 (.c 2 3 1 0 (.l 2 0) .s) .s) ?_;simp
   try intros
   rw [hat];simp [Answer.res]
  ·rw [if_neg z] at hat
   simp [z];refine drw eok mix [0,2,3,4] [1,5,6] (.c 4 1 8 7 (.c 4 5 0 7 (.c 4 6 7 0 (.l 4 0) .s) .s) .s) ?_;simp
   try intros
   refine aa.pure (dh h (by omega)) (by simp [Hub.row]) ?_;simp [Hub.res]
   try intros
   rw [hat];simp [Answer.res,codeA]
 ·-- kind 8
  have hat:=Nq ⟨c1,c2⟩ k;have hd:=y7 h (by omega);generalize dA h=R at hd hat;obtain ⟨X,code⟩:=R;simp only at hd hat;simp [k];refine aa.pure hd (by simp [Hub.row]) ?_;simp [Hub.res];intros;by_cases z:code=0
  ·rw [if_pos z] at hat
   simp [z];refine drw eok mix [0,1] [2,3] (.c 2 2 2 1 (.c 2 3 1 0 (.l 2 0) .s) .s) ?_;simp
   try intros
   rw [hat];simp [Answer.res,codeA]
  ·rw [if_neg z] at hat
   simp [z];refine drw eok mix [0,2,3,4] [1,5,6] (.c 4 1 8 7 (.c 4 5 0 7 (.c 4 6 7 0 (.l 4 0) .s) .s) .s) ?_;simp
   try intros
   refine aa.pure (dh h (by omega)) (by simp [Hub.row]) ?_;simp [Hub.res]
   try intros
   rw [hat];simp [Answer.res,codeA]
theorem xw (r:Ring) (hl:dX r<=2 ^ 30) (n:Int):dC Tryz.prog 198 [.agg r.row,.c (vi n)] (λrr=>rr=.tup [.agg (bI r n).1.res,.c (.s ((bI r n).2.1.map Entry.row)) 3,.c (vi (bI r n).2.2) 1]):=by
 refine dC.intro ae Tryz.func198 (by kernel_rfl) rfl rfl rfl (Nat.le_of_ble_eq_true rfl) (λw0 base o=>?_);have hno:=@sJ r n;have hout:=@qw r n;have hyes:=@qv r n;have hnl:nL aU r.list<=2 ^ 30:=by unfold dX at hl;omega
 have hle:=bf hnl;simp [Ring.row];intro b2 b4;refine aa.ro (ru r hl) (by simp [Ring.row]) ?_;simp [Ring.res];intro b7;refine aa.ro (gT r (by omega)) (by simp [Ring.row]) ?_;by_cases c1:bT r
 rotate_left
 ·simp [ab c1,hno (λh=>c1 h.1)]
 simp [c1];by_cases c2:1<=n
 rotate_left
 ·have c2':n<1:=by omega
  simp [c2',hno (λh=>c2 h.2)]
 have c2':¬ n<1:=by omega
 simp [c2'];have hnx:=c1.2.2.1
 cases c3:r.out with
 |true=>simp [hout ⟨c1,c2⟩ c3,c3]
 |false=>
 simp;obtain ⟨m,rfl⟩:∃ m:Nat,n=m:=⟨n.toNat,by omega⟩;obtain ⟨k,hk0⟩:∃ k:Nat,min m r.list.length=k:=⟨_,rfl⟩;have hk:k<=r.list.length:=by omega
 have e1:=hyes ⟨c1,c2⟩ c3 (k:=k) (by simp;omega);have ew:Go.IntKind.i64.wrap (r.next+(k:Int))=r.next+k:=Go.IntWalk.i64_in _ (by omega);have cd:=jJ (l:=r.list) (k:=k) hk;have ct:=t8 (l:=r.list) (k:=k) hk;rw [yg,hk0];simp [hk,ew,cd,ct];rw [e1];simp [c3]
theorem y8 (h:Hub) (hl:dU h<=2 ^ 28) (id n:Int):dC Tryz.prog 103 [.agg h.row,.c (vi id),.c (vi n)]
 (λrr=>rr=.tup [.agg (cG h id n).1.res,.c (.s ((cG h id n).2.1.map Entry.row)) 3,.c (vi (cG h id n).2.2) 1]):=by
 refine dC.intro ae Tryz.func103 (by kernel_rfl) rfl rfl rfl (Nat.le_of_ble_eq_true rfl) (λw0 base o=>?_);have hls:=bf (fL hl).2;simp [Hub.row];intro b3 b6;refine aa.ro (sC h (by omega) id) (by simp [Hub.row]) ?_;simp;refine aa.ro (fg h (by omega)) (by simp [Hub.row]) ?_;by_cases c1:aI h
 rotate_left
 ·simp [ab c1,lL (λh=>c1 h.1),Hub.res,Hub.zero]
 simp [c1];by_cases c2:1<=n
 rotate_left
 ·have c2':n<1:=by omega
  simp [c2',lL (λh=>c2 h.2),Hub.res,Hub.zero]
 have c2':¬ n<1:=by omega
 simp [c2'];rcases kw h.subs id with ⟨k,hk,e,-⟩|e;rotate_left
 ·simp [e,qE ⟨c1,c2⟩ e,Hub.res,Hub.zero]
 have hk0:¬ (k:Int)<0:=by omega
 have hat:=uZ ⟨c1,c2⟩ hk e;have hm:=et (f:=fq) (fL hl).2 hk;unfold fq at hm;have hmod:=pK hk;obtain ⟨s,hs⟩:∃ s,h.subs[k]=s:=⟨_,rfl⟩;rw [hs] at hat hm hmod;have hc:=xw s.r (by omega) n;generalize bI s.r n=R at hc hat;obtain ⟨r,list,code⟩:=R;simp only at hat hc;simp [e,hk0,hk,hs,Sub.row];refine dq hc (by simp [Ring.row]) ?_
 rintro _ rfl
 simp [Ring.res];intro b10;by_cases c3:code=0
 rotate_left
 ·rw [if_neg c3] at hat
  simp [c3,hat,Hub.res,Hub.zero]
 rw [if_pos c3] at hat;simp [c3];refine aa.pure (dh h (by omega)) (by simp [Hub.row]) ?_;simp [Hub.res,hk]
 try intros
 rw [hat];simp [hmod r]
theorem Kp (h:Hub) (hl:dU h<=2 ^ 28) (c:Call) (hc:go c<=2 ^ 28):dC Tryz.prog 31 [.agg h.row,.agg c.row] (λrr=>rr=.tup [.agg (fDo h c).1.res,.agg (fDo h c).2.res]):=by
 by_cases n6:c.kind=6
 rotate_left
 ·exact (HT h hl c hc n6).toN
 refine dC.intro ae Tryz.func31 (by kernel_rfl) rfl rfl rfl (Nat.le_of_ble_eq_true rfl) (λw0 base o=>?_);have hcn:c.doc.size<=2 ^ 28/\nL aq c.o<=2 ^ 28/\c.text.length<=2 ^ 28:=by unfold go at hc;omega
 simp [Hub.row,Call.row];intro b2 b3 b4 b5;refine aa.ro (fg h (by omega)) (by simp [Hub.row]) ?_;by_cases c1:aI h
 rotate_left
 ·simp [ab c1]
  refine aa.ro (dh h (by omega)) (by simp [Hub.row]) ?_;simp [Hub.res,tX (λh=>c1 h.1),Answer.res,codeA]
 simp [c1];refine aa.ro (nk c (by omega)) (by simp [Call.row]) ?_;by_cases c2:cH c
 rotate_left
 ·simp [ab c2]
  refine aa.ro (dh h (by omega)) (by simp [Hub.row]) ?_;simp [Hub.res,tX (λh=>c2 h.2),Answer.res,codeA]
 simp [c2];intro b6 b7;have hat:=Ns ⟨c1,c2⟩ n6;have hd:=y8 h (by omega) c.client c.n;generalize cG h c.client c.n=R at hd hat;obtain ⟨X,list,code⟩:=R;simp only at hd hat;simp [n6];refine dq hd (by simp [Hub.row]) ?_
 rintro _ rfl
 simp [Hub.res]
 try intros
 by_cases z:code=0
 ·rw [if_pos z] at hat
  simp [z];refine drw eok mix [0,1] [2,3] (.c 2 2 2 1 (.c 2 3 1 0 (.l 2 0) .s) .s) ?_;simp
  try intros
  rw [hat];simp [Answer.res]
 ·rw [if_neg z] at hat
  simp [z];refine drw eok mix [0,2,3,4] [1,5,6] (.c 4 1 8 7 (.c 4 5 0 7 (.c 4 6 7 0 (.l 4 0) .s) .s) .s) ?_;simp
  try intros
  refine aa.ro (dh h (by omega)) (by simp [Hub.row]) ?_;simp [Hub.res]
  try intros
  rw [hat];simp [Answer.res,codeA]
end Go.Proofs.YtibkifnmhkealaaGreatDoor
