import Derived.Test.YtoldjebobgocpaaGreatPK
import Derived.Test.YtoldjebobgocpaaGreatMF
import Derived.Test.YtoldjebobgocpaaGreatPJ
import Derived.Test.YtoldjebobgocpaaGreatPE
import Derived.Test.YtoldjebobgocpaaGreatMH
import Derived.Shelf.RegionOpenPlain
import Derived.Test.YtoldjebobgocpaaGreatPH
namespace Go.AM
open Go.RowKit
theorem nE {E : Env} {f : Nat} {args : List VD} {R : RR->Prop} (k : Nat) (hc : dQ E.P f args R) {avs : List AV} {st : ASt} {dst : Option Nat} {K : ASt->Prop} {H : Hd} {sz : Nat} {rs : List (List CD)} {own : Bool}
 (hget : st.h.get k = .rows H sz rs own) (hin : kU E.rd [] (fzL k H sz rs avs) args)
 (hout : ∀ rr,R rr->aT { st with h:=(k,.dead) :: st.h } dst (roR rr) K) : aa E f avs st dst K:=by
 have A:=gr hc (avs:=fzL k H sz rs avs) (st:={ st with h:=(k,.dead) :: st.h }) (dst:=dst) (K:=K) hin hout;refine ⟨hc.1,λa w hR xs hs hx=>?_⟩;obtain ⟨Es,hH⟩:=hR.heap;have t:=Tr.kill hH k
 have hM : ∀ c,AH.M ((k,.dead) :: st.h) c->st.h.M c/\(st.h.get k).blk≠some c:=by
  intro c hc;rcases io.1 hc with h1 | ⟨j,hne,hj⟩
  ·cases h1
  ·exact ⟨⟨j,hj⟩,λhk=>hne (hH.inj _ _ c hj hk)⟩
 have hR1 : Rep E.w0 E.base { st with h:=(k,.dead) :: st.h } a w:=⟨hR.dfr,hR.size,λi=>(hR.tmp i).tr t,⟨_,hH.kill k⟩,hR.below,hR.base_le⟩
 have hfz : ∀ i av,(fzL k H sz rs avs)[i]? = some av->VRel w (AH.M ((k,.dead) :: st.h)) av (xs.getD i undef):=by
  intro i av hi;rw [m6] at hi;obtain ⟨x,hx2,rfl⟩:=Option.map_eq_some_iff.1 hi;exact KY hH hget hM (hx i x hx2)
 refine (A.2 a w hR1 xs (by rw [m5];exact hs) hfz).mono ?_
 rintro e w' ⟨v,av,h',h1,h2,h3,h4,h5⟩
 exact ⟨v,av,h',h1,h2,h3,λhl=>t.trans (h4 hl),h5⟩
theorem ak.ent {E : Env} {body : Code} {Q : Exit->ASt->Prop} {st : ASt} (h : Ent E st (ak E body Q)) : ak E body Q st:=λa w hR=>by
 obtain ⟨st',h1,h2⟩:=h a w hR;exact h1 a w h2
end Go.AM
namespace Go.Proofs.YtoldjebobgocpaaGreat
open Go.AM
set_option maxRecDepth 20000
set_option maxHeartbeats 6400000
theorem lC {l : List Nat} {k : Nat} : cut (l.map nR) 0 k = (l.take k).map nR:=by rw [cL,List.drop_zero,List.map_take]
theorem Bq {l : List Nat} {k : Nat} : cut (l.map nR) k (l.length - k) = (l.drop k).map nR:=by
 rw [cL,List.map_drop,List.take_of_length_le (by simp)]
theorem ND {l : List Nat} {row : List CD} (h : row∈l.map nR) : row.length = 1:=by
 obtain ⟨a,-,rfl⟩:=List.mem_map.1 h;rfl
theorem xG {l : List Nat} {row : List CD} (h : row∈l.map nR) {d : CD} (hd : d∈row) : isV d = true:=by
 obtain ⟨a,-,rfl⟩:=List.mem_map.1 h;rw [List.mem_singleton.1 hd];rfl
theorem rD (w : Wld) (hl : cI w<=2 ^ 30) : dQ Tryz.prog 97 [.agg w.row] (λrr=>rr = .one (.c (.s ((gp w).map al)) 1)):=by
 have hfo : (gp w).map al = (cC w.tasks w.tasks.length).map nR:=by unfold gp;rw [List.map_map];rfl
 rw [hfo];have hlen:=aA (dy hl).2.2.2;refine dQ.intro ag Tryz.func97 (by kernel_rfl) rfl rfl rfl (Nat.le_of_ble_eq_true rfl) (λw0 base o=>?_);simp [Wld.row];intro b1 b8;refine ak.ent (nB 3 128 (by simp;exact ⟨rfl,rfl,rfl,rfl⟩) (by simp;exact ⟨rfl,rfl⟩) (by simp) (Ent.refl ?_));simp
 refine aj eok (λi : Nat=>i<=w.tasks.length) (λi=>⟨57,0,[(12,.v (.int .i64 i)),(11,.v (.int .i64 w.tasks.length)),(10,.ro (w.tasks.map Task.row)),(3,.ro ((cC w.tasks i).map nR)),(1,.p 16 b1 0)],
  (16,.vars b1 39 [.v (.bool w.h.shut),.ro (w.h.docs.map Doc.row),.ro (w.h.subs.map Sub.row),.v (.int .i64 w.h.last),.ro (w.locks.map al),.ro (w.queues.map Queue.row),.ro (w.tasks.map Task.row),.v (.int .i64 w.step)]) :: phs o⟩) (λi=>w.tasks.length - i) 0 (by simp) (by simp [cC]) (λi hi=>Ent.refl ?_)
 obtain ⟨P,hP⟩ : ∃ P,cC w.tasks i = P:=⟨_,rfl⟩;have hol:=kf w.tasks i
 have hPm : ∀ k,∀ h : k < P.length,P[k] < w.tasks.length:=λk h=>by
  have h1:=List.getElem_mem h;generalize P[k] = y at h1;rw [<- hP] at h1;have:=it h1;omega
 rw [hP] at hol ⊢;by_cases hlt : i < w.tasks.length
 rotate_left
 ·have he : i = w.tasks.length:=by omega
  subst he;simp [hP]
 obtain ⟨t,ht⟩ : ∃ t,w.tasks[i] = t:=⟨_,rfl⟩;have hf : gm w.tasks i = t.lin:=by unfold gm;rw [List.getElem?_eq_getElem hlt,ht]
 simp [hlt,ht,Task.row];intro b5;by_cases c : t.lin = -1
 ·have ho : cC w.tasks (i + 1) = P:=by rw [cC,hf,if_pos c,hP]
  simp [c];refine Ent.refl ⟨i + 1,by omega,by omega,?_⟩;simp [ho];exact ah (by omega)
 simp [c]
 refine aj eok (λj : Nat=>j<=P.length/\∀ k,j<=k->∀ h : k < P.length,gm w.tasks i < gm w.tasks P[k])
  (λj=>⟨57,0,[(6,.v (.int .i64 j)),(5,.p 80 b5 0),(4,.v (.int .i64 i)),(12,.v (.int .i64 i)),(11,.v (.int .i64 w.tasks.length)),(10,.ro (w.tasks.map Task.row)),(3,.ro (P.map nR)),(1,.p 16 b1 0)],
  (80,.vars b5 74 [.v (.int .i64 t.c.kind),.v (.string t.c.doc),.v (.int .i64 t.c.client),.v (.int .i64 t.c.seq),.v (.int .i64 t.c.n),.ro (t.c.o.map Part.row),.ro (t.c.text.map al),.v (.int .i64 t.pc),.v (.int .i64 t.inv),.v (.int .i64 t.lin),.v (.int .i64 t.rs),.v (.int .i64 t.a.code),.v (.int .i64 t.a.rev),.ro (t.a.text.map al),.ro (t.a.list.map Entry.row)]) :: (16,.vars b1 39 [.v (.bool w.h.shut),.ro (w.h.docs.map Doc.row),.ro (w.h.subs.map Sub.row),.v (.int .i64 w.h.last),.ro (w.locks.map al),.ro (w.queues.map Queue.row),.ro (w.tasks.map Task.row),.v (.int .i64 w.step)]) :: phs o⟩) (λj=>j) P.length ⟨Nat.le_refl _,λk h1 h2=>by omega⟩ (by simp) (λj hj=>Ent.refl ?_)
 obtain ⟨hj1,hj2⟩:=hj
 have hdone : (∀ h : 0 < j,∀ h' : j - 1 < P.length,¬ gm w.tasks i < gm w.tasks P[j - 1])->cC w.tasks (i + 1) = P.take j ++ i :: P.drop j:=λh=>by
  rw [cC,hf,if_neg c,hP,sN hj1 hj2 h];rfl
 rcases j with _ | j
 ·have he:=hdone (λh=>by omega)
  refine aD.quiet eok mix (by kernel_rfl) ?_;simp;intro b41;simp [lC];intro H1 b48 H2;refine ⟨λa _ d hd=>xG (l:=[a]) (List.mem_singleton.2 rfl) hd,by omega,λH3=>?_⟩;refine nB 3 656 (by simp;exact ⟨rfl,rfl,rfl,rfl⟩) (by simp;exact ⟨rfl,rfl⟩) (by simp;try omega) (Ent.refl ⟨i + 1,by omega,by omega,?_⟩);simp [he,nR];refine ⟨Go.IntWalk.i64_in _ (by omega),?_⟩;rw [cL,List.drop_zero,List.take_of_length_le (by simp;try omega)]
  try simp
 have hjP : j < P.length:=by omega
 have hb:=hPm j hjP;have wj:=Go.IntWalk.i64_in (((j : Int) + 1) - 1) (by omega);have wj2 : Go.IntKind.i64.wrap (j : Int) = j:=Go.IntWalk.i64_in _ (by omega);obtain ⟨y,hy⟩ : ∃ y,P[j] = y:=⟨_,rfl⟩;rw [hy] at hb;obtain ⟨u,hu⟩ : ∃ u,w.tasks[y] = u:=⟨_,rfl⟩;have hfu : gm w.tasks y = u.lin:=by unfold gm;rw [List.getElem?_eq_getElem hb,hu]
 have k5 : (0 : Int) < (j : Int) + 1:=by omega
 refine aD.quiet eok mix (by kernel_rfl) ?_;simp [k5,wj2,hjP,hy,nR,hb,hu,Task.row];by_cases lt : t.lin < u.lin
 ·simp [lt,wj2]
  refine Ent.refl ⟨j,⟨by omega,λk h1 h2=>?_⟩,by omega,?_⟩
  ·by_cases hk : k = j
   ·subst hk;rw [hy,hf,hfu];exact lt
   ·exact hj2 k (by omega) h2
  ·simp
 ·have he:=hdone (λ_ h'=>by simp only [Nat.add_sub_cancel,hy,hf,hfu];exact lt)
  simp [ab lt];intro b41;simp [lC,Bq];refine ⟨by omega,by omega,λrow h=>ND (List.mem_of_mem_take h),λrow h d hd=>xG (List.mem_of_mem_take h) hd,by omega,λH1 b48=>⟨by omega,λH2=>⟨by omega,by omega,λrow h=>ND (List.mem_of_mem_drop h),λrow h d hd=>xG (List.mem_of_mem_drop h) hd,by omega,λH3=>?_⟩⟩⟩;refine nB 3 656 (by simp;exact ⟨rfl,rfl,rfl,rfl⟩) (by simp;exact ⟨rfl,rfl⟩) (by simp;try omega) (Ent.refl ⟨i + 1,by omega,by omega,?_⟩);simp [he,nR];refine ⟨Go.IntWalk.i64_in _ (by omega),?_⟩;rw [cL,List.drop_zero,List.take_of_length_le (by simp;try omega)]
  try simp
open Go.AM Go.RowKit
set_option maxRecDepth 100000
set_option maxHeartbeats 4000000
set_option linter.unusedVariables false
set_option linter.unusedSimpArgs false
theorem uj (w : World) (us xs : List Value) (n i b o C bv ov Cv : Nat) (cs cv : Array Value) (T Tv : TypeId) (hul : us.length = n * 5) (hxl : xs.length = 5) (hi : i < n) (hroom : n + 1<=C) (hC : C<=maxLen)
 (hb : w.heap[b]? = some (.cells cs T (0,0))) (hfit : o + C * 5<=cs.size) (hcs : ∀ j,j < n * 5->cs.getD (o + j) undef = us.getD j undef) (h1 : ∀ v∈us,v.oneCell' = true)
 (hbv : w.heap[bv]? = some (.cells cv Tv (0,0))) (hCv : 1<=Cv) (hfv : ov + Cv * 5<=cv.size) (hcv : ∀ j,j < 5->cv.getD (ov + j) undef = xs.getD j undef) (h1v : ∀ v∈xs,v.oneCell' = true) (hne : bv≠b) :
 Calls Tryz.prog 300 #[.slice (some ⟨b,o,none⟩) n C,.int .i64 i,.slice (some ⟨bv,ov,none⟩) 1 Cv] w λe w'=>
  e = .returned (.slice (some ⟨b,o,none⟩) (n + 1) C)/\Placed w w' (some b) b o C (n + 1) 5 (us.take (i * 5) ++ xs ++ us.drop (i * 5)):=by
 have u0:=run_underlying Tryz.underlying32;have mixed : Tryz.prog.follows .mixedOrders = true:=by kernel_rfl
 obtain ⟨i0,z0,hi0,hzs,hzb,hz0,hzc,-⟩:=(ag 89 _ y5).info;have hzs : i0.size = 5:=hzs;have hC63 : C<=9223372036854775807:=by unfold maxLen at hC;omega
 have hz1 : ¬ ((1 : Int) = 0):=by omega
 have hz2 : ¬ ((i : Int) = (n : Int)):=by omega
 have hdl : (us.drop (i * 5)).length = (n - i) * 5:=by rw [List.length_drop,hul,Nat.sub_mul]
 have hov : ∀ lb cb,(callFunc 361 #[.slice (some ⟨bv,ov,none⟩) 1 Cv,.slice (some ⟨b,o + (i * 5 + 5),none⟩) lb cb]).run Tryz.prog w = .ok (.value (.bool false)) w:=λlb cb=>by
  rw [run_callFunc_extern Tryz.func361 (by kernel_rfl) (by kernel_rfl) (by kernel_rfl) (e:=Extern.SlicesOverlaps.overlaps #[32,32] #[4]) (by kernel_rfl),
   Lib.run_overlaps_apart w 32 4 89 Tryz.underlying32 5 Tryz.sizeOf89 ⟨bv,ov,none⟩ ⟨b,o + (i * 5 + 5),none⟩ 1 Cv lb cb hne Tv T cv.size cs.size (by simp [World.shape?,hbv]) (by simp [World.shape?,hb]) (by omega) (by simp [World.frozen?,hbv]) (by simp [World.frozen?,hbv])]
  rfl
 have hmm : (n + 1) * 5<=C * 5:=Nat.mul_le_mul_right _ hroom;have hii : i * 5 + 5<=n * 5:=by have:=Nat.mul_le_mul_right 5 (show i + 1<=n by omega);omega
 have e1 : (i + 1) * 5 = i * 5 + 5:=Nat.succ_mul i 5;have e2 : (n + 1) * 5 = n * 5 + 5:=Nat.succ_mul n 5;have e3 : (n - i) * 5 = n * 5 - i * 5:=Nat.sub_mul n i 5;obtain ⟨cs1,hcs1⟩ : ∃ c,c = (cs.toList.take (o + (i + 1) * 5) ++ us.drop (i * 5) ++ cs.toList.drop (o + (i + 1) * 5 + (us.drop (i * 5)).length)).toArray:=⟨_,rfl⟩;obtain ⟨s1,g1⟩:=cz cs (o + (i + 1) * 5) (us.drop (i * 5)) (by omega);rw [<- hcs1] at s1 g1
 have hcp1 : ∀ (W : World),W.heap = w.heap->∀ ty dl dc sl sc,Nat.min sl dl = n - i->(Builtin.copy_ #[32,32] ty #[.slice (some ⟨b,o + (i * 5 + 5),none⟩) dl dc,.slice (some ⟨b,o + i * 5,none⟩) sl sc]).run Tryz.prog W = .ok (goInt (n - i : Nat)) (W.setRow b cs1):=λW hW ty dl dc sl sc hm=>by
  have hb' : W.heap[b]? = some (.cells cs T (0,0)):=by rw [hW];exact hb
  rw [hcs1,e1]
  exact fd Tryz.underlying32 hi0 hb' ⟨b,o + i * 5,none⟩ (us.drop (i * 5)) (n - i) hm (by rw [hdl,hzs])
   (λj v hj=>by
    rw [Addr.add_lit];refine er hb' (o:=o + i * 5) (vs:=us.drop (i * 5)) (λj hj=>?_) (by omega) j v hj;rw [Nat.add_assoc,hcs _ (by omega)];simp [List.getD_eq_getElem?_getD])
   (λv hv=>h1 v (List.mem_of_mem_drop hv)) (by omega)
 obtain ⟨cs2,hcs2⟩ : ∃ c,c = (cs1.toList.take (o + i * 5) ++ xs ++ cs1.toList.drop (o + i * 5 + xs.length)).toArray:=⟨_,rfl⟩;obtain ⟨s2,g2⟩:=cz cs1 (o + i * 5) xs (by omega);rw [<- hcs2] at s2 g2
 have hcp2 : ∀ (W : World),W.heap[b]? = some (.cells cs1 T (0,0))->W.heap[bv]? = some (.cells cv Tv (0,0))->∀ ty dl dc,0 < dl->(Builtin.copy_ #[32,32] ty #[.slice (some ⟨b,o + i * 5,none⟩) dl dc,.slice (some ⟨bv,ov,none⟩) 1 Cv]).run Tryz.prog W = .ok (goInt (1 : Nat)) (W.setRow b cs2):=λW hW hWv ty dl dc hm=>by
  rw [hcs2]
  exact fd Tryz.underlying32 hi0 hW ⟨bv,ov,none⟩ xs 1 (by simp only [Nat.min_def];split<;>omega) (by rw [hxl,hzs])
   (λj v hj=>by
    rw [Addr.add_lit];exact er hWv (λj hj=>hcv j (by omega)) (by omega) j v hj)
   h1v (by omega)
 have hw1 : IntKind.i64.wrap ((i : Int) + 1) = (i : Int) + 1:=by rw [IntKind.wrap_i64];omega
 have hb1 : (0 : Int)<=(i : Int) + 1:=by omega
 have hin : i<=n:=by omega
 have htn : ((i : Int) + 1).toNat = i + 1:=by omega
 have hb2 : ¬ (C = i + 1):=by omega
 have hb3 : (i : Int)<=(n : Int) + 1:=by omega
 have hb4 : ¬ (C = i):=by omega
 go_enter Tryz.func300,Tryz.ntmps300
 go_wp2_with (simp only [hov])
 have hE:=hcp1 w.drew rfl 3 (n - i) (C - (i + 1)) (n + 1 - i) (C - i) (by simp only [Nat.min_def];split<;>omega);have hE2:=hcp2 (w.drew.setRow b cs1) (by simp [setRow_heap w.drew b cs cs1 T (0,0) hb]) (by rw [setRow_other w.drew b bv cs1 hne];exact hbv) 3 (n + 1 - i) (C - i) (by omega)
 have hP : Placed w ((w.drew.setRow b cs1).setRow b cs2) (some b) b o C (n + 1) 5 (us.take (i * 5) ++ xs ++ us.drop (i * 5)):=by
  refine ⟨⟨cs2,T,setRow_heap _ b cs1 cs2 T (0,0) (setRow_heap w.drew b cs cs1 T (0,0) hb),by omega,λj hj=>?_⟩,hroom,hC,by simp,⟨rfl,rfl,rfl⟩,.inr rfl,λc _ hc=>?_⟩
  ·rw [g2,g1]
   have hl : (us.take (i * 5)).length = i * 5:=by simp;omega
   simp only [List.getD_eq_getElem?_getD];rw [List.append_assoc];by_cases c1 : j < i * 5
   ·rw [if_neg (by omega),if_neg (by omega),List.getElem?_append_left (by omega),List.getElem?_take,if_pos c1,hcs j (by omega)]
    simp
   ·rw [List.getElem?_append_right (by omega),hl]
    by_cases c2 : j < i * 5 + 5
    ·rw [if_pos (by omega),List.getElem?_append_left (by omega)]
     congr 2
     omega
    ·rw [if_neg (by omega),if_pos (by omega),List.getElem?_append_right (by omega),List.getElem?_drop,List.getElem?_drop]
     congr 2
     omega
  ·rw [setRow_other _ b c _ hc,setRow_other _ b c _ hc];rfl
 clear hcs1 hcs2
 go_region
 go_wp2
 go_ret
 all_goals exact ⟨rfl,hP⟩
theorem mm (w : World) (a : Option Addr) (n C bv ov Cv : Nat) (r : Value) (w1 : World) (hnC : n<=C) (hC : C<=maxLen)
 (hr : ∀ ty,(Builtin.append_ #[32,32] ty #[.slice a n C,.slice (some ⟨bv,ov,none⟩) 1 Cv]).run Tryz.prog w = .ok r w1) :
 Calls Tryz.prog 300 #[.slice a n C,.int .i64 n,.slice (some ⟨bv,ov,none⟩) 1 Cv] w λe w'=>e = .returned r/\w' = w1:=by
 have u0:=run_underlying Tryz.underlying32;have mixed : Tryz.prog.follows .mixedOrders = true:=by kernel_rfl
 have hC63 : C<=9223372036854775807:=by unfold maxLen at hC;omega
 have hz1 : ¬ ((1 : Int) = 0):=by omega
 cases a with
 | none =>
   by_cases hc : C = n
   ·subst hc
    go_enter Tryz.func300,Tryz.ntmps300
    go_wp2_with (at_builtin;refine Lib.wpList_append_run _ rfl _ _ _ _ rfl _ _ rfl rfl _ _ (hr _) ?_)
    go_ret
    exact ⟨rfl,rfl⟩
   ·go_enter Tryz.func300,Tryz.ntmps300
    go_wp2_with (at_builtin;refine Lib.wpList_append_run _ rfl _ _ _ _ rfl _ _ rfl rfl _ _ (hr _) ?_)
    go_ret
    exact ⟨rfl,rfl⟩
 | some q =>
   by_cases hc : C = n
   ·subst hc
    go_enter Tryz.func300,Tryz.ntmps300
    go_wp2_with (at_builtin;refine Lib.wpList_append_run _ rfl _ _ _ _ rfl _ _ rfl rfl _ _ (hr _) ?_)
    go_ret
    exact ⟨rfl,rfl⟩
   ·go_enter Tryz.func300,Tryz.ntmps300
    go_wp2_with (at_builtin;refine Lib.wpList_append_run _ rfl _ _ _ _ rfl _ _ rfl rfl _ _ (hr _) ?_)
    go_ret
    exact ⟨rfl,rfl⟩
theorem v9 (w : World) (us xs : List Value) (n i b o C bv ov Cv : Nat) (cs cv : Array Value) (T Tv : TypeId) (hul : us.length = n * 5) (hxl : xs.length = 5) (hi : i < n) (hnc : n<=C) (hroom : C < n + 1) (hbig : (n + 1) * rA.bytes<=140737488355328)
 (hb : w.heap[b]? = some (.cells cs T (0,0))) (hfit : o + C * 5<=cs.size) (hcs : ∀ j,j < n * 5->cs.getD (o + j) undef = us.getD j undef) (h1 : ∀ v∈us,v.oneCell' = true)
 (hbv : w.heap[bv]? = some (.cells cv Tv (0,0))) (hCv : 1<=Cv) (hfv : ov + Cv * 5<=cv.size) (hcv : ∀ j,j < 5->cv.getD (ov + j) undef = xs.getD j undef) (h1v : ∀ v∈xs,v.oneCell' = true) :
 Calls Tryz.prog 300 #[.slice (some ⟨b,o,none⟩) n C,.int .i64 i,.slice (some ⟨bv,ov,none⟩) 1 Cv] w λe w'=>
  ∃ nC,e = .returned (.slice (some ⟨w.heap.size,0,none⟩) (n + 1) nC)/\Placed w w' (some b) w.heap.size 0 nC (n + 1) 5 (us.take (i * 5) ++ xs ++ us.drop (i * 5)):=by
 have u0:=run_underlying Tryz.underlying32;have mixed : Tryz.prog.follows .mixedOrders = true:=by kernel_rfl
 obtain ⟨i0,z0,hi0,hzs,hzb,hz0,hzc,-⟩:=(ag 89 _ y5).info;have hzz:=fV hzc;have hzs : i0.size = 5:=hzs;have hzb : i0.bytes = rA.bytes:=hzb;have hby : 0 < rA.bytes:=by decide
 have hzz : z0.cells.size = 5:=hzz;have hnb : (n + 1)<=140737488355328:=Nat.le_trans (Nat.le_mul_of_pos_right _ hby) hbig;have hz1 : ¬ ((1 : Int) = 0):=by omega
 have hz2 : ¬ ((i : Int) = (n : Int)):=by omega
 have hz3 : (C : Int) < (n : Int) + 1:=by omega
 have hmm : n * 5<=C * 5:=Nat.mul_le_mul_right _ hnc;have hii : i * 5 + 5<=n * 5:=by have:=Nat.mul_le_mul_right 5 (show i + 1<=n by omega);omega
 have e1 : (i + 1) * 5 = i * 5 + 5:=Nat.succ_mul i 5;have e2 : (n + 1) * 5 = n * 5 + 5:=Nat.succ_mul n 5;have e3 : (n - i) * 5 = n * 5 - i * 5:=Nat.sub_mul n i 5;have hdl : (us.drop (i * 5)).length = (n - i) * 5:=by rw [List.length_drop,hul,Nat.sub_mul]
 have htl : (us.take (i * 5)).length = i * 5:=by simp;omega
 have hbw : b < w.heap.size:=dj hb;have hvw : bv < w.heap.size:=dj hbv;have hkk : (n : Int) + 1 - (i : Int) = ((n + 1 - i : Nat) : Int):=by omega
 have hik : i + (n + 1 - i) = n + 1:=by omega
 have hold : (Builtin.firstCells i0.size i (.slice (some ⟨b,o,none⟩) i C)).run Tryz.prog w.drew = .ok (us.take (i * 5)).toArray w.drew:=by
  rw [hzs]
  exact run_firstCells_some w.drew 5 i ⟨b,o,none⟩ i C (us.take (i * 5)) (by rw [htl]) (λj v hj=>by
   rw [Addr.add_lit]
   exact er (w:=w.drew) (o:=o) (vs:=us.take (i * 5)) (cs:=cs) (T:=T) hb (λj hj=>by
    rw [hcs _ (by omega)];rw [htl] at hj;simp only [List.getD_eq_getElem?_getD,List.getElem?_take,if_pos hj]) (by omega) j v hj)
 have hrz : ∀ ty,(Builtin.append_ #[32,3] ty #[.slice (some ⟨b,o,none⟩) i C,.int .i64 ((n : Int) + 1 - (i : Int))]).run Tryz.prog w =
  .ok (.slice (some ⟨w.heap.size,0,none⟩) (n + 1) (grownCap w (n + 1) C 89)) (w.drew.alloc (.cells ((us.take (i * 5)).toArray ++ Builtin.zeroCells z0.cells (n + 1 - i) ++ Builtin.zeroCells z0.cells (grownCap w (n + 1) C 89 - (n + 1))) 89)):=λty=>by
  have h:=Lib.run_append_grow_zeros w 32 3 ty 89 i0 z0 .i64 .i64 Tryz.underlying32 Tryz.underlying3 hi0 hz0 (some ⟨b,o,none⟩) i C (us.take (i * 5)) hold (n + 1 - i) (by omega) (by omega) (by omega) (by omega) (by rw [hzb];have:=Nat.mul_le_mul_right rA.bytes (show n + 1 - i<=n + 1 by omega);omega) (by rw [hzb,hik];exact growslice_fits hroom hbig);rw [hik] at h;rw [hkk];exact h
 obtain ⟨G,hG⟩ : ∃ G,G = grownCap w (n + 1) C 89:=⟨_,rfl⟩;obtain ⟨ROW,hROW⟩ : ∃ ROW : Array Value,ROW = (us.take (i * 5)).toArray ++ Builtin.zeroCells z0.cells (n + 1 - i) ++ Builtin.zeroCells z0.cells (G - (n + 1)):=⟨_,rfl⟩;rw [<- hG] at hrz;rw [<- hROW] at hrz;have hGn : n + 1<=G:=by rw [hG];exact grownCap_ge w _ _ _
 have hGm : G<=maxLen:=by rw [hG];exact grownCap_le_maxLen w (n + 1) C 89 (by unfold maxLen;omega)
 have hG63 : G<=9223372036854775807:=by unfold maxLen at hGm;omega
 have hRs : ROW.size = G * 5:=by
  rw [hROW];simp only [Array.size_append,List.size_toArray,dh,hzz,htl];rw [<- Nat.add_mul,<- Nat.add_mul]
  congr 1
  omega
 have hGK : (n + 1) * 5<=G * 5:=Nat.mul_le_mul_right _ hGn
 have hRg : ∀ j,j < i * 5->ROW.getD j undef = us.getD j undef:=by
  intro j hj;rw [hROW];simp only [Array.getD_eq_getD_getElem?];rw [Array.getElem?_append_left (by simp [dh];omega),Array.getElem?_append_left (by simp;omega)];simp [List.getElem?_take,hj,List.getD_eq_getElem?_getD]
 obtain ⟨W1,hW1⟩ : ∃ W1,W1 = w.drew.alloc (.cells ROW 89):=⟨_,rfl⟩;rw [<- hW1] at hrz;have hN : W1.heap[w.heap.size]? = some (.cells ROW 89 (0,0)):=by rw [hW1];exact kC w.drew _
 have hO : ∀ c,c < w.heap.size->W1.heap[c]? = w.heap[c]?:=λc hc=>by rw [hW1];exact jb w.drew _ hc
 have hS : W1.heap.size = w.heap.size + 1:=by rw [hW1];simp
 obtain ⟨cs1,hcs1⟩ : ∃ c,c = (ROW.toList.take (i * 5) ++ xs ++ ROW.toList.drop (i * 5 + xs.length)).toArray:=⟨_,rfl⟩;obtain ⟨s1,g1⟩:=cz ROW (i * 5) xs (by omega);rw [<- hcs1] at s1 g1
 have hcpA:=fd (P:=Tryz.prog) (w:=W1) (ty:=3) Tryz.underlying32 hi0 (dl:=n + 1 - i) (dc:=G - i) (o:=i * 5) hN ⟨bv,ov,none⟩ (sl:=1) (sc:=Cv) xs 1 (by simp only [Nat.min_def];split<;>omega) (by rw [hxl,hzs])
  (λj v hj=>by
   rw [Addr.add_lit];exact er (by rw [hO _ hvw];exact hbv) (λj hj=>hcv j (by omega)) (by omega) j v hj) h1v (by omega)
 rw [<- hcs1] at hcpA;have hN1 : (W1.setRow w.heap.size cs1).heap[w.heap.size]? = some (.cells cs1 89 (0,0)):=setRow_heap _ _ _ _ _ _ hN;obtain ⟨cs2,hcs2⟩ : ∃ c,c = (cs1.toList.take (i * 5 + 5) ++ us.drop (i * 5) ++ cs1.toList.drop (i * 5 + 5 + (us.drop (i * 5)).length)).toArray:=⟨_,rfl⟩;obtain ⟨s2,g2⟩:=cz cs1 (i * 5 + 5) (us.drop (i * 5)) (by omega);rw [<- hcs2] at s2 g2;have hbN : b≠w.heap.size:=by omega
 have hcpB:=fd (P:=Tryz.prog) (w:=(W1.setRow w.heap.size cs1).drew) (ty:=3) Tryz.underlying32 hi0 (dl:=n - i) (dc:=G - (i + 1)) (o:=i * 5 + 5) hN1 ⟨b,o + i * 5,none⟩ (sl:=n - i) (sc:=C - i) (us.drop (i * 5)) (n - i) (by simp only [Nat.min_def];split<;>omega) (by rw [hdl,hzs])
  (λj v hj=>by
   rw [Addr.add_lit]
   have hb' : (W1.setRow w.heap.size cs1).drew.heap[b]? = some (.cells cs T (0,0)):=by
    show (W1.setRow w.heap.size cs1).heap[b]? = _
    rw [setRow_other _ _ _ _ hbN,hO _ hbw];exact hb
   refine er hb' (o:=o + i * 5) (vs:=us.drop (i * 5)) (λj hj=>?_) (by omega) j v hj;rw [Nat.add_assoc,hcs _ (by omega)];simp [List.getD_eq_getElem?_getD])
  (λv hv=>h1 v (List.mem_of_mem_drop hv)) (by omega)
 rw [<- hcs2] at hcpB
 have hP : Placed w ((W1.setRow w.heap.size cs1).drew.setRow w.heap.size cs2) (some b) w.heap.size 0 G (n + 1) 5 (us.take (i * 5) ++ xs ++ us.drop (i * 5)):=by
  refine ⟨⟨cs2,89,setRow_heap _ _ cs1 cs2 _ (0,0) hN1,by omega,λj hj=>?_⟩,hGn,hGm,?_,?_,.inl (Nat.le_refl _),λc hc hne=>?_⟩
  ·rw [Nat.zero_add,g2,g1]
   simp only [List.getD_eq_getElem?_getD];rw [List.append_assoc];by_cases c1 : j < i * 5
   ·rw [if_neg (by omega),if_neg (by omega),List.getElem?_append_left (by omega),List.getElem?_take,if_pos c1,hRg j c1]
    simp [List.getD_eq_getElem?_getD]
   ·rw [List.getElem?_append_right (by omega),htl]
    by_cases c2 : j < i * 5 + 5
    ·rw [if_neg (by omega),if_pos (by omega),List.getElem?_append_left (by omega)]
    ·rw [if_pos (by omega),List.getElem?_append_right (by omega),List.getElem?_drop,List.getElem?_drop]
     congr 2
     omega
  ·simp [hS]
  ·rw [hW1];exact ⟨rfl,rfl,rfl⟩
  ·rw [setRow_other _ _ c _ hne]
   show (W1.setRow w.heap.size cs1).heap[c]? = _
   rw [setRow_other _ _ c _ hne,hO c hc]
 have hw1 : IntKind.i64.wrap ((i : Int) + 1) = (i : Int) + 1:=by rw [IntKind.wrap_i64];omega
 have hb1 : (0 : Int)<=(i : Int) + 1:=by omega
 have hin : i<=n:=by omega
 have htn : ((i : Int) + 1).toNat = i + 1:=by omega
 have hGi : ¬ (G = i):=by omega
 have hGim : ¬ (G = i + 1):=by omega
 have hci : ¬ (C = i):=by omega
 have hb3 : (i : Int)<=(n : Int):=by omega
 clear hkk hik hold hROW hG hcs1 hcs2 hN hN1 hO hS hRs hRg hW1
 go_enter Tryz.func300,Tryz.ntmps300
 go_wp2_with (first
  | (at_builtin;refine Lib.wpList_append_run _ rfl _ _ _ _ rfl _ _ rfl rfl _ _ (hrz _) ?_)
  | (at_builtin;refine i4 _ rfl _ _ 32 32 rfl _ _ rfl rfl hcpA ?_))
 go_region
 go_wp2
 go_ret
 all_goals exact ⟨_,rfl,hP⟩
theorem wa : vn Tryz.prog 300 5 rA.bytes:=by
 refine ⟨⟨_,Tryz.func300,by kernel_rfl,by kernel_rfl⟩,λw us xs n i s v ob bv0 hul hxl hi hbig hs hv hap=>?_⟩;obtain ⟨i0,z0,hi0,hzs,hzb,hz0,hzc,-⟩:=(ag 89 _ y5).info;have hzz:=fV hzc;have hzs : i0.size = 5:=hzs;have hzb : i0.bytes = rA.bytes:=hzb;have hby : 0 < rA.bytes:=by decide
 have hzz : z0.cells.size = 5:=hzz;have hnb : (n + 1)<=140737488355328:=Nat.le_trans (Nat.le_mul_of_pos_right _ hby) hbig;rcases hv with ⟨h0,-⟩ | ⟨bv,ov,Cv,cv,Tv,rfl,rfl,hbv,hCv,hCvm,hfv,hcv,h1v⟩
 ·omega
 have hcellv : ∀ j v,xs[j]? = some v->w.cell? (Addr.add ⟨bv,ov,none⟩ j) = some v:=λj v hj=>by
  rw [Addr.add_lit];exact er hbv (λj hj=>hcv j (by omega)) (by omega) j v hj
 have fresh : ∀ (C0 nC : Nat) (rest : Array Value) (ob : Option Nat),n + 1 <= nC -> nC <= maxLen -> rest.size = (nC - (n + 1)) * 5 ->
  Placed w (w.drew.alloc (.cells (us.toArray ++ xs.toArray ++ rest) 89)) ob w.heap.size 0 nC (n + 1) 5 (us.take (n * 5) ++ xs ++ us.drop (n * 5)):=by
  intro C0 nC rest ob h1 h2 h3;have e : nC * 5 = n * 5 + 5 + (nC - (n + 1)) * 5:=by rw [<- Nat.succ_mul,<- Nat.add_mul];congr 1;omega
  refine ⟨⟨_,_,kC w.drew _,by simp [hul,hxl,h3];omega,λj hj=>?_⟩,h1,h2,by simp,⟨rfl,rfl,rfl⟩,.inl (Nat.le_refl _),λc hc _=>jb w.drew _ hc⟩;rw [List.take_of_length_le (by omega),List.drop_eq_nil_of_le (by omega),List.append_nil,Nat.zero_add];have e2 : (n + 1) * 5 = n * 5 + 5:=Nat.succ_mul n 5;simp only [Array.getD_eq_getD_getElem?,List.getD_eq_getElem?_getD];rw [Array.getElem?_append_left (by simp;omega),List.append_toArray,List.getElem?_toArray]
 rcases hs with ⟨rfl,rfl,a,rfl⟩ | ⟨b,o,C,cs,T,rfl,rfl,hb,hnC,hCm,hfit,hcs,h1⟩
 ·obtain rfl : i = 0:=by omega
  have hun : us = []:=List.eq_nil_of_length_eq_zero (by omega);subst hun;have hrun:=λty=>fX (P:=Tryz.prog) (w:=w) (ty:=ty) Tryz.underlying32 hi0 hz0 a ⟨bv,ov,none⟩ 1 Cv xs (by rw [hxl,hzs]) hcellv (by omega) (by omega) (by rw [hzb];omega)
  refine (mm w a 0 0 bv ov Cv _ _ (Nat.le_refl _) (by unfold maxLen;omega) hrun).mono ?_
  rintro e w' ⟨rfl,rfl⟩
  have hge:=grownCap_ge w 1 0 89;have hcm:=grownCap_le_maxLen w 1 0 89 (by unfold maxLen;omega);refine ⟨_,_,_,rfl,?_⟩;have:=fresh 0 (grownCap w 1 0 89) (Builtin.zeroCells z0.cells (grownCap w 1 0 89 - 1)) none hge hcm (by rw [dh,hzz])
  simpa using this
 ·by_cases hin : i = n
  ·subst hin
   by_cases hroom : i + 1<=C
   ·have hmm : (i + 1) * 5<=C * 5:=Nat.mul_le_mul_right _ hroom
    have e2 : (i + 1) * 5 = i * 5 + 5:=Nat.succ_mul i 5;have hrun:=λty=>Go.AM.run_append_room (P:=Tryz.prog) (ty:=ty) (c:=Cv) (n:=i) (m:=1) Tryz.underlying32 hi0 hb ⟨bv,ov,none⟩ xs (by rw [hxl,hzs]) hcellv h1v hroom (by rw [hzs];exact hfit)
    refine (mm w _ i C bv ov Cv _ _ hnC hCm hrun).mono ?_
    rintro e w' ⟨rfl,rfl⟩
    obtain ⟨g0,g⟩:=cz cs (o + i * i0.size) xs (by rw [hzs];omega);refine ⟨_,_,_,rfl,⟨_,_,setRow_heap w b cs _ T (0,0) hb,by rw [g0];exact hfit,λj hj=>?_⟩,hroom,hCm,by simp,⟨rfl,rfl,rfl⟩,.inr rfl,λc _ hc=>setRow_other w b c _ hc⟩;rw [g,hzs,List.take_of_length_le (by omega),List.drop_eq_nil_of_le (by omega),List.append_nil];by_cases c1 : j < i * 5
    ·rw [if_neg (by omega),hcs j c1]
     simp only [List.getD_eq_getElem?_getD];rw [List.getElem?_append_left (by omega)]
    ·rw [if_pos (by omega)]
     simp only [List.getD_eq_getElem?_getD];rw [List.getElem?_append_right (by omega)]
     congr 2
     omega
   ·have hrun:=λty=>run_append_grow (P:=Tryz.prog) w 32 ty 89 i0 z0 Tryz.underlying32 hi0 hz0 ⟨b,o,none⟩ i C us (by rw [hzs];exact hul) (λj v hj=>by
     rw [Addr.add_lit];have:=Nat.mul_le_mul_right 5 hnC;exact er hb (λj hj=>hcs j (by omega)) (by omega) j v hj) ⟨bv,ov,none⟩ 1 Cv xs (by rw [hxl,hzs]) hcellv (by omega) (by omega) (by rw [hzb];exact growslice_fits (by omega) hbig)
    refine (mm w _ i C bv ov Cv _ _ hnC hCm hrun).mono ?_
    rintro e w' ⟨rfl,rfl⟩
    have hge:=grownCap_ge w (i + 1) C 89;have hcm:=grownCap_le_maxLen w (i + 1) C 89 (by unfold maxLen;omega);exact ⟨_,_,_,rfl,fresh C _ _ _ hge hcm (by rw [dh,hzz])⟩
  ·by_cases hroom : n + 1<=C
   ·refine (uj w us xs n i b o C bv ov Cv cs cv T Tv hul hxl (by omega) hroom hCm hb hfit hcs h1 hbv hCv hfv (λj hj=>hcv j (by omega)) h1v (λh=>hap b rfl (by rw [h]))).mono ?_
    rintro e w' ⟨rfl,hp⟩
    exact ⟨_,_,_,rfl,hp⟩
   ·refine (v9 w us xs n i b o C bv ov Cv cs cv T Tv hul hxl (by omega) hnC (by omega) hbig hb hfit hcs h1 hbv hCv hfv (λj hj=>hcv j (by omega)) h1v).mono ?_
    rintro e w' ⟨nC,rfl,hp⟩
    exact ⟨_,_,_,rfl,hp⟩
set_option maxRecDepth 20000
set_option maxHeartbeats 6400000
theorem lV (room rev : Int) (hr : -4611686018427387904<=rev/\rev<=4611686018427387904) : ac Tryz.prog 302 [.c (vi room),.c (vi rev)] (.tup [.agg (cK room rev).1.res,.c (.v (.bool (cK room rev).2)) 1]):=by
 refine pci ag Tryz.func302 (λw0 base=>?_);have ew : Go.IntKind.i64.wrap (rev + 1) = rev + 1:=Go.IntWalk.i64_in _ (by omega);simp [ew];intro b4 b6;refine aa.pure (eG (aQ room rev) (by rw [j9];omega)) (by simp [aQ,Ring.row]) ?_;by_cases c2 : aP (aQ room rev)
 ·have e:=gN c2
  rw [show aQ room rev = ⟨room,rev + 1,false,[]⟩ from rfl] at c2;simp [c2,e,Ring.res,aQ]
 ·simp [ab c2,kI c2,Ring.res,Ring.zero]
theorem qx (r : Ring) (hl : bE r<=2 ^ 30) (e : Entry) (he : am e<=2 ^ 29) : ac Tryz.prog 301 [.agg r.row,.agg e.row] (.one (.agg (bH r e).res)):=by
 refine pci ag Tryz.func301 (λw0 base=>?_);have hno:=@jD r e;have hfull:=@ib r e;have hroom:=@ia r e;have hle:=aA (f:=am) (B:=2 ^ 30) (l:=r.list) (by unfold bE at hl;omega);have he1 : nL am [e]<=2 ^ 30:=by simp [nL,a8];omega
 simp [Ring.row,Entry.row];intro b2 b3 b4;refine aa.pure (ms r hl) (by simp [Ring.row]) ?_;simp [Ring.res];intro H b5;refine aa.pure (eG r (by omega)) (by simp [Ring.row]) ?_;by_cases c1 : aP r
 rotate_left
 ·simp [ab c1,hno (λh=>c1 h.1)]
 simp [c1];refine aa.pure (iO e (by omega)) (by simp [Entry.row]) ?_;by_cases c2 : bc e
 rotate_left
 ·simp [ab c2,hno (λh=>c2 h.2.1)]
 simp [c2]
 cases c3 : r.out with
 | true=>simp [hno (λh=>by rw [c3] at h;exact absurd h.2.2 (by simp)),c3]
 | false=>
 simp;by_cases c4 : (r.list.length : Int) = r.cap
 ·have e1:=hfull ⟨c1,c2,c3⟩ c4
  simp [c4,e1]
 have e1:=hroom ⟨c1,c2,c3⟩ c4;simp [c4];refine drw eok mix [0,1,2,6] [3,4,5,7] (.c 4 3 2 13 (.c 4 4 0 13 (.c 4 5 4 9 (.c 4 7 9 0 (.l 4 0) .s) .s) .s) .s) ?_;simp
 try intros
 refine aa.pure (gg [e] he1) (by simp [Entry.row]) ?_;simp
 try intros
 refine ⟨by omega,?_⟩;rw [e1];simp [c3,Entry.row]
 try (rintro row (⟨a,-,rfl⟩ | rfl)<;>rfl)
theorem nU (r : Ring) (hl : bE r<=2 ^ 30) (rev : Int) (hr : -4611686018427387904<=rev/\rev<=4611686018427387904) : ac Tryz.prog 305 [.agg r.row,.c (vi rev)] (.tup [.agg (bi r rev).1.res,.c (.v (.bool (bi r rev).2)) 1]):=by
 refine pci ag Tryz.func305 (λw0 base=>?_);have hno:=@kH r rev;have hyes:=@gA r rev;simp [Ring.row];intro b2 b4;refine aa.pure (eG r (by omega)) (by simp [Ring.row]) ?_;by_cases c1 : aP r
 rotate_left
 ·simp [ab c1,hno c1,Ring.res,Ring.zero]
 simp [c1];have hc:=lV r.cap rev hr;rw [<- hyes c1] at hc;generalize bi r rev = R at hc ⊢;obtain ⟨R1,R2⟩:=R;refine aa.pure hc (by simp) ?_;simp [Ring.res]
theorem m4 (h : Hub) (hl : bq h<=2 ^ 40) (id : Int) : ac Tryz.prog 303 [.agg h.row,.c (vi id)] (.one (.c (vi (dL h.subs id)) 1)):=by
 refine pci ag Tryz.func303 (λw0 base=>?_);obtain ⟨sh,docs,l,last⟩:=h;have hle:=aA (eo hl).2;simp only at hle;simp [Hub.row];intro b2 b3;refine inl ag Tryz.func363 20000 (λw1 F=>?_);simp
 refine ak.intro eok (λi : Nat=>i<=l.length/\∀ j,j < i->∀ hj : j < l.length,¬ l[j].id = id) (λi=>⟨19,20000,[(8,.v (.int .i64 i)),(7,.v (.int .i64 l.length)),(0,.ro (l.map Sub.row)),(1,.clo 364 [.p 48 b3 0])],
  [(48,.vars b3 3 [.v (.int .i64 id)])]⟩) (λi=>l.length - i) 0 (by simp) (by simp) (λi hi=>?_)
 by_cases hlt : i < l.length
 ·simp [hlt]
  refine inl ag Tryz.func364 40000 (λw2 F2=>?_);simp [Sub.row];intro b;by_cases c : l[i].id = id
  ·have e : dL l id = i:=lz hlt c hi.2
   simp [c,e]
  ·simp [c]
   exact ⟨i + 1,⟨by omega,λj hj hjl=>by
    by_cases hji : j = i
    ·subst hji;exact c
    ·exact hi.2 j (by omega) hjl⟩,by omega,ah (by omega)⟩
 ·have e : dL l id = -1:=jd (λj hj=>hi.2 j (by omega) hj)
  simp [hlt,e]
theorem rW (h : Hub) (hl : bq h<=2 ^ 30) : ac Tryz.prog 224 [.agg h.row] (.tup [.agg (bM h).1.res,.c (vi (bM h).2) 1]):=by
 refine pci ag Tryz.func224 (λw0 base=>?_);simp [Hub.row];intro b1 b2;refine aa.pure (de h hl) (by simp [Hub.row]) ?_;by_cases c1 : ap h
 rotate_left
 ·simp [ab c1,oW c1,Hub.res,Hub.zero]
 simp [c1]
 cases c2 : h.shut with
 | true=>simp [lY c1 c2,Hub.res,Hub.zero]
 | false=>
 have e:=nd c1 (by rw [c2];simp);simp;refine aa.pure (bS h hl) (by simp [Hub.row,c2]) ?_;simp [Hub.res,e]
theorem mo (h : Hub) (hl : bq h<=2 ^ 28) (name : ByteArray) (room : Int) : ac Tryz.prog 221 [.agg h.row,.c (.v (.string name)),.c (vi room)]
 (.tup [.agg (au h name room).1.res,.c (vi (au h name room).2.1) 1,.c (vi (au h name room).2.2) 1]):=by
 refine pci ag Tryz.func221 (λw0 base=>?_);have hls:=aA (eo hl).2;simp [Hub.row];intro b3 b6;refine aa.pure (dz h (by omega) name) (by simp [Hub.row]) ?_;simp;refine aa.pure (de h (by omega)) (by simp [Hub.row]) ?_;by_cases c1 : ap h
 rotate_left
 ·simp [ab c1,dM (λh=>c1 h.1),Hub.res,Hub.zero]
 simp [c1];refine aa.pure (aK room 1 6) (by simp) ?_;by_cases c2 : 1<=room/\room<=6
 rotate_left
 ·simp [ab c2,dM (λh=>c2 h.2),Hub.res,Hub.zero]
 simp [c2]
 cases c3 : h.shut with
 | true=>simp [e7 ⟨c1,c2⟩ c3,Hub.res,Hub.zero]
 | false=>
 simp;rcases bR h.docs name with ⟨k,hk,e,-⟩ | e;rotate_left
 ·simp [e,e8 ⟨c1,c2⟩ (by rw [c3];simp) e,Hub.res,Hub.zero]
 have hk0 : ¬ (k : Int) < 0:=by omega
 have hat:=ga ⟨c1,c2⟩ (by rw [c3];simp) hk e;simp [e,hk0];have hlast:=c1.2.2.1;by_cases c4 : h.subs.length = 6
 ·have c4' : (h.subs.length : Int) = 6:=by omega
  rw [if_pos (.inl c4)] at hat;simp [c4',hat,Hub.res,Hub.zero]
 have c4' : ¬ (h.subs.length : Int) = 6:=by omega
 simp [c4'];by_cases c5 : h.last = 1000000000
 ·rw [if_pos (.inr c5)] at hat
  simp [c5,hat,Hub.res,Hub.zero]
 rw [if_neg (λh=>h.elim c4 c5)] at hat;have ew : Go.IntKind.i64.wrap (h.last + 1) = h.last + 1:=Go.IntWalk.i64_in _ (by omega);have hh:=ba (dq c1 hk);obtain ⟨d,hd⟩ : ∃ d,h.docs[k] = d:=⟨_,rfl⟩;rw [hd] at hat hh;simp [c5];refine aa.pure (bS h (by omega)) (by simp [Hub.row,c3]) ?_;simp [Hub.res,ew,c3,hk,hd,Doc.row];intro H1 H2 b10;refine aa.pure (be d) (by simp [Doc.row]) ?_;simp;have hc:=lV room (ae d) (by omega);generalize cK room (ae d) = R at hc hat;obtain ⟨⟨cp,nx,ot,ls⟩,ok⟩:=R;refine aa.pure hc (by simp) ?_;simp [Ring.res];intro H11 H12 b11;refine ⟨by omega,λH=>?_⟩;refine drw eok mix [0,1,2,4,5] [3] (.c 5 3 16 15 (.l 5 15) .s) ?_;simp
 try intros
 rw [hat];simp [c3,Sub.row]
 try (rintro row (⟨a,-,rfl⟩ | rfl)<;>rfl)
theorem pl (h : Hub) (hl : bq h<=2 ^ 28) (id : Int) : ac Tryz.prog 223 [.agg h.row,.c (vi id)]
 (.tup [.agg (aI h id).1.res,.c (.s ((aI h id).2.1.map al)) 1,.c (vi (aI h id).2.2.1) 1,.c (vi (aI h id).2.2.2) 1]):=by
 refine pci ag Tryz.func223 (λw0 base=>?_);have hls:=aA (eo hl).2;simp [Hub.row];intro b2 b4;refine aa.pure (m4 h (by omega) id) (by simp [Hub.row]) ?_;simp;refine aa.pure (de h (by omega)) (by simp [Hub.row]) ?_;by_cases c1 : ap h
 rotate_left
 ·simp [ab c1,iV c1,Hub.res,Hub.zero]
 simp [c1];rcases eE h.subs id with ⟨k,hk,e,-⟩ | e;rotate_left
 ·simp [e,gD c1 e,Hub.res,Hub.zero]
 have hk0 : ¬ (k : Int) < 0:=by omega
 obtain ⟨hro,j,hj,ej⟩:=pB c1 hk;have hat:=iW c1 hk e hj ej;have hm:=ci (f:=bN) (eo hl).2 hk;have hdn:=ci (f:=bf) (eo hl).1 hj;have hh:=ba (dq c1 hj);unfold bN at hm;have hmod:=lq hk;obtain ⟨s,hs⟩ : ∃ s,h.subs[k] = s:=⟨_,rfl⟩;obtain ⟨d,hd⟩ : ∃ d,h.docs[j] = d:=⟨_,rfl⟩;rw [hs] at hat hm hmod ej;rw [hd] at hat hdn hh;have hc:=nU s.r (by omega) (ae d) (by omega);generalize bi s.r (ae d) = R at hc hat;obtain ⟨r,ok⟩:=R;simp only at hat hc;simp [e,hk0];refine rx (λx : Nat=>[(9,.p 144 x 0)]) (λx=>[(144,.vars x 89 [.v (.string d.name),.v (.int .i64 d.fr),.ro (d.text.map al),.ro (d.list.map Entry.row),.ro (d.seen.map Seen.row)])]) [1,2,4,5,6,7,8] ?_ ?_
 ·refine drw eok mix [0,1,2,3,4,5,6,7,8] [9,10,11,12,13] (.c 9 9 65 446 (.c 9 10 128 318 (.c 9 11 0 318 (.c 9 12 0 318 (.c 9 13 318 0 (.l 9 0) .s) .s) (.c 9 12 0 318 (.c 9 11 0 318 (.c 9 13 318 0 (.l 9 0) .s) .s) .s)) (.c 9 12 0 446 (.c 9 10 128 318 (.c 9 11 0 318 (.c 9 13 318 0 (.l 9 0) .s) .s) .s) .s)) (.c 9 12 0 511 (.c 9 9 65 446 (.c 9 10 128 318 (.c 9 11 0 318 (.c 9 13 318 0 (.l 9 0) .s) .s) .s) .s) .s)) ?_
  simp [hk,hs,Sub.row]
  try intros
  repeat' first
   | (refine aa.pure (dz h (by omega) s.doc) (by simp [Hub.row]) ?_;simp [hj,hd,Doc.row,ej];try intros)
   | (rw [Trc];refine ⟨?_,?_⟩<;>(try simp [hk,hs,hj,hd,Sub.row,Doc.row])<;>try intros)
 rintro b9
 simp;refine aa.pure (bS h (by omega)) (by simp [Hub.row]) ?_;simp [Hub.res];intro H1 H2 b10;refine drw eok mix [0,1,2,3,4,5,6,7,8,9,15,16] [10,11,12,13,14,17] (.c 12 10 4 4091 (.c 12 11 8 4083 (.c 12 12 0 4083 (.c 12 13 0 4083 (.c 12 14 0 4083 (.c 12 17 4081 2 (.l 12 2) .s) .s) .s) .s) .s) .s) ?_;simp [hk,hs,Sub.row]
 try intros
 refine aa.pure (be d) (by simp [Doc.row]) ?_;simp
 try intros
 refine aa.pure (hc) (by simp [Ring.row]) ?_;simp [Ring.res,hk]
 try intros
 refine drw eok mix [0,1,3,8] [2,4,5,6,7] (.c 4 2 4 11 (.c 4 4 2 9 (.c 4 5 8 1 (.c 4 6 0 1 (.c 4 7 0 1 (.l 4 1) .s) .s) .s) .s) .s) ?_;simp
 try intros
 refine aa.pure (kw d (by omega)) (by simp [Doc.row]) ?_;simp
 try intros
 refine aa.pure (be d) (by simp [Doc.row]) ?_;simp
 try intros
 rw [hat];simp [hmod r];exact nN
theorem yn (h : Hub) (hl : bq h<=2 ^ 28) (_c1 : ap h) (c : Call) : ac Tryz.prog 220 [.agg h.row,.agg c.row] (.one (.agg (iB h c).res)):=by
 refine pci ag Tryz.func220 (λw0 base=>?_);simp [Hub.row,Call.row];intro b2 b3 b4;refine aa.pure (dz h (by omega) c.doc) (by simp [Hub.row]) ?_;simp
 cases c3 : h.shut with
 | true=>simp [qJ c3,Answer.res,bI]
 | false=>
 simp;rcases bR h.docs c.doc with ⟨k,hk,e,-⟩ | e;rotate_left
 ·simp [e,qK (by rw [c3];simp) e,Answer.res,bI]
 have hk0 : ¬ (k : Int) < 0:=by omega
 have hat:=wz (c:=c) (by rw [c3];simp) hk e;have hdn:=ci (f:=bf) (eo hl).1 hk;obtain ⟨d,hd⟩ : ∃ d,h.docs[k] = d:=⟨_,rfl⟩;rw [hd] at hat hdn;simp [e,hk0];by_cases c4 : c.kind = 4
 ·rw [if_pos c4] at hat
  simp [c4];refine drw eok mix [0,1,2,3,4,6,7,8,9,10] [5,11,12,13] (.c 10 5 32 991 (.c 10 11 1 990 (.c 10 12 0 990 (.c 10 13 990 0 (.l 10 0) .s) .s) .s) .s) ?_;simp [hk,hd,Doc.row]
  try intros
  refine aa.pure (kw d (by omega)) (by simp [Doc.row,Doc.row]) ?_;simp
  try intros
  refine aa.pure (be d) (by simp [Doc.row,Doc.row]) ?_;simp
  try intros
  rw [hat];simp [Answer.res]
 rw [if_neg c4] at hat;have hf:=wd d (by omega) c.n;generalize e9 d c.n = R at hat hf;obtain ⟨list,code⟩:=R;simp only at hat hf;simp [c4];refine drw eok mix [0,1,2,3,4,5,6] [7,8,9,10,11,12] (.c 7 7 5 122 (.c 7 8 0 122 (.c 7 9 0 122 (.c 7 10 0 122 (.c 7 11 122 0 (.c 7 12 0 0 (.l 7 0) .s) .s) .s) .s) .s) .s) ?_;simp [hk,hd,Doc.row]
 try intros
 refine aa.pure (hf) (by simp [Doc.row,Doc.row]) ?_;simp
 try intros
 rw [hat];simp [Answer.res]
theorem uP {name : ByteArray} {t : List Int} : aJ (cW name t) ↔ eY name/\cg t:=by
 constructor
 ·rintro ⟨h1,-,h3,-⟩
  exact ⟨h1,h3⟩
 ·rintro ⟨h1,h2⟩
  exact ⟨h1,by simp [cW],h2,by simp [cW],by simp [cW],by simp [cW,aw],λi hi=>by simp [cW] at hi⟩
theorem rZ (h : Hub) (hl : bq h<=2 ^ 28) (name : ByteArray) (hs : name.size<=2 ^ 28) (t : List Int) (ht : t.length<=2 ^ 28) : ac Tryz.prog 218 [.agg h.row,.c (.v (.string name)),.c (.s (t.map al))]
 (.tup [.agg (bp h name t).1.res,.c (vi (bp h name t).2) 1]):=by
 refine pci ag Tryz.func218 (λw0 base=>?_);have hld:=aA (eo hl).1;have hdn:=uy name t hs ht;unfold eq at hdn;simp [Hub.row];intro b3 b6;refine aa.pure (de h (by omega)) (by simp [Hub.row]) ?_;by_cases c1 : ap h
 rotate_left
 ·simp [ab c1,fq (λh=>c1 h.1),Hub.res,Hub.zero]
 simp [c1];refine aa.pure (mZ name (by omega)) (by simp) ?_;by_cases d1 : eY name
 rotate_left
 ·simp [ab d1,fq (λh=>d1 (uP.1 h.2).1),Hub.res,Hub.zero]
 simp [d1];refine aa.pure (fM t (by omega)) (by simp) ?_;by_cases d2 : cg t
 rotate_left
 ·simp [ab d2,fq (λh=>d2 (uP.1 h.2).2),Hub.res,Hub.zero]
 have c0 : aJ (cW name t):=uP.2 ⟨d1,d2⟩;rw [if_pos c0] at hdn;simp [d2]
 cases c2 : h.shut with
 | true=>simp [lZ ⟨c1,c0⟩ c2,Hub.res,Hub.zero]
 | false=>
 have c2' : ¬ h.shut = true:=by rw [c2];simp
 simp;refine aa.pure (dz h (by omega) name) (by simp [Hub.row,c2]) ?_;simp;by_cases c3 : 0<=aG h.docs name
 ·simp [c3,l0 ⟨c1,c0⟩ c2' c3,Hub.res,Hub.zero]
 simp [c3];by_cases c4 : h.docs.length = 5
 ·have c4' : (h.docs.length : Int) = 5:=by omega
  simp [c4',l6 ⟨c1,c0⟩ c2' c3 c4,Hub.res,Hub.zero]
 have c4' : ¬ (h.docs.length : Int) = 5:=by omega
 have hat:=nf ⟨c1,c0⟩ c2' c3 c4;rw [lA] at hat;have hal:=kM (cW name t).name h.docs;have hon:=λ{k : Nat} h1 h2=>kN (name:=(cW name t).name) (l:=h.docs) (k:=k) h1 h2
 rw [show (cW name t).name = name from rfl] at hat hal hon;generalize cS name h.docs = a at hat hal hon;simp [c4'];refine aa.pure hdn (by simp) ?_;simp [Doc.res,cW];intro G1 G2 G3 b8;refine aa.pure (bS h (by omega)) (by simp [Hub.row,c2]) ?_;simp [Hub.res,c2];intro K1 K2 b10
 refine aj eok (λk : Nat=>k<=a) (λk=>⟨76,0,[(11,.v (.int .i64 k)),(1,.v (.string name)),(6,.p 96 b6 0),(8,.p 128 b8 0),(10,.p 160 b10 0)],
  [(160, .vars b10 35 [.v (.bool false), .sl 801 K1 5 0 h.docs.length, .sl 802 K2 6 0 h.subs.length, .v (.int .i64 h.last)]), (96, .vars b6 35 [.v (.bool false), .nil, .nil, .v (.int .i64 0)]),
   (128,.vars b8 89 [.v (.string name),.v (.int .i64 0),.sl 738 G1 1 0 t.length,.sl 739 G2 3 0 0,.sl 740 G3 3 0 0]),(738,.rows G1 1 (t.map al) true),(739,.rows G2 3 [] true),(740,.rows G3 3 [] true),
   (801,.rows K1 5 (h.docs.map Doc.row) true),(802,.rows K2 6 (h.subs.map Sub.row) true)]⟩) (λk=>h.docs.length - k) 0 (by simp) (by simp) (λk hk=>Ent.refl ?_)
 have hdz : Doc.row ⟨name,0,t,[],[]⟩ = [.v (.string name),.v (.int .i64 0),.s (t.map al),.s [],.s []]:=rfl;by_cases hlt : k < h.docs.length
 ·obtain ⟨x,hx⟩ : ∃ x,h.docs[k] = x:=⟨_,rfl⟩
  have hiff:=hon hk hlt;rw [hx] at hiff;simp [hlt,hx,Doc.row];by_cases s : sLt x.name name
  ·simp [s]
   exact Ent.refl ⟨k + 1,by have:=hiff.1 s;omega,by omega,by simp;exact ah (by omega)⟩
  have hka : k = a:=by
   have : ¬ k < a:=λh=>s (hiff.2 h)
   omega
  subst hka;simp [ab s];intro b72;refine gR wa (by decide) (n:=h.docs.length) (rows:=h.docs.map Doc.row) (row:=[.v (.string name),.v (.int .i64 0),.s (t.map al),.s [],.s []]) (k:=801) (kv:=1152) (own:=true) (ownv:=true) (i:=k) (by simp) (by simp) (by simp) (by decide) (by simp;omega) (by simp;omega) (λH6=>?_);simp [hat,c2,cW,hdz];have hm : min k h.docs.length = k:=by omega
  refine ⟨by rw [hm];omega,?_,?_⟩
  ·rintro row (h | rfl | h)
   ·exact Ar (List.mem_of_mem_take h)
   ·rfl
   ·exact Ar (List.mem_of_mem_drop h)
  ·rw [pE (by simp [hm];omega)]
 have hka : k = h.docs.length:=by omega
 have hka2 : a = h.docs.length:=by omega
 subst hka2;subst hka;simp;intro b72;refine gR wa (by decide) (n:=h.docs.length) (rows:=h.docs.map Doc.row) (row:=[.v (.string name),.v (.int .i64 0),.s (t.map al),.s [],.s []]) (k:=801) (kv:=1152) (own:=true) (ownv:=true) (i:=h.docs.length) (by simp) (by simp) (by simp) (by decide) (by simp) (by simp;omega) (λH6=>?_);simp [hat,c2,cW,hdz];refine ⟨?_,?_⟩
 ·rintro row (h | rfl | h)
  ·exact Ar (List.mem_of_mem_take h)
  ·rfl
  ·exact Ar (List.mem_of_mem_drop h)
 ·rw [List.take_of_length_le (by simp),List.drop_eq_nil_of_le (by simp)]
theorem pj (h : Hub) (hl : bq h<=2 ^ 28) (name : ByteArray) (client seq base : Int) (o : List Part) (ho : nL ar o<=2 ^ 40) :
 ac Tryz.prog 219 [.agg h.row,.c (.v (.string name)),.c (vi client),.c (vi seq),.c (vi base),.c (.s (o.map Part.row))]
 (.tup [.agg (aL h name client seq base o).1.res,.c (vi (aL h name client seq base o).2.1) 1,.c (vi (aL h name client seq base o).2.2) 1]):=by
 refine pci ag Tryz.func219 (λw0 bs=>?_);have hls:=aA (eo hl).2;simp [Hub.row];intro b6 b12;refine aa.pure (dz h (by omega) name) (by simp [Hub.row]) ?_;simp;refine aa.pure (de h (by omega)) (by simp [Hub.row]) ?_;by_cases c1 : ap h
 rotate_left
 ·simp [ab c1,iT c1,Hub.res,Hub.zero]
 simp [c1]
 cases c2 : h.shut with
 | true=>simp [gB c1 c2,Hub.res,Hub.zero]
 | false=>
 have c2' : ¬ h.shut = true:=by rw [c2];simp
 simp;rcases bR h.docs name with ⟨k,hk,e,-⟩ | e;rotate_left
 ·simp [e,gC c1 c2' e,Hub.res,Hub.zero]
 have hk0 : ¬ (k : Int) < 0:=by omega
 have hat:=iU (client:=client) (seq:=seq) (base:=base) (o:=o) c1 c2' hk e;have hdn:=ci (f:=bf) (eo hl).1 hk;have hdo:=dq c1 hk;have hDn:=n9 (client:=client) (seq:=seq) (base:=base) (o:=o) hdo;have hok:=qE (client:=client) (seq:=seq) (base:=base) (o:=o) hdo;obtain ⟨d,hd⟩ : ∃ d,h.docs[k] = d:=⟨_,rfl⟩;rw [hd] at hat hdn hDn hok;have hc:=um d hdn client seq base o ho;generalize bm d client seq base o = S at hc hat hDn hok;obtain ⟨D,rev,code⟩:=S;simp only at hc hat hDn hok;simp [e,hk0,hk,hd,Doc.row];refine aa.pure hc (by simp [Doc.row]) ?_;simp [Doc.res];intro H1 H2 H3 b16;by_cases c3 : code = 0
 rotate_left
 ·rw [if_neg c3] at hat
  simp [c3,hat,Hub.res,Hub.zero]
 rw [if_pos c3] at hat;have hok:=hok c3;simp [c3];refine aa.pure (bS h (by omega)) (by simp [Hub.row,c2]) ?_;simp [Hub.res,c2,hk];intro K1 K2 b19;refine drw eok mix [0,2,3,4,5,6] [1,7,8] (.c 6 1 32 31 (.c 6 7 1 30 (.c 6 8 0 30 (.l 6 30) .s) .s) .s) ?_;simp [hk,hd,Doc.row]
 try intros
 refine aa.pure (be D) (by simp [Doc.row,Doc.row]) ?_;simp
 try intros
 refine aa.pure (be d) (by simp [Doc.row,Doc.row]) ?_;simp
 try intros
 by_cases c5 : ae D = ae d
 ·have hcm : bW h name k d D = ⟨h.shut,h.docs.set k D,h.subs,h.last⟩:=by unfold bW;rw [if_neg (by omega)]
  rw [hcm] at hat;simp [c5,hat,c2];exact ⟨lh,rfl⟩
 rcases hok with rfl | ⟨e,he1,he2⟩
 ·exact absurd rfl c5
 have hcm : bW h name k d D = ⟨h.shut,h.docs.set k D,h.subs.map (cB name e),h.last⟩:=by unfold bW;rw [if_pos (by omega),he2]
 rw [hcm] at hat;have hgt : ae d < ae D:=by omega
 have hmem : e∈D.list:=List.mem_of_getLast? he2;have hpos : 0 < D.list.length:=List.length_pos_of_mem hmem;obtain ⟨m,hm⟩ : ∃ m,D.list.length = m + 1:=⟨D.list.length - 1,by omega⟩;have hml : m < D.list.length:=by omega
 have hme : D.list[m] = e:=by
  rw [List.getLast?_eq_getElem?,hm,Nat.add_sub_cancel,List.getElem?_eq_getElem hml] at he2;exact Option.some.inj he2
 have hDl : nL am D.list<=2 ^ 24:=by unfold bf at hDn;omega
 have hen:=bZ (f:=am) hDl hmem;have hlen24:=aA hDl;have ew : Go.IntKind.i64.wrap ((D.list.length : Int) - 1) = (m : Int):=by rw [Go.IntWalk.i64_in _ (by omega)];omega
 have em : Go.IntKind.i64.wrap (m : Int) = m:=co (by omega);simp [hgt]
 refine aj eok (λi : Nat=>i<=h.subs.length) (λi=>⟨103,0,[(75,.v (.int .i64 i)),(74,.v (.int .i64 h.subs.length)),(73,.sl 914 K2 6 0 h.subs.length),(19,.p 304 b19 0),(16,.p 256 b16 0),(17,.v (.int .i64 rev)),(1,.v (.string name)),(12,.p 192 b12 0)],
  [(304, .vars b19 35 [.v (.bool false), .sl 913 K1 5 0 h.docs.length, .sl 914 K2 6 0 h.subs.length, .v (.int .i64 h.last)]), (192, .vars b12 35 [.v (.bool false), .nil, .nil, .v (.int .i64 0)]),
   (256,.vars b16 89 [.v (.string D.name),.v (.int .i64 D.fr),.sl 770 H1 1 0 D.text.length,.sl 771 H2 3 0 D.list.length,.sl 772 H3 3 0 D.seen.length]),
   (771,.lent H2 3 (D.list.map Entry.row)),(913,.rows K1 5 ((h.docs.set k D).map Doc.row) true),(914,.rows K2 6 ((et name e h.subs i).map Sub.row) true)]⟩) (λi=>h.subs.length - i) 0 (by simp) (by simp [oA];rfl) (λi hi=>Ent.refl ?_)
 have htl:=mb name e h.subs i;by_cases hlt : i < h.subs.length
 ·have hti:=nH (name:=name) (e:=e) hlt
  have hlt' : i < (et name e h.subs i).length:=by omega
  have hsk:=oB (name:=name) (e:=e) hlt;have hsu:=ma (name:=name) (e:=e) hlt;have hmd:=lq hlt' (bH h.subs[i].r e);have hmn:=ci (f:=bN) (eo hl).2 hlt;unfold bN at hmn;rw [hti] at hmd;obtain ⟨s,hs⟩ : ∃ s,h.subs[i] = s:=⟨_,rfl⟩;rw [hs] at hti hsk hsu hmd hmn;simp [hlt,htl,hti,Sub.row];intro b21;by_cases c6 : s.doc = name
  rotate_left
  ·simp [c6]
   refine Ent.refl ⟨i + 1,by omega,by omega,?_⟩;rw [<- hsk c6];simp;exact ah (by omega)
  have htell : cB name e s = ⟨s.id,s.doc,bH s.r e⟩:=by unfold cB;rw [if_pos c6]
  rw [htell] at hsu;rw [hsu] at hmd;have hpc:=qx s.r (by omega) e (by omega);generalize bH s.r e = R at hpc hmd;simp [c6];have hmm : (m : Int) < (m : Int) + 1:=by omega
  refine drw eok mix [0,1,2,3,4,5,6,7,8,9,10,11,12,14,15] [13,16] (.c 15 13 1028 31739 (.c 15 16 31737 2 (.l 15 2) .s) .s) ?_;simp [hlt,hm,em,hme,hmm,Entry.row]
  try intros
  refine aa.pure (hpc) (by simp [Ring.row,Entry.row,Entry.row]) ?_;simp [Ring.res,hlt,htl]
  try intros
  refine Ent.refl ⟨i + 1,by omega,by omega,?_⟩;rw [<- hmd];simp;exact ah (by omega)
 have hie : i = h.subs.length:=by omega
 subst hie;rw [pL];simp [hat,c2];exact lh
theorem A4 (h : Hub) (hl : bq h<=2 ^ 28) (c : Call) (hc : db c<=2 ^ 28) (n6 : ¬ c.kind = 6) : ac Tryz.prog 116 [.agg h.row,.agg c.row] (.tup [.agg (fDo h c).1.res,.agg (fDo h c).2.res]):=by
 refine pci ag Tryz.func116 (λw0 base=>?_);have hcn : c.doc.size<=2 ^ 28/\nL ar c.o<=2 ^ 28/\c.text.length<=2 ^ 28:=by unfold db at hc;omega
 simp [Hub.row,Call.row];intro b2 b3 b4 b5;refine aa.pure (de h (by omega)) (by simp [Hub.row]) ?_;by_cases c1 : ap h
 rotate_left
 ·simp [ab c1]
  refine aa.pure (bS h (by omega)) (by simp [Hub.row]) ?_;simp [Hub.res,oc (λh=>c1 h.1),Answer.res,bI]
 simp [c1];refine aa.pure (jz c (by omega)) (by simp [Call.row]) ?_;by_cases c2 : br c
 rotate_left
 ·simp [ab c2]
  refine aa.pure (bS h (by omega)) (by simp [Hub.row]) ?_;simp [Hub.res,oc (λh=>c2 h.2),Answer.res,bI]
 simp [c2];intro b6 b7;have hk : c.kind = 1\/c.kind = 2\/(c.kind = 3\/c.kind = 4)\/c.kind = 5\/c.kind = 6\/c.kind = 7\/c.kind = 8:=by have:=c2.1;omega
 rcases hk with k | k | k | k | k | k | k
 ·-- kind 1
  have hat:=In ⟨c1,c2⟩ k;have hd:=rZ h (by omega) c.doc hcn.1 c.text hcn.2.2;generalize bp h c.doc c.text = R at hd hat;obtain ⟨X,code⟩:=R;simp only at hd hat;simp [k];refine aa.pure hd (by simp [Hub.row]) ?_;simp [Hub.res];intros;by_cases z : code = 0
  ·rw [if_pos z] at hat
   simp [z];refine drw eok mix [0,1] [2,3] (.c 2 2 2 1 (.c 2 3 1 0 (.l 2 0) .s) .s) ?_;simp
   try intros
   rw [hat];simp [Answer.res,bI]
  ·rw [if_neg z] at hat
   simp [z];refine drw eok mix [0,2,3,4] [1,5,6] (.c 4 1 8 7 (.c 4 5 0 7 (.c 4 6 7 0 (.l 4 0) .s) .s) .s) ?_;simp
   try intros
   refine aa.pure (bS h (by omega)) (by simp [Hub.row]) ?_;simp [Hub.res]
   try intros
   rw [hat];simp [Answer.res,bI]
 ·-- kind 2
  have hat:=Im ⟨c1,c2⟩ k;have hd:=pj h (by omega) c.doc c.client c.seq c.n c.o (by omega);generalize aL h c.doc c.client c.seq c.n c.o = R at hd hat;obtain ⟨X,rev,code⟩:=R;simp only at hd hat;simp [k];refine aa.pure hd (by simp [Hub.row]) ?_;simp [Hub.res];intros;by_cases z : code = 0
  ·rw [if_pos z] at hat
   simp [z];refine drw eok mix [0,1] [2,3] (.c 2 2 2 1 (.c 2 3 1 0 (.l 2 0) .s) .s) ?_;simp
   try intros
   rw [hat];simp [Answer.res]
  ·rw [if_neg z] at hat
   simp [z];refine drw eok mix [0,2,3,4] [1,5,6] (.c 4 1 8 7 (.c 4 5 0 7 (.c 4 6 7 0 (.l 4 0) .s) .s) .s) ?_;simp
   try intros
   refine aa.pure (bS h (by omega)) (by simp [Hub.row]) ?_;simp [Hub.res]
   try intros
   rw [hat];simp [Answer.res,bI]
 ·-- kinds 3, 4
  have hat:=EO ⟨c1,c2⟩ k;have hd:=yn h (by omega) c1 c;generalize iB h c = A at hd hat;have k1 : ¬ c.kind = 1:=by omega
  have k2 : ¬ c.kind = 2:=by omega
  have fin : ∀ _ : c.kind = 3\/(¬ c.kind = 3/\c.kind = 4),True:=λ_=>trivial
  rcases k with k | k
  ·simp [k]
   refine drw eok mix [0,2,3] [1,4,5,6] (.c 3 1 4 3 (.c 3 4 3 0 (.c 3 5 0 0 (.c 3 6 0 0 (.l 3 0) .s) .s) .s) .s) ?_;simp
   try intros
   refine aa.pure (bS h (by omega)) (by simp [Hub.row]) ?_;simp [Hub.res]
   try intros
   refine aa.pure (hd) (by simp [Hub.row,Call.row,k]) ?_;simp [Answer.res]
   try intros
   rw [hat];simp
  ·simp [k]
   refine drw eok mix [0,2,3] [1,4,5,6] (.c 3 1 4 3 (.c 3 4 3 0 (.c 3 5 0 0 (.c 3 6 0 0 (.l 3 0) .s) .s) .s) .s) ?_;simp
   try intros
   refine aa.pure (bS h (by omega)) (by simp [Hub.row]) ?_;simp [Hub.res]
   try intros
   refine aa.pure (hd) (by simp [Hub.row,Call.row,k]) ?_;simp [Answer.res]
   try intros
   rw [hat];simp
 ·-- kind 5
  have hat:=Il ⟨c1,c2⟩ k;have hd:=mo h (by omega) c.doc c.n;generalize au h c.doc c.n = R at hd hat;obtain ⟨X,rev,code⟩:=R;simp only at hd hat;simp [k];refine aa.pure hd (by simp [Hub.row]) ?_;simp [Hub.res];intros;by_cases z : code = 0
  ·rw [if_pos z] at hat
   simp [z];refine drw eok mix [0,1] [2,3] (.c 2 2 2 1 (.c 2 3 1 0 (.l 2 0) .s) .s) ?_;simp
   try intros
   rw [hat];simp [Answer.res]
  ·rw [if_neg z] at hat
   simp [z];refine drw eok mix [0,2,3,4] [1,5,6] (.c 4 1 8 7 (.c 4 5 0 7 (.c 4 6 7 0 (.l 4 0) .s) .s) .s) ?_;simp
   try intros
   refine aa.pure (bS h (by omega)) (by simp [Hub.row]) ?_;simp [Hub.res]
   try intros
   rw [hat];simp [Answer.res,bI]
 ·exact absurd k n6
 ·-- kind 7
  have hat:=Ij ⟨c1,c2⟩ k;have hd:=pl h (by omega) c.client;generalize aI h c.client = R at hd hat;obtain ⟨X,text,rev,code⟩:=R;simp only at hd hat;simp [k];refine aa.pure hd (by simp [Hub.row]) ?_;simp [Hub.res];intros;by_cases z : code = 0
  ·rw [if_pos z] at hat
   simp [z];refine drw eok mix [0,1] [2,3] (.c 2 2 2 1 (.c 2 3 1 0 (.l 2 0) .s) .s) ?_;simp
   try intros
   rw [hat];simp [Answer.res]
  ·rw [if_neg z] at hat
   simp [z];refine drw eok mix [0,2,3,4] [1,5,6] (.c 4 1 8 7 (.c 4 5 0 7 (.c 4 6 7 0 (.l 4 0) .s) .s) .s) ?_;simp
   try intros
   refine aa.pure (bS h (by omega)) (by simp [Hub.row]) ?_;simp [Hub.res]
   try intros
   rw [hat];simp [Answer.res,bI]
 ·-- kind 8
  have hat:=Ii ⟨c1,c2⟩ k;have hd:=rW h (by omega);generalize bM h = R at hd hat;obtain ⟨X,code⟩:=R;simp only at hd hat;simp [k];refine aa.pure hd (by simp [Hub.row]) ?_;simp [Hub.res];intros;by_cases z : code = 0
  ·rw [if_pos z] at hat
   simp [z];refine drw eok mix [0,1] [2,3] (.c 2 2 2 1 (.c 2 3 1 0 (.l 2 0) .s) .s) ?_;simp
   try intros
   rw [hat];simp [Answer.res,bI]
  ·rw [if_neg z] at hat
   simp [z];refine drw eok mix [0,2,3,4] [1,5,6] (.c 4 1 8 7 (.c 4 5 0 7 (.c 4 6 7 0 (.l 4 0) .s) .s) .s) ?_;simp
   try intros
   refine aa.pure (bS h (by omega)) (by simp [Hub.row]) ?_;simp [Hub.res]
   try intros
   rw [hat];simp [Answer.res,bI]
theorem qy (r : Ring) (hl : bE r<=2 ^ 30) (n : Int) : dQ Tryz.prog 304 [.agg r.row,.c (vi n)] (λrr=>rr = .tup [.agg (aY r n).1.res,.c (.s ((aY r n).2.1.map Entry.row)) 3,.c (vi (aY r n).2.2) 1]):=by
 refine dQ.intro ag Tryz.func304 (by kernel_rfl) rfl rfl rfl (Nat.le_of_ble_eq_true rfl) (λw0 base o=>?_);have hno:=@na r n;have hout:=@iS r n;have hyes:=@iR r n;have hnl : nL am r.list<=2 ^ 30:=by unfold bE at hl;omega
 have hle:=aA hnl;simp [Ring.row];intro b2 b4;refine aa.ro (ms r hl) (by simp [Ring.row]) ?_;simp [Ring.res];intro b7;refine aa.ro (eG r (by omega)) (by simp [Ring.row]) ?_;by_cases c1 : aP r
 rotate_left
 ·simp [ab c1,hno (λh=>c1 h.1)]
 simp [c1];by_cases c2 : 1<=n
 rotate_left
 ·have c2' : n < 1:=by omega
  simp [c2',hno (λh=>c2 h.2)]
 have c2' : ¬ n < 1:=by omega
 simp [c2'];have hnx:=c1.2.2.1
 cases c3 : r.out with
 | true=>simp [hout ⟨c1,c2⟩ c3,c3]
 | false=>
 simp;obtain ⟨m,rfl⟩ : ∃ m : Nat,n = m:=⟨n.toNat,by omega⟩;obtain ⟨k,hk0⟩ : ∃ k : Nat,min m r.list.length = k:=⟨_,rfl⟩;have hk : k<=r.list.length:=by omega
 have e1:=hyes ⟨c1,c2⟩ c3 (k:=k) (by simp;omega);have ew : Go.IntKind.i64.wrap (r.next + (k : Int)) = r.next + k:=Go.IntWalk.i64_in _ (by omega);have cd:=gd (l:=r.list) (k:=k) hk;have ct:=oh (l:=r.list) (k:=k) hk;rw [Fw,hk0];simp [hk,ew,cd,ct];rw [e1];simp [c3]
theorem rY (h : Hub) (hl : bq h<=2 ^ 28) (id n : Int) : dQ Tryz.prog 222 [.agg h.row,.c (vi id),.c (vi n)]
 (λrr=>rr = .tup [.agg (bo h id n).1.res,.c (.s ((bo h id n).2.1.map Entry.row)) 3,.c (vi (bo h id n).2.2) 1]):=by
 refine dQ.intro ag Tryz.func222 (by kernel_rfl) rfl rfl rfl (Nat.le_of_ble_eq_true rfl) (λw0 base o=>?_);have hls:=aA (eo hl).2;simp [Hub.row];intro b3 b6;refine aa.ro (m4 h (by omega) id) (by simp [Hub.row]) ?_;simp;refine aa.ro (de h (by omega)) (by simp [Hub.row]) ?_;by_cases c1 : ap h
 rotate_left
 ·simp [ab c1,gq (λh=>c1 h.1),Hub.res,Hub.zero]
 simp [c1];by_cases c2 : 1<=n
 rotate_left
 ·have c2' : n < 1:=by omega
  simp [c2',gq (λh=>c2 h.2),Hub.res,Hub.zero]
 have c2' : ¬ n < 1:=by omega
 simp [c2'];rcases eE h.subs id with ⟨k,hk,e,-⟩ | e;rotate_left
 ·simp [e,iX ⟨c1,c2⟩ e,Hub.res,Hub.zero]
 have hk0 : ¬ (k : Int) < 0:=by omega
 have hat:=kJ ⟨c1,c2⟩ hk e;have hm:=ci (f:=bN) (eo hl).2 hk;unfold bN at hm;have hmod:=lq hk;obtain ⟨s,hs⟩ : ∃ s,h.subs[k] = s:=⟨_,rfl⟩;rw [hs] at hat hm hmod;have hc:=qy s.r (by omega) n;generalize aY s.r n = R at hc hat;obtain ⟨r,list,code⟩:=R;simp only at hat hc;simp [e,hk0,hk,hs,Sub.row];refine gr hc (by simp [Ring.row]) ?_
 rintro _ rfl
 simp [Ring.res];intro b10;by_cases c3 : code = 0
 rotate_left
 ·rw [if_neg c3] at hat
  simp [c3,hat,Hub.res,Hub.zero]
 rw [if_pos c3] at hat;simp [c3];refine aa.pure (bS h (by omega)) (by simp [Hub.row]) ?_;simp [Hub.res,hk]
 try intros
 rw [hat];simp [hmod r]
theorem En (h : Hub) (hl : bq h<=2 ^ 28) (c : Call) (hc : db c<=2 ^ 28) : dQ Tryz.prog 116 [.agg h.row,.agg c.row] (λrr=>rr = .tup [.agg (fDo h c).1.res,.agg (fDo h c).2.res]):=by
 by_cases n6 : c.kind = 6
 rotate_left
 ·exact (A4 h hl c hc n6).toN
 refine dQ.intro ag Tryz.func116 (by kernel_rfl) rfl rfl rfl (Nat.le_of_ble_eq_true rfl) (λw0 base o=>?_);have hcn : c.doc.size<=2 ^ 28/\nL ar c.o<=2 ^ 28/\c.text.length<=2 ^ 28:=by unfold db at hc;omega
 simp [Hub.row,Call.row];intro b2 b3 b4 b5;refine aa.ro (de h (by omega)) (by simp [Hub.row]) ?_;by_cases c1 : ap h
 rotate_left
 ·simp [ab c1]
  refine aa.ro (bS h (by omega)) (by simp [Hub.row]) ?_;simp [Hub.res,oc (λh=>c1 h.1),Answer.res,bI]
 simp [c1];refine aa.ro (jz c (by omega)) (by simp [Call.row]) ?_;by_cases c2 : br c
 rotate_left
 ·simp [ab c2]
  refine aa.ro (bS h (by omega)) (by simp [Hub.row]) ?_;simp [Hub.res,oc (λh=>c2 h.2),Answer.res,bI]
 simp [c2];intro b6 b7;have hat:=Ik ⟨c1,c2⟩ n6;have hd:=rY h (by omega) c.client c.n;generalize bo h c.client c.n = R at hd hat;obtain ⟨X,list,code⟩:=R;simp only at hd hat;simp [n6];refine gr hd (by simp [Hub.row]) ?_
 rintro _ rfl
 simp [Hub.res]
 try intros
 by_cases z : code = 0
 ·rw [if_pos z] at hat
  simp [z];refine drw eok mix [0,1] [2,3] (.c 2 2 2 1 (.c 2 3 1 0 (.l 2 0) .s) .s) ?_;simp
  try intros
  rw [hat];simp [Answer.res]
 ·rw [if_neg z] at hat
  simp [z];refine drw eok mix [0,2,3,4] [1,5,6] (.c 4 1 8 7 (.c 4 5 0 7 (.c 4 6 7 0 (.l 4 0) .s) .s) .s) ?_;simp
  try intros
  refine aa.ro (bS h (by omega)) (by simp [Hub.row]) ?_;simp [Hub.res]
  try intros
  rw [hat];simp [Answer.res,bI]
end Go.Proofs.YtoldjebobgocpaaGreat
