import Derived.Test.YtoldjebobgocpaaGreatPO
import Derived.Test.YtoldjebobgocpaaGreatPE
import Derived.Test.YtoldjebobgocpaaGreatMH
import Derived.Shelf.RegionOpenPlain
import Derived.Test.YtoldjebobgocpaaGreatPL
import Derived.Test.YtoldjebobgocpaaGreatPN
namespace Go.AM
open Go.RowKit
mutual
def fz (k : Nat) (H : Hd) (sz : Nat) (rs : List (List CD)) : AV->AV
 | .sl k' H' sz' off len=>if k' = k then (if H' = H/\sz' = sz/\off + len<=rs.length then .ro (cut rs off len) else .any) else .sl k' H' sz' off len
 | .agg l=>.agg (fzL k H sz rs l)
 | .tup l=>.tup (fzL k H sz rs l)
 | .clo f l=>.clo f (fzL k H sz rs l)
 | .any=>.any
 | .un=>.un
 | .nil=>.nil
 | .v u=>.v u
 | .ro r=>.ro r
 | .p a b c=>.p a b c
 | .e a b c d e=>.e a b c d e
 | .rp r=>.rp r
 | .cv u n=>.cv u n
 | .ml a b c d=>.ml a b c d
 | .is u=>.is u
def fzL (k : Nat) (H : Hd) (sz : Nat) (rs : List (List CD)) : List AV->List AV
 | []=>[]
 | a :: l=>fz k H sz rs a :: fzL k H sz rs l
end
theorem pb (k : Nat) (H : Hd) (sz : Nat) (rs : List (List CD)) : ∀ (l : List AV) (i : Nat),(fzL k H sz rs l)[i]? = l[i]?.map (fz k H sz rs)
 | [],i=>by simp [fzL]
 | a :: l,0=>by simp [fzL]
 | a :: l,i + 1=>by simp [fzL,pb k H sz rs l i]
theorem pa (k : Nat) (H : Hd) (sz : Nat) (rs : List (List CD)) : ∀ l : List AV,(fzL k H sz rs l).length = l.length
 | []=>rfl
 | a :: l=>by simp [fzL,pa k H sz rs l]
def fzO (k : Nat) (H : Hd) (sz : Nat) (rs : List (List CD)) : AObj->AObj
 | .vars b T cells=>.vars b T (fzL k H sz rs cells)
 | o=>o
def fzT (k : Nat) (H : Hd) (sz : Nat) (rs : List (List CD)) (t : List (Nat × AV)) : List (Nat × AV):=t.map λp=>(p.1,fz k H sz rs p.2)
def fzH (k : Nat) (H : Hd) (sz : Nat) (rs : List (List CD)) : AH->AH
 | []=>[]
 | (i,o) :: h=>(i,fzO k H sz rs o) :: fzH k H sz rs h
theorem B0 (k : Nat) (H : Hd) (sz : Nat) (rs : List (List CD)) : ∀ (t : List (Nat × AV)) (i : Nat),aD (fzT k H sz rs t) i = fz k H sz rs (aD t i)
 | [],i=>rfl
 | (j, v) :: t, i => by
   simp only [fzT,List.map_cons,aD]
   split
   ·rfl
   ·exact B0 k H sz rs t i
theorem B1 (k : Nat) (H : Hd) (sz : Nat) (rs : List (List CD)) : ∀ (h : AH) (i : Nat),AH.get (fzH k H sz rs h) i = fzO k H sz rs (AH.get h i)
 | [],i=>rfl
 | (j, o) :: h, i => by
   rw [fzH,aH,aH]
   split
   ·rfl
   ·exact B1 k H sz rs h i
theorem wL (k : Nat) (H : Hd) (sz : Nat) (rs : List (List CD)) (o : AObj) : (fzO k H sz rs o).blk = o.blk:=by cases o<;>rfl
theorem Gk {base : Bs} {h : AH} {w : World} {E : Nat->Nat->Prop} (HH : HRel base h w E) {k : Nat} {H : Hd} {sz : Nat} {rs : List (List CD)} {own : Bool} (hget : h.get k = .rows H sz rs own) {M' : Nat->Prop} (hM : ∀ c,M' c->h.M c/\(h.get k).blk≠some c)
 {av : AV} {u : Value} (hv : VRel w h.M av u) : VRel w M' (fz k H sz rs av) u:=by
 have t : Tr h.M w M' w:=⟨Nat.le_refl _,λ_ _ _=>rfl,λc _ hc=>(hM c hc).1⟩
 induction hv with
 | agg l xs hs _ ih =>
   refine .agg _ _ (by rw [hs,pa]) (λi av hi=>?_);rw [pb] at hi;obtain ⟨a,ha,rfl⟩:=Option.map_eq_some_iff.1 hi;exact ih i a ha
 | tup l xs hs _ ih =>
   refine .tup _ _ (by rw [hs,pa]) (λi av hi=>?_);rw [pb] at hi;obtain ⟨a,ha,rfl⟩:=Option.map_eq_some_iff.1 hi;exact ih i a ha
 | clo f l xs hs _ ih =>
   refine .clo f _ _ (by rw [hs,pa]) (λi av hi=>?_);rw [pb] at hi;obtain ⟨a,ha,rfl⟩:=Option.map_eq_some_iff.1 hi;exact ih i a ha
 | sl k' H' sz' off len x hx =>
   simp only [fz]
   split
   ·split
    ·rename_i hk hc
     obtain ⟨rfl,rfl,hlen⟩:=hc;subst hk;have ho:=HH.obj k';rw [hget] at ho;refine .ro _ _ ?_
     cases H' with
     | none =>
       obtain ⟨⟨a,rfl⟩,rfl⟩:=hx;rw [show rs = [] from ho,show cut ([] : List (List CD)) off 0 = [] from by simp [cM]];exact .empty _ _ (by intro h;cases h)
     | some q =>
       obtain ⟨b,o,C⟩:=q;obtain ⟨S0,hrd,hS0⟩:=gi ho ⟨k',by rw [hget];rfl⟩ hx hlen;refine hrd.weaken.map (λ_ _ _=>rfl) (λc hc _ hm=>?_);rcases hS0 c hc with e | e
       ·exact (hM c hm).2 (by rw [hget,e];rfl)
       ·exact e.2 (hM c hm).1
    ·exact .any _
   ·exact .sl _ _ _ _ _ _ hx
 | any x=>exact .any x
 | un=>exact .un
 | nil=>exact .nil
 | v u h=>exact .v u h
 | ro rows x h=>exact (VRel.ro rows x h).tr t
 | cv u len h=>exact .cv u len h
 | ml k H sz len x h=>exact .ml k H sz len x h
 | is u=>exact .is u
 | p k b c=>exact .p k b c
 | e k b o C sz r c=>exact .e k b o C sz r c
 | rp row b o cs T fr h1 h2 h3 h4=>exact (VRel.rp row b o cs T fr h1 h2 h3 h4).tr t
theorem Rep.freeze {w0 : World} {base : Bs} {st : ASt} {a : Act} {w : World} (hR : Rep w0 base st a w) {k : Nat} {H : Hd} {sz : Nat} {rs : List (List CD)} {own : Bool} (hget : st.h.get k = .rows H sz rs own) :
 Rep w0 base { st with t:=fzT k H sz rs st.t,h:=(k,.dead) :: fzH k H sz rs st.h } a w:=by
 obtain ⟨E,HH⟩:=hR.heap;have hg : ∀ i,AH.get ((k,.dead) :: fzH k H sz rs st.h) i = if i = k then .dead else fzO k H sz rs (st.h.get i):=λi=>by rw [aH,B1]
 have hM : ∀ c,AH.M ((k,.dead) :: fzH k H sz rs st.h) c->st.h.M c/\(st.h.get k).blk≠some c:=by
  rintro c ⟨i,hi⟩
  rw [hg] at hi
  split at hi
  ·cases hi
  ·rename_i hne
   rw [wL] at hi;exact ⟨⟨i,hi⟩,λhk=>hne (HH.inj _ _ c hi hk)⟩
 have t : Tr st.h.M w (AH.M ((k,.dead) :: fzH k H sz rs st.h)) w:=⟨Nat.le_refl _,λ_ _ _=>rfl,λc _ hc=>(hM c hc).1⟩;refine ⟨hR.dfr,hR.size,λi=>?_,⟨λj=>if j = k then (λ_=>False) else E j,λi=>?_,λi j c hi hj=>?_,λi c hi=>?_,λi c hc=>?_,λi j c hi hj=>?_,λi c hc=>?_⟩,hR.below,hR.base_le⟩
 ·show VRel w _ (aD (fzT k H sz rs st.t) i) _
  rw [B0];exact Gk HH hget hM (hR.tmp i)
 ·rw [hg]
  by_cases hik : i = k
  ·rw [if_pos hik,if_pos hik];trivial
  ·rw [if_neg hik,if_neg hik]
   have ho:=HH.obj i
   cases hoi : st.h.get i with
   | vars b T cells =>
     rw [hoi] at ho;obtain ⟨cs,h1,h2,h3⟩:=ho;refine ⟨cs,h1,by rw [h2,pa],λj av hj=>?_⟩;rw [pb] at hj;obtain ⟨x,hx,rfl⟩:=Option.map_eq_some_iff.1 hj;exact Gk HH hget hM (h3 j x hx)
   | dead=>trivial
   | rows H2 sz2 rows2 own2=>rw [hoi] at ho;exact ho.tr t (λ_ _=>rfl) (λc hc _=>hc)
   | lent H2 sz2 rows2=>rw [hoi] at ho;exact ho.tr t (λ_ _=>rfl) (λc hc _=>hc)
   | part H2 sz2 rows2 lo=>rw [hoi] at ho;exact ho.tr t (λ_ _=>rfl) (λc hc _=>hc)
 ·rw [hg] at hi hj
  split at hi
  ·cases hi
  ·split at hj
   ·cases hj
   ·rw [wL] at hi hj;exact HH.inj _ _ c hi hj
 ·rw [hg] at hi
  split at hi
  ·cases hi
  ·rw [wL] at hi;exact HH.low i c hi
 ·split at hc
  ·exact hc.elim
  ·exact HH.elow i c hc
 ·split at hi
  ·exact hi.elim
  ·split at hj
   ·exact hj.elim
   ·exact HH.einj _ _ c hi hj
 ·split at hc
  ·exact hc.elim
  ·exact λhm=>HH.em i c hc (hM c hm).1
theorem am.freeze {E : Env} {id : Nat} {ops : List Oper} {Q : Exit->ASt->Prop} {n kb : Nat} {t : List (Nat × AV)} {h : AH} (k : Nat) {H : Hd} {sz : Nat} {rs : List (List CD)} {own : Bool} (hget : h.get k = .rows H sz rs own)
 (h2 : am E id ops Q ⟨n,kb,fzT k H sz rs t,(k,.dead) :: fzH k H sz rs h⟩) : am E id ops Q ⟨n,kb,t,h⟩:=λa w hR=>h2 a w (hR.freeze (st:=⟨n,kb,t,h⟩) hget)
section rules
variable {k : Nat} {H : Hd} {sz : Nat} {rs : List (List CD)}
theorem IM : fzT k H sz rs [] = []:=(rfl)
theorem Gl {i : Nat} {v : AV} {t : List (Nat × AV)} : fzT k H sz rs ((i,v) :: t) = (i,fz k H sz rs v) :: fzT k H sz rs t:=(rfl)
theorem Gr {i : Nat} {o : AObj} {h : AH} : fzH k H sz rs ((i,o) :: h) = (i,fzO k H sz rs o) :: fzH k H sz rs h:=(rfl)
theorem IP : fzH k H sz rs [] = []:=(rfl)
theorem yZ : ∀ (W : dJ) (i : Nat),fzH k H sz rs (fb i W) = fb i W
 | [],i=>rfl
 | q :: l, i => by
   have e : ∀ xs : List Value,fzL k H sz rs (xs.map .is) = xs.map .is:=by
    intro xs
    induction xs with
    | nil=>rfl
    | cons x xs ih=>simp [fzL,fz,ih]
   simp [fb,fzH,phO,fzO,e,yZ l]
theorem IO {W : dJ} : fzH k H sz rs (phs W) = phs W:=yZ W _
theorem Gm {b : Nat} {T : TypeId} {l : List AV} : fzO k H sz rs (.vars b T l) = .vars b T (fzL k H sz rs l):=(rfl)
theorem Gn {H' : Hd} {sz' : Nat} {r : List (List CD)} {own : Bool} : fzO k H sz rs (.rows H' sz' r own) = .rows H' sz' r own:=(rfl)
theorem Gp : fzO k H sz rs .dead = .dead:=(rfl)
theorem IN : fzL k H sz rs [] = []:=by simp [fzL]
theorem Gq {a : AV} {l : List AV} : fzL k H sz rs (a :: l) = fz k H sz rs a :: fzL k H sz rs l:=by rw [fzL]
theorem RL {u : Value} : fz k H sz rs (.v u) = .v u:=by rw [fz]
theorem Mt : fz k H sz rs .any = .any:=by rw [fz]
theorem Pr : fz k H sz rs .un = .un:=by rw [fz]
theorem Mr : fz k H sz rs .nil = .nil:=by rw [fz]
theorem Pu {r : List (List CD)} : fz k H sz rs (.ro r) = .ro r:=by rw [fz]
theorem Pt {r : List CD} : fz k H sz rs (.rp r) = .rp r:=by rw [fz]
theorem Pw {u : Value} {n : Nat} : fz k H sz rs (.cv u n) = .cv u n:=by rw [fz]
theorem Pv {a c d : Nat} {b : Hd} : fz k H sz rs (.ml a b c d) = .ml a b c d:=by rw [fz]
theorem RM {a b c : Nat} : fz k H sz rs (.p a b c) = .p a b c:=by rw [fz]
theorem RN {a c d e : Nat} {b : Hd} : fz k H sz rs (.e a b c d e) = .e a b c d e:=by rw [fz]
theorem Mu {l : List AV} : fz k H sz rs (.agg l) = .agg (fzL k H sz rs l):=by rw [fz]
theorem Mq {l : List AV} : fz k H sz rs (.tup l) = .tup (fzL k H sz rs l):=by rw [fz]
theorem Ms {f : Nat} {l : List AV} : fz k H sz rs (.clo f l) = .clo f (fzL k H sz rs l):=by rw [fz]
theorem Ps {k' sz' off len : Nat} {H' : Hd} : fz k H sz rs (.sl k' H' sz' off len) = if k' = k then (if H' = H/\sz' = sz/\off + len<=rs.length then .ro (cut rs off len) else .any) else .sl k' H' sz' off len:=by rw [fz]
end rules
attribute [simp] IM Gl Gr IP IO Gm Gn Gp IN Gq RL Mt Pr Mr Pu Pt Pw Pv RM RN Mu Mq Ms Ps
open Go.RowKit
theorem JD : ∀ (l : List Value),AV.qL (l.map .is) = true
 | []=>rfl
 | _ :: l=>by simp [AV.qL,AV.q,JD l]
theorem sy : ∀ (o : dJ) (i : Nat),qH (fb i o) = true
 | [],_=>rfl
 | q :: l,i=>by simp [fb,qH,phO,AObj.q,JD,sy l]
@[simp] theorem Rz (o : dJ) : qH (phs o) = true:=sy o _
theorem xE {P : Program} {Ty : Nat → Option TI} (hT : ∀ t ti, Ty t = some ti → TIok P t ti) {f : Nat} {fn : Func} {c : Code} (hf : P.funcs[f]? = some fn) (hname : (fn.name == "runtime.NumGoroutine") = false) (hb : fn.body = some c)
 {n : Nat} {rs : List ResultVar} (hnt : fn.ntmps = n) (hrs : fn.results = ⟨rs⟩) {args : List VD} {R : RR->Prop} (hn : args.length<=n)
 (h : ∀ w0 base o,d5 ⟨P,Ty,w0,⟨base,base,true,λ_=>True⟩⟩ c (tJ ⟨P,Ty,w0,⟨base,base,false,λ_=>True⟩⟩ o rs R) { n:=n,kb:=0,t:=jG 0 args,h:=phs o }) : d6 P f args R:=by
 subst hnt;have hrs' : fn.results.toList = rs:=by rw [hrs]
 subst hrs';refine ⟨⟨fn,hf,hname,by rw [hb];rfl⟩,λw o xs ho hs hx=>calls_of_wp hf hb ?_⟩;have hE : EOk ⟨P,Ty,w,⟨λc=>c < w.heap.size/\o.off c,λc=>c < w.heap.size/\o.off c,true,λ_=>True⟩⟩:=⟨hT,λw' hb=>trivial⟩
 have hR:=zZ ho (n:=fn.ntmps) (xs:=xs) (t:=jG 0 args) (by omega) (λq=>by
  rw [jF,if_pos (Nat.zero_le q),Nat.sub_zero]
  split
  ·rename_i v hv
   have hlt : q < xs.size:=by rw [hs];exact (List.getElem?_eq_some_iff.1 hv).1
   have e : (xs ++ Array.replicate (fn.ntmps - xs.size) undef).getD q undef = xs.getD q undef:=by
    simp only [Array.getD_eq_getD_getElem?];rw [Array.getElem?_append_left hlt]
   rw [e];exact (hx q v hv).ph
  ·exact .any _)
 refine wp_mono (bM hE c _ _ _ w hR.loose (h w _ o)) ?_
 rintro e a' w' ⟨st',hq,hR'⟩
 cases e with
 | normal=>exact pU hT ho hR'.loose hq
 | ret=>exact pU hT ho hR'.loose hq
 | _=>exact hq.elim
end Go.AM
namespace Go.Proofs.YtoldjebobgocpaaGreat
open Go.AM Go.RowKit
set_option maxRecDepth 100000
set_option maxHeartbeats 4000000
set_option linter.unusedVariables false
set_option linter.unusedSimpArgs false
theorem sS (w : World) (us xs : List Value) (n i b o C bv ov Cv : Nat) (cs cv : Array Value) (T Tv : TypeId) (hul : us.length = n * 2) (hxl : xs.length = 2) (hi : i < n) (hroom : n + 1<=C) (hC : C<=maxLen)
 (hb : w.heap[b]? = some (.cells cs T (0,0))) (hfit : o + C * 2<=cs.size) (hcs : ∀ j,j < n * 2->cs.getD (o + j) undef = us.getD j undef) (h1 : ∀ v∈us,v.oneCell' = true)
 (hbv : w.heap[bv]? = some (.cells cv Tv (0,0))) (hCv : 1<=Cv) (hfv : ov + Cv * 2<=cv.size) (hcv : ∀ j,j < 2->cv.getD (ov + j) undef = xs.getD j undef) (h1v : ∀ v∈xs,v.oneCell' = true) (hne : bv≠b) :
 Calls Tryz.prog 177 #[.slice (some ⟨b,o,none⟩) n C,.int .i64 i,.slice (some ⟨bv,ov,none⟩) 1 Cv] w λe w'=>
  e = .returned (.slice (some ⟨b,o,none⟩) (n + 1) C)/\Placed w w' (some b) b o C (n + 1) 2 (us.take (i * 2) ++ xs ++ us.drop (i * 2)):=by
 have u0:=run_underlying Tryz.underlying36;have mixed : Tryz.prog.follows .mixedOrders = true:=by kernel_rfl
 obtain ⟨i0,z0,hi0,hzs,hzb,hz0,hzc,-⟩:=(ae 166 _ rQ).info;have hzs : i0.size = 2:=hzs;have hC63 : C<=9223372036854775807:=by unfold maxLen at hC;omega
 have hz1 : ¬ ((1 : Int) = 0):=by omega
 have hz2 : ¬ ((i : Int) = (n : Int)):=by omega
 have hdl : (us.drop (i * 2)).length = (n - i) * 2:=by rw [List.length_drop,hul,Nat.sub_mul]
 have hov : ∀ lb cb,(callFunc 273 #[.slice (some ⟨bv,ov,none⟩) 1 Cv,.slice (some ⟨b,o + (i * 2 + 2),none⟩) lb cb]).run Tryz.prog w = .ok (.value (.bool false)) w:=λlb cb=>by
  rw [run_callFunc_extern Tryz.func273 (by kernel_rfl) (by kernel_rfl) (by kernel_rfl) (e:=Extern.SlicesOverlaps.overlaps #[36,36] #[4]) (by kernel_rfl),
   Lib.run_overlaps_apart w 36 4 166 Tryz.underlying36 2 Tryz.sizeOf166 ⟨bv,ov,none⟩ ⟨b,o + (i * 2 + 2),none⟩ 1 Cv lb cb hne Tv T cv.size cs.size (by simp [World.shape?,hbv]) (by simp [World.shape?,hb]) (by omega) (by simp [World.frozen?,hbv]) (by simp [World.frozen?,hbv])]
  rfl
 have hmm : (n + 1) * 2<=C * 2:=Nat.mul_le_mul_right _ hroom;have hii : i * 2 + 2<=n * 2:=by have:=Nat.mul_le_mul_right 2 (show i + 1<=n by omega);omega
 have e1 : (i + 1) * 2 = i * 2 + 2:=Nat.succ_mul i 2;have e2 : (n + 1) * 2 = n * 2 + 2:=Nat.succ_mul n 2;have e3 : (n - i) * 2 = n * 2 - i * 2:=Nat.sub_mul n i 2;obtain ⟨cs1,hcs1⟩ : ∃ c,c = (cs.toList.take (o + (i + 1) * 2) ++ us.drop (i * 2) ++ cs.toList.drop (o + (i + 1) * 2 + (us.drop (i * 2)).length)).toArray:=⟨_,rfl⟩;obtain ⟨s1,g1⟩:=bL cs (o + (i + 1) * 2) (us.drop (i * 2)) (by omega);rw [<- hcs1] at s1 g1
 have hcp1 : ∀ (W : World),W.heap = w.heap->∀ ty dl dc sl sc,Nat.min sl dl = n - i->(Builtin.copy_ #[36,36] ty #[.slice (some ⟨b,o + (i * 2 + 2),none⟩) dl dc,.slice (some ⟨b,o + i * 2,none⟩) sl sc]).run Tryz.prog W = .ok (goInt (n - i : Nat)) (W.setRow b cs1):=λW hW ty dl dc sl sc hm=>by
  have hb' : W.heap[b]? = some (.cells cs T (0,0)):=by rw [hW];exact hb
  rw [hcs1,e1]
  exact dN Tryz.underlying36 hi0 hb' ⟨b,o + i * 2,none⟩ (us.drop (i * 2)) (n - i) hm (by rw [hdl,hzs])
   (λj v hj=>by
    rw [Addr.add_lit];refine cO hb' (o:=o + i * 2) (vs:=us.drop (i * 2)) (λj hj=>?_) (by omega) j v hj;rw [Nat.add_assoc,hcs _ (by omega)];simp [List.getD_eq_getElem?_getD])
   (λv hv=>h1 v (List.mem_of_mem_drop hv)) (by omega)
 obtain ⟨cs2,hcs2⟩ : ∃ c,c = (cs1.toList.take (o + i * 2) ++ xs ++ cs1.toList.drop (o + i * 2 + xs.length)).toArray:=⟨_,rfl⟩;obtain ⟨s2,g2⟩:=bL cs1 (o + i * 2) xs (by omega);rw [<- hcs2] at s2 g2
 have hcp2 : ∀ (W : World),W.heap[b]? = some (.cells cs1 T (0,0))->W.heap[bv]? = some (.cells cv Tv (0,0))->∀ ty dl dc,0 < dl->(Builtin.copy_ #[36,36] ty #[.slice (some ⟨b,o + i * 2,none⟩) dl dc,.slice (some ⟨bv,ov,none⟩) 1 Cv]).run Tryz.prog W = .ok (goInt (1 : Nat)) (W.setRow b cs2):=λW hW hWv ty dl dc hm=>by
  rw [hcs2]
  exact dN Tryz.underlying36 hi0 hW ⟨bv,ov,none⟩ xs 1 (by simp only [Nat.min_def];split<;>omega) (by rw [hxl,hzs])
   (λj v hj=>by
    rw [Addr.add_lit];exact cO hWv (λj hj=>hcv j (by omega)) (by omega) j v hj)
   h1v (by omega)
 have hw1 : IntKind.i64.wrap ((i : Int) + 1) = (i : Int) + 1:=by rw [IntKind.wrap_i64];omega
 have hb1 : (0 : Int)<=(i : Int) + 1:=by omega
 have hin : i<=n:=by omega
 have htn : ((i : Int) + 1).toNat = i + 1:=by omega
 have hb2 : ¬ (C = i + 1):=by omega
 have hb3 : (i : Int)<=(n : Int) + 1:=by omega
 have hb4 : ¬ (C = i):=by omega
 go_enter Tryz.func177,Tryz.ntmps177
 go_wp2_with (simp only [hov])
 have hE:=hcp1 w.drew rfl 3 (n - i) (C - (i + 1)) (n + 1 - i) (C - i) (by simp only [Nat.min_def];split<;>omega);have hE2:=hcp2 (w.drew.setRow b cs1) (by simp [setRow_heap w.drew b cs cs1 T (0,0) hb]) (by rw [setRow_other w.drew b bv cs1 hne];exact hbv) 3 (n + 1 - i) (C - i) (by omega)
 have hP : Placed w ((w.drew.setRow b cs1).setRow b cs2) (some b) b o C (n + 1) 2 (us.take (i * 2) ++ xs ++ us.drop (i * 2)):=by
  refine ⟨⟨cs2,T,setRow_heap _ b cs1 cs2 T (0,0) (setRow_heap w.drew b cs cs1 T (0,0) hb),by omega,λj hj=>?_⟩,hroom,hC,by simp,⟨rfl,rfl,rfl⟩,.inr rfl,λc _ hc=>?_⟩
  ·rw [g2,g1]
   have hl : (us.take (i * 2)).length = i * 2:=by simp;omega
   simp only [List.getD_eq_getElem?_getD];rw [List.append_assoc];by_cases c1 : j < i * 2
   ·rw [if_neg (by omega),if_neg (by omega),List.getElem?_append_left (by omega),List.getElem?_take,if_pos c1,hcs j (by omega)]
    simp
   ·rw [List.getElem?_append_right (by omega),hl]
    by_cases c2 : j < i * 2 + 2
    ·rw [if_pos (by omega),List.getElem?_append_left (by omega)]
     congr 2
     omega
    ·rw [if_neg (by omega),if_pos (by omega),List.getElem?_append_right (by omega),List.getElem?_drop,List.getElem?_drop]
     congr 2
     omega
  ·rw [setRow_other _ b c _ hc,setRow_other _ b c _ hc];rfl
 clear hcs1 hcs2
 go_region
 go_wp2
 go_ret
 all_goals exact ⟨rfl,hP⟩
theorem lq (w : World) (a : Option Addr) (n C bv ov Cv : Nat) (r : Value) (w1 : World) (hnC : n<=C) (hC : C<=maxLen)
 (hr : ∀ ty,(Builtin.append_ #[36,36] ty #[.slice a n C,.slice (some ⟨bv,ov,none⟩) 1 Cv]).run Tryz.prog w = .ok r w1) :
 Calls Tryz.prog 177 #[.slice a n C,.int .i64 n,.slice (some ⟨bv,ov,none⟩) 1 Cv] w λe w'=>e = .returned r/\w' = w1:=by
 have u0:=run_underlying Tryz.underlying36;have mixed : Tryz.prog.follows .mixedOrders = true:=by kernel_rfl
 have hC63 : C<=9223372036854775807:=by unfold maxLen at hC;omega
 have hz1 : ¬ ((1 : Int) = 0):=by omega
 cases a with
 | none =>
   by_cases hc : C = n
   ·subst hc
    go_enter Tryz.func177,Tryz.ntmps177
    go_wp2_with (at_builtin;refine Lib.wpList_append_run _ rfl _ _ _ _ rfl _ _ rfl rfl _ _ (hr _) ?_)
    go_ret
    exact ⟨rfl,rfl⟩
   ·go_enter Tryz.func177,Tryz.ntmps177
    go_wp2_with (at_builtin;refine Lib.wpList_append_run _ rfl _ _ _ _ rfl _ _ rfl rfl _ _ (hr _) ?_)
    go_ret
    exact ⟨rfl,rfl⟩
 | some q =>
   by_cases hc : C = n
   ·subst hc
    go_enter Tryz.func177,Tryz.ntmps177
    go_wp2_with (at_builtin;refine Lib.wpList_append_run _ rfl _ _ _ _ rfl _ _ rfl rfl _ _ (hr _) ?_)
    go_ret
    exact ⟨rfl,rfl⟩
   ·go_enter Tryz.func177,Tryz.ntmps177
    go_wp2_with (at_builtin;refine Lib.wpList_append_run _ rfl _ _ _ _ rfl _ _ rfl rfl _ _ (hr _) ?_)
    go_ret
    exact ⟨rfl,rfl⟩
theorem up (w : World) (us xs : List Value) (n i b o C bv ov Cv : Nat) (cs cv : Array Value) (T Tv : TypeId) (hul : us.length = n * 2) (hxl : xs.length = 2) (hi : i < n) (hnc : n<=C) (hroom : C < n + 1) (hbig : (n + 1) * nE.bytes<=140737488355328)
 (hb : w.heap[b]? = some (.cells cs T (0,0))) (hfit : o + C * 2<=cs.size) (hcs : ∀ j,j < n * 2->cs.getD (o + j) undef = us.getD j undef) (h1 : ∀ v∈us,v.oneCell' = true)
 (hbv : w.heap[bv]? = some (.cells cv Tv (0,0))) (hCv : 1<=Cv) (hfv : ov + Cv * 2<=cv.size) (hcv : ∀ j,j < 2->cv.getD (ov + j) undef = xs.getD j undef) (h1v : ∀ v∈xs,v.oneCell' = true) :
 Calls Tryz.prog 177 #[.slice (some ⟨b,o,none⟩) n C,.int .i64 i,.slice (some ⟨bv,ov,none⟩) 1 Cv] w λe w'=>
  ∃ nC,e = .returned (.slice (some ⟨w.heap.size,0,none⟩) (n + 1) nC)/\Placed w w' (some b) w.heap.size 0 nC (n + 1) 2 (us.take (i * 2) ++ xs ++ us.drop (i * 2)):=by
 have u0:=run_underlying Tryz.underlying36;have mixed : Tryz.prog.follows .mixedOrders = true:=by kernel_rfl
 obtain ⟨i0,z0,hi0,hzs,hzb,hz0,hzc,-⟩:=(ae 166 _ rQ).info;have hzz:=fA hzc;have hzs : i0.size = 2:=hzs;have hzb : i0.bytes = nE.bytes:=hzb;have hby : 0 < nE.bytes:=by decide
 have hzz : z0.cells.size = 2:=hzz;have hnb : (n + 1)<=140737488355328:=Nat.le_trans (Nat.le_mul_of_pos_right _ hby) hbig;have hz1 : ¬ ((1 : Int) = 0):=by omega
 have hz2 : ¬ ((i : Int) = (n : Int)):=by omega
 have hz3 : (C : Int) < (n : Int) + 1:=by omega
 have hmm : n * 2<=C * 2:=Nat.mul_le_mul_right _ hnc;have hii : i * 2 + 2<=n * 2:=by have:=Nat.mul_le_mul_right 2 (show i + 1<=n by omega);omega
 have e1 : (i + 1) * 2 = i * 2 + 2:=Nat.succ_mul i 2;have e2 : (n + 1) * 2 = n * 2 + 2:=Nat.succ_mul n 2;have e3 : (n - i) * 2 = n * 2 - i * 2:=Nat.sub_mul n i 2;have hdl : (us.drop (i * 2)).length = (n - i) * 2:=by rw [List.length_drop,hul,Nat.sub_mul]
 have htl : (us.take (i * 2)).length = i * 2:=by simp;omega
 have hbw : b < w.heap.size:=cU hb;have hvw : bv < w.heap.size:=cU hbv;have hkk : (n : Int) + 1 - (i : Int) = ((n + 1 - i : Nat) : Int):=by omega
 have hik : i + (n + 1 - i) = n + 1:=by omega
 have hold : (Builtin.firstCells i0.size i (.slice (some ⟨b,o,none⟩) i C)).run Tryz.prog w.drew = .ok (us.take (i * 2)).toArray w.drew:=by
  rw [hzs]
  exact run_firstCells_some w.drew 2 i ⟨b,o,none⟩ i C (us.take (i * 2)) (by rw [htl]) (λj v hj=>by
   rw [Addr.add_lit]
   exact cO (w:=w.drew) (o:=o) (vs:=us.take (i * 2)) (cs:=cs) (T:=T) hb (λj hj=>by
    rw [hcs _ (by omega)];rw [htl] at hj;simp only [List.getD_eq_getElem?_getD,List.getElem?_take,if_pos hj]) (by omega) j v hj)
 have hrz : ∀ ty,(Builtin.append_ #[36,3] ty #[.slice (some ⟨b,o,none⟩) i C,.int .i64 ((n : Int) + 1 - (i : Int))]).run Tryz.prog w =
  .ok (.slice (some ⟨w.heap.size,0,none⟩) (n + 1) (grownCap w (n + 1) C 166)) (w.drew.alloc (.cells ((us.take (i * 2)).toArray ++ Builtin.zeroCells z0.cells (n + 1 - i) ++ Builtin.zeroCells z0.cells (grownCap w (n + 1) C 166 - (n + 1))) 166)):=λty=>by
  have h:=Lib.run_append_grow_zeros w 36 3 ty 166 i0 z0 .i64 .i64 Tryz.underlying36 Tryz.underlying3 hi0 hz0 (some ⟨b,o,none⟩) i C (us.take (i * 2)) hold (n + 1 - i) (by omega) (by omega) (by omega) (by omega) (by rw [hzb];have:=Nat.mul_le_mul_right nE.bytes (show n + 1 - i<=n + 1 by omega);omega) (by rw [hzb,hik];exact growslice_fits hroom hbig);rw [hik] at h;rw [hkk];exact h
 obtain ⟨G,hG⟩ : ∃ G,G = grownCap w (n + 1) C 166:=⟨_,rfl⟩;obtain ⟨ROW,hROW⟩ : ∃ ROW : Array Value,ROW = (us.take (i * 2)).toArray ++ Builtin.zeroCells z0.cells (n + 1 - i) ++ Builtin.zeroCells z0.cells (G - (n + 1)):=⟨_,rfl⟩;rw [<- hG] at hrz;rw [<- hROW] at hrz;have hGn : n + 1<=G:=by rw [hG];exact grownCap_ge w _ _ _
 have hGm : G<=maxLen:=by rw [hG];exact grownCap_le_maxLen w (n + 1) C 166 (by unfold maxLen;omega)
 have hG63 : G<=9223372036854775807:=by unfold maxLen at hGm;omega
 have hRs : ROW.size = G * 2:=by
  rw [hROW];simp only [Array.size_append,List.size_toArray,cg,hzz,htl];rw [<- Nat.add_mul,<- Nat.add_mul]
  congr 1
  omega
 have hGK : (n + 1) * 2<=G * 2:=Nat.mul_le_mul_right _ hGn
 have hRg : ∀ j,j < i * 2->ROW.getD j undef = us.getD j undef:=by
  intro j hj;rw [hROW];simp only [Array.getD_eq_getD_getElem?];rw [Array.getElem?_append_left (by simp [cg];omega),Array.getElem?_append_left (by simp;omega)];simp [List.getElem?_take,hj,List.getD_eq_getElem?_getD]
 obtain ⟨W1,hW1⟩ : ∃ W1,W1 = w.drew.alloc (.cells ROW 166):=⟨_,rfl⟩;rw [<- hW1] at hrz;have hN : W1.heap[w.heap.size]? = some (.cells ROW 166 (0,0)):=by rw [hW1];exact jw w.drew _
 have hO : ∀ c,c < w.heap.size->W1.heap[c]? = w.heap[c]?:=λc hc=>by rw [hW1];exact iA w.drew _ hc
 have hS : W1.heap.size = w.heap.size + 1:=by rw [hW1];simp
 obtain ⟨cs1,hcs1⟩ : ∃ c,c = (ROW.toList.take (i * 2) ++ xs ++ ROW.toList.drop (i * 2 + xs.length)).toArray:=⟨_,rfl⟩;obtain ⟨s1,g1⟩:=bL ROW (i * 2) xs (by omega);rw [<- hcs1] at s1 g1
 have hcpA:=dN (P:=Tryz.prog) (w:=W1) (ty:=3) Tryz.underlying36 hi0 (dl:=n + 1 - i) (dc:=G - i) (o:=i * 2) hN ⟨bv,ov,none⟩ (sl:=1) (sc:=Cv) xs 1 (by simp only [Nat.min_def];split<;>omega) (by rw [hxl,hzs])
  (λj v hj=>by
   rw [Addr.add_lit];exact cO (by rw [hO _ hvw];exact hbv) (λj hj=>hcv j (by omega)) (by omega) j v hj) h1v (by omega)
 rw [<- hcs1] at hcpA;have hN1 : (W1.setRow w.heap.size cs1).heap[w.heap.size]? = some (.cells cs1 166 (0,0)):=setRow_heap _ _ _ _ _ _ hN;obtain ⟨cs2,hcs2⟩ : ∃ c,c = (cs1.toList.take (i * 2 + 2) ++ us.drop (i * 2) ++ cs1.toList.drop (i * 2 + 2 + (us.drop (i * 2)).length)).toArray:=⟨_,rfl⟩;obtain ⟨s2,g2⟩:=bL cs1 (i * 2 + 2) (us.drop (i * 2)) (by omega);rw [<- hcs2] at s2 g2;have hbN : b≠w.heap.size:=by omega
 have hcpB:=dN (P:=Tryz.prog) (w:=(W1.setRow w.heap.size cs1).drew) (ty:=3) Tryz.underlying36 hi0 (dl:=n - i) (dc:=G - (i + 1)) (o:=i * 2 + 2) hN1 ⟨b,o + i * 2,none⟩ (sl:=n - i) (sc:=C - i) (us.drop (i * 2)) (n - i) (by simp only [Nat.min_def];split<;>omega) (by rw [hdl,hzs])
  (λj v hj=>by
   rw [Addr.add_lit]
   have hb' : (W1.setRow w.heap.size cs1).drew.heap[b]? = some (.cells cs T (0,0)):=by
    show (W1.setRow w.heap.size cs1).heap[b]? = _
    rw [setRow_other _ _ _ _ hbN,hO _ hbw];exact hb
   refine cO hb' (o:=o + i * 2) (vs:=us.drop (i * 2)) (λj hj=>?_) (by omega) j v hj;rw [Nat.add_assoc,hcs _ (by omega)];simp [List.getD_eq_getElem?_getD])
  (λv hv=>h1 v (List.mem_of_mem_drop hv)) (by omega)
 rw [<- hcs2] at hcpB
 have hP : Placed w ((W1.setRow w.heap.size cs1).drew.setRow w.heap.size cs2) (some b) w.heap.size 0 G (n + 1) 2 (us.take (i * 2) ++ xs ++ us.drop (i * 2)):=by
  refine ⟨⟨cs2,166,setRow_heap _ _ cs1 cs2 _ (0,0) hN1,by omega,λj hj=>?_⟩,hGn,hGm,?_,?_,.inl (Nat.le_refl _),λc hc hne=>?_⟩
  ·rw [Nat.zero_add,g2,g1]
   simp only [List.getD_eq_getElem?_getD];rw [List.append_assoc];by_cases c1 : j < i * 2
   ·rw [if_neg (by omega),if_neg (by omega),List.getElem?_append_left (by omega),List.getElem?_take,if_pos c1,hRg j c1]
    simp [List.getD_eq_getElem?_getD]
   ·rw [List.getElem?_append_right (by omega),htl]
    by_cases c2 : j < i * 2 + 2
    ·rw [if_neg (by omega),if_pos (by omega),List.getElem?_append_left (by omega)]
    ·rw [if_pos (by omega),List.getElem?_append_right (by omega),List.getElem?_drop,List.getElem?_drop]
     congr 2
     omega
  ·simp [hS]
  ·rw [hW1];exact ⟨rfl,rfl,rfl⟩
  ·rw [setRow_other _ _ c _ hne]
   show (W1.setRow w.heap.size cs1).heap[c]? = _
   rw [setRow_other _ _ c _ hne,hO c hc]
 have hw1 : IntKind.i64.wrap ((i : Int) + 1) = (i : Int) + 1:=by rw [IntKind.wrap_i64];omega
 have hb1 : (0 : Int)<=(i : Int) + 1:=by omega
 have hin : i<=n:=by omega
 have htn : ((i : Int) + 1).toNat = i + 1:=by omega
 have hGi : ¬ (G = i):=by omega
 have hGim : ¬ (G = i + 1):=by omega
 have hci : ¬ (C = i):=by omega
 have hb3 : (i : Int)<=(n : Int):=by omega
 clear hkk hik hold hROW hG hcs1 hcs2 hN hN1 hO hS hRs hRg hW1
 go_enter Tryz.func177,Tryz.ntmps177
 go_wp2_with (first
  | (at_builtin;refine Lib.wpList_append_run _ rfl _ _ _ _ rfl _ _ rfl rfl _ _ (hrz _) ?_)
  | (at_builtin;refine gX _ rfl _ _ 36 36 rfl _ _ rfl rfl hcpA ?_))
 go_region
 go_wp2
 go_ret
 all_goals exact ⟨_,rfl,hP⟩
theorem sU : rN Tryz.prog 177 2 nE.bytes:=by
 refine ⟨⟨_,Tryz.func177,by kernel_rfl,by kernel_rfl⟩,λw us xs n i s v ob bv0 hul hxl hi hbig hs hv hap=>?_⟩;obtain ⟨i0,z0,hi0,hzs,hzb,hz0,hzc,-⟩:=(ae 166 _ rQ).info;have hzz:=fA hzc;have hzs : i0.size = 2:=hzs;have hzb : i0.bytes = nE.bytes:=hzb;have hby : 0 < nE.bytes:=by decide
 have hzz : z0.cells.size = 2:=hzz;have hnb : (n + 1)<=140737488355328:=Nat.le_trans (Nat.le_mul_of_pos_right _ hby) hbig;rcases hv with ⟨h0,-⟩ | ⟨bv,ov,Cv,cv,Tv,rfl,rfl,hbv,hCv,hCvm,hfv,hcv,h1v⟩
 ·omega
 have hcellv : ∀ j v,xs[j]? = some v->w.cell? (Addr.add ⟨bv,ov,none⟩ j) = some v:=λj v hj=>by
  rw [Addr.add_lit];exact cO hbv (λj hj=>hcv j (by omega)) (by omega) j v hj
 have fresh : ∀ (C0 nC : Nat) (rest : Array Value) (ob : Option Nat),n + 1 <= nC -> nC <= maxLen -> rest.size = (nC - (n + 1)) * 2 ->
  Placed w (w.drew.alloc (.cells (us.toArray ++ xs.toArray ++ rest) 166)) ob w.heap.size 0 nC (n + 1) 2 (us.take (n * 2) ++ xs ++ us.drop (n * 2)):=by
  intro C0 nC rest ob h1 h2 h3;have e : nC * 2 = n * 2 + 2 + (nC - (n + 1)) * 2:=by rw [<- Nat.succ_mul,<- Nat.add_mul];congr 1;omega
  refine ⟨⟨_,_,jw w.drew _,by simp [hul,hxl,h3];omega,λj hj=>?_⟩,h1,h2,by simp,⟨rfl,rfl,rfl⟩,.inl (Nat.le_refl _),λc hc _=>iA w.drew _ hc⟩;rw [List.take_of_length_le (by omega),List.drop_eq_nil_of_le (by omega),List.append_nil,Nat.zero_add];have e2 : (n + 1) * 2 = n * 2 + 2:=Nat.succ_mul n 2;simp only [Array.getD_eq_getD_getElem?,List.getD_eq_getElem?_getD];rw [Array.getElem?_append_left (by simp;omega),List.append_toArray,List.getElem?_toArray]
 rcases hs with ⟨rfl,rfl,a,rfl⟩ | ⟨b,o,C,cs,T,rfl,rfl,hb,hnC,hCm,hfit,hcs,h1⟩
 ·obtain rfl : i = 0:=by omega
  have hun : us = []:=List.eq_nil_of_length_eq_zero (by omega);subst hun;have hrun:=λty=>fG (P:=Tryz.prog) (w:=w) (ty:=ty) Tryz.underlying36 hi0 hz0 a ⟨bv,ov,none⟩ 1 Cv xs (by rw [hxl,hzs]) hcellv (by omega) (by omega) (by rw [hzb];omega)
  refine (lq w a 0 0 bv ov Cv _ _ (Nat.le_refl _) (by unfold maxLen;omega) hrun).mono ?_
  rintro e w' ⟨rfl,rfl⟩
  have hge:=grownCap_ge w 1 0 166;have hcm:=grownCap_le_maxLen w 1 0 166 (by unfold maxLen;omega);refine ⟨_,_,_,rfl,?_⟩;have:=fresh 0 (grownCap w 1 0 166) (Builtin.zeroCells z0.cells (grownCap w 1 0 166 - 1)) none hge hcm (by rw [cg,hzz])
  simpa using this
 ·by_cases hin : i = n
  ·subst hin
   by_cases hroom : i + 1<=C
   ·have hmm : (i + 1) * 2<=C * 2:=Nat.mul_le_mul_right _ hroom
    have e2 : (i + 1) * 2 = i * 2 + 2:=Nat.succ_mul i 2;have hrun:=λty=>Go.AM.run_append_room (P:=Tryz.prog) (ty:=ty) (c:=Cv) (n:=i) (m:=1) Tryz.underlying36 hi0 hb ⟨bv,ov,none⟩ xs (by rw [hxl,hzs]) hcellv h1v hroom (by rw [hzs];exact hfit)
    refine (lq w _ i C bv ov Cv _ _ hnC hCm hrun).mono ?_
    rintro e w' ⟨rfl,rfl⟩
    obtain ⟨g0,g⟩:=bL cs (o + i * i0.size) xs (by rw [hzs];omega);refine ⟨_,_,_,rfl,⟨_,_,setRow_heap w b cs _ T (0,0) hb,by rw [g0];exact hfit,λj hj=>?_⟩,hroom,hCm,by simp,⟨rfl,rfl,rfl⟩,.inr rfl,λc _ hc=>setRow_other w b c _ hc⟩;rw [g,hzs,List.take_of_length_le (by omega),List.drop_eq_nil_of_le (by omega),List.append_nil];by_cases c1 : j < i * 2
    ·rw [if_neg (by omega),hcs j c1]
     simp only [List.getD_eq_getElem?_getD];rw [List.getElem?_append_left (by omega)]
    ·rw [if_pos (by omega)]
     simp only [List.getD_eq_getElem?_getD];rw [List.getElem?_append_right (by omega)]
     congr 2
     omega
   ·have hrun:=λty=>run_append_grow (P:=Tryz.prog) w 36 ty 166 i0 z0 Tryz.underlying36 hi0 hz0 ⟨b,o,none⟩ i C us (by rw [hzs];exact hul) (λj v hj=>by
     rw [Addr.add_lit];have:=Nat.mul_le_mul_right 2 hnC;exact cO hb (λj hj=>hcs j (by omega)) (by omega) j v hj) ⟨bv,ov,none⟩ 1 Cv xs (by rw [hxl,hzs]) hcellv (by omega) (by omega) (by rw [hzb];exact growslice_fits (by omega) hbig)
    refine (lq w _ i C bv ov Cv _ _ hnC hCm hrun).mono ?_
    rintro e w' ⟨rfl,rfl⟩
    have hge:=grownCap_ge w (i + 1) C 166;have hcm:=grownCap_le_maxLen w (i + 1) C 166 (by unfold maxLen;omega);exact ⟨_,_,_,rfl,fresh C _ _ _ hge hcm (by rw [cg,hzz])⟩
  ·by_cases hroom : n + 1<=C
   ·refine (sS w us xs n i b o C bv ov Cv cs cv T Tv hul hxl (by omega) hroom hCm hb hfit hcs h1 hbv hCv hfv (λj hj=>hcv j (by omega)) h1v (λh=>hap b rfl (by rw [h]))).mono ?_
    rintro e w' ⟨rfl,hp⟩
    exact ⟨_,_,_,rfl,hp⟩
   ·refine (up w us xs n i b o C bv ov Cv cs cv T Tv hul hxl (by omega) hnC (by omega) hbig hb hfit hcs h1 hbv hCv hfv (λj hj=>hcv j (by omega)) h1v).mono ?_
    rintro e w' ⟨nC,rfl,hp⟩
    exact ⟨_,_,_,rfl,hp⟩
open Go.AM
set_option maxRecDepth 20000
set_option maxHeartbeats 12800000
theorem su {l : List Queue} (hp : l.Pairwise iY) {name : ByteArray} (i : Nat) (hi : i < l.length) (h : l[i].doc = name) : aI name l = i:=by
 have hon:=λ{k : Nat} h1 h2=>il (name:=name) (l:=l) (k:=k) h1 h2
 rcases Nat.lt_trichotomy (aI name l) i with hlt | e | hgt
 ·have h1:=List.pairwise_iff_getElem.1 hp (aI name l) i (by omega) hi hlt
  have h2:=(hon (Nat.le_refl _) (by omega)).1 (by unfold iY at h1;rw [h] at h1;exact h1);omega
 ·exact e
 ·have:=(hon (by omega) hi).2 hgt
  rw [h] at this;exact absurd this (lg name)
theorem sX (w : Wld) (hl : ed w<=2 ^ 30) (k : Nat) (hy : (cA w k).2 = true) : d6 Tryz.prog 15 [.agg w.row,.c (vi k)] (λrr=>rr = .tup [.agg (cA w k).1.res,.c (.v (.bool true)) 1]):=by
 have c0 : ao w/\¬ w.step = 1000000/\(0<=(k : Int)/\(k : Int)<=(w.tasks.length : Int) - 1):=Classical.byContradiction λc=>by rw [iD c] at hy;simp at hy
 obtain ⟨c1,hs,-,hk⟩:=c0;have hk : k < w.tasks.length:=by omega
 have hab:=(ic c1 hs hk).1 hy;have hat:=jz c1 hs hk;have hwo:=io w (by omega);have hcp:=mH w (by omega);have hao:=nR w (by omega) c1 k hk;obtain ⟨nh,n2,n3,n4⟩:=bg hl;have hle:=aA n4;have hlq:=aA n3;have hhb:=(eL c1.2.1).1;have htk:=(c1.1 _ (List.getElem_mem hk))
 obtain ⟨t,ht⟩ : ∃ t,w.tasks[k] = t:=⟨_,rfl⟩;rw [ht] at htk hab hat hao;have hm:=λg=>im (f:=Task.row) hk ht g
 have hs1:=gY t.c.doc c1.2.2.1.1;have hdsz:=htk.1.2.1;have ew : Go.IntKind.i64.wrap (w.step + 1) = w.step + 1:=Go.IntWalk.i64_in _ (by have:=c1.2.2.2.2.1;omega);rw [hat] at hy ⊢;refine xE ae Tryz.func15 (by kernel_rfl) rfl rfl rfl (Nat.le_of_ble_eq_true rfl) (λw0 base o=>?_);simp [Wld.row];intro b2 b4;refine aa.ro hwo (by simp [Wld.row]) ?_;simp [c1];refine aa.ro hao (by simp [Wld.row]) ?_;simp [hs,hab];refine aa.pure hcp (by simp [Wld.row]) ?_;simp [Wld.res,hk];intro H1 H2 H3 H4 H5 b6;refine am.quiet eok mix (by kernel_rfl) ?_;simp [hk,ht,Task.row];refine ⟨_,_,lv t.c.doc (by omega) w.locks.length (by omega) (by omega),by simp,?_⟩;simp;have hs2:=hs1.2;have hdo:=F9 w.h (by omega) t.c (by have:=jD htk.1;omega);by_cases p0 : t.pc = 0
 ·simp [p0,hk,ht,Task.row]
  refine aa.ro (aR t.c.kind) (by simp) ?_;by_cases d : aK t.c.kind
  ·rw [fu p0 d (hab.1 ⟨p0,d⟩)]
   simp [d,hs2,hm,hk,Task.row,ew]
  ·rw [fv p0 d]
   simp [ab d,hk,ht,Task.row,p0];generalize hR : fDo w.h t.c = R at hdo;obtain ⟨h',a'⟩:=R;refine inl ae Tryz.func79 50000 (λw3 F3=>?_);simp [hk];refine am.freeze 321 (H:=H1) (sz:=5) (rs:=w.h.docs.map Doc.row) (own:=true) (by simp) ?_;simp;refine am.freeze 322 (H:=H2) (sz:=6) (rs:=w.h.subs.map Sub.row) (own:=true) (by simp) ?_;simp;refine drw eok mix [0,1,2,3,4,5,6,7,8,9,14,15,17,18] [10,11,12,13,16,19] (.c 14 10 272 16111 (.c 14 11 0 16111 (.c 14 12 0 16111 (.c 14 13 0 16111 (.c 14 16 12004 4107 (.c 14 19 4105 2 (.l 14 2) .s) .s) .s) .s) .s) .s) ?_;simp [hk,ht,Task.row]
   try intros
   refine d7 hdo (by simp [Hub.row,Call.row]) ?_;rintro _ rfl;simp [Hub.res,Answer.res,hk,Task.row,hm,bW]
   try intros
   simp [ew,bj,gU,hR,Task.row]
 by_cases p1 : t.pc = 1
 ·rw [eh p1]
  simp [p1,hs2,hk,ht,Task.row];have hdoc:=dx w.h (by omega) t.c.doc;obtain ⟨q0,hq0⟩ : ∃ q : Prop,q = (¬ t.c.kind = 2\/w.h.shut = true\/ar w.h.docs t.c.doc < 0):=⟨_,rfl⟩;by_cases q : q0
  ·rw [gN (by rw [<- hq0];exact q)]
   refine bE (λ_ : Unit=>[(89,.v (.bool (dc q0)))]) (λ_=>[]) [1,4,6,7] ?_ ?_
   ·by_cases q1 : t.c.kind = 2
    ·cases q2 : w.h.shut with
     | true =>
       have hq : q0:=by rw [hq0];exact .inr (.inl q2)
       refine am.quiet eok mix (by kernel_rfl) ?_;simp [hk,ht,Task.row,q1,hq]
     | false =>
       have hq : q0 ↔ ar w.h.docs t.c.doc < 0:=by rw [hq0,q1,q2];simp
       refine am.quiet eok mix (by kernel_rfl) ?_;simp [hk,ht,Task.row,q1];refine ⟨_,_,hdoc,by simp [Hub.row,q2],?_⟩;simp [hq]
    ·have hq : q0:=by rw [hq0];exact .inl q1
     refine am.quiet eok mix (by kernel_rfl) ?_;simp [hk,ht,Task.row,q1,hq]
   intro _;simp [q];generalize hR : fDo w.h t.c = R at hdo;obtain ⟨h',a'⟩:=R;refine inl ae Tryz.func79 50000 (λw3 F3=>?_);simp [hk];refine am.freeze 321 (H:=H1) (sz:=5) (rs:=w.h.docs.map Doc.row) (own:=true) (by simp) ?_;simp;refine am.freeze 322 (H:=H2) (sz:=6) (rs:=w.h.subs.map Sub.row) (own:=true) (by simp) ?_;simp;refine drw eok mix [0,1,2,3,4,5,6,7,8,9,14,15,17,18] [10,11,12,13,16,19] (.c 14 10 272 16111 (.c 14 11 0 16111 (.c 14 12 0 16111 (.c 14 13 0 16111 (.c 14 16 12004 4107 (.c 14 19 4105 2 (.l 14 2) .s) .s) .s) .s) .s) .s) ?_;simp [hk,ht,Task.row]
   try intros
   refine d7 hdo (by simp [Hub.row,Call.row]) ?_;rintro _ rfl;simp [Hub.res,Answer.res,hk,Task.row,hm,bW]
   try intros
   simp [ew,bj,gU,hR,Task.row]
  have q' : ¬ (¬ t.c.kind = 2\/w.h.shut = true\/ar w.h.docs t.c.doc < 0):=by rw [<- hq0];exact q
  have hal:=ka t.c.doc w.queues;have hon:=λ{k : Nat} h1 h2=>il (name:=t.c.doc) (l:=w.queues) (k:=k) h1 h2
  have hpw:=(li.1 c1.2.2.2.2.2.2.2).ord;have hsame : ∀ i,∀ hi : i < w.queues.length,w.queues[i].doc = t.c.doc->aI t.c.doc w.queues = i:=su hpw;have hi1 : ∀ x : Int,ak x = [CD.v (.int .i64 x)]:=λ_=>rfl
  rcases cr w.queues t.c.doc with ⟨i,hi,eq,hd⟩ | eq
  ·have ha:=hsame i hi hd
   by_cases fl : w.queues[i].list.length = 2
   ·rw [gO q' hi eq fl]
    refine bE (λ_ : Unit=>[(89,.v (.bool (dc q0)))]) (λ_=>[]) [1,4,6,7] ?_ ?_
    ·by_cases q1 : t.c.kind = 2
     ·cases q2 : w.h.shut with
      | true =>
        have hq : q0:=by rw [hq0];exact .inr (.inl q2)
        refine am.quiet eok mix (by kernel_rfl) ?_;simp [hk,ht,Task.row,q1,hq]
      | false =>
        have hq : q0 ↔ ar w.h.docs t.c.doc < 0:=by rw [hq0,q1,q2];simp
        refine am.quiet eok mix (by kernel_rfl) ?_;simp [hk,ht,Task.row,q1];refine ⟨_,_,hdoc,by simp [Hub.row,q2],?_⟩;simp [hq]
     ·have hq : q0:=by rw [hq0];exact .inl q1
      refine am.quiet eok mix (by kernel_rfl) ?_;simp [hk,ht,Task.row,q1,hq]
    intro _;simp [ab q];refine inl ae Tryz.func81 30000 (λw3 F3=>?_);simp [hk,ht,Task.row]
    refine ag eok (λm : Nat=>m<=aI t.c.doc w.queues) (λm=>⟨96,30000,[(6,.v (.int .i64 m)),(5,.v (.string t.c.doc)),(0,.p 96 b6 0),(1,.v (.int .i64 k))],
     (324,.rows H3 1 ((w.locks.map ak).set (aP t.c.doc w.locks.length) [.v (.int .i64 (-1))]) true) :: (96,.vars b6 39 [.v (.bool w.h.shut),.sl 321 H1 5 0 w.h.docs.length,.sl 322 H2 6 0 w.h.subs.length,.v (.int .i64 w.h.last),.sl 324 H3 1 0 w.locks.length,.sl 325 H4 2 0 w.queues.length,.sl 326 H5 15 0 w.tasks.length,.v (.int .i64 w.step)]) ::  (326,.rows H5 15 (w.tasks.map Task.row) true) :: (325,.rows H4 2 (w.queues.map Queue.row) true) :: (322,.rows H2 6 (w.h.subs.map Sub.row) true) :: (321,.rows H1 5 (w.h.docs.map Doc.row) true) :: (64,.vars b4 39 [.v (.bool false),.nil,.nil,.v (.int .i64 0),.nil,.nil,.nil,.v (.int .i64 0)]) ::  phs o⟩) (λm=>w.queues.length - m) 0 (by simp) (by simp) (λm hmm=>Ent.refl ?_)
    by_cases hlt : m < w.queues.length
    rotate_left
    ·exfalso;omega
    obtain ⟨x,hx⟩ : ∃ x,w.queues[m] = x:=⟨_,rfl⟩;have hiff:=hon hmm hlt;rw [hx] at hiff;simp [hlt,hx,Queue.row];by_cases s : sLt x.doc t.c.doc
    ·simp [s]
     exact Ent.refl ⟨m + 1,by have:=hiff.1 s;omega,by omega,by simp;exact ah (by omega)⟩
    have hma : m = i:=by
     have : ¬ m < aI t.c.doc w.queues:=λh=>s (hiff.2 h)
     omega
    subst hma;have hmne : ¬ (m : Int) = w.queues.length:=by omega
    rw [hx] at fl hd;simp [hmne,hlt,hx,hd,fl,Queue.row,ab (lg t.c.doc),hk,hm,bW,bj,ew,Task.row,hi1]
   ·have hqa:=(Classical.byContradiction (p:=eI w.h w.queues i) λhn=>dV hi (eU hi hn) c1.2.2.2.2.2.2.2) hi
    have hpos : 0 < w.queues[i].list.length:=hqa.2.1.1;have hle2:=hqa.2.1.2;have hrow : ∀ d,iV (w.queues.map Queue.row) i 1 d = (w.queues.map Queue.row).set i [.v (.string w.queues[i].doc),d]:=λd=>im (f:=Queue.row) hi rfl _
    rw [gM q' hi eq fl]
    refine am.weak (⟨125,0,[(1,.v (.int .i64 k)),(4,.p 64 b4 0),(6,.p 96 b6 0),(7,.e 326 H5 15 k 0)],
     (324,.rows H3 1 ((w.locks.map ak).set (aP t.c.doc w.locks.length) [.v (.int .i64 (-1))]) true) :: (96,.vars b6 39 [.v (.bool w.h.shut),.sl 321 H1 5 0 w.h.docs.length,.sl 322 H2 6 0 w.h.subs.length,.v (.int .i64 w.h.last),.sl 324 H3 1 0 w.locks.length,.sl 325 H4 2 0 w.queues.length,.sl 326 H5 15 0 w.tasks.length,.v (.int .i64 w.step)]) :: (326,.rows H5 15 (w.tasks.map Task.row) true) :: (325,.rows H4 2 (w.queues.map Queue.row) true) :: (322,.rows H2 6 (w.h.subs.map Sub.row) true) :: (321,.rows H1 5 (w.h.docs.map Doc.row) true) :: (64,.vars b4 39 [.v (.bool false),.nil,.nil,.v (.int .i64 0),.nil,.nil,.nil,.v (.int .i64 0)]) :: phs o⟩) (by simp) ?_
    refine am.open (λ_ h=>h) (k:=325) (i:=i) (j:=1) (k':=60000) (sz':=1) (sz:=2) (H:=H4) (rows:=w.queues.map Queue.row) (srows:=w.queues[i].list.map ak) (row:=w.queues[i].row) (by simp) (by simp [hi]) rfl (by simp) (by decide) (by simp [ak]) (by simp [ASt.quiet,qT,qH,AV.q,AV.qL,AObj.q]) (λG=>?_);simp only [hrow];refine bE (λ_ : Unit=>[(89,.v (.bool (dc q0)))]) (λ_=>[]) [1,4,6,7] ?_ ?_
    ·by_cases q1 : t.c.kind = 2
     ·cases q2 : w.h.shut with
      | true =>
        have hq : q0:=by rw [hq0];exact .inr (.inl q2)
        refine am.quiet eok mix (by kernel_rfl) ?_;simp [hk,ht,Task.row,q1,hq]
      | false =>
        have hq : q0 ↔ ar w.h.docs t.c.doc < 0:=by rw [hq0,q1,q2];simp
        refine am.quiet eok mix (by kernel_rfl) ?_;simp [hk,ht,Task.row,q1];refine ⟨_,_,hdoc,by simp [Hub.row,q2],?_⟩;simp [hq]
     ·have hq : q0:=by rw [hq0];exact .inl q1
      refine am.quiet eok mix (by kernel_rfl) ?_;simp [hk,ht,Task.row,q1,hq]
    intro _;simp [ab q];refine inl ae Tryz.func81 30000 (λw3 F3=>?_);simp [hk,ht,Task.row]
    refine ag eok (λm : Nat=>m<=aI t.c.doc w.queues) (λm=>⟨96,30000,[(6,.v (.int .i64 m)),(5,.v (.string t.c.doc)),(0,.p 96 b6 0),(1,.v (.int .i64 k))],
     (324,.rows H3 1 ((w.locks.map ak).set (aP t.c.doc w.locks.length) [.v (.int .i64 (-1))]) true) :: (96,.vars b6 39 [.v (.bool w.h.shut),.sl 321 H1 5 0 w.h.docs.length,.sl 322 H2 6 0 w.h.subs.length,.v (.int .i64 w.h.last),.sl 324 H3 1 0 w.locks.length,.sl 325 H4 2 0 w.queues.length,.sl 326 H5 15 0 w.tasks.length,.v (.int .i64 w.step)]) :: (60000,.rows G 1 (w.queues[i].list.map ak) true) :: (326,.rows H5 15 (w.tasks.map Task.row) true) :: (325,.rows H4 2 ((w.queues.map Queue.row).set i [.v (.string w.queues[i].doc),.h 60000 G 1 w.queues[i].list.length]) true) :: (322,.rows H2 6 (w.h.subs.map Sub.row) true) :: (321,.rows H1 5 (w.h.docs.map Doc.row) true) :: (64,.vars b4 39 [.v (.bool false),.nil,.nil,.v (.int .i64 0),.nil,.nil,.nil,.v (.int .i64 0)]) ::  phs o⟩) (λm=>w.queues.length - m) 0 (by simp) (by simp) (λm hmm=>Ent.refl ?_)
    by_cases hlt : m < w.queues.length
    rotate_left
    ·exfalso;omega
    by_cases hmi : m = i
    rotate_left
    ·have hne : ¬ i = m:=λh=>hmi h.symm
     have s : sLt w.queues[m].doc t.c.doc:=(hon hmm hlt).2 (by omega);simp [hlt,Queue.row,hne,s];exact Ent.refl ⟨m + 1,by omega,by omega,by simp;exact ah (by omega)⟩
    subst hmi;have hmne : ¬ (m : Int) = w.queues.length:=by omega
    have fl' : ¬ (w.queues[m].list.length : Int) = 2:=by omega
    simp [hlt,hd,ab (lg t.c.doc),hmne,fl'];refine drw eok mix [0,1,2,3,4,5,6,7,8,9,10,11,12,13,16,17] [14,15,18] (.c 16 14 4 65531 (.c 16 15 8 65523 (.c 16 18 65521 2 (.l 16 2) .s) .s) .s) ?_;simp [hlt,hpos,bW]
    try intros
    simp [Queue.row,hk,hm,bj,ew,Task.row,hi1];omega
  ·rw [iE q' eq]
   refine am.weak (⟨125,0,[(1,.v (.int .i64 k)),(4,.p 64 b4 0),(6,.p 96 b6 0),(7,.e 326 H5 15 k 0)],
    (324,.rows H3 1 ((w.locks.map ak).set (aP t.c.doc w.locks.length) [.v (.int .i64 (-1))]) true) :: (96,.vars b6 39 [.v (.bool w.h.shut),.sl 321 H1 5 0 w.h.docs.length,.sl 322 H2 6 0 w.h.subs.length,.v (.int .i64 w.h.last),.sl 324 H3 1 0 w.locks.length,.sl 325 H4 2 0 w.queues.length,.sl 326 H5 15 0 w.tasks.length,.v (.int .i64 w.step)]) :: (326,.rows H5 15 (w.tasks.map Task.row) true) :: (325,.rows H4 2 (w.queues.map Queue.row) true) :: (322,.rows H2 6 (w.h.subs.map Sub.row) true) :: (321,.rows H1 5 (w.h.docs.map Doc.row) true) :: (64,.vars b4 39 [.v (.bool false),.nil,.nil,.v (.int .i64 0),.nil,.nil,.nil,.v (.int .i64 0)]) :: phs o⟩) (by simp) ?_
   refine bE (λ_ : Unit=>[(89,.v (.bool (dc q0)))]) (λ_=>[]) [1,4,6,7] ?_ ?_
   ·by_cases q1 : t.c.kind = 2
    ·cases q2 : w.h.shut with
     | true =>
       have hq : q0:=by rw [hq0];exact .inr (.inl q2)
       refine am.quiet eok mix (by kernel_rfl) ?_;simp [hk,ht,Task.row,q1,hq]
     | false =>
       have hq : q0 ↔ ar w.h.docs t.c.doc < 0:=by rw [hq0,q1,q2];simp
       refine am.quiet eok mix (by kernel_rfl) ?_;simp [hk,ht,Task.row,q1];refine ⟨_,_,hdoc,by simp [Hub.row,q2],?_⟩;simp [hq]
    ·have hq : q0:=by rw [hq0];exact .inl q1
     refine am.quiet eok mix (by kernel_rfl) ?_;simp [hk,ht,Task.row,q1,hq]
   intro _;simp [ab q];refine eY ae Tryz.func81 (by kernel_rfl) rfl rfl rfl (Nat.le_of_ble_eq_true rfl) 30000 rfl (by simp) ?_;simp [hk,ht,Task.row]
   refine ag eok (λm : Nat=>m<=aI t.c.doc w.queues) (λm=>⟨96,30000,[(6,.v (.int .i64 m)),(5,.v (.string t.c.doc)),(0,.p 96 b6 0),(1,.v (.int .i64 k))],
    (324,.rows H3 1 ((w.locks.map ak).set (aP t.c.doc w.locks.length) [.v (.int .i64 (-1))]) true) :: (96,.vars b6 39 [.v (.bool w.h.shut),.sl 321 H1 5 0 w.h.docs.length,.sl 322 H2 6 0 w.h.subs.length,.v (.int .i64 w.h.last),.sl 324 H3 1 0 w.locks.length,.sl 325 H4 2 0 w.queues.length,.sl 326 H5 15 0 w.tasks.length,.v (.int .i64 w.step)]) ::  (326,.rows H5 15 (w.tasks.map Task.row) true) :: (325,.rows H4 2 (w.queues.map Queue.row) true) :: (322,.rows H2 6 (w.h.subs.map Sub.row) true) :: (321,.rows H1 5 (w.h.docs.map Doc.row) true) :: (64,.vars b4 39 [.v (.bool false),.nil,.nil,.v (.int .i64 0),.nil,.nil,.nil,.v (.int .i64 0)]) ::  phs o⟩) (λm=>w.queues.length - m) 0 (by simp) (by simp) (λm hmm=>Ent.refl ?_)
   have hnone : ∀ j,∀ hj : j < w.queues.length,¬ w.queues[j].doc = t.c.doc:=by
    rcases eM (λq : Queue=>q.doc = t.c.doc) w.queues with ⟨j,hj,e,-⟩ | ⟨-,hn⟩
    ·have e' : bq w.queues t.c.doc = j:=e
     omega
    ·exact hn
   generalize aI t.c.doc w.queues = a at hal hon hmm;by_cases hlt : m < w.queues.length
   ·obtain ⟨x,hx⟩ : ∃ x,w.queues[m] = x:=⟨_,rfl⟩
    have hiff:=hon hmm hlt;have hxn:=hnone m hlt;rw [hx] at hiff hxn;simp [hlt,hx,Queue.row];by_cases s : sLt x.doc t.c.doc
    ·simp [s]
     exact Ent.refl ⟨m + 1,by have:=hiff.1 s;omega,by omega,by simp;exact ah (by omega)⟩
    have hka : m = a:=by
     have : ¬ m < a:=λh=>s (hiff.2 h)
     omega
    subst hka;have hmn : min m w.queues.length = m:=by omega
    have hmne : ¬ (m : Int) = w.queues.length:=by omega
    simp [ab s,hmne,hxn,hlt,hx,Queue.row];intro b65;refine fM sU (by decide) (n:=w.queues.length) (rows:=w.queues.map Queue.row) (row:=[.v (.string t.c.doc),.s []]) (k:=325) (kv:=31024) (own:=true) (ownv:=true) (i:=m) (by simp) (by simp) (by simp) (by decide) (by simp;try omega) (by simp;omega) (λH6=>?_);obtain ⟨Z,hZ⟩ : ∃ Z,Z = (w.queues.map Queue.row).take m ++ [.v (.string t.c.doc),.s []] :: (w.queues.map Queue.row).drop m:=⟨_,rfl⟩;have hZl : Z.length = w.queues.length + 1:=by subst hZ;simp;try omega
    have hZm : m < Z.length:=by omega
    have hZe : Z[m] = [.v (.string t.c.doc),.s []]:=by subst hZ;rw [List.getElem_append_right (by rw [List.length_take];exact Nat.min_le_left _ _)];simp [Nat.min_eq_left hal]
    have hZs : ∀ d,iV Z m 1 d = Z.set m [.v (.string t.c.doc),d]:=λd=>by have:=im (f:=λx : List CD=>x) hZm hZe (λrow=>row.set 1 d);rw [List.map_id'] at this;exact this
    have hZt : ∀ r,Z.set m r = (w.queues.map Queue.row).take m ++ r :: (w.queues.map Queue.row).drop m:=λr=>by subst hZ;rw [List.set_append_right _ _ (by rw [List.length_take];exact Nat.min_le_left _ _)];simp [Nat.min_eq_left hal]
    rw [<- hZ];have hml : (m : Int) < (w.queues.length : Int) + 1:=by omega
    have hml2 : m < w.queues.length + 1:=by omega
    simp [hZl,hZe,hml,hml2]
    refine am.weak (⟨96,30000,[(6,.v (.int .i64 (m : Nat))),(0,.p 96 b6 0),(1,.v (.int .i64 k))],
     (324,.rows H3 1 ((w.locks.map ak).set (aP t.c.doc w.locks.length) [.v (.int .i64 (-1))]) true) :: (96,.vars b6 39 [.v (.bool w.h.shut),.sl 321 H1 5 0 w.h.docs.length,.sl 322 H2 6 0 w.h.subs.length,.v (.int .i64 w.h.last),.sl 324 H3 1 0 w.locks.length,.sl 325 H6 2 0 (w.queues.length + 1),.sl 326 H5 15 0 w.tasks.length,.v (.int .i64 w.step)]) :: (326,.rows H5 15 (w.tasks.map Task.row) true) :: (325,.rows H6 2 Z true) :: (322,.rows H2 6 (w.h.subs.map Sub.row) true) :: (321,.rows H1 5 (w.h.docs.map Doc.row) true) :: (64,.vars b4 39 [.v (.bool false),.nil,.nil,.v (.int .i64 0),.nil,.nil,.nil,.v (.int .i64 0)]) :: phs o⟩) (by simp) ?_
    refine am.open (λ_ h=>h) (k:=325) (i:=m) (j:=1) (k':=60000) (sz':=1) (sz:=2) (H:=H6) (rows:=Z) (srows:=[]) (row:=[.v (.string t.c.doc),.s []]) (by simp) (by rw [List.getElem?_eq_getElem hZm,hZe]) rfl (by simp) (by decide) (by simp) (by simp [ASt.quiet,qT,qH,AV.q,AV.qL,AObj.q]) (λG=>?_);simp only [hZs];refine drw eok mix [0,1,2,3,4,5,6,7,8,9,10,11,12,13,16,17] [14,15,18] (.c 16 14 4 65531 (.c 16 15 8 65523 (.c 16 18 65521 2 (.l 16 2) .s) .s) .s) ?_;simp [hZl,hml,hml2,bW,Hn]
    try intros
    simp [hk,hm,bj,ew,Task.row,hi1,hZt,Queue.row]
    all_goals rw [List.take_of_length_le (by simp),List.drop_eq_nil_of_le (by simp)]
   have hka : m = w.queues.length:=by omega
   have hka2 : a = w.queues.length:=by omega
   subst hka2;subst hka;simp;intro b65;refine fM sU (by decide) (n:=w.queues.length) (rows:=w.queues.map Queue.row) (row:=[.v (.string t.c.doc),.s []]) (k:=325) (kv:=31024) (own:=true) (ownv:=true) (i:=w.queues.length) (by simp) (by simp) (by simp) (by decide) (by simp;try omega) (by simp;omega) (λH6=>?_);obtain ⟨Z,hZ⟩ : ∃ Z,Z = (w.queues.map Queue.row).take w.queues.length ++ [.v (.string t.c.doc),.s []] :: (w.queues.map Queue.row).drop w.queues.length:=⟨_,rfl⟩;have hZl : Z.length = w.queues.length + 1:=by subst hZ;simp;try omega
   have hZm : w.queues.length < Z.length:=by omega
   have hZe : Z[w.queues.length] = [.v (.string t.c.doc),.s []]:=by subst hZ;rw [List.getElem_append_right (by rw [List.length_take];exact Nat.min_le_left _ _)];simp [Nat.min_eq_left hal]
   have hZs : ∀ d,iV Z w.queues.length 1 d = Z.set w.queues.length [.v (.string t.c.doc),d]:=λd=>by have:=im (f:=λx : List CD=>x) hZm hZe (λrow=>row.set 1 d);rw [List.map_id'] at this;exact this
   have hZt : ∀ r,Z.set w.queues.length r = (w.queues.map Queue.row).take w.queues.length ++ r :: (w.queues.map Queue.row).drop w.queues.length:=λr=>by subst hZ;rw [List.set_append_right _ _ (by rw [List.length_take];exact Nat.min_le_left _ _)];simp [Nat.min_eq_left hal]
   rw [<- hZ];have hml : (w.queues.length : Int) < (w.queues.length : Int) + 1:=by omega
   have hml2 : w.queues.length < w.queues.length + 1:=by omega
   simp [hZl,hZe,hml,hml2]
   refine am.weak (⟨96,30000,[(6,.v (.int .i64 (w.queues.length : Nat))),(0,.p 96 b6 0),(1,.v (.int .i64 k))],
    (324,.rows H3 1 ((w.locks.map ak).set (aP t.c.doc w.locks.length) [.v (.int .i64 (-1))]) true) :: (96,.vars b6 39 [.v (.bool w.h.shut),.sl 321 H1 5 0 w.h.docs.length,.sl 322 H2 6 0 w.h.subs.length,.v (.int .i64 w.h.last),.sl 324 H3 1 0 w.locks.length,.sl 325 H6 2 0 (w.queues.length + 1),.sl 326 H5 15 0 w.tasks.length,.v (.int .i64 w.step)]) :: (326,.rows H5 15 (w.tasks.map Task.row) true) :: (325,.rows H6 2 Z true) :: (322,.rows H2 6 (w.h.subs.map Sub.row) true) :: (321,.rows H1 5 (w.h.docs.map Doc.row) true) :: (64,.vars b4 39 [.v (.bool false),.nil,.nil,.v (.int .i64 0),.nil,.nil,.nil,.v (.int .i64 0)]) :: phs o⟩) (by simp) ?_
   refine am.open (λ_ h=>h) (k:=325) (i:=w.queues.length) (j:=1) (k':=60000) (sz':=1) (sz:=2) (H:=H6) (rows:=Z) (srows:=[]) (row:=[.v (.string t.c.doc),.s []]) (by simp) (by rw [List.getElem?_eq_getElem hZm,hZe]) rfl (by simp) (by decide) (by simp) (by simp [ASt.quiet,qT,qH,AV.q,AV.qL,AObj.q]) (λG=>?_);simp only [hZs];refine drw eok mix [0,1,2,3,4,5,6,7,8,9,10,11,12,13,16,17] [14,15,18] (.c 16 14 4 65531 (.c 16 15 8 65523 (.c 16 18 65521 2 (.l 16 2) .s) .s) .s) ?_;simp [hZl,hml,hml2,bW,Hn]
   try intros
   simp [hk,hm,bj,ew,Task.row,hi1,hZt,Queue.row]
   all_goals rw [List.take_of_length_le (by simp),List.drop_eq_nil_of_le (by simp)]
 have p3 : t.pc = 3:=by
  have h1:=htk.2.2.1;have h2:=hab.2;omega
 rw [ft p3];simp [p3,hm,bW,Task.row,hk,ht,ew]
theorem IS (p : Int) {n : Int} (h : 0 < n) : (p.tmod n + n).tmod n = p % n:=by
 have h0 : 0<=p.tmod n + n:=by
  have:=Int.lt_tmod_of_pos p h;omega
 rw [Int.tmod_eq_emod_of_nonneg h0,Int.tmod_def,Int.add_emod,Int.emod_self,Int.add_zero,Int.emod_emod,Int.sub_mul_emod_self_left]
theorem wH (w0 : Wld) (i0 : Nat) (hi0 : i0<=1024) (ht : kP w0 i0) (hs0 : 0<=w0.step) (hs1 : w0.step<=1000000) (picks : List Int) (_hpl : picks.length<=2 ^ 40) (_hp : ∀ p∈picks,Pk p) :
 d6 Tryz.prog 21 [.agg w0.row,.c (.s (picks.map ak))] (λrr=>rr = .tup [.agg (pl w0 picks).1.res,.c (vi (pl w0 picks).2) 1]):=by
 refine d6.intro ae Tryz.func21 (by kernel_rfl) rfl rfl rfl (Nat.le_of_ble_eq_true rfl) (λwz base o=>?_);have hw:=s5 ht (by omega);simp [Wld.row];intro b2 b4;refine aa.ro (mH w0 (by omega)) (by simp [Wld.row]) ?_;simp [Wld.res];intro b6
 refine ag eok (λx : Wld × Nat=>kP x.1 (i0 + x.2)/\x.2<=1000000/\x.1.step = w0.step + x.2/\x.1.step<=1000000/\pl w0 picks = lB picks (1000001 - x.2) x.2 x.1)
  (λx=>⟨68,0,[(7,.v (.int .i64 x.2)),(6,.p 96 b6 0),(4,.p 64 b4 0),(1,.ro (picks.map ak))],
   (96,.vars b6 39 [.v (.bool x.1.h.shut),.ro (x.1.h.docs.map Doc.row),.ro (x.1.h.subs.map Sub.row),.v (.int .i64 x.1.h.last),.ro (x.1.locks.map ak),.ro (x.1.queues.map Queue.row),.ro (x.1.tasks.map Task.row),.v (.int .i64 x.1.step)]) :: (64,.vars b4 39 [.v (.bool false),.nil,.nil,.v (.int .i64 0),.nil,.nil,.nil,.v (.int .i64 0)]) :: phs o⟩) (λx=>1000001 - x.2)
  (w0,0) ⟨ht,by omega,by simp,hs1,rfl⟩ (by simp) (λx hx=>Ent.refl ?_)
 obtain ⟨w,n⟩:=x;obtain ⟨x1,x2,x3,x4,x5⟩:=hx;simp only at x1 x2 x3 x4 x5;have hwn:=s5 x1 (by omega);have c3:=AF w hwn;have c4:=wx w hwn;obtain ⟨-,-,n3,n4⟩:=bg hwn;have hlt:=aA n4;have hlq:=aA n3
 have hal : (cB w).length<=w.tasks.length:=by
  by_cases c : ao w/\¬ w.step = 1000000
  ·rw [ni c]
   unfold dI;rw [List.length_map];exact Nat.le_trans (List.length_filter_le _ _) (by simp)
  ·rw [pm c];simp
 have hsl : (bQ w).length<=w.queues.length:=by
  by_cases c : ao w/\¬ w.step = 1000000
  ·rw [iC c];simp
  ·rw [lF c];simp
 have wsum:=Go.IntWalk.i64_in (((cB w).length : Int) + ((bQ w).length : Int)) (by omega);simp;refine am.quiet eok mix (by kernel_rfl) ?_;simp;refine ⟨_,_,c3,by simp [Wld.row],?_⟩;simp;refine ⟨_,_,c4,by simp [Wld.row],?_⟩;simp [wsum];by_cases hm : fg w = 0
 ·rw [s6 hm] at x5
  have hz : ((cB w).length : Int) + ((bQ w).length : Int) = 0:=by unfold fg at hm;omega
  simp [hz,x5]
 have hz : ¬ ((cB w).length : Int) + ((bQ w).length : Int) = 0:=by unfold fg at hm;omega
 obtain ⟨wok,wst⟩:=oU hm;rw [show 1000001 - n = (1000001 - (n + 1)) + 1 by omega,vx hm] at x5;have hmz : (fg w : Int) = ((cB w).length : Int) + ((bQ w).length : Int):=by unfold fg;omega
 have hpl:=u3 picks n (show 0 < fg w by omega);have yT:=Di x1 hm hpl;have ys:=wS hm hpl;have wn:=Go.IntWalk.i64_in ((n : Int) + 1) (by omega);simp [hz];by_cases hpk : n < picks.length
 ·have e1 : (Go.IntKind.i64.wrap (picks[n].tmod (((cB w).length : Int) + ((bQ w).length : Int)) + (((cB w).length : Int) + ((bQ w).length : Int)))).tmod (((cB w).length : Int) + ((bQ w).length : Int)) = ((lj picks n (fg w) : Nat) : Int):=by
   rw [<- hmz];have hm0 : (0 : Int) < fg w:=by omega
   have h1:=Int.lt_tmod_of_pos picks[n] hm0;have h2:=Int.tmod_lt_of_pos picks[n] hm0;rw [Go.IntWalk.i64_in _ (by omega),IS _ hm0];unfold lj;rw [List.getElem?_eq_getElem hpk];have h3:=Int.emod_nonneg picks[n] (show (fg w : Int)≠0 by omega);simp only;omega
  simp [hpk,e1,hz];generalize lj picks n (fg w) = p at hpl yT ys x5;by_cases ha : p < (cB w).length
  ·simp [ha]
   obtain ⟨k,hk,hke,hky⟩:=pw ha;have ey : cG w p = (cA w k).1:=by unfold cG;rw [List.getElem?_eq_getElem ha];simp only [hke]
   have hc:=sX w hwn k hky;rw [<- ey] at hc;generalize cG w p = y at yT ys x5 hc;refine drw eok mix [0,1,2,3,4] [5,6,7,8,9] (.c 5 5 17 14 (.c 5 6 0 14 (.c 5 7 0 14 (.c 5 8 0 14 (.c 5 9 14 0 (.l 5 0) .s) .s) .s) .s) .s) ?_;simp [ha,hke]
   try intros
   refine d7 hc (by simp [Wld.row]) ?_;rintro _ rfl;simp [Wld.res]
   try intros
   refine Ent.refl ⟨y,n + 1,⟨yT,by omega,by omega,by omega,x5⟩,by omega,?_⟩;simp [wn]
  have hs : p - (cB w).length < (bQ w).length:=by unfold fg at hpl;omega
  have wsub : Go.IntKind.i64.wrap (((p : Nat) : Int) - ((cB w).length : Int)) = ((p - (cB w).length : Nat) : Int):=by rw [Go.IntWalk.i64_in _ (by omega)];omega
  have ey : cG w p = (cf w (bQ w)[p - (cB w).length]).1:=by unfold cG;rw [List.getElem?_eq_none (by omega),List.getElem?_eq_getElem hs]
  generalize p - (cB w).length = jj at hs wsub ey;have hc:=qZ w hwn (bQ w)[jj];rw [<- ey] at hc;generalize cG w p = y at yT ys x5 hc
  try simp only [Int.zero_sub] at wsub
  simp [ha];refine drw eok mix [0,1,2,3,4,5,6,7] [8,9,10,11,12] (.c 8 8 129 126 (.c 8 9 0 126 (.c 8 10 0 126 (.c 8 11 0 126 (.c 8 12 126 0 (.l 8 0) .s) .s) .s) .s) .s) ?_;simp [hs,wsub,Ci]
  try intros
  refine aa.ro hc (by simp [Wld.row]) ?_;simp [Wld.res]
  try intros
  refine Ent.refl ⟨y,n + 1,⟨yT,by omega,by omega,by omega,x5⟩,by omega,?_⟩;simp [wn]
 have e1 : lj picks n (fg w) = 0:=by unfold lj;rw [List.getElem?_eq_none (by omega)]
 rw [e1] at hpl yT ys x5;simp [hpk];by_cases ha : 0 < (cB w).length
 ·simp [ha,hz]
  obtain ⟨k,hk,hke,hky⟩:=pw ha;have ey : cG w 0 = (cA w k).1:=by unfold cG;rw [List.getElem?_eq_getElem ha];simp only [hke]
  have hc:=sX w hwn k hky;rw [<- ey] at hc;generalize cG w 0 = y at yT ys x5 hc;refine drw eok mix [0,1,2,3,4] [5,6,7,8,9] (.c 5 5 17 14 (.c 5 6 0 14 (.c 5 7 0 14 (.c 5 8 0 14 (.c 5 9 14 0 (.l 5 0) .s) .s) .s) .s) .s) ?_;simp [ha,hke]
  try intros
  refine d7 hc (by simp [Wld.row]) ?_;rintro _ rfl;simp [Wld.res]
  try intros
  refine Ent.refl ⟨y,n + 1,⟨yT,by omega,by omega,by omega,x5⟩,by omega,?_⟩;simp [wn]
 have hs : 0 - (cB w).length < (bQ w).length:=by unfold fg at hpl;omega
 have wsub : Go.IntKind.i64.wrap ((0 : Int) - ((cB w).length : Int)) = ((0 - (cB w).length : Nat) : Int):=by rw [Go.IntWalk.i64_in _ (by omega)];omega
 have ey : cG w 0 = (cf w (bQ w)[0 - (cB w).length]).1:=by unfold cG;rw [List.getElem?_eq_none (by omega),List.getElem?_eq_getElem hs]
 generalize 0 - (cB w).length = jj at hs wsub ey;have hc:=qZ w hwn (bQ w)[jj];rw [<- ey] at hc;generalize cG w 0 = y at yT ys x5 hc
 try simp only [Int.zero_sub] at wsub
 simp [ha,hz];refine drw eok mix [0,1,2,3,4,5,6,7] [8,9,10,11,12] (.c 8 8 129 126 (.c 8 9 0 126 (.c 8 10 0 126 (.c 8 11 0 126 (.c 8 12 126 0 (.l 8 0) .s) .s) .s) .s) .s) ?_;simp [hs,wsub,Ci]
 try intros
 refine aa.ro hc (by simp [Wld.row]) ?_;simp [Wld.res]
 try intros
 refine Ent.refl ⟨y,n + 1,⟨yT,by omega,by omega,by omega,x5⟩,by omega,?_⟩;simp [wn]
end Go.Proofs.YtoldjebobgocpaaGreat
