import Derived.Test.YtoldjebobgocpaaPA
import Derived.Test.YtoldjebobgocpaaME
namespace Go.AM
open Go.RowKit
def RdNV (w : World) (S : Nat→Prop) (v : Value) : RV→Prop
 | .c d _=>Rd w false S v d
 | .agg ts=>∃ xs : Array Value,v = .agg xs∧xs.size = ts.length∧∀ j t,ts[j]? = some t→Rd w false S (xs.getD j undef) t.1
def RdNR (w : World) (S : Nat→Prop) (v : Value) : RR→Prop
 | .one r=>RdNV w S v r
 | .tup l=>∃ xs : Array Value,v = .tuple xs∧xs.size = l.length∧∀ j t,l[j]? = some t→RdNV w S (xs.getD j undef) t
theorem RdRV.toN {w : World} {S S' : Nat→Prop} {v : Value} {r : RV} (h : RdRV w S v r) (hS : ∀ c,S c→S' c) : RdNV w S' v r:=by
 cases r with
 | c d sz=>exact (RdTop.rd h).weaken.map (fun _ _ _=>rfl) (fun c hc _=>hS c hc)
 | agg ts=>
   obtain ⟨xs,F,h1,h2,h3,h4,h5⟩:=h;exact ⟨xs,h1,h2,fun j t hj=>(RdTop.rd (h5 j t hj)).weaken.map (fun _ _ _=>rfl) (fun c hc _=>hS c (h3 j c hc))⟩
theorem RdRR.toN {w : World} {S S' : Nat→Prop} {v : Value} {r : RR} (h : RdRR w S v r) (hS : ∀ c,S c→S' c) : RdNR w S' v r:=by
 cases r with
 | one r=>exact RdRV.toN h hS
 | tup l=>
   obtain ⟨xs,F,h1,h2,h3,h4,h5⟩:=h;exact ⟨xs,h1,h2,fun j t hj=>RdRV.toN (h5 j t hj) (fun c hc=>hS c (h3 j c hc))⟩
theorem RdNV.rel {w : World} {M S : Nat→Prop} {v : Value} {r : RV} (h : RdNV w S v r) (hM : ∀ c,S c→¬ M c) : VRel w M (roV r) v:=by
 cases r with
 | c d sz=>exact toAV_rel (Rd.map h (fun _ _ _=>rfl) (fun c hc _=>hM c hc))
 | agg ts=>
   obtain ⟨xs,rfl,h2,h5⟩:=h;refine .agg _ _ (by simp [h2]) (fun i av hi=>?_);simp only [List.getElem?_map,Option.map_eq_some_iff] at hi;obtain ⟨t,ht,rfl⟩:=hi;exact toAV_rel ((h5 i t ht).map (fun _ _ _=>rfl) (fun c hc _=>hM c hc))
theorem RdNR.rel {w : World} {M S : Nat→Prop} {v : Value} {r : RR} (h : RdNR w S v r) (hM : ∀ c,S c→¬ M c) : VRel w M (roR r) v:=by
 cases r with
 | one r=>exact RdNV.rel h hM
 | tup l=>
   obtain ⟨xs,rfl,h2,h5⟩:=h;refine .tup _ _ (by simp [h2]) (fun i av hi=>?_);simp only [List.getElem?_map,Option.map_eq_some_iff] at hi;obtain ⟨t,ht,rfl⟩:=hi;exact RdNV.rel (h5 i t ht) hM
theorem ACall.ro {E : Env} {f : Nat} {args : List VD} {rr : RR} (hc : PureC E.P f args rr) {avs : List AV} {st : ASt} {dst : Option Nat} {K : ASt→Prop} (hin : aInVs E.rd st.h avs args)
 (hout : aPut st dst (roR rr) K) : ACall E f avs st dst K:=by
 refine ⟨hc.1,fun a w hR xs hs hx=>?_⟩;obtain ⟨Es,hH⟩:=hR.heap;obtain ⟨hl,hr⟩:=aInVs_sound hH hR.rd avs args hx hin;refine (hc.2 w trivial xs (by omega) hr).mono ?_
 rintro e w' ⟨v,rfl,hb,hrr⟩
 have t : Tr st.h.M w st.h.M w':=⟨hb.size,fun b hlt _=>hb.block b hlt,fun b _ h=>h⟩;have H' : HRel E.base st.h w' Es:=⟨fun k=>(hH.obj k).tr t (fun b hk=>hb.block b (hH.lt hk)) (fun c hc _=>hc),hH.inj,hH.low,fun k c hc=>⟨(hH.elow k c hc).1,Nat.lt_of_lt_of_le (hH.elow k c hc).2 hb.size⟩,hH.einj,hH.em⟩;have hv : VRel w' st.h.M (roR rr) v:=roR_rel hrr (fun c hc ⟨k,hk⟩=>by have:=hH.lt hk;omega);obtain ⟨av',h3,h1,h2,h4,h5⟩:=(hR.move H' t ⟨hb.os,hb.tape,hb.output⟩).put hv hout;exact ⟨v,av',h3,rfl,h1,h2,h4,h5⟩
abbrev Wall:=List (Nat × Array Value × TypeId)
def Wall.at (W : Wall) (w : World) : Prop:=(∀ q∈W,w.heap[q.1]? = some (.cells q.2.1 q.2.2 (0,0)))∧(W.map (·.1)).Nodup
def Wall.off (W : Wall) (c : Nat) : Prop:=∀ q∈W,c≠q.1
def phO (q : Nat × Array Value × TypeId) : AObj:=.vars q.1 q.2.2 (q.2.1.toList.map .is)
def phsFrom : Nat→Wall→AH
 | _,[]=>[]
 | i,q :: l=>(i,phO q) :: phsFrom (i + 1) l
def phs (W : Wall) : AH:=phsFrom 1000000000 W
theorem phsFrom_get : ∀ (W : Wall) (i k : Nat),AH.get (phsFrom i W) k = if i≤k then (match W[k - i]? with | some q=>phO q | none=>.dead) else .dead
 | [],i,k=>by simp [phsFrom,AH.get]
 | q :: l,i,k=>by
   rw [phsFrom,get_cons,phsFrom_get l];by_cases h : k = i
   ·subst h;simp
   ·rw [if_neg h]
    by_cases h1 : i + 1≤k
    ·rw [if_pos h1,if_pos (by omega),show k - i = (k - (i + 1)) + 1 by omega];rfl
    ·rw [if_neg h1,if_neg (by omega)]
theorem phs_get (W : Wall) (k : Nat) : AH.get (phs W) k = if 1000000000≤k then (match W[k - 1000000000]? with | some q=>phO q | none=>.dead) else .dead:=phsFrom_get W _ k
theorem phs_low {W : Wall} {k : Nat} (h : k < 1000000000) : AH.get (phs W) k = .dead:=by rw [phs_get,if_neg (by omega)]
theorem phs_blk {W : Wall} {k c : Nat} (h : (AH.get (phs W) k).blk = some c) : 1000000000≤k∧∃ q,W[k - 1000000000]? = some q∧q.1 = c∧AH.get (phs W) k = phO q:=by
 rw [phs_get] at h ⊢
 split at h
 ·rename_i hk
  rw [if_pos hk]
  split at h
  ·rename_i q hq
   exact ⟨hk,q,hq,by simpa [phO,AObj.blk] using h,by simp [hq]⟩
  ·cases h
 ·cases h
theorem phs_of {W : Wall} {q : Nat × Array Value × TypeId} (h : q∈W) : ∃ k,1000000000≤k∧AH.get (phs W) k = phO q:=by
 obtain ⟨i,hi,rfl⟩:=List.getElem_of_mem h;exact ⟨1000000000 + i,by omega,by rw [phs_get,if_pos (by omega)];simp [hi]⟩
theorem phs_inj {W : Wall} (hn : (W.map (·.1)).Nodup) {k k' c : Nat} (h : (AH.get (phs W) k).blk = some c) (h' : (AH.get (phs W) k').blk = some c) : k = k':=by
 obtain ⟨h1,q,hq,rfl,-⟩:=phs_blk h;obtain ⟨h2,q',hq',e,-⟩:=phs_blk h';obtain ⟨hi,rfl⟩:=List.getElem?_eq_some_iff.1 hq;obtain ⟨hi',rfl⟩:=List.getElem?_eq_some_iff.1 hq';have:=(List.getElem_inj (xs:=W.map (·.1)) (i:=k' - 1000000000) (j:=k - 1000000000) (h₀:=by simpa using hi') (h₁:=by simpa using hi) hn).1 (by simpa using e);omega
def tailIs (h : AH) (W : Wall) : Prop:=∀ k,1000000000≤k→AH.get h k = AH.get (phs W) k
theorem tail_self {W : Wall} : tailIs (phs W) W = True:=eq_true fun _ _=>rfl
theorem tail_cons {W : Wall} {h : AH} {j : Nat} {o : AObj} (hj : j < 1000000000) : tailIs ((j,o) :: h) W = tailIs h W:=by
 have : ∀ k,1000000000≤k→AH.get ((j,o) :: h) k = AH.get h k:=fun k hk=>by rw [get_cons,if_neg (by omega)]
 refine propext ⟨fun ht k hk=>by rw [← this k hk];exact ht k hk,fun ht k hk=>by rw [this k hk];exact ht k hk⟩
theorem avLe_same (a : AV) : AVle a a:=by cases a<;>simp [AVle]
theorem aLe_same : ∀ l : List AV,ALe l l
 | []=>trivial
 | a :: l=>⟨avLe_same a,aLe_same l⟩
theorem objLe_same (o : AObj) : ObjLe o o:=by
 cases o with
 | vars b T cells=>exact ⟨rfl,rfl,aLe_same cells⟩
 | dead=>trivial
 | rows=>exact .inl rfl
 | lent=>exact rfl
 | part=>exact rfl
theorem phsFrom_mem : ∀ {W : Wall} {i : Nat} {p : Nat × AObj},p∈phsFrom i W→i≤p.1∧AH.get (phsFrom i W) p.1 = p.2
 | [],_,_,h=>by cases h
 | q :: l,i,p,h=>by
   rcases List.mem_cons.1 h with rfl | h
   ·exact ⟨Nat.le_refl _,by rw [phsFrom,get_cons,if_pos rfl]⟩
   ·obtain ⟨h1,h2⟩:=phsFrom_mem h
    exact ⟨by omega,by rw [phsFrom,get_cons,if_neg (by omega)];exact h2⟩
theorem le_self {W : Wall} : (∀ p∈phs W,ObjLe (AH.get (phs W) p.1) p.2) = True:=eq_true fun p hp=>by
 have e : AH.get (phs W) p.1 = p.2:=(phsFrom_mem hp).2;rw [e];exact objLe_same _
theorem le_tail {W : Wall} {h : AH} {j : Nat} {o : AObj} (hj : j < 1000000000) : (∀ p∈phs W,ObjLe (AH.get ((j,o) :: h) p.1) p.2) = ∀ p∈phs W,ObjLe (AH.get h p.1) p.2:=by
 have : ∀ p∈phs W,AH.get ((j,o) :: h) p.1 = AH.get h p.1:=fun p hp=>by
  have:=(phsFrom_mem hp).1;rw [get_cons,if_neg (by omega)]
 refine propext ⟨fun ht p hp=>by rw [← this p hp];exact ht p hp,fun ht p hp=>by rw [this p hp];exact ht p hp⟩
def PureN (P : Program) (f : Nat) (args : List VD) (R : RR→Prop) : Prop:=
 FnOk P f ∧ ∀ (w : World) (o : Wall) (xs : Array Value),o.at w → xs.size = args.length → (∀ i vd,args[i]? = some vd → RdVS w o.off (xs.getD i undef) vd) →
  Calls P f xs w fun e w'=>∃ v rr,e = .returned v∧R rr∧Below w.heap.size w w'∧RdNR w' o.off v rr
theorem Wall.off_new {o : Wall} {w : World} (h : o.at w) {c : Nat} (hc : w.heap.size≤c) : o.off c:=fun q hq he=>by
 have:=lt_of_heap (h.1 q hq);omega
theorem RdVS.toV {w : World} {S : Nat→Prop} {v : Value} {d : VD} (h : RdVS w S v d) : RdV w v d:=by
 cases d with
 | c d=>exact Rd.map h (fun _ _ _=>rfl) (fun _ _ _=>trivial)
 | agg ds=>
   obtain ⟨xs,h1,h2,h3⟩:=h;exact ⟨xs,h1,h2,fun j d hd=>(h3 j d hd).map (fun _ _ _=>rfl) (fun _ _ _=>trivial)⟩
theorem PureC.toN {P : Program} {f : Nat} {args : List VD} {rr : RR} (hc : PureC P f args rr) : PureN P f args (fun r=>r = rr):=by
 refine ⟨hc.1,fun w o xs ho hs hx=>(hc.2 w trivial xs hs (fun i vd hi=>(hx i vd hi).toV)).mono ?_⟩
 rintro e w' ⟨v,rfl,hb,hr⟩
 exact ⟨v,rr,rfl,rfl,hb,hr.toN fun c hc=>Wall.off_new ho hc.1⟩
theorem PureN.toC {P : Program} {f : Nat} {args : List VD} {u : Value} (hu : plain u = true) (hc : PureN P f args (fun r=>r = .one (.c (.v u) 1))) : PureC P f args (.one (.c (.v u) 1)):=by
 refine ⟨hc.1,fun w _ xs hs hx=>(hc.2 w [] xs ⟨by simp,by simp⟩ hs (fun i vd hi=>?_)).mono ?_⟩
 ·have:=hx i vd hi
  cases vd with
  | c d=>exact Rd.map this (fun _ _ _=>rfl) (fun _ _ _ q hq=>by cases hq)
  | agg ds=>
    obtain ⟨ys,g1,g2,g3⟩:=this;exact ⟨ys,g1,g2,fun j d hd=>(g3 j d hd).map (fun _ _ _=>rfl) (fun _ _ _ q hq=>by cases hq)⟩
 ·rintro e w' ⟨v,rr,rfl,rfl,hb,hr⟩
  have h : Rd w' false _ v (.v u):=hr
  cases h with
  | plain h=>exact ⟨_,rfl,hb,rfl,hu⟩
theorem PureN.mono {P : Program} {f : Nat} {args : List VD} {R R' : RR→Prop} (hc : PureN P f args R) (h : ∀ r,R r→R' r) : PureN P f args R':=by
 refine ⟨hc.1,fun w o xs ho hs hx=>(hc.2 w o xs ho hs hx).mono ?_⟩
 rintro e w' ⟨v,rr,rfl,h1,hb,hr⟩
 exact ⟨v,rr,rfl,h _ h1,hb,hr⟩
theorem objCells {w : World} {M E : Nat→Prop} {o : AObj} (h : ObjRel w M E o) {b : Nat} (hb : o.blk = some b) : ∃ cs T,w.heap[b]? = some (.cells cs T (0,0)):=by
 cases o with
 | dead=>cases hb
 | vars b' T cells=>obtain ⟨cs,h1,-⟩:=h;cases hb;exact ⟨cs,T,h1⟩
 | lent H sz rows=>cases hb
 | rows H sz rows own=>
   cases H with
   | none=>cases hb
   | some q=>obtain ⟨b',o,C⟩:=q;obtain ⟨cs,T,F,h1,-⟩:=h;cases hb;exact ⟨cs,T,h1⟩
 | part H sz rows lo=>
   cases H with
   | none=>cases hb
   | some q=>obtain ⟨b',o,C⟩:=q;obtain ⟨cs,T,F,h1,-⟩:=h;cases hb;exact ⟨cs,T,h1⟩
theorem get_keys : ∀ {h : AH} {k : Nat},(AH.get h k).blk≠none→k∈h.map (·.1)
 | [],_,hk=>absurd rfl hk
 | (j,o) :: h,k,hk=>by
   rw [get_cons] at hk
   split at hk
   ·rename_i e;rw [e];exact List.mem_cons_self ..
   ·exact List.mem_cons_of_mem _ (get_keys hk)
def ddl : List Nat→List Nat
 | []=>[]
 | a :: l=>if a∈l then ddl l else a :: ddl l
theorem ddl_mem {c : Nat} : ∀ l : List Nat,c∈ddl l ↔ c∈l
 | []=>Iff.rfl
 | a :: l=>by
   unfold ddl
   split
   ·rename_i h
    rw [ddl_mem l];exact ⟨fun hc=>List.mem_cons_of_mem _ hc,fun hc=>(List.mem_cons.1 hc).elim (fun e=>e ▸ h) id⟩
   ·rw [List.mem_cons,List.mem_cons,ddl_mem l]
theorem ddl_nodup : ∀ l : List Nat,(ddl l).Nodup
 | []=>List.nodup_nil
 | a :: l=>by
   unfold ddl
   split
   ·exact ddl_nodup l
   ·rename_i h
    rw [List.nodup_cons];exact ⟨fun hc=>h ((ddl_mem l).1 hc),ddl_nodup l⟩
theorem wall_of {w : World} : ∀ {B : List Nat},B.Nodup→(∀ b∈B,∃ cs T,w.heap[b]? = some (.cells cs T (0,0)))→∃ W : Wall,W.at w∧W.map (·.1) = B
 | [],_,_=>⟨[],⟨by simp,by simp⟩,rfl⟩
 | b :: B,hn,hb=>by
   rw [List.nodup_cons] at hn;obtain ⟨W,h1,h2⟩:=wall_of hn.2 (fun c hc=>hb c (List.mem_cons_of_mem _ hc));obtain ⟨cs,T,h3⟩:=hb b (List.mem_cons_self ..);refine ⟨(b,cs,T) :: W,⟨fun q hq=>?_,?_⟩,by simp [h2]⟩
   ·rcases List.mem_cons.1 hq with rfl | hq
    ·exact h3
    ·exact h1.1 q hq
   ·simp only [List.map_cons,List.nodup_cons]
    exact ⟨by rw [h2];exact hn.1,h1.2⟩
theorem wall_all {base : Bs} {h : AH} {w : World} {E : Nat→Nat→Prop} (H : HRel base h w E) (p : Nat→Prop) : ∃ W : Wall,W.at w∧∀ c,W.off c ↔ ¬ (h.M c∧p c):=by
 classical
 let B : List Nat:=ddl (((h.map (·.1)).filterMap fun k=>(h.get k).blk).filter (fun c=>decide (p c)))
 have hB : ∀ c,c∈B ↔ h.M c∧p c:=by
  intro c;simp only [B,ddl_mem,List.mem_filter,List.mem_filterMap,decide_eq_true_eq]
  constructor
  ·rintro ⟨⟨k,-,hk⟩,hp⟩;exact ⟨⟨k,hk⟩,hp⟩
  ·rintro ⟨⟨k,hk⟩,hp⟩;exact ⟨⟨k,get_keys (by rw [hk];simp),hk⟩,hp⟩
 obtain ⟨W,h1,h2⟩:=wall_of (w:=w) (B:=B) (ddl_nodup _) (fun b hb=>by
  obtain ⟨⟨k,hk⟩,-⟩:=(hB b).1 hb;exact objCells (H.obj k) hk)
 refine ⟨W,h1,fun c=>?_⟩;rw [← hB,← h2];unfold Wall.off
 constructor
 ·intro h hm
  obtain ⟨q,hq,e⟩:=List.mem_map.1 hm;exact h q hq e.symm
 ·intro h q hq e
  exact h (List.mem_map.2 ⟨q,hq,e.symm⟩)
theorem out_args {E : Env} {st : ASt} {a : Act} {w : World} (hR : Rep E.w0 E.base st a w) {Es : Nat→Nat→Prop} (hH : HRel E.base st.h w Es) {S : Nat→Prop} (hoff : ∀ c,¬ st.h.M c→S c) : ∀ (avs : List AV) (args : List VD) {us : Nat→Value} (_ : ∀ i av,avs[i]? = some av→VRel w st.h.M av (us i)) (_ : aInVs E.rd [] avs args),avs.length = args.length∧∀ i d,args[i]? = some d→RdVS w S (us i) d:=by
 have one : ∀ {x : AV} {u : Value} {d : CD},VRel w st.h.M x u→aIn E.rd [] x d→Rd w false S u d:=by
  intro x u d hv hk;unfold aIn at hk
  split at hk
  ·cases hv
   exact Rd.map hk (fun b hb _=>hR.below.block b hb) (fun c hc _=>hoff c (fun ⟨k,hk⟩=>(hH.low k c hk).1 hc))
  ·simp [AH.get] at hk
  ·subst hk;cases hv with | v u hp=>exact .plain hp
  ·subst hk;cases hv;exact .empty _ _ (by intro h;cases h)
  ·subst hk;cases hv with | ro rows x hr=>exact hr.map (fun _ _ _=>rfl) (fun c hc _=>hoff c hc)
  ·simp [AH.get] at hk
  ·exact hk.elim
 have oneL : ∀ (l : List AV) (ds : List CD) {us : Nat→Value} (_ : ∀ i av,l[i]? = some av→VRel w st.h.M av (us i)) (_ : aInL E.rd [] l ds),l.length = ds.length∧∀ i d,ds[i]? = some d→Rd w false S (us i) d:=by
  intro l
  induction l with
  | nil=>
    intro ds us hv hk
    cases ds with
    | nil=>exact ⟨rfl,fun i d hd=>by simp at hd⟩
    | cons _ _=>exact hk.elim
  | cons a l ih=>
    intro ds us hv hk
    cases ds with
    | nil=>exact hk.elim
    | cons d ds=>
      obtain ⟨h1,h2⟩:=ih ds (us:=fun i=>us (i + 1)) (fun i av hi=>hv (i + 1) av (by simpa using hi)) hk.2;refine ⟨by simp [h1],fun i d' hd=>?_⟩
      cases i with
      | zero=>simp at hd;subst hd;exact one (hv 0 a rfl) hk.1
      | succ i=>exact h2 i d' (by simpa using hd)
 intro avs
 induction avs with
 | nil=>
   intro args us hv hk
   cases args with
   | nil=>exact ⟨rfl,fun i d hd=>by simp at hd⟩
   | cons _ _=>exact hk.elim
 | cons a l ih=>
   intro args us hv hk
   cases args with
   | nil=>exact hk.elim
   | cons d ds=>
     obtain ⟨h1,h2⟩:=ih ds (us:=fun i=>us (i + 1)) (fun i av hi=>hv (i + 1) av (by simpa using hi)) hk.2;refine ⟨by simp [h1],fun i d' hd=>?_⟩
     cases i with
     | zero=>
       simp at hd;subst hd;have h0:=hv 0 a rfl;have hk0:=hk.1;generalize us 0 = u0 at h0 ⊢;unfold aInV at hk0
       split at hk0
       ·exact one h0 hk0
       ·split at hk0
        ·rename_i ds _ l
         cases h0 with
         | agg _ xs hs hl=>
           obtain ⟨g1,g2⟩:=oneL l ds hl hk0;exact ⟨xs,rfl,by omega,g2⟩
        ·exact hk0.elim
     | succ i=>exact h2 i d' (by simpa using hd)
theorem ACall.pureN {E : Env} {f : Nat} {args : List VD} {R : RR→Prop} (hc : PureN E.P f args R) {avs : List AV} {st : ASt} {dst : Option Nat} {K : ASt→Prop} (hin : aInVs E.rd [] avs args)
 (hout : ∀ rr,R rr→aPut st dst (roR rr) K) : ACall E f avs st dst K:=by
 refine ⟨hc.1,fun a w hR xs hs hx=>?_⟩;obtain ⟨Es,hH⟩:=hR.heap;obtain ⟨o,ho,hoff⟩:=wall_all hH (fun _=>True);obtain ⟨hl,hr⟩:=out_args hR hH (S:=o.off) (fun c hc=>(hoff c).2 (fun h=>hc h.1)) avs args hx hin;refine (hc.2 w o xs ho (by omega) hr).mono ?_
 rintro e w' ⟨v,rr,rfl,hRR,hb,hrr⟩
 have t : Tr st.h.M w st.h.M w':=⟨hb.size,fun b hlt _=>hb.block b hlt,fun b _ h=>h⟩;have H' : HRel E.base st.h w' Es:=⟨fun k=>(hH.obj k).tr t (fun b hk=>hb.block b (hH.lt hk)) (fun c hc _=>hc),hH.inj,hH.low,fun k c hc=>⟨(hH.elow k c hc).1,Nat.lt_of_lt_of_le (hH.elow k c hc).2 hb.size⟩,hH.einj,hH.em⟩;have hv : VRel w' st.h.M (roR rr) v:=RdNR.rel hrr (fun c hc hm=>(hoff c).1 hc ⟨hm,trivial⟩);obtain ⟨av',h3,h1,h2,h4,h5⟩:=(hR.move H' t ⟨hb.os,hb.tape,hb.output⟩).put hv (hout rr hRR);exact ⟨v,av',h3,rfl,h1,h2,h4,h5⟩
def nOutV (R : Value→CD→Prop) (h : AH) (x : AV) (r : RV) : Prop:=
 match r with
 | .c d _=>aIn R h x d
 | .agg ts=>match x with
   | .agg l=>aInL R h l (ts.map Prod.fst)
   | _=>False
def nOutVs (R : Value→CD→Prop) (h : AH) : List AV→List RV→Prop
 | [],[]=>True
 | a :: l,r :: rs=>nOutV R h a r∧nOutVs R h l rs
 | _,_=>False
def nQ (E : Env) (h : AH) (l : List AV) (rr : RR) : Prop:=
 match rr with
 | .one r=>match l with
   | [x]=>nOutV E.rd h x r
   | _=>False
 | .tup rs=>l.length≠1∧nOutVs E.rd h l rs
theorem nOutV_sound {base : Bs} {h : AH} {w : World} {E : Nat→Nat→Prop} (H : HRel base h w E) {S : Nat→Prop} (hS : ∀ c,¬ h.M c→S c) (hSr : ∀ k b o C sz rows own,h.get k = .rows (some (b,o,C)) sz rows own→S b)
 {R : Value→CD→Prop} (hR : ∀ u d,R u d→Rd w false S u d) {x : AV} {u : Value} (hv : VRel w h.M x u) {r : RV} (hk : nOutV R h x r) : RdNV w S u r:=by
 unfold nOutV at hk
 split at hk
 ·exact aIn_soundS H hS hSr hR hv hk
 ·split at hk
  ·rename_i ts _ l
   cases hv with
   | agg _ xs hs hl=>
     obtain ⟨h1,h2⟩:=aInL_soundS H hS hSr hR l _ hl hk;refine ⟨xs,rfl,by simp at h1;omega,fun j t hj=>h2 j t.1 (by simp [hj])⟩
  ·exact hk.elim
theorem nOutVs_sound {base : Bs} {h : AH} {w : World} {E : Nat→Nat→Prop} (H : HRel base h w E) {S : Nat→Prop} (hS : ∀ c,¬ h.M c→S c) (hSr : ∀ k b o C sz rows own,h.get k = .rows (some (b,o,C)) sz rows own→S b)
 {R : Value→CD→Prop} (hR : ∀ u d,R u d→Rd w false S u d) : ∀ (l : List AV) (rs : List RV) {us : Nat→Value} (_ : ∀ i av,l[i]? = some av→VRel w h.M av (us i)) (_ : nOutVs R h l rs),
 l.length = rs.length∧∀ j t,rs[j]? = some t→RdNV w S (us j) t
 | [],[],us,hv,hk=>⟨rfl,fun j t hj=>by simp at hj⟩
 | a :: l,r :: rs,us,hv,hk=>by
   obtain ⟨h1,h2⟩:=nOutVs_sound H hS hSr hR l rs (us:=fun i=>us (i + 1)) (fun i av hi=>hv (i + 1) av (by simpa using hi)) hk.2;refine ⟨by simp [h1],fun j t hj=>?_⟩
   cases j with
   | zero=>simp at hj;subst hj;exact nOutV_sound H hS hSr hR (hv 0 a rfl) hk.1
   | succ j=>exact h2 j t (by simpa using hj)
 | [],_ :: _,us,hv,hk=>hk.elim
 | _ :: _,[],us,hv,hk=>hk.elim
theorem nQ_sound {E : Env} {h : AH} {w : World} {Es : Nat→Nat→Prop} (H : HRel E.base h w Es) {S : Nat→Prop} (hS : ∀ c,¬ h.M c→S c) (hSr : ∀ k b o C sz rows own,h.get k = .rows (some (b,o,C)) sz rows own→S b)
 (hR : ∀ u d,E.rd u d→Rd w false S u d) {vs : List Value} {l : List AV} (hl : vs.length = l.length) (hv : ∀ i av,l[i]? = some av→VRel w h.M av (vs.getD i undef)) {rr : RR} (hq : nQ E h l rr) :
 RdNR w S (if vs.length = 1 then vs.getD 0 undef else .tuple vs.toArray) rr:=by
 unfold nQ at hq
 split at hq
 ·split at hq
  ·rename_i r x
   rw [if_pos (by simpa using hl)];exact nOutV_sound H hS hSr hR (hv 0 x rfl) hq
  ·exact hq.elim
 ·rename_i rs
  obtain ⟨hne,hq⟩:=hq;obtain ⟨h1,h2⟩:=nOutVs_sound H hS hSr hR l rs hv hq;rw [if_neg (by omega)];exact ⟨vs.toArray,rfl,by simp;omega,fun j t hj=>by simpa using h2 j t hj⟩
theorem res_run {P : Program} {fn : Func} {tmps : Array Value} {w : World} {vs : List Value} (h1 : (fn.results.toList.mapM (resStep tmps)).run P w = .ok vs w) : (results fn tmps).run P w = .ok (if vs.length = 1 then vs.getD 0 undef else .tuple vs.toArray) w:=by
 rw [results_eq,Array.mapM_eq_mapM_toList];simp only [Sem.run_bind,Sem.run_map,h1,Result.andThen_ok,Sem.run_pure]
 cases vs with
 | nil=>simp
 | cons v vs=>cases vs<;>simp
theorem phs_obj {w : World} {o : Wall} (ho : o.at w) (M E : Nat→Prop) (k : Nat) : ObjRel w M E (AH.get (phs o) k):=by
 rw [phs_get]
 split
 ·split
  ·rename_i q hq
   refine ⟨q.2.1,ho.1 q (List.mem_of_getElem? hq),by simp,fun j av hj=>?_⟩;simp only [List.getElem?_map,Array.getElem?_toList,Option.map_eq_some_iff] at hj;obtain ⟨u,hu,rfl⟩:=hj;have : q.2.1.getD j undef = u:=by simp [Array.getD_eq_getD_getElem?,hu]
   rw [this];exact .is u
  ·trivial
 ·trivial
theorem phs_rel {w : World} {o : Wall} (ho : o.at w) (base : Bs) (hb : ∀ c,¬ o.off c→¬ base.F c∧¬ base.G c) : HRel base (phs o) w (fun _ _=>False)∧∀ c,(phs o).M c ↔ ¬ o.off c:=by
 have hm : ∀ c,(phs o).M c ↔ ¬ o.off c:=by
  intro c
  constructor
  ·rintro ⟨k,hk⟩ h
   obtain ⟨-,q,hq,e,-⟩:=phs_blk hk;exact h q (List.mem_of_getElem? hq) e.symm
  ·intro h
   obtain ⟨q,hq,e⟩ : ∃ q∈o,c = q.1:=Classical.byContradiction fun hn=>h (fun q hq he=>hn ⟨q,hq,he⟩)
   obtain ⟨k,-,hk⟩:=phs_of hq;exact ⟨k,by rw [hk,e];rfl⟩
 exact ⟨⟨fun k=>phs_obj ho _ _ k,fun k k' c h h'=>phs_inj ho.2 h h',fun k c h=>hb c ((hm c).1 ⟨k,h⟩),fun _ _ h=>h.elim,fun _ _ _ h=>h.elim,fun _ _ h=>h.elim⟩,hm⟩
theorem ph_rep {w : World} {o : Wall} (ho : o.at w) {n : Nat} {xs : Array Value} {t : List (Nat × AV)} (hn : xs.size≤n) (ht : ∀ q,VRel w (fun c=>¬ o.off c) (getT t q) ((xs ++ Array.replicate (n - xs.size) undef).getD q undef)) :
 Rep w ⟨fun c=>c < w.heap.size∧o.off c,fun c=>c < w.heap.size∧o.off c,false,fun _=>True⟩ { n:=n,kb:=0,t:=t,h:=phs o } { tmps:=xs ++ Array.replicate (n - xs.size) undef,defers:=[] } w:=by
 obtain ⟨hrel,hm⟩:=phs_rel ho ⟨fun c=>c < w.heap.size∧o.off c,fun c=>c < w.heap.size∧o.off c,false,fun _=>True⟩ (fun c hc=>⟨fun h=>hc h.2,fun h=>hc h.2⟩);exact ⟨rfl,by simp;omega,fun q=>(ht q).tr ⟨Nat.le_refl _,fun _ _ _=>rfl,fun c _ hc=>(hm c).1 hc⟩,⟨_,hrel⟩,BelowF.refl _ _,fun c hc=>hc.elim (fun h=>h.1) (fun h=>h.1)⟩
theorem ph_same {base : Bs} {h : AH} {w w' : World} {E : Nat→Nat→Prop} (hH : HRel base h w' E) {o : Wall} (ho : o.at w) (hg : tailIs h o) {c : Nat} (hc : ¬ o.off c) : w'.heap[c]? = w.heap[c]?∧∃ k,1000000000≤k∧(h.get k).blk = some c∧∃ b T l,h.get k = .vars b T l:=by
 obtain ⟨q,hq,rfl⟩ : ∃ q∈o,c = q.1:=Classical.byContradiction fun hn=>hc (fun q hq he=>hn ⟨q,hq,he⟩)
 obtain ⟨k,hk,he⟩:=phs_of hq;have e : h.get k = phO q:=by rw [hg k hk,he]
 refine ⟨?_,k,hk,by rw [e];rfl,_,_,_,e⟩;have ob:=hH.obj k;rw [e] at ob;obtain ⟨cs',g1,g2,g3⟩:=ob;have hs : cs'.size = q.2.1.size:=by simpa using g2
 have : cs' = q.2.1:=by
  refine Array.ext hs (fun j hj hj'=>?_);have:=g3 j (.is q.2.1[j]) (by simp [hj']);have e : cs'.getD j undef = cs'[j]:=by simp [Array.getD_eq_getD_getElem?,hj]
  rw [e] at this;generalize cs'[j] = y at this
  cases this;rfl
 rw [g1,this];exact (ho.1 q hq).symm
theorem ph_end {P : Program} {Ty : Nat→Option TI} (hT : ∀ t ti,Ty t = some ti→TIok P t ti) {fn : Func} {w w' : World} {o : Wall} (ho : o.at w) {R : RR→Prop} {st' : ASt} {a' : Act}
 (hR' : Rep w ⟨fun c=>c < w.heap.size∧o.off c,fun c=>c < w.heap.size∧o.off c,false,fun _=>True⟩ st' a' w')
 (hq : aRes ⟨P,Ty,w,⟨fun c=>c < w.heap.size∧o.off c,fun c=>c < w.heap.size∧o.off c,false,fun _=>True⟩⟩ st' fn.results.toList fun l=>∃ rr,R rr∧nQ ⟨P,Ty,w,⟨fun c=>c < w.heap.size∧o.off c,fun c=>c < w.heap.size∧o.off c,false,fun _=>True⟩⟩ st'.h l rr∧tailIs st'.h o) :
 a'.defers = []∧∃ v,(results fn a'.tmps).run P w' = .ok v w'∧∃ v' rr,Ending.returned v = .returned v'∧R rr∧Below w.heap.size w w'∧RdNR w' o.off v' rr:=by
 let B : Bs:=⟨fun c=>c < w.heap.size∧o.off c,fun c=>c < w.heap.size∧o.off c,false,fun _=>True⟩
 have hE : EOk ⟨P,Ty,w,B⟩:=⟨hT,fun w' hb=>trivial⟩;obtain ⟨vs,l,h1,h2,h3,rr,hRR,h4,hg⟩:=aRes_sound hE hR' fn.results.toList hq;obtain ⟨Es,hH⟩:=hR'.heap
 refine ⟨hR'.dfr,_,res_run h1,_,rr,rfl,hRR,⟨hR'.below.os,hR'.below.tape,hR'.below.output,hR'.below.size,fun c hc=>?_⟩,
  nQ_sound (E:=⟨P,Ty,w,B⟩) hH (S:=o.off) (fun c hc=>Classical.byContradiction fun h=>?_) (fun k b' o' C sz rows own hgk=>Classical.byContradiction fun h=>?_) (fun v d hd=>?_) h2 h3 h4⟩
 ·by_cases h : o.off c
  ·exact hR'.below.block c ⟨hc,h⟩
  ·exact (ph_same hH ho hg h).1
 ·obtain ⟨-,k,-,hk,-⟩:=ph_same hH ho hg h
  exact hc ⟨k,hk⟩
 ·obtain ⟨-,k',-,hk,b,T,l,he⟩:=ph_same hH ho hg h
  have:=hH.inj k k' b' (by rw [hgk];rfl) hk;subst this;rw [hgk] at he;cases he
 ·exact Rd.map hd (fun c hc _=>hR'.below.block c hc) (fun c hc _=>hc.2)
def bodyPN (E : Env) (o : Wall) (rs : List ResultVar) (R : RR→Prop) : Exit→ASt→Prop
 | .normal,st=>aRes E st rs fun l=>∃ rr,R rr∧nQ E st.h l rr∧tailIs st.h o
 | .ret,st=>aRes E st rs fun l=>∃ rr,R rr∧nQ E st.h l rr∧tailIs st.h o
 | _,_=>False
theorem RdVS.ph {w : World} {o : Wall} {v : Value} {d : VD} (h : RdVS w o.off v d) : VRel w (fun c=>¬ o.off c) d.toAV v:=
 RdVS.rel (M:=fun c=>¬ o.off c) (by
  cases d with
  | c d=>exact Rd.map h (fun _ _ _=>rfl) (fun c hc _ hn=>hn hc)
  | agg ds=>
    obtain ⟨xs,h1,h2,h3⟩:=h;exact ⟨xs,h1,h2,fun j d hd=>(h3 j d hd).map (fun _ _ _=>rfl) (fun c hc _ hn=>hn hc)⟩)
theorem PureN.intro {P : Program} {Ty : Nat → Option TI} (hT : ∀ t ti, Ty t = some ti → TIok P t ti) {f : Nat} {fn : Func} {c : Code} (hf : P.funcs[f]? = some fn) (hname : (fn.name == "runtime.NumGoroutine") = false) (hb : fn.body = some c)
 {n : Nat} {rs : List ResultVar} (hnt : fn.ntmps = n) (hrs : fn.results = ⟨rs⟩) {args : List VD} {R : RR→Prop} (hn : args.length≤n)
 (h : ∀ w0 base o,aSem ⟨P,Ty,w0,⟨base,base,false,fun _=>True⟩⟩ c (bodyPN ⟨P,Ty,w0,⟨base,base,false,fun _=>True⟩⟩ o rs R) { n:=n,kb:=0,t:=argT 0 args,h:=phs o }) : PureN P f args R:=by
 subst hnt;have hrs' : fn.results.toList = rs:=by rw [hrs]
 subst hrs';refine ⟨⟨fn,hf,hname,by rw [hb];rfl⟩,fun w o xs ho hs hx=>calls_of_wp hf hb ?_⟩;have hE : EOk ⟨P,Ty,w,⟨fun c=>c < w.heap.size∧o.off c,fun c=>c < w.heap.size∧o.off c,false,fun _=>True⟩⟩:=⟨hT,fun w' hb=>trivial⟩
 have hR:=ph_rep ho (n:=fn.ntmps) (xs:=xs) (t:=argT 0 args) (by omega) (fun q=>by
  rw [argT_get,if_pos (Nat.zero_le q),Nat.sub_zero]
  split
  ·rename_i v hv
   have hlt : q < xs.size:=by rw [hs];exact (List.getElem?_eq_some_iff.1 hv).1
   have e : (xs ++ Array.replicate (fn.ntmps - xs.size) undef).getD q undef = xs.getD q undef:=by
    simp only [Array.getD_eq_getD_getElem?];rw [Array.getElem?_append_left hlt]
   rw [e];exact (hx q v hv).ph
  ·exact .any _)
 refine wp_mono (aSem_sound hE c _ _ _ w hR (h w _ o)) ?_
 rintro e a' w' ⟨st',hq,hR'⟩
 cases e with
 | normal=>exact ph_end hT ho hR' hq
 | ret=>exact ph_end hT ho hR' hq
 | _=>exact hq.elim
theorem PureN.introC {P : Program} {Ty : Nat → Option TI} (hT : ∀ t ti, Ty t = some ti → TIok P t ti) {f : Nat} {fn : Func} {c : Code} (hf : P.funcs[f]? = some fn) (hname : (fn.name == "runtime.NumGoroutine") = false) (hb : fn.body = some c)
 {n : Nat} {rs : List ResultVar} (hnt : fn.ntmps = n) (hrs : fn.results = ⟨rs⟩) {bs : List (List CD)} {args : List VD} {R : RR→Prop} (hn : args.length + 1≤n)
 (h : ∀ w0 base o u,Rd w0 false base u (.s bs)→aSem ⟨P,Ty,w0,⟨base,base,false,fun _=>True⟩⟩ c (bodyPN ⟨P,Ty,w0,⟨base,base,false,fun _=>True⟩⟩ o rs R) { n:=n,kb:=0,t:=(0,.cv u bs.length) :: argT 1 args,h:=phs o }) : PureN P f (.c (.s bs) :: args) R:=by
 subst hnt;have hrs' : fn.results.toList = rs:=by rw [hrs]
 subst hrs';refine ⟨⟨fn,hf,hname,by rw [hb];rfl⟩,fun w o xs ho hs hx=>calls_of_wp hf hb ?_⟩;have hE : EOk ⟨P,Ty,w,⟨fun c=>c < w.heap.size∧o.off c,fun c=>c < w.heap.size∧o.off c,false,fun _=>True⟩⟩:=⟨hT,fun w' hb=>trivial⟩;have hu : Rd w false o.off (xs.getD 0 undef) (.s bs):=hx 0 _ rfl;have hu0 : Rd w false (fun c=>c < w.heap.size∧o.off c) (xs.getD 0 undef) (.s bs):=hu.map (fun _ _ _=>rfl) (fun c hc hl=>⟨hl,hc⟩);obtain ⟨ua,uc,hlen⟩:=hu.slice_len;simp only [List.length_cons] at hs
 have e : ∀ q,q < xs.size→(xs ++ Array.replicate (fn.ntmps - xs.size) undef).getD q undef = xs.getD q undef:=fun q hq=>by
  simp only [Array.getD_eq_getD_getElem?];rw [Array.getElem?_append_left hq]
 have hR:=ph_rep ho (n:=fn.ntmps) (xs:=xs) (t:=(0,.cv (xs.getD 0 undef) bs.length) :: argT 1 args) (by omega) (fun q=>by
  unfold getT
  split
  ·rename_i h0
   subst h0;rw [e 0 (by omega)];exact .cv _ _ ⟨ua,uc,hlen⟩
  ·rename_i h0
   rw [argT_get]
   split
   ·split
    ·rename_i v hv
     have hlt : q - 1 < args.length:=(List.getElem?_eq_some_iff.1 hv).1;rw [e q (by omega)];exact (hx q v (by rw [show q = q - 1 + 1 by omega];simpa using hv)).ph
    ·exact .any _
   ·exact .any _)
 refine wp_mono (aSem_sound hE c _ _ _ w hR (h w _ o _ hu0)) ?_
 rintro e a' w' ⟨st',hq,hR'⟩
 cases e with
 | normal=>exact ph_end hT ho hR' hq
 | ret=>exact ph_end hT ho hR' hq
 | _=>exact hq.elim
def CurN (P : Program) (T : TypeId) (bs : List (List CD)) (f : Nat) (args : List VD) (R : RR→Prop) : Prop:=
 FnOk P f ∧ ∀ (w : World) (o : Wall) (b : Nat) (u : Value) (i h : Int) (xs : Array Value),o.at w → o.off b → 0 ≤ i → i ≤ bs.length →
  w.heap[b]? = some (.cells #[u,.int .i64 i,.int .i64 h] T (0,0)) → Rd w false (fun c => c ≠ b ∧ o.off c) u (.s bs) →
  xs.size = args.length + 1 → xs.getD 0 undef = .pointer (some ⟨b,0,none⟩) → (∀ j vd,args[j]? = some vd → RdVS w (fun c => c ≠ b ∧ o.off c) (xs.getD (j + 1) undef) vd) →
  Calls P f xs w fun e w' => ∃ (v : Value) (rr : RR) (i' h' : Int),e = .returned v ∧ R rr ∧ 0 ≤ i' ∧ i' ≤ bs.length ∧ w'.heap[b]? = some (.cells #[u,.int .i64 i',.int .i64 h'] T (0,0)) ∧
   BelowF (fun c=>c < w.heap.size∧c≠b) w w'∧RdNR w' (fun c=>c≠b∧o.off c) v rr
theorem RdVS.map {w : World} {S S' : Nat→Prop} {v : Value} {d : VD} (h : RdVS w S v d) (hS : ∀ c,S c→S' c) : RdVS w S' v d:=by
 cases d with
 | c d=>exact Rd.map h (fun _ _ _=>rfl) (fun c hc _=>hS c hc)
 | agg ds=>
   obtain ⟨xs,h1,h2,h3⟩:=h;exact ⟨xs,h1,h2,fun j d hd=>(h3 j d hd).map (fun _ _ _=>rfl) (fun c hc _=>hS c hc)⟩
theorem CurC.toN {P : Program} {T : TypeId} {bs : List (List CD)} {f : Nat} {args : List VD} {R : RR→Prop} (hc : CurC P T bs f args R) : CurN P T bs f args R:=by
 refine ⟨hc.1,fun w o b u i h xs o1 o2 a1 a2 a3 a4 a5 a6 a7=>(hc.2 w b u i h xs a1 a2 a3 (a4.map (fun _ _ _=>rfl) (fun c hc _=>hc.1)) a5 a6 (fun j vd hj=>(a7 j vd hj).map fun c hc=>hc.1)).mono ?_⟩
 rintro e w' ⟨v,rr,i',h',rfl,h1,h2,h3,h4,h5,h6⟩
 exact ⟨v,rr,i',h',rfl,h1,h2,h3,h4,h5,h6.toN fun c hc=>⟨by have:=lt_of_heap a3;omega,Wall.off_new o1 hc.1⟩⟩
theorem CurN.mono {P : Program} {T : TypeId} {bs : List (List CD)} {f : Nat} {args : List VD} {R R' : RR→Prop} (hc : CurN P T bs f args R) (hr : ∀ r,R r→R' r) : CurN P T bs f args R':=by
 refine ⟨hc.1,fun w o b u i h xs o1 o2 a1 a2 a3 a4 a5 a6 a7=>(hc.2 w o b u i h xs o1 o2 a1 a2 a3 a4 a5 a6 a7).mono ?_⟩
 rintro e w' ⟨v,rr,i',h',rfl,h1,h2,h3,h4,h5,h6⟩
 exact ⟨v,rr,i',h',rfl,hr _ h1,h2,h3,h4,h5,h6⟩
def bodyCurN (E : Env) (o : Wall) (T : TypeId) (b : Nat) (u : Value) (n : Nat) (rs : List ResultVar) (R : RR→Prop) : Exit→ASt→Prop
 | .normal,st=>aRes E st rs fun l=>∃ rr,R rr∧nQ E st.h l rr∧tailIs st.h o∧curK T b u n st.h
 | .ret,st=>aRes E st rs fun l=>∃ rr,R rr∧nQ E st.h l rr∧tailIs st.h o∧curK T b u n st.h
 | _,_=>False
theorem cur_rep {args : List VD} {n : Nat} {T : TypeId} {bs : List (List CD)} (hn : args.length + 1≤n) {w : World} {o : Wall} (ho : o.at w) {b : Nat} (hob : o.off b) {u : Value} {i hh : Int} {xs : Array Value}
 (hcell : w.heap[b]? = some (.cells #[u,.int .i64 i,.int .i64 hh] T (0,0))) (hu : Rd w false (fun c=>c≠b∧o.off c) u (.s bs)) (hs : xs.size = args.length + 1) (hx0 : xs.getD 0 undef = .pointer (some ⟨b,0,none⟩))
 (hx : ∀ j vd,args[j]? = some vd→RdVS w (fun c=>c≠b∧o.off c) (xs.getD (j + 1) undef) vd) :
 Rep w ⟨fun c=>c < w.heap.size∧c≠b∧o.off c,fun c=>c < w.heap.size∧c≠b∧o.off c,false,fun _=>True⟩ { n:=n,kb:=0,t:=(0,.p 0 b 0) :: argT 1 args,h:=(0,.vars b T (curA u bs.length i hh)) :: phs o } { tmps:=xs ++ Array.replicate (n - xs.size) undef,defers:=[] } w:=by
 obtain ⟨hrel,hm⟩:=phs_rel ho ⟨fun c=>c < w.heap.size∧c≠b∧o.off c,fun c=>c < w.heap.size∧c≠b∧o.off c,false,fun _=>True⟩ (fun c hc=>⟨fun h=>hc h.2.2,fun h=>hc h.2.2⟩);obtain ⟨ua,uc,hlen⟩:=hu.slice_len
 have hM : ∀ c,AH.M ((0,.vars b T (curA u bs.length i hh)) :: phs o) c→¬ (c≠b∧o.off c):=by
  intro c hc h;rcases M_cons.1 hc with h1 | ⟨k,-,hk⟩
  ·simp [AObj.blk] at h1;exact h.1 h1.symm
  ·exact (hm c).1 ⟨k,hk⟩ h.2
 have hget : ∀ k,AH.get ((0,.vars b T (curA u bs.length i hh)) :: phs o) k = if k = 0 then .vars b T (curA u bs.length i hh) else AH.get (phs o) k:=fun k=>by rw [get_cons]
 refine ⟨rfl,by simp;omega,fun q=>?_,⟨fun _ _=>False,fun k=>?_,fun k k' c hk hk'=>?_,fun k c hk=>?_,fun k c hc=>hc.elim,fun k k' c hc=>hc.elim,fun k c hc=>hc.elim⟩,BelowF.refl _ _,fun c hc=>hc.elim (fun h=>h.1) (fun h=>h.1)⟩
 ·show VRel w _ (getT ((0,.p 0 b 0) :: argT 1 args) q) _
  have e : ∀ q,q < xs.size→(xs ++ Array.replicate (n - xs.size) undef).getD q undef = xs.getD q undef:=fun q hq=>by
   simp only [Array.getD_eq_getD_getElem?];rw [Array.getElem?_append_left hq]
  unfold getT
  split
  ·rename_i h0
   subst h0;rw [e 0 (by omega),hx0];exact .p _ _ _
  ·rename_i h0
   rw [argT_get]
   split
   ·split
    ·rename_i v hv
     have hlt : q - 1 < args.length:=(List.getElem?_eq_some_iff.1 hv).1;rw [e q (by omega)];have:=hx (q - 1) v hv;rw [show q - 1 + 1 = q by omega] at this;exact RdVS.rel (this.map fun c hc hm=>hM c hm hc)
    ·exact .any _
   ·exact .any _
 ·rw [hget]
  split
  ·refine ⟨_,hcell,rfl,fun j av hj=>?_⟩
   match j,hj with
   | 0,hj=>cases hj;exact .cv _ _ ⟨ua,uc,hlen⟩
   | 1,hj=>cases hj;exact .v _ rfl
   | 2,hj=>cases hj;exact .v _ rfl
   | j + 3,hj=>cases hj
  ·exact phs_obj ho _ _ k
 ·rw [hget] at hk hk'
  by_cases h1 : k = 0<;>by_cases h2 : k' = 0
  ·rw [h1,h2]
  ·rw [if_pos h1] at hk;rw [if_neg h2] at hk'
   simp [AObj.blk] at hk;exact absurd hob ((hm b).1 ⟨k',hk ▸ hk'⟩)
  ·rw [if_neg h1] at hk;rw [if_pos h2] at hk'
   simp [AObj.blk] at hk';exact absurd hob ((hm b).1 ⟨k,hk' ▸ hk⟩)
  ·rw [if_neg h1] at hk;rw [if_neg h2] at hk'
   exact phs_inj ho.2 hk hk'
 ·have:=hM c ⟨k,hk⟩
  exact ⟨fun h=>this h.2,fun h=>this h.2⟩
theorem cur_cells {w : World} {M E : Nat→Prop} {b : Nat} {T : TypeId} {u : Value} {n : Nat} {i hh : Int} (ho : ObjRel w M E (.vars b T (curA u n i hh))) : w.heap[b]? = some (.cells #[u,.int .i64 i,.int .i64 hh] T (0,0)):=by
 obtain ⟨cs,g1,g2,g3⟩:=ho;have c0:=g3 0 _ rfl;have c1:=g3 1 _ rfl;have c2:=g3 2 _ rfl;have hs3 : cs.size = 3:=g2;have e0 : cs.getD 0 undef = u:=by generalize cs.getD 0 undef = y at c0;cases c0;rfl
 have e1 : cs.getD 1 undef = .int .i64 i:=by generalize cs.getD 1 undef = y at c1;cases c1;rfl
 have e2 : cs.getD 2 undef = .int .i64 hh:=by generalize cs.getD 2 undef = y at c2;cases c2;rfl
 have : cs = #[u,.int .i64 i,.int .i64 hh]:=by
  refine Array.ext (by simp [hs3]) (fun j h1 h2'=>?_);simp only [Array.getD_eq_getD_getElem?] at e0 e1 e2;rcases j with _ | _ | _ | j
  ·rw [Array.getElem?_eq_getElem h1] at e0;exact e0
  ·rw [Array.getElem?_eq_getElem h1] at e1;exact e1
  ·rw [Array.getElem?_eq_getElem h1] at e2;exact e2
  ·omega
 rw [g1,this]
theorem CurN.intro {P : Program} {Ty : Nat → Option TI} (hT : ∀ t ti, Ty t = some ti → TIok P t ti) {f : Nat} {fn : Func} {c : Code} (hf : P.funcs[f]? = some fn) (hname : (fn.name == "runtime.NumGoroutine") = false) (hb : fn.body = some c)
 {n : Nat} {rs : List ResultVar} (hnt : fn.ntmps = n) (hrs : fn.results = ⟨rs⟩) {T : TypeId} {bs : List (List CD)} {args : List VD} {R : RR→Prop} (hn : args.length + 1≤n)
 (h : ∀ w0 base o b u i h,0≤i→i≤(bs.length : Int)→Rd w0 false base u (.s bs)→aSem ⟨P,Ty,w0,⟨base,base,false,fun _=>True⟩⟩ c (bodyCurN ⟨P,Ty,w0,⟨base,base,false,fun _=>True⟩⟩ o T b u bs.length rs R)
  { n:=n,kb:=0,t:=(0,.p 0 b 0) :: argT 1 args,h:=(0,.vars b T (curA u bs.length i h)) :: phs o }) : CurN P T bs f args R:=by
 subst hnt;have hrs' : fn.results.toList = rs:=by rw [hrs]
 subst hrs';refine ⟨⟨fn,hf,hname,by rw [hb];rfl⟩,fun w o b u i hh xs ho hob hi0 hi1 hcell hu hs hx0 hx=>calls_of_wp hf hb ?_⟩
 let F : Nat→Prop:=fun c=>c < w.heap.size∧c≠b∧o.off c
 let bs0 : Bs:=⟨F,F,false,fun _=>True⟩
 have hE : EOk ⟨P,Ty,w,bs0⟩:=⟨hT,fun w' hb=>trivial⟩;have hR:=cur_rep hn ho hob hcell hu hs hx0 hx;have hu0 : Rd w false F u (.s bs):=hu.map (fun _ _ _=>rfl) (fun c hc hl=>⟨hl,hc⟩);refine wp_mono (aSem_sound hE c _ _ _ w hR (h w F o b u i hh hi0 hi1 hu0)) ?_
 rintro e a' w' ⟨st',hq,hR'⟩
 have key : (aRes ⟨P,Ty,w,bs0⟩ st' fn.results.toList fun l => ∃ rr,R rr ∧ nQ ⟨P,Ty,w,bs0⟩ st'.h l rr ∧ tailIs st'.h o ∧ curK T b u bs.length st'.h) → a'.defers = [] ∧ ∃ v,(results fn a'.tmps).run P w' = .ok v w' ∧ ∃ (v' : Value) (rr : RR) (i' h' : Int),Ending.returned v = .returned v' ∧ R rr ∧ 0 ≤ i' ∧ i' ≤ bs.length ∧ w'.heap[b]? = some (.cells #[u,.int .i64 i',.int .i64 h'] T (0,0)) ∧
  BelowF (fun c=>c < w.heap.size∧c≠b) w w'∧RdNR w' (fun c=>c≠b∧o.off c) v' rr:=by
  intro hq;obtain ⟨vs,l,h1,h2,h3,rr,hRR,h4,htl,i',h'',hg,k1,k2⟩:=aRes_sound hE hR' fn.results.toList hq;obtain ⟨Es,hH⟩:=hR'.heap;have hb0 : (st'.h.get 0).blk = some b:=by rw [hg];rfl
  have hobj:=hH.obj 0;rw [hg] at hobj
  refine ⟨hR'.dfr,_,res_run h1,_,rr,i',h'',rfl,hRR,k1,k2,cur_cells hobj,⟨hR'.below.os,hR'.below.tape,hR'.below.output,hR'.below.size,fun c hc=>?_⟩,
   nQ_sound (E:=⟨P,Ty,w,bs0⟩) hH (S:=fun c=>c≠b∧o.off c) (fun c hc=>⟨fun he=>hc (he ▸ ⟨0,hb0⟩),Classical.byContradiction fun h=>?_⟩) (fun k b' o' C sz rows own hgk=>⟨fun he=>?_,Classical.byContradiction fun h=>?_⟩) (fun v d hd=>?_) h2 h3 h4⟩
  ·by_cases h : o.off c
   ·exact hR'.below.block c ⟨hc.1,hc.2,h⟩
   ·exact (ph_same hH ho htl h).1
  ·obtain ⟨-,k,-,hk,-⟩:=ph_same hH ho htl h
   exact hc ⟨k,hk⟩
  ·have:=hH.inj k 0 b (by rw [hgk,← he];rfl) hb0
   subst this;rw [hg] at hgk;cases hgk
  ·obtain ⟨-,k',-,hk,b,T,l,he⟩:=ph_same hH ho htl h
   have:=hH.inj k k' b' (by rw [hgk];rfl) hk;subst this;rw [hgk] at he;cases he
  ·exact Rd.map hd (fun c hc _=>hR'.below.block c hc) (fun c hc _=>hc.2)
 cases e with
 | normal=>exact key hq
 | ret=>exact key hq
 | _=>exact hq.elim
theorem ACall.curN {E : Env} {T : TypeId} {bs : List (List CD)} {f : Nat} {args : List VD} {R : RR→Prop} (hc : CurN E.P T bs f args R) {kc b n : Nat} {u : Value} {i hh : Int} {avs : List AV} {st : ASt} {dst : Option Nat} {K : ASt→Prop}
 (hu : E.rd u (.s bs)) (hn : bs.length = n) (hget : st.h.get kc = .vars b T (curA u n i hh)) (hi0 : 0≤i) (hi1 : i≤(n : Int)) (hin : aInVs E.rd [] avs args)
 (hout : ∀ rr i' h',R rr→0≤i'→i'≤(n : Int)→aPut { st with h:=(kc,.vars b T (curA u n i' h')) :: st.h } dst (roR rr) K) : ACall E f (.p kc b 0 :: avs) st dst K:=by
 subst hn;refine ⟨hc.1,fun a w hR xs hs hx=>?_⟩;obtain ⟨Es,hH⟩:=hR.heap;have hblk : (st.h.get kc).blk = some b:=by rw [hget];rfl
 have hMb : st.h.M b:=⟨kc,hblk⟩;obtain ⟨o,ho,hoff⟩:=wall_all hH (fun c=>c≠b);have hob : o.off b:=(hoff b).2 (fun h=>h.2 rfl);have hM0 : ∀ c,¬ st.h.M c→c≠b∧o.off c:=fun c hc=>⟨fun he=>hc (he ▸ hMb),(hoff c).2 (fun h=>hc h.1)⟩
 have hM1 : ∀ c,c≠b∧o.off c→¬ st.h.M c:=fun c hc hm=>(hoff c).1 hc.2 ⟨hm,hc.1⟩
 have g1 : w.heap[b]? = _:=cur_cells (by have:=hH.obj kc;rw [hget] at this;exact this);have hur : Rd w false (fun c=>c≠b∧o.off c) u (.s bs):=Rd.map hu (fun b hb _=>hR.below.block b hb) (fun c hc _=>hM0 c (fun ⟨k,hk⟩=>(hH.low k c hk).1 hc));obtain ⟨hl,hr⟩:=out_args hR hH hM0 avs args (us:=fun j=>xs.getD (j + 1) undef) (fun j av hj=>hx (j + 1) av (by simpa using hj)) hin
 have hx0 : xs.getD 0 undef = .pointer (some ⟨b,0,none⟩):=by
  have:=hx 0 _ rfl;generalize xs.getD 0 undef = y at this
  cases this;rfl
 refine (hc.2 w o b u i hh xs ho hob hi0 hi1 g1 hur (by simp at hs;omega) hx0 hr).mono ?_
 rintro e w' ⟨v,rr,i',h',rfl,hRR,k1,k2,hcell,hb,hrr⟩
 have fr : ∀ c,c < w.heap.size→c≠b→w'.heap[c]? = w.heap[c]?:=fun c h1 h2=>hb.block c ⟨h1,h2⟩
 obtain ⟨ua,uc,hlen⟩:=Rd.slice_len hu
 have H':=hH.upd (k:=kc) (o':=.vars b T (curA u bs.length i' h')) (Ek:=fun _=>False) hb.size (fun c hlt hc=>fr c hlt (fun he=>by
  subst he;rcases hc with hc | ⟨j,hj,hjb⟩
  ·exact hc hMb
  ·exact hj (hH.inj _ _ _ hjb hblk))) (fun c hc=>by
  simp [AObj.blk] at hc;subst hc;exact ⟨hH.low kc b hblk,.inr hblk⟩) ⟨_,hcell,rfl,fun j av hj=>by
  match j,hj with
  | 0,hj=>cases hj;exact .cv _ _ ⟨ua,uc,hlen⟩
  | 1,hj=>cases hj;exact .v _ rfl
  | 2,hj=>cases hj;exact .v _ rfl
  | j + 3,hj=>cases hj⟩ (fun _ hc=>hc.elim)
 have t : Tr st.h.M w (AH.M ((kc,.vars b T (curA u bs.length i' h')) :: st.h)) w':=
  Tr.upd hH hb.size (fun c hlt hm=>fr c hlt (fun he=>hm (he ▸ hMb))) (fun c hc=>by simp [AObj.blk] at hc;subst hc;exact .inr hblk)
 have hM' : ∀ c,AH.M ((kc,.vars b T (curA u bs.length i' h')) :: st.h) c→st.h.M c:=by
  intro c hm;rcases M_cons.1 hm with h1 | ⟨j,_,hj⟩
  ·simp [AObj.blk] at h1;exact h1 ▸ hMb
  ·exact ⟨j,hj⟩
 obtain ⟨av',h3,h1,h2,h4,h5⟩:=(hR.move H' t ⟨hb.os,hb.tape,hb.output⟩).put (RdNR.rel hrr (fun c hc hm=>hM1 c hc (hM' c hm))) (hout rr i' h' hRR k1 k2);exact ⟨v,av',h3,rfl,h1,h2,h4,h5⟩
def NewC (P : Program) (T : TypeId) (bs : List (List CD)) (f : Nat) : Prop:=
 FnOk P f ∧ ∀ (w : World) (u : Value) (xs : Array Value),Rd w false (fun _ => True) u (.s bs) → xs.size = 1 → xs.getD 0 undef = u →
  Calls P f xs w fun e w'=>∃ (b : Nat) (h : Int),e = .returned (.pointer (some ⟨b,0,none⟩))∧w.heap.size≤b∧Below w.heap.size w w'∧w'.heap[b]? = some (.cells #[u,.int .i64 0,.int .i64 h] T (0,0))
def bodyNew (E : Env) (T : TypeId) (u : Value) (n : Nat) (rs : List ResultVar) : Exit→ASt→Prop
 | .normal,st=>aRes E st rs fun l=>∃ k b h,l = [.p k b 0]∧st.h.get k = .vars b T (curA u n 0 h)
 | .ret,st=>aRes E st rs fun l=>∃ k b h,l = [.p k b 0]∧st.h.get k = .vars b T (curA u n 0 h)
 | _,_=>False
theorem NewC.intro {P : Program} {Ty : Nat → Option TI} (hT : ∀ t ti, Ty t = some ti → TIok P t ti) {f : Nat} {fn : Func} {c : Code} (hf : P.funcs[f]? = some fn) (hname : (fn.name == "runtime.NumGoroutine") = false) (hb : fn.body = some c)
 {n : Nat} {rs : List ResultVar} (hnt : fn.ntmps = n) (hrs : fn.results = ⟨rs⟩) {T : TypeId} {bs : List (List CD)} (hn : 1≤n)
 (h : ∀ w0 base u,Rd w0 false base u (.s bs)→aSem ⟨P,Ty,w0,⟨base,base,false,fun _=>True⟩⟩ c (bodyNew ⟨P,Ty,w0,⟨base,base,false,fun _=>True⟩⟩ T u bs.length rs) { n:=n,kb:=0,t:=[(0,.cv u bs.length)],h:=[] }) : NewC P T bs f:=by
 subst hnt;have hrs' : fn.results.toList = rs:=by rw [hrs]
 subst hrs';refine ⟨⟨fn,hf,hname,by rw [hb];rfl⟩,fun w u xs hu hs hx0=>calls_of_wp hf hb ?_⟩
 let F : Nat→Prop:=fun c=>c < w.heap.size
 let B : Bs:=⟨F,F,false,fun _=>True⟩
 have hE : EOk ⟨P,Ty,w,B⟩:=⟨hT,fun w' hb=>trivial⟩;have hu0 : Rd w false F u (.s bs):=hu.within.map (fun _ _ _=>rfl) (fun c hc _=>hc.2);obtain ⟨ua,uc,hlen⟩:=hu.slice_len
 have hR : Rep w B { n:=fn.ntmps,kb:=0,t:=[(0,.cv u bs.length)],h:=[] } { tmps:=xs ++ Array.replicate (fn.ntmps - xs.size) undef,defers:=[] } w:=by
  refine ⟨rfl,by simp;omega,fun q=>?_,⟨fun _ _=>False,fun k=>trivial,fun k k' b hk=>by simp [AH.get,AObj.blk] at hk,fun k b hk=>by simp [AH.get,AObj.blk] at hk,fun k c hc=>hc.elim,fun k k' c hc=>hc.elim,fun k c hc=>hc.elim⟩,BelowF.refl _ _,fun b hb=>hb.elim id id⟩
  show VRel w (AH.M []) (getT [(0,.cv u bs.length)] q) _
  unfold getT
  split
  ·rename_i h0
   subst h0
   have : (xs ++ Array.replicate (fn.ntmps - xs.size) undef).getD 0 undef = xs.getD 0 undef:=by
    simp only [Array.getD_eq_getD_getElem?];rw [Array.getElem?_append_left (by omega)]
   rw [this,hx0];exact .cv _ _ ⟨ua,uc,hlen⟩
  ·exact .any _
 refine wp_mono (aSem_sound hE c _ _ _ w hR (h w F _ hu0)) ?_
 rintro e a' w' ⟨st',hq,hR'⟩
 have key : (aRes ⟨P,Ty,w,B⟩ st' fn.results.toList fun l=>∃ k b h,l = [.p k b 0]∧st'.h.get k = .vars b T (curA u bs.length 0 h))→a'.defers = []∧∃ v,(results fn a'.tmps).run P w' = .ok v w'∧∃ (b : Nat) (h : Int),Ending.returned v = .returned (.pointer (some ⟨b,0,none⟩))∧w.heap.size≤b∧Below w.heap.size w w'∧w'.heap[b]? = some (.cells #[u,.int .i64 0,.int .i64 h] T (0,0)):=by
  intro hq;obtain ⟨vs,l,h1,h2,h3,k,b,h',rfl,hg⟩:=aRes_sound hE hR' fn.results.toList hq;obtain ⟨Es,hH⟩:=hR'.heap
  have hv0 : vs.getD 0 undef = .pointer (some ⟨b,0,none⟩):=by
   have:=h3 0 _ rfl;generalize vs.getD 0 undef = y at this
   cases this;rfl
  have ho:=hH.obj k;rw [hg] at ho;refine ⟨hR'.dfr,_,res_run h1,b,h',by rw [if_pos (by simpa using h2),hv0],Nat.le_of_not_lt (hH.low k b (by rw [hg];rfl)).1,⟨hR'.below.os,hR'.below.tape,hR'.below.output,hR'.below.size,hR'.below.block⟩,cur_cells ho⟩
 cases e with
 | normal=>exact key hq
 | ret=>exact key hq
 | _=>exact hq.elim
theorem ACall.newC {E : Env} {T : TypeId} {bs : List (List CD)} {f : Nat} (hc : NewC E.P T bs f) {n : Nat} {u : Value} {st : ASt} {dst : Option Nat} {K : ASt→Prop}
 (hu : E.rd u (.s bs)) (hn : bs.length = n) (hout : ∀ b h,aPut { st with h:=(st.key dst,.vars b T (curA u n 0 h)) :: st.h } dst (.p (st.key dst) b 0) K) : ACall E f [.cv u n] st dst K:=by
 subst hn;refine ⟨hc.1,fun a w hR xs hs hx=>?_⟩;obtain ⟨Es,hH⟩:=hR.heap
 have hx0 : xs.getD 0 undef = u:=by
  have:=hx 0 _ rfl;generalize xs.getD 0 undef = y at this
  cases this;rfl
 refine (hc.2 w u xs (hR.rd _ _ hu) (by simpa using hs) hx0).mono ?_
 rintro e w' ⟨b,h',rfl,hle,hb,hcell⟩
 obtain ⟨ua,uc,hlen⟩:=Rd.slice_len hu
 have H':=hH.upd (k:=st.key dst) (o':=.vars b T (curA u bs.length 0 h')) (Ek:=fun _=>False) hb.size (fun c hlt _=>hb.block c hlt) (fun c hc=>by
  simp [AObj.blk] at hc;subst hc;exact ⟨hR.newer hle,.inl hle⟩) ⟨_,hcell,rfl,fun j av hj=>by
  match j,hj with
  | 0,hj=>cases hj;exact .cv _ _ ⟨ua,uc,hlen⟩
  | 1,hj=>cases hj;exact .v _ rfl
  | 2,hj=>cases hj;exact .v _ rfl
  | j + 3,hj=>cases hj⟩ (fun _ hc=>hc.elim)
 have t : Tr st.h.M w (AH.M ((st.key dst,.vars b T (curA u bs.length 0 h')) :: st.h)) w':=
  Tr.upd hH hb.size (fun c hlt _=>hb.block c hlt) (fun c hc=>by simp [AObj.blk] at hc;subst hc;exact .inl hle)
 obtain ⟨av',h3,h1,h2,h4,h5⟩:=(hR.move H' t ⟨hb.os,hb.tape,hb.output⟩).put (.p (st.key dst) b 0) (hout b h');exact ⟨_,av',h3,rfl,h1,h2,h4,h5⟩
theorem wk_self {W : Wall} : wkH (phs W) (phs W) = True:=by rw [← wkH_eq];exact le_self
theorem wk_tail {W : Wall} {h : AH} {j : Nat} {o : AObj} (hj : j < 1000000000) : wkH ((j,o) :: h) (phs W) = wkH h (phs W):=by rw [← wkH_eq,← wkH_eq];exact le_tail hj
theorem ev_ptr {st : ASt} : st.ev (.const (.pointer none)) = .any:=(rfl)
theorem bodyPN_n {E : Env} {o : Wall} {rs : List ResultVar} {R : RR→Prop} {st : ASt} : bodyPN E o rs R .normal st = aRes E st rs fun l=>∃ rr,R rr∧nQ E st.h l rr∧tailIs st.h o:=(rfl)
theorem bodyPN_r {E : Env} {o : Wall} {rs : List ResultVar} {R : RR→Prop} {st : ASt} : bodyPN E o rs R .ret st = aRes E st rs fun l=>∃ rr,R rr∧nQ E st.h l rr∧tailIs st.h o:=(rfl)
theorem bodyCurN_n {E : Env} {o : Wall} {T : TypeId} {b : Nat} {u : Value} {n : Nat} {rs : List ResultVar} {R : RR→Prop} {st : ASt} : bodyCurN E o T b u n rs R .normal st = aRes E st rs fun l=>∃ rr,R rr∧nQ E st.h l rr∧tailIs st.h o∧curK T b u n st.h:=(rfl)
theorem bodyCurN_r {E : Env} {o : Wall} {T : TypeId} {b : Nat} {u : Value} {n : Nat} {rs : List ResultVar} {R : RR→Prop} {st : ASt} : bodyCurN E o T b u n rs R .ret st = aRes E st rs fun l=>∃ rr,R rr∧nQ E st.h l rr∧tailIs st.h o∧curK T b u n st.h:=(rfl)
theorem bodyNew_n {E : Env} {T : TypeId} {u : Value} {n : Nat} {rs : List ResultVar} {st : ASt} : bodyNew E T u n rs .normal st = aRes E st rs fun l=>∃ k b h,l = [.p k b 0]∧st.h.get k = .vars b T (curA u n 0 h):=(rfl)
theorem bodyNew_r {E : Env} {T : TypeId} {u : Value} {n : Nat} {rs : List ResultVar} {st : ASt} : bodyNew E T u n rs .ret st = aRes E st rs fun l=>∃ k b h,l = [.p k b 0]∧st.h.get k = .vars b T (curA u n 0 h):=(rfl)
theorem nQ_one {E : Env} {h : AH} {x : AV} {r : RV} : nQ E h [x] (.one r) = nOutV E.rd h x r:=(rfl)
theorem nQ_tup {E : Env} {h : AH} {l : List AV} {rs : List RV} : nQ E h l (.tup rs) = (l.length≠1∧nOutVs E.rd h l rs):=(rfl)
theorem nOutV_c {R : Value→CD→Prop} {h : AH} {x : AV} {d : CD} {sz : Nat} : nOutV R h x (.c d sz) = aIn R h x d:=(rfl)
theorem nOutV_agg {R : Value→CD→Prop} {h : AH} {l : List AV} {ts : List (CD × Nat)} : nOutV R h (.agg l) (.agg ts) = aInL R h l (ts.map Prod.fst):=(rfl)
theorem nOutVs_nil {R : Value→CD→Prop} {h : AH} : nOutVs R h [] [] = True:=(rfl)
theorem nOutVs_cons {R : Value→CD→Prop} {h : AH} {x : AV} {l : List AV} {r : RV} {rs : List RV} : nOutVs R h (x :: l) (r :: rs) = (nOutV R h x r∧nOutVs R h l rs):=(rfl)
theorem roV_c {d : CD} {sz : Nat} : roV (.c d sz) = toAV d:=(rfl)
theorem roV_agg {ts : List (CD × Nat)} : roV (.agg ts) = .agg (ts.map fun t=>toAV t.1):=(rfl)
theorem roR_one {r : RV} : roR (.one r) = roV r:=(rfl)
theorem roR_tup {l : List RV} : roR (.tup l) = .tup (l.map roV):=(rfl)
attribute [simp ↓] ev_ptr bodyPN_n bodyPN_r bodyCurN_n bodyCurN_r bodyNew_n bodyNew_r
attribute [simp] nQ_one nQ_tup nOutV_c nOutV_agg nOutVs_nil nOutVs_cons roV_c roV_agg roR_one roR_tup wk_self wk_tail tail_self tail_cons le_self le_tail phs_low
end Go.AM
