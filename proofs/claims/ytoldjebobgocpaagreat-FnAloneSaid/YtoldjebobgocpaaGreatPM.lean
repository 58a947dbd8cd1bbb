import Derived.Test.YtoldjebobgocpaaGreatPL
import Derived.Test.YtoldjebobgocpaaGreatME
import Derived.Test.YtoldjebobgocpaaGreatPK
import Derived.Test.YtoldjebobgocpaaGreatPJ
namespace Go.AM
open Go.RowKit
def xo (w : World) (S : Nat->Prop) (v : Value) : RV->Prop
 | .c d _=>Rd w false S v d
 | .agg ts=>∃ xs : Array Value,v = .agg xs/\xs.size = ts.length/\∀ j t,ts[j]? = some t->Rd w false S (xs.getD j undef) t.1
def up (w : World) (S : Nat->Prop) (v : Value) : RR->Prop
 | .one r=>xo w S v r
 | .tup l=>∃ xs : Array Value,v = .tuple xs/\xs.size = l.length/\∀ j t,l[j]? = some t->xo w S (xs.getD j undef) t
theorem nt.toN {w : World} {S S' : Nat->Prop} {v : Value} {r : RV} (h : nt w S v r) (hS : ∀ c,S c->S' c) : xo w S' v r:=by
 cases r with
 | c d sz=>exact (gQ.rd h).weaken.map (λ_ _ _=>rfl) (λc hc _=>hS c hc)
 | agg ts =>
   obtain ⟨xs,F,h1,h2,h3,h4,h5⟩:=h;exact ⟨xs,h1,h2,λj t hj=>(gQ.rd (h5 j t hj)).weaken.map (λ_ _ _=>rfl) (λc hc _=>hS c (h3 j c hc))⟩
theorem zw.toN {w : World} {S S' : Nat->Prop} {v : Value} {r : RR} (h : zw w S v r) (hS : ∀ c,S c->S' c) : up w S' v r:=by
 cases r with
 | one r=>exact nt.toN h hS
 | tup l =>
   obtain ⟨xs,F,h1,h2,h3,h4,h5⟩:=h;exact ⟨xs,h1,h2,λj t hj=>nt.toN (h5 j t hj) (λc hc=>hS c (h3 j c hc))⟩
theorem xo.rel {w : World} {M S : Nat->Prop} {v : Value} {r : RV} (h : xo w S v r) (hM : ∀ c,S c->¬ M c) : VRel w M (roV r) v:=by
 cases r with
 | c d sz=>exact fF (Rd.map h (λ_ _ _=>rfl) (λc hc _=>hM c hc))
 | agg ts =>
   obtain ⟨xs,rfl,h2,h5⟩:=h;refine .agg _ _ (by simp [h2]) (λi av hi=>?_);simp only [List.getElem?_map,Option.map_eq_some_iff] at hi;obtain ⟨t,ht,rfl⟩:=hi;exact fF ((h5 i t ht).map (λ_ _ _=>rfl) (λc hc _=>hM c hc))
theorem up.rel {w : World} {M S : Nat->Prop} {v : Value} {r : RR} (h : up w S v r) (hM : ∀ c,S c->¬ M c) : VRel w M (roR r) v:=by
 cases r with
 | one r=>exact xo.rel h hM
 | tup l =>
   obtain ⟨xs,rfl,h2,h5⟩:=h;refine .tup _ _ (by simp [h2]) (λi av hi=>?_);simp only [List.getElem?_map,Option.map_eq_some_iff] at hi;obtain ⟨t,ht,rfl⟩:=hi;exact xo.rel (h5 i t ht) hM
theorem aa.ro {E : Env} {f : Nat} {args : List VD} {rr : RR} (hc : ai E.P f args rr) {avs : List AV} {st : ASt} {dst : Option Nat} {K : ASt->Prop} (hin : kK E.rd st.h avs args)
 (hout : aV st dst (roR rr) K) : aa E f avs st dst K:=by
 refine ⟨hc.1,λa w hR xs hs hx=>?_⟩;obtain ⟨Es,hH⟩:=hR.heap;obtain ⟨hl,hr⟩:=jS hH hR.rd avs args hx hin;refine (hc.2 w trivial xs (by omega) hr).mono ?_
 rintro e w' ⟨v,rfl,hb,hrr⟩
 have t : Tr st.h.M w st.h.M w':=⟨hb.size,λb hlt _=>hb.block b hlt,λb _ h=>h⟩;have H' : HRel E.base st.h w' Es:=⟨λk=>(hH.obj k).tr t (λb hk=>hb.block b (hH.lt hk)) (λc hc _=>hc),hH.inj,hH.low,λk c hc=>⟨(hH.elow k c hc).1,Nat.lt_of_lt_of_le (hH.elow k c hc).2 hb.size⟩,hH.einj,hH.em⟩;have hv : VRel w' st.h.M (roR rr) v:=BF hrr (λc hc ⟨k,hk⟩=>by have:=hH.lt hk;omega);obtain ⟨av',h3,h1,h2,h4,h5⟩:=(hR.move H' t ⟨hb.os,hb.tape,hb.output⟩).put hv hout;exact ⟨v,av',h3,rfl,h1,h2,h4,h5⟩
abbrev dH:=List (Nat × Array Value × TypeId)
def dH.at (W : dH) (w : World) : Prop:=(∀ q∈W,w.heap[q.1]? = some (.cells q.2.1 q.2.2 (0,0)))/\(W.map (·.1)).Nodup
def dH.off (W : dH) (c : Nat) : Prop:=∀ q∈W,c≠q.1
def phO (q : Nat × Array Value × TypeId) : AObj:=.vars q.1 q.2.2 (q.2.1.toList.map .is)
def eT : Nat->dH->AH
 | _,[]=>[]
 | i,q :: l=>(i,phO q) :: eT (i + 1) l
def phs (W : dH) : AH:=eT 1000000000 W
theorem qr : ∀ (W : dH) (i k : Nat),AH.get (eT i W) k = if i<=k then (match W[k - i]? with | some q=>phO q | none=>.dead) else .dead
 | [],i,k=>by simp [eT,AH.get]
 | q :: l, i, k => by
   rw [eT,aI,qr l];by_cases h : k = i
   ·subst h;simp
   ·rw [if_neg h]
    by_cases h1 : i + 1<=k
    ·rw [if_pos h1,if_pos (by omega),show k - i = (k - (i + 1)) + 1 by omega];rfl
    ·rw [if_neg h1,if_neg (by omega)]
theorem rc (W : dH) (k : Nat) : AH.get (phs W) k = if 1000000000<=k then (match W[k - 1000000000]? with | some q=>phO q | none=>.dead) else .dead:=qr W _ k
theorem If {W : dH} {k : Nat} (h : k < 1000000000) : AH.get (phs W) k = .dead:=by rw [rc,if_neg (by omega)]
theorem vT {W : dH} {k c : Nat} (h : (AH.get (phs W) k).blk = some c) : 1000000000<=k/\∃ q,W[k - 1000000000]? = some q/\q.1 = c/\AH.get (phs W) k = phO q:=by
 rw [rc] at h ⊢
 split at h
 ·rename_i hk
  rw [if_pos hk]
  split at h
  ·rename_i q hq
   exact ⟨hk,q,hq,by simpa [phO,AObj.blk] using h,by simp⟩
  ·cases h
 ·cases h
theorem FB {W : dH} {q : Nat × Array Value × TypeId} (h : q∈W) : ∃ k,1000000000<=k/\AH.get (phs W) k = phO q:=by
 obtain ⟨i,hi,rfl⟩:=List.getElem_of_mem h;exact ⟨1000000000 + i,by omega,by rw [rc,if_pos (by omega)];simp [hi]⟩
theorem BN {W : dH} (hn : (W.map (·.1)).Nodup) {k k' c : Nat} (h : (AH.get (phs W) k).blk = some c) (h' : (AH.get (phs W) k').blk = some c) : k = k':=by
 obtain ⟨h1,q,hq,rfl,-⟩:=vT h;obtain ⟨h2,q',hq',e,-⟩:=vT h';obtain ⟨hi,rfl⟩:=List.getElem?_eq_some_iff.1 hq;obtain ⟨hi',rfl⟩:=List.getElem?_eq_some_iff.1 hq';have:=(List.getElem_inj (xs:=W.map (·.1)) (i:=k' - 1000000000) (j:=k - 1000000000) (h₀:=by simpa using hi') (h₁:=by simpa using hi) hn).1 (by simpa using e);omega
def gr (h : AH) (W : dH) : Prop:=∀ k,1000000000<=k->AH.get h k = AH.get (phs W) k
theorem Cl {W : dH} : gr (phs W) W = True:=eq_true λ_ _=>rfl
theorem tail_cons {W : dH} {h : AH} {j : Nat} {o : AObj} (hj : j < 1000000000) : gr ((j,o) :: h) W = gr h W:=by
 have : ∀ k,1000000000<=k->AH.get ((j,o) :: h) k = AH.get h k:=λk hk=>by rw [aI,if_neg (by omega)]
 refine propext ⟨λht k hk=>by rw [<- this k hk];exact ht k hk,λht k hk=>by rw [this k hk];exact ht k hk⟩
theorem DR (a : AV) : go a a:=by cases a<;>simp [go]
theorem zo : ∀ l : List AV,ALe l l
 | []=>trivial
 | a :: l=>⟨DR a,zo l⟩
theorem Ab (o : AObj) : ep o o:=by
 cases o with
 | vars b T cells=>exact ⟨rfl,rfl,zo cells⟩
 | dead=>trivial
 | rows=>exact .inl rfl
 | lent=>exact rfl
 | part=>exact rfl
theorem mb : ∀ {W : dH} {i : Nat} {p : Nat × AObj},p∈eT i W->i<=p.1/\AH.get (eT i W) p.1 = p.2
 | [],_,_,h=>by cases h
 | q :: l, i, p, h => by
   rcases List.mem_cons.1 h with rfl | h
   ·exact ⟨Nat.le_refl _,by rw [eT,aI,if_pos rfl]⟩
   ·obtain ⟨h1,h2⟩:=mb h
    exact ⟨by omega,by rw [eT,aI,if_neg (by omega)];exact h2⟩
theorem B1 {W : dH} : (∀ p∈phs W,ep (AH.get (phs W) p.1) p.2) = True:=eq_true λp hp=>by
 have e : AH.get (phs W) p.1 = p.2:=(mb hp).2;rw [e];exact Ab _
theorem B0 {W : dH} {h : AH} {j : Nat} {o : AObj} (hj : j < 1000000000) : (∀ p∈phs W,ep (AH.get ((j,o) :: h) p.1) p.2) = ∀ p∈phs W,ep (AH.get h p.1) p.2:=by
 have : ∀ p∈phs W,AH.get ((j,o) :: h) p.1 = AH.get h p.1:=λp hp=>by
  have:=(mb hp).1;rw [aI,if_neg (by omega)]
 refine propext ⟨λht p hp=>by rw [<- this p hp];exact ht p hp,λht p hp=>by rw [this p hp];exact ht p hp⟩
def di (P : Program) (f : Nat) (args : List VD) (R : RR->Prop) : Prop:=
 uq P f /\ ∀ (w : World) (o : dH) (xs : Array Value),o.at w -> xs.size = args.length -> (∀ i vd,args[i]? = some vd -> lF w o.off (xs.getD i undef) vd) ->
  Calls P f xs w λe w'=>∃ v rr,e = .returned v/\R rr/\Below w.heap.size w w'/\up w' o.off v rr
theorem pw {o : dH} {w : World} (h : o.at w) {c : Nat} (hc : w.heap.size<=c) : o.off c:=λq hq he=>by
 have:=cN (h.1 q hq);omega
theorem lF.toV {w : World} {S : Nat->Prop} {v : Value} {d : VD} (h : lF w S v d) : RdV w v d:=by
 cases d with
 | c d=>exact Rd.map h (λ_ _ _=>rfl) (λ_ _ _=>trivial)
 | agg ds =>
   obtain ⟨xs,h1,h2,h3⟩:=h;exact ⟨xs,h1,h2,λj d hd=>(h3 j d hd).map (λ_ _ _=>rfl) (λ_ _ _=>trivial)⟩
theorem ai.toN {P : Program} {f : Nat} {args : List VD} {rr : RR} (hc : ai P f args rr) : di P f args (λr=>r = rr):=by
 refine ⟨hc.1,λw o xs ho hs hx=>(hc.2 w trivial xs hs (λi vd hi=>(hx i vd hi).toV)).mono ?_⟩
 rintro e w' ⟨v,rfl,hb,hr⟩
 exact ⟨v,rr,rfl,rfl,hb,hr.toN λc hc=>pw ho hc.1⟩
theorem Ec {P : Program} {f : Nat} {args : List VD} {u : Value} (hu : plain u = true) (hc : di P f args (λr=>r = .one (.c (.v u) 1))) : ai P f args (.one (.c (.v u) 1)):=by
 refine ⟨hc.1,λw _ xs hs hx=>(hc.2 w [] xs ⟨by simp,by simp⟩ hs (λi vd hi=>?_)).mono ?_⟩
 ·have:=hx i vd hi
  cases vd with
  | c d=>exact Rd.map this (λ_ _ _=>rfl) (λ_ _ _ q hq=>by cases hq)
  | agg ds =>
    obtain ⟨ys,g1,g2,g3⟩:=this;exact ⟨ys,g1,g2,λj d hd=>(g3 j d hd).map (λ_ _ _=>rfl) (λ_ _ _ q hq=>by cases hq)⟩
 ·rintro e w' ⟨v,rr,rfl,rfl,hb,hr⟩
  have h : Rd w' false _ v (.v u):=hr
  cases h with
  | plain h=>exact ⟨_,rfl,hb,rfl,hu⟩
theorem di.mono {P : Program} {f : Nat} {args : List VD} {R R' : RR->Prop} (hc : di P f args R) (h : ∀ r,R r->R' r) : di P f args R':=by
 refine ⟨hc.1,λw o xs ho hs hx=>(hc.2 w o xs ho hs hx).mono ?_⟩
 rintro e w' ⟨v,rr,rfl,h1,hb,hr⟩
 exact ⟨v,rr,rfl,h _ h1,hb,hr⟩
theorem FM {w : World} {M E : Nat->Prop} {o : AObj} (h : dr w M E o) {b : Nat} (hb : o.blk = some b) : ∃ cs T,w.heap[b]? = some (.cells cs T (0,0)):=by
 cases o with
 | dead=>cases hb
 | vars b' T cells=>obtain ⟨cs,h1,-⟩:=h;cases hb;exact ⟨cs,T,h1⟩
 | lent H sz rows=>cases hb
 | rows H sz rows own =>
   cases H with
   | none=>cases hb
   | some q=>obtain ⟨b',o,C⟩:=q;obtain ⟨cs,T,F,h1,-⟩:=h;cases hb;exact ⟨cs,T,h1⟩
 | part H sz rows lo =>
   cases H with
   | none=>cases hb
   | some q=>obtain ⟨b',o,C⟩:=q;obtain ⟨cs,T,F,h1,-⟩:=h;cases hb;exact ⟨cs,T,h1⟩
theorem yP : ∀ {h : AH} {k : Nat},(AH.get h k).blk≠none->k∈h.map (·.1)
 | [],_,hk=>absurd rfl hk
 | (j, o) :: h, k, hk => by
   rw [aI] at hk
   split at hk
   ·rename_i e;rw [e];exact List.mem_cons_self ..
   ·exact List.mem_cons_of_mem _ (yP hk)
def ddl : List Nat->List Nat
 | []=>[]
 | a :: l=>if a∈l then ddl l else a :: ddl l
theorem ri {c : Nat} : ∀ l : List Nat,c∈ddl l ↔ c∈l
 | []=>Iff.rfl
 | a :: l => by
   unfold ddl
   split
   ·rename_i h
    rw [ri l];exact ⟨λhc=>List.mem_cons_of_mem _ hc,λhc=>(List.mem_cons.1 hc).elim (λe=>e ▸ h) id⟩
   ·rw [List.mem_cons,List.mem_cons,ri l]
theorem p7 : ∀ l : List Nat,(ddl l).Nodup
 | []=>List.nodup_nil
 | a :: l => by
   unfold ddl
   split
   ·exact p7 l
   ·rename_i h
    rw [List.nodup_cons];exact ⟨λhc=>h ((ri l).1 hc),p7 l⟩
theorem Bp {w : World} : ∀ {B : List Nat},B.Nodup->(∀ b∈B,∃ cs T,w.heap[b]? = some (.cells cs T (0,0)))->∃ W : dH,W.at w/\W.map (·.1) = B
 | [],_,_=>⟨[],⟨by simp,by simp⟩,rfl⟩
 | b :: B, hn, hb => by
   rw [List.nodup_cons] at hn;obtain ⟨W,h1,h2⟩:=Bp hn.2 (λc hc=>hb c (List.mem_cons_of_mem _ hc));obtain ⟨cs,T,h3⟩:=hb b (List.mem_cons_self ..);refine ⟨(b,cs,T) :: W,⟨λq hq=>?_,?_⟩,by simp [h2]⟩
   ·rcases List.mem_cons.1 hq with rfl | hq
    ·exact h3
    ·exact h1.1 q hq
   ·simp only [List.map_cons,List.nodup_cons]
    exact ⟨by rw [h2];exact hn.1,h1.2⟩
theorem xw {base : Bs} {h : AH} {w : World} {E : Nat->Nat->Prop} (H : HRel base h w E) (p : Nat->Prop) : ∃ W : dH,W.at w/\∀ c,W.off c ↔ ¬ (h.M c/\p c):=by
 classical
 let B : List Nat:=ddl (((h.map (·.1)).filterMap λk=>(h.get k).blk).filter (λc=>decide (p c)))
 have hB : ∀ c,c∈B ↔ h.M c/\p c:=by
  intro c;simp only [B,ri,List.mem_filter,List.mem_filterMap,decide_eq_true_eq]
  constructor
  ·rintro ⟨⟨k,-,hk⟩,hp⟩;exact ⟨⟨k,hk⟩,hp⟩
  ·rintro ⟨⟨k,hk⟩,hp⟩;exact ⟨⟨k,yP (by rw [hk];simp),hk⟩,hp⟩
 obtain ⟨W,h1,h2⟩:=Bp (w:=w) (B:=B) (p7 _) (λb hb=>by
  obtain ⟨⟨k,hk⟩,-⟩:=(hB b).1 hb;exact FM (H.obj k) hk)
 refine ⟨W,h1,λc=>?_⟩;rw [<- hB,<- h2];unfold dH.off
 constructor
 ·intro h hm
  obtain ⟨q,hq,e⟩:=List.mem_map.1 hm;exact h q hq e.symm
 ·intro h q hq e
  exact h (List.mem_map.2 ⟨q,hq,e.symm⟩)
theorem yf {E : Env} {st : ASt} {a : Act} {w : World} (hR : Rep E.w0 E.base st a w) {Es : Nat->Nat->Prop} (hH : HRel E.base st.h w Es) {S : Nat->Prop} (hoff : ∀ c,¬ st.h.M c->S c) : ∀ (avs : List AV) (args : List VD) {us : Nat->Value} (_ : ∀ i av,avs[i]? = some av->VRel w st.h.M av (us i)) (_ : kK E.rd [] avs args),avs.length = args.length/\∀ i d,args[i]? = some d->lF w S (us i) d:=by
 have one : ∀ {x : AV} {u : Value} {d : CD},VRel w st.h.M x u->aIn E.rd [] x d->Rd w false S u d:=by
  intro x u d hv hk;unfold aIn at hk
  split at hk
  ·cases hv
   exact Rd.map hk (λb hb _=>hR.below.block b hb) (λc hc _=>hoff c (λ⟨k,hk⟩=>(hH.low k c hk).1 hc))
  ·simp at hk
  ·subst hk;cases hv with | v u hp=>exact .plain hp
  ·subst hk;cases hv;exact .empty _ _ (by intro h;cases h)
  ·subst hk;cases hv with | ro rows x hr=>exact hr.map (λ_ _ _=>rfl) (λc hc _=>hoff c hc)
  ·simp at hk
  ·exact hk.elim
 have oneL : ∀ (l : List AV) (ds : List CD) {us : Nat->Value} (_ : ∀ i av,l[i]? = some av->VRel w st.h.M av (us i)) (_ : tE E.rd [] l ds),l.length = ds.length/\∀ i d,ds[i]? = some d->Rd w false S (us i) d:=by
  intro l
  induction l with
  | nil =>
    intro ds us hv hk
    cases ds with
    | nil=>exact ⟨rfl,λi d hd=>by simp at hd⟩
    | cons _ _=>exact hk.elim
  | cons a l ih =>
    intro ds us hv hk
    cases ds with
    | nil=>exact hk.elim
    | cons d ds =>
      obtain ⟨h1,h2⟩:=ih ds (us:=λi=>us (i + 1)) (λi av hi=>hv (i + 1) av (by simpa using hi)) hk.2;refine ⟨by simp [h1],λi d' hd=>?_⟩
      cases i with
      | zero=>simp at hd;subst hd;exact one (hv 0 a rfl) hk.1
      | succ i=>exact h2 i d' (by simpa using hd)
 intro avs
 induction avs with
 | nil =>
   intro args us hv hk
   cases args with
   | nil=>exact ⟨rfl,λi d hd=>by simp at hd⟩
   | cons _ _=>exact hk.elim
 | cons a l ih =>
   intro args us hv hk
   cases args with
   | nil=>exact hk.elim
   | cons d ds =>
     obtain ⟨h1,h2⟩:=ih ds (us:=λi=>us (i + 1)) (λi av hi=>hv (i + 1) av (by simpa using hi)) hk.2;refine ⟨by simp [h1],λi d' hd=>?_⟩
     cases i with
     | zero =>
       simp at hd;subst hd;have h0:=hv 0 a rfl;have hk0:=hk.1;generalize us 0 = u0 at h0 ⊢;unfold xi at hk0
       split at hk0
       ·exact one h0 hk0
       ·split at hk0
        ·rename_i ds _ l
         cases h0 with
         | agg _ xs hs hl =>
           obtain ⟨g1,g2⟩:=oneL l ds hl hk0;exact ⟨xs,rfl,by omega,g2⟩
        ·exact hk0.elim
     | succ i=>exact h2 i d' (by simpa using hd)
theorem cH {E : Env} {f : Nat} {args : List VD} {R : RR->Prop} (hc : di E.P f args R) {avs : List AV} {st : ASt} {dst : Option Nat} {K : ASt->Prop} (hin : kK E.rd [] avs args)
 (hout : ∀ rr,R rr->aV st dst (roR rr) K) : aa E f avs st dst K:=by
 refine ⟨hc.1,λa w hR xs hs hx=>?_⟩;obtain ⟨Es,hH⟩:=hR.heap;obtain ⟨o,ho,hoff⟩:=xw hH (λ_=>True);obtain ⟨hl,hr⟩:=yf hR hH (S:=o.off) (λc hc=>(hoff c).2 (λh=>hc h.1)) avs args hx hin;refine (hc.2 w o xs ho (by omega) hr).mono ?_
 rintro e w' ⟨v,rr,rfl,hRR,hb,hrr⟩
 have t : Tr st.h.M w st.h.M w':=⟨hb.size,λb hlt _=>hb.block b hlt,λb _ h=>h⟩;have H' : HRel E.base st.h w' Es:=⟨λk=>(hH.obj k).tr t (λb hk=>hb.block b (hH.lt hk)) (λc hc _=>hc),hH.inj,hH.low,λk c hc=>⟨(hH.elow k c hc).1,Nat.lt_of_lt_of_le (hH.elow k c hc).2 hb.size⟩,hH.einj,hH.em⟩;have hv : VRel w' st.h.M (roR rr) v:=up.rel hrr (λc hc hm=>(hoff c).1 hc ⟨hm,trivial⟩);obtain ⟨av',h3,h1,h2,h4,h5⟩:=(hR.move H' t ⟨hb.os,hb.tape,hb.output⟩).put hv (hout rr hRR);exact ⟨v,av',h3,rfl,h1,h2,h4,h5⟩
def qw (R : Value->CD->Prop) (h : AH) (x : AV) (r : RV) : Prop:=
 match r with
 | .c d _=>aIn R h x d
 | .agg ts => match x with
   | .agg l=>tE R h l (ts.map Prod.fst)
   | _=>False
def oa (R : Value->CD->Prop) (h : AH) : List AV->List RV->Prop
 | [],[]=>True
 | a :: l,r :: rs=>qw R h a r/\oa R h l rs
 | _,_=>False
def nQ (E : Env) (h : AH) (l : List AV) (rr : RR) : Prop:=
 match rr with
 | .one r => match l with
   | [x]=>qw E.rd h x r
   | _=>False
 | .tup rs=>l.length≠1/\oa E.rd h l rs
theorem qv {base : Bs} {h : AH} {w : World} {E : Nat->Nat->Prop} (H : HRel base h w E) {S : Nat->Prop} (hS : ∀ c,¬ h.M c->S c) (hSr : ∀ k b o C sz rows own,h.get k = .rows (some (b,o,C)) sz rows own->S b)
 {R : Value->CD->Prop} (hR : ∀ u d,R u d->Rd w false S u d) {x : AV} {u : Value} (hv : VRel w h.M x u) {r : RV} (hk : qw R h x r) : xo w S u r:=by
 unfold qw at hk
 split at hk
 ·exact oA H hS hSr hR hv hk
 ·split at hk
  ·rename_i ts _ l
   cases hv with
   | agg _ xs hs hl =>
     obtain ⟨h1,h2⟩:=mG H hS hSr hR l _ hl hk;refine ⟨xs,rfl,by simp at h1;omega,λj t hj=>h2 j t.1 (by simp [hj])⟩
  ·exact hk.elim
theorem oS {base : Bs} {h : AH} {w : World} {E : Nat->Nat->Prop} (H : HRel base h w E) {S : Nat->Prop} (hS : ∀ c,¬ h.M c->S c) (hSr : ∀ k b o C sz rows own,h.get k = .rows (some (b,o,C)) sz rows own->S b)
 {R : Value->CD->Prop} (hR : ∀ u d,R u d->Rd w false S u d) : ∀ (l : List AV) (rs : List RV) {us : Nat->Value} (_ : ∀ i av,l[i]? = some av->VRel w h.M av (us i)) (_ : oa R h l rs),
 l.length = rs.length/\∀ j t,rs[j]? = some t->xo w S (us j) t
 | [],[],us,hv,hk=>⟨rfl,λj t hj=>by simp at hj⟩
 | a :: l, r :: rs, us, hv, hk => by
   obtain ⟨h1,h2⟩:=oS H hS hSr hR l rs (us:=λi=>us (i + 1)) (λi av hi=>hv (i + 1) av (by simpa using hi)) hk.2;refine ⟨by simp [h1],λj t hj=>?_⟩
   cases j with
   | zero=>simp at hj;subst hj;exact qv H hS hSr hR (hv 0 a rfl) hk.1
   | succ j=>exact h2 j t (by simpa using hj)
 | [],_ :: _,us,hv,hk=>hk.elim
 | _ :: _,[],us,hv,hk=>hk.elim
theorem yn {E : Env} {h : AH} {w : World} {Es : Nat->Nat->Prop} (H : HRel E.base h w Es) {S : Nat->Prop} (hS : ∀ c,¬ h.M c->S c) (hSr : ∀ k b o C sz rows own,h.get k = .rows (some (b,o,C)) sz rows own->S b)
 (hR : ∀ u d,E.rd u d->Rd w false S u d) {vs : List Value} {l : List AV} (hl : vs.length = l.length) (hv : ∀ i av,l[i]? = some av->VRel w h.M av (vs.getD i undef)) {rr : RR} (hq : nQ E h l rr) :
 up w S (if vs.length = 1 then vs.getD 0 undef else .tuple vs.toArray) rr:=by
 unfold nQ at hq
 split at hq
 ·split at hq
  ·rename_i r x
   rw [if_pos (by simpa using hl)];exact qv H hS hSr hR (hv 0 x rfl) hq
  ·exact hq.elim
 ·rename_i rs
  obtain ⟨hne,hq⟩:=hq;obtain ⟨h1,h2⟩:=oS H hS hSr hR l rs hv hq;rw [if_neg (by omega)];exact ⟨vs.toArray,rfl,by simp;omega,λj t hj=>by simpa using h2 j t hj⟩
theorem vR {P : Program} {fn : Func} {tmps : Array Value} {w : World} {vs : List Value} (h1 : (fn.results.toList.mapM (gA tmps)).run P w = .ok vs w) : (results fn tmps).run P w = .ok (if vs.length = 1 then vs.getD 0 undef else .tuple vs.toArray) w:=by
 rw [fX,Array.mapM_eq_mapM_toList];simp only [Sem.run_bind,Sem.run_map,h1,Result.andThen_ok,Sem.run_pure]
 cases vs with
 | nil=>simp
 | cons v vs=>cases vs<;>simp
theorem BM {w : World} {o : dH} (ho : o.at w) (M E : Nat->Prop) (k : Nat) : dr w M E (AH.get (phs o) k):=by
 rw [rc]
 split
 ·split
  ·rename_i q hq
   refine ⟨q.2.1,ho.1 q (List.mem_of_getElem? hq),by simp,λj av hj=>?_⟩;simp only [List.getElem?_map,Array.getElem?_toList,Option.map_eq_some_iff] at hj;obtain ⟨u,hu,rfl⟩:=hj;have : q.2.1.getD j undef = u:=by simp [Array.getD_eq_getD_getElem?,hu]
   rw [this];exact .is u
  ·trivial
 ·trivial
theorem BK {w : World} {o : dH} (ho : o.at w) (base : Bs) (hb : ∀ c,¬ o.off c->¬ base.F c/\¬ base.G c) : HRel base (phs o) w (λ_ _=>False)/\∀ c,(phs o).M c ↔ ¬ o.off c:=by
 have hm : ∀ c,(phs o).M c ↔ ¬ o.off c:=by
  intro c
  constructor
  ·rintro ⟨k,hk⟩ h
   obtain ⟨-,q,hq,e,-⟩:=vT hk;exact h q (List.mem_of_getElem? hq) e.symm
  ·intro h
   obtain ⟨q,hq,e⟩ : ∃ q∈o,c = q.1:=Classical.byContradiction λhn=>h (λq hq he=>hn ⟨q,hq,he⟩)
   obtain ⟨k,-,hk⟩:=FB hq;exact ⟨k,by rw [hk,e];rfl⟩
 exact ⟨⟨λk=>BM ho _ _ k,λk k' c h h'=>BN ho.2 h h',λk c h=>hb c ((hm c).1 ⟨k,h⟩),λ_ _ h=>h.elim,λ_ _ _ h=>h.elim,λ_ _ h=>h.elim⟩,hm⟩
theorem zW {w : World} {o : dH} (ho : o.at w) {n : Nat} {xs : Array Value} {t : List (Nat × AV)} (hn : xs.size<=n) (ht : ∀ q,VRel w (λc=>¬ o.off c) (aG t q) ((xs ++ Array.replicate (n - xs.size) undef).getD q undef)) :
 Rep w ⟨λc=>c < w.heap.size/\o.off c,λc=>c < w.heap.size/\o.off c,false,λ_=>True⟩ { n:=n,kb:=0,t:=t,h:=phs o } { tmps:=xs ++ Array.replicate (n - xs.size) undef,defers:=[] } w:=by
 obtain ⟨hrel,hm⟩:=BK ho ⟨λc=>c < w.heap.size/\o.off c,λc=>c < w.heap.size/\o.off c,false,λ_=>True⟩ (λc hc=>⟨λh=>hc h.2,λh=>hc h.2⟩);exact ⟨rfl,by simp;omega,λq=>(ht q).tr ⟨Nat.le_refl _,λ_ _ _=>rfl,λc _ hc=>(hm c).1 hc⟩,⟨_,hrel⟩,BelowF.refl _ _,λc hc=>hc.elim (λh=>h.1) (λh=>h.1)⟩
theorem mQ {base : Bs} {h : AH} {w w' : World} {E : Nat->Nat->Prop} (hH : HRel base h w' E) {o : dH} (ho : o.at w) (hg : gr h o) {c : Nat} (hc : ¬ o.off c) : w'.heap[c]? = w.heap[c]?/\∃ k,1000000000<=k/\(h.get k).blk = some c/\∃ b T l,h.get k = .vars b T l:=by
 obtain ⟨q,hq,rfl⟩ : ∃ q∈o,c = q.1:=Classical.byContradiction λhn=>hc (λq hq he=>hn ⟨q,hq,he⟩)
 obtain ⟨k,hk,he⟩:=FB hq;have e : h.get k = phO q:=by rw [hg k hk,he]
 refine ⟨?_,k,hk,by rw [e];rfl,_,_,_,e⟩;have ob:=hH.obj k;rw [e] at ob;obtain ⟨cs',g1,g2,g3⟩:=ob;have hs : cs'.size = q.2.1.size:=by simpa using g2
 have : cs' = q.2.1:=by
  refine Array.ext hs (λj hj hj'=>?_);have:=g3 j (.is q.2.1[j]) (by simp [hj']);have e : cs'.getD j undef = cs'[j]:=by simp [Array.getD_eq_getD_getElem?,hj]
  rw [e] at this;generalize cs'[j] = y at this
  cases this;rfl
 rw [g1,this];exact (ho.1 q hq).symm
theorem pM {P : Program} {Ty : Nat->Option TI} (hT : ∀ t ti,Ty t = some ti->TIok P t ti) {fn : Func} {w w' : World} {o : dH} (ho : o.at w) {R : RR->Prop} {st' : ASt} {a' : Act}
 (hR' : Rep w ⟨λc=>c < w.heap.size/\o.off c,λc=>c < w.heap.size/\o.off c,false,λ_=>True⟩ st' a' w')
 (hq : dB ⟨P,Ty,w,⟨λc=>c < w.heap.size/\o.off c,λc=>c < w.heap.size/\o.off c,false,λ_=>True⟩⟩ st' fn.results.toList λl=>∃ rr,R rr/\nQ ⟨P,Ty,w,⟨λc=>c < w.heap.size/\o.off c,λc=>c < w.heap.size/\o.off c,false,λ_=>True⟩⟩ st'.h l rr/\gr st'.h o) :
 a'.defers = []/\∃ v,(results fn a'.tmps).run P w' = .ok v w'/\∃ v' rr,Ending.returned v = .returned v'/\R rr/\Below w.heap.size w w'/\up w' o.off v' rr:=by
 let B : Bs:=⟨λc=>c < w.heap.size/\o.off c,λc=>c < w.heap.size/\o.off c,false,λ_=>True⟩
 have hE : EOk ⟨P,Ty,w,B⟩:=⟨hT,λw' hb=>trivial⟩;obtain ⟨vs,l,h1,h2,h3,rr,hRR,h4,hg⟩:=dA hE hR' fn.results.toList hq;obtain ⟨Es,hH⟩:=hR'.heap
 refine ⟨hR'.dfr,_,vR h1,_,rr,rfl,hRR,⟨hR'.below.os,hR'.below.tape,hR'.below.output,hR'.below.size,λc hc=>?_⟩,
  yn (E:=⟨P,Ty,w,B⟩) hH (S:=o.off) (λc hc=>Classical.byContradiction λh=>?_) (λk b' o' C sz rows own hgk=>Classical.byContradiction λh=>?_) (λv d hd=>?_) h2 h3 h4⟩
 ·by_cases h : o.off c
  ·exact hR'.below.block c ⟨hc,h⟩
  ·exact (mQ hH ho hg h).1
 ·obtain ⟨-,k,-,hk,-⟩:=mQ hH ho hg h
  exact hc ⟨k,hk⟩
 ·obtain ⟨-,k',-,hk,b,T,l,he⟩:=mQ hH ho hg h
  have:=hH.inj k k' b' (by rw [hgk];rfl) hk;subst this;rw [hgk] at he;cases he
 ·exact Rd.map hd (λc hc _=>hR'.below.block c hc) (λc hc _=>hc.2)
def tj (E : Env) (o : dH) (rs : List ResultVar) (R : RR->Prop) : Exit->ASt->Prop
 | .normal,st=>dB E st rs λl=>∃ rr,R rr/\nQ E st.h l rr/\gr st.h o
 | .ret,st=>dB E st rs λl=>∃ rr,R rr/\nQ E st.h l rr/\gr st.h o
 | _,_=>False
theorem lF.ph {w : World} {o : dH} {v : Value} {d : VD} (h : lF w o.off v d) : VRel w (λc=>¬ o.off c) d.toAV v:=
 lF.rel (M:=λc=>¬ o.off c) (by
  cases d with
  | c d=>exact Rd.map h (λ_ _ _=>rfl) (λc hc _ hn=>hn hc)
  | agg ds =>
    obtain ⟨xs,h1,h2,h3⟩:=h;exact ⟨xs,h1,h2,λj d hd=>(h3 j d hd).map (λ_ _ _=>rfl) (λc hc _ hn=>hn hc)⟩)
theorem di.intro {P : Program} {Ty : Nat → Option TI} (hT : ∀ t ti, Ty t = some ti → TIok P t ti) {f : Nat} {fn : Func} {c : Code} (hf : P.funcs[f]? = some fn) (hname : (fn.name == "runtime.NumGoroutine") = false) (hb : fn.body = some c)
 {n : Nat} {rs : List ResultVar} (hnt : fn.ntmps = n) (hrs : fn.results = ⟨rs⟩) {args : List VD} {R : RR->Prop} (hn : args.length<=n)
 (h : ∀ w0 base o,d9 ⟨P,Ty,w0,⟨base,base,false,λ_=>True⟩⟩ c (tj ⟨P,Ty,w0,⟨base,base,false,λ_=>True⟩⟩ o rs R) { n:=n,kb:=0,t:=jy 0 args,h:=phs o }) : di P f args R:=by
 subst hnt;have hrs' : fn.results.toList = rs:=by rw [hrs]
 subst hrs';refine ⟨⟨fn,hf,hname,by rw [hb];rfl⟩,λw o xs ho hs hx=>calls_of_wp hf hb ?_⟩;have hE : EOk ⟨P,Ty,w,⟨λc=>c < w.heap.size/\o.off c,λc=>c < w.heap.size/\o.off c,false,λ_=>True⟩⟩:=⟨hT,λw' hb=>trivial⟩
 have hR:=zW ho (n:=fn.ntmps) (xs:=xs) (t:=jy 0 args) (by omega) (λq=>by
  rw [jx,if_pos (Nat.zero_le q),Nat.sub_zero]
  split
  ·rename_i v hv
   have hlt : q < xs.size:=by rw [hs];exact (List.getElem?_eq_some_iff.1 hv).1
   have e : (xs ++ Array.replicate (fn.ntmps - xs.size) undef).getD q undef = xs.getD q undef:=by
    simp only [Array.getD_eq_getD_getElem?];rw [Array.getElem?_append_left hlt]
   rw [e];exact (hx q v hv).ph
  ·exact .any _)
 refine wp_mono (bM hE c _ _ _ w hR (h w _ o)) ?_
 rintro e a' w' ⟨st',hq,hR'⟩
 cases e with
 | normal=>exact pM hT ho hR' hq
 | ret=>exact pM hT ho hR' hq
 | _=>exact hq.elim
theorem lG {P : Program} {Ty : Nat → Option TI} (hT : ∀ t ti, Ty t = some ti → TIok P t ti) {f : Nat} {fn : Func} {c : Code} (hf : P.funcs[f]? = some fn) (hname : (fn.name == "runtime.NumGoroutine") = false) (hb : fn.body = some c)
 {n : Nat} {rs : List ResultVar} (hnt : fn.ntmps = n) (hrs : fn.results = ⟨rs⟩) {bs : List (List CD)} {args : List VD} {R : RR->Prop} (hn : args.length + 1<=n)
 (h : ∀ w0 base o u,Rd w0 false base u (.s bs)->d9 ⟨P,Ty,w0,⟨base,base,false,λ_=>True⟩⟩ c (tj ⟨P,Ty,w0,⟨base,base,false,λ_=>True⟩⟩ o rs R) { n:=n,kb:=0,t:=(0,.cv u bs.length) :: jy 1 args,h:=phs o }) : di P f (.c (.s bs) :: args) R:=by
 subst hnt;have hrs' : fn.results.toList = rs:=by rw [hrs]
 subst hrs';refine ⟨⟨fn,hf,hname,by rw [hb];rfl⟩,λw o xs ho hs hx=>calls_of_wp hf hb ?_⟩;have hE : EOk ⟨P,Ty,w,⟨λc=>c < w.heap.size/\o.off c,λc=>c < w.heap.size/\o.off c,false,λ_=>True⟩⟩:=⟨hT,λw' hb=>trivial⟩;have hu : Rd w false o.off (xs.getD 0 undef) (.s bs):=hx 0 _ rfl;have hu0 : Rd w false (λc=>c < w.heap.size/\o.off c) (xs.getD 0 undef) (.s bs):=hu.map (λ_ _ _=>rfl) (λc hc hl=>⟨hl,hc⟩);obtain ⟨ua,uc,hlen⟩:=hu.slice_len;simp only [List.length_cons] at hs
 have e : ∀ q,q < xs.size->(xs ++ Array.replicate (fn.ntmps - xs.size) undef).getD q undef = xs.getD q undef:=λq hq=>by
  simp only [Array.getD_eq_getD_getElem?];rw [Array.getElem?_append_left hq]
 have hR:=zW ho (n:=fn.ntmps) (xs:=xs) (t:=(0,.cv (xs.getD 0 undef) bs.length) :: jy 1 args) (by omega) (λq=>by
  unfold aG
  split
  ·rename_i h0
   subst h0;rw [e 0 (by omega)];exact .cv _ _ ⟨ua,uc,hlen⟩
  ·rename_i h0
   rw [jx]
   split
   ·split
    ·rename_i v hv
     have hlt : q - 1 < args.length:=(List.getElem?_eq_some_iff.1 hv).1;rw [e q (by omega)];exact (hx q v (by rw [show q = q - 1 + 1 by omega];simpa using hv)).ph
    ·exact .any _
   ·exact .any _)
 refine wp_mono (bM hE c _ _ _ w hR (h w _ o _ hu0)) ?_
 rintro e a' w' ⟨st',hq,hR'⟩
 cases e with
 | normal=>exact pM hT ho hR' hq
 | ret=>exact pM hT ho hR' hq
 | _=>exact hq.elim
def oD (P : Program) (T : TypeId) (bs : List (List CD)) (f : Nat) (args : List VD) (R : RR->Prop) : Prop:=
 uq P f /\ ∀ (w : World) (o : dH) (b : Nat) (u : Value) (i h : Int) (xs : Array Value),o.at w -> o.off b -> 0 <= i -> i <= bs.length ->
  w.heap[b]? = some (.cells #[u,.int .i64 i,.int .i64 h] T (0,0)) -> Rd w false (λc => c ≠ b /\ o.off c) u (.s bs) ->
  xs.size = args.length + 1 -> xs.getD 0 undef = .pointer (some ⟨b,0,none⟩) -> (∀ j vd,args[j]? = some vd -> lF w (λc => c ≠ b /\ o.off c) (xs.getD (j + 1) undef) vd) ->
  Calls P f xs w λe w' => ∃ (v : Value) (rr : RR) (i' h' : Int),e = .returned v /\ R rr /\ 0 <= i' /\ i' <= bs.length /\ w'.heap[b]? = some (.cells #[u,.int .i64 i',.int .i64 h'] T (0,0)) /\
   BelowF (λc=>c < w.heap.size/\c≠b) w w'/\up w' (λc=>c≠b/\o.off c) v rr
theorem lF.map {w : World} {S S' : Nat->Prop} {v : Value} {d : VD} (h : lF w S v d) (hS : ∀ c,S c->S' c) : lF w S' v d:=by
 cases d with
 | c d=>exact Rd.map h (λ_ _ _=>rfl) (λc hc _=>hS c hc)
 | agg ds =>
   obtain ⟨xs,h1,h2,h3⟩:=h;exact ⟨xs,h1,h2,λj d hd=>(h3 j d hd).map (λ_ _ _=>rfl) (λc hc _=>hS c hc)⟩
theorem gc.toN {P : Program} {T : TypeId} {bs : List (List CD)} {f : Nat} {args : List VD} {R : RR->Prop} (hc : gc P T bs f args R) : oD P T bs f args R:=by
 refine ⟨hc.1,λw o b u i h xs o1 o2 a1 a2 a3 a4 a5 a6 a7=>(hc.2 w b u i h xs a1 a2 a3 (a4.map (λ_ _ _=>rfl) (λc hc _=>hc.1)) a5 a6 (λj vd hj=>(a7 j vd hj).map λc hc=>hc.1)).mono ?_⟩
 rintro e w' ⟨v,rr,i',h',rfl,h1,h2,h3,h4,h5,h6⟩
 exact ⟨v,rr,i',h',rfl,h1,h2,h3,h4,h5,h6.toN λc hc=>⟨by have:=cN a3;omega,pw o1 hc.1⟩⟩
theorem oD.mono {P : Program} {T : TypeId} {bs : List (List CD)} {f : Nat} {args : List VD} {R R' : RR->Prop} (hc : oD P T bs f args R) (hr : ∀ r,R r->R' r) : oD P T bs f args R':=by
 refine ⟨hc.1,λw o b u i h xs o1 o2 a1 a2 a3 a4 a5 a6 a7=>(hc.2 w o b u i h xs o1 o2 a1 a2 a3 a4 a5 a6 a7).mono ?_⟩
 rintro e w' ⟨v,rr,i',h',rfl,h1,h2,h3,h4,h5,h6⟩
 exact ⟨v,rr,i',h',rfl,hr _ h1,h2,h3,h4,h5,h6⟩
def tl (E : Env) (o : dH) (T : TypeId) (b : Nat) (u : Value) (n : Nat) (rs : List ResultVar) (R : RR->Prop) : Exit->ASt->Prop
 | .normal,st=>dB E st rs λl=>∃ rr,R rr/\nQ E st.h l rr/\gr st.h o/\s5 T b u n st.h
 | .ret,st=>dB E st rs λl=>∃ rr,R rr/\nQ E st.h l rr/\gr st.h o/\s5 T b u n st.h
 | _,_=>False
theorem I4 {args : List VD} {n : Nat} {T : TypeId} {bs : List (List CD)} (hn : args.length + 1<=n) {w : World} {o : dH} (ho : o.at w) {b : Nat} (hob : o.off b) {u : Value} {i hh : Int} {xs : Array Value}
 (hcell : w.heap[b]? = some (.cells #[u,.int .i64 i,.int .i64 hh] T (0,0))) (hu : Rd w false (λc=>c≠b/\o.off c) u (.s bs)) (hs : xs.size = args.length + 1) (hx0 : xs.getD 0 undef = .pointer (some ⟨b,0,none⟩))
 (hx : ∀ j vd,args[j]? = some vd->lF w (λc=>c≠b/\o.off c) (xs.getD (j + 1) undef) vd) :
 Rep w ⟨λc=>c < w.heap.size/\c≠b/\o.off c,λc=>c < w.heap.size/\c≠b/\o.off c,false,λ_=>True⟩ { n:=n,kb:=0,t:=(0,.p 0 b 0) :: jy 1 args,h:=(0,.vars b T (dv u bs.length i hh)) :: phs o } { tmps:=xs ++ Array.replicate (n - xs.size) undef,defers:=[] } w:=by
 obtain ⟨hrel,hm⟩:=BK ho ⟨λc=>c < w.heap.size/\c≠b/\o.off c,λc=>c < w.heap.size/\c≠b/\o.off c,false,λ_=>True⟩ (λc hc=>⟨λh=>hc h.2.2,λh=>hc h.2.2⟩);obtain ⟨ua,uc,hlen⟩:=hu.slice_len
 have hM : ∀ c,AH.M ((0,.vars b T (dv u bs.length i hh)) :: phs o) c->¬ (c≠b/\o.off c):=by
  intro c hc h;rcases gM.1 hc with h1 | ⟨k,-,hk⟩
  ·simp [AObj.blk] at h1;exact h.1 h1.symm
  ·exact (hm c).1 ⟨k,hk⟩ h.2
 have hget : ∀ k,AH.get ((0,.vars b T (dv u bs.length i hh)) :: phs o) k = if k = 0 then .vars b T (dv u bs.length i hh) else AH.get (phs o) k:=λk=>by rw [aI]
 refine ⟨rfl,by simp;omega,λq=>?_,⟨λ_ _=>False,λk=>?_,λk k' c hk hk'=>?_,λk c hk=>?_,λk c hc=>hc.elim,λk k' c hc=>hc.elim,λk c hc=>hc.elim⟩,BelowF.refl _ _,λc hc=>hc.elim (λh=>h.1) (λh=>h.1)⟩
 ·show VRel w _ (aG ((0,.p 0 b 0) :: jy 1 args) q) _
  have e : ∀ q,q < xs.size->(xs ++ Array.replicate (n - xs.size) undef).getD q undef = xs.getD q undef:=λq hq=>by
   simp only [Array.getD_eq_getD_getElem?];rw [Array.getElem?_append_left hq]
  unfold aG
  split
  ·rename_i h0
   subst h0;rw [e 0 (by omega),hx0];exact .p _ _ _
  ·rename_i h0
   rw [jx]
   split
   ·split
    ·rename_i v hv
     have hlt : q - 1 < args.length:=(List.getElem?_eq_some_iff.1 hv).1;rw [e q (by omega)];have:=hx (q - 1) v hv;rw [show q - 1 + 1 = q by omega] at this;exact lF.rel (this.map λc hc hm=>hM c hm hc)
    ·exact .any _
   ·exact .any _
 ·rw [hget]
  split
  ·refine ⟨_,hcell,rfl,λj av hj=>?_⟩
   match j,hj with
   | 0,hj=>cases hj;exact .cv _ _ ⟨ua,uc,hlen⟩
   | 1,hj=>cases hj;exact .v _ rfl
   | 2,hj=>cases hj;exact .v _ rfl
   | j + 3,hj=>cases hj
  ·exact BM ho _ _ k
 ·rw [hget] at hk hk'
  by_cases h1 : k = 0<;>by_cases h2 : k' = 0
  ·rw [h1,h2]
  ·rw [if_pos h1] at hk;rw [if_neg h2] at hk'
   simp [AObj.blk] at hk;exact absurd hob ((hm b).1 ⟨k',hk ▸ hk'⟩)
  ·rw [if_neg h1] at hk;rw [if_pos h2] at hk'
   simp [AObj.blk] at hk';exact absurd hob ((hm b).1 ⟨k,hk' ▸ hk⟩)
  ·rw [if_neg h1] at hk;rw [if_neg h2] at hk'
   exact BN ho.2 hk hk'
 ·have:=hM c ⟨k,hk⟩
  exact ⟨λh=>this h.2,λh=>this h.2⟩
theorem p9 {w : World} {M E : Nat->Prop} {b : Nat} {T : TypeId} {u : Value} {n : Nat} {i hh : Int} (ho : dr w M E (.vars b T (dv u n i hh))) : w.heap[b]? = some (.cells #[u,.int .i64 i,.int .i64 hh] T (0,0)):=by
 obtain ⟨cs,g1,g2,g3⟩:=ho;have c0:=g3 0 _ rfl;have c1:=g3 1 _ rfl;have c2:=g3 2 _ rfl;have hs3 : cs.size = 3:=g2;have e0 : cs.getD 0 undef = u:=by generalize cs.getD 0 undef = y at c0;cases c0;rfl
 have e1 : cs.getD 1 undef = .int .i64 i:=by generalize cs.getD 1 undef = y at c1;cases c1;rfl
 have e2 : cs.getD 2 undef = .int .i64 hh:=by generalize cs.getD 2 undef = y at c2;cases c2;rfl
 have : cs = #[u,.int .i64 i,.int .i64 hh]:=by
  refine Array.ext (by simp [hs3]) (λj h1 h2'=>?_);simp only [Array.getD_eq_getD_getElem?] at e0 e1 e2;rcases j with _ | _ | _ | j
  ·rw [Array.getElem?_eq_getElem h1] at e0;exact e0
  ·rw [Array.getElem?_eq_getElem h1] at e1;exact e1
  ·rw [Array.getElem?_eq_getElem h1] at e2;exact e2
  ·omega
 rw [g1,this]
theorem oD.intro {P : Program} {Ty : Nat → Option TI} (hT : ∀ t ti, Ty t = some ti → TIok P t ti) {f : Nat} {fn : Func} {c : Code} (hf : P.funcs[f]? = some fn) (hname : (fn.name == "runtime.NumGoroutine") = false) (hb : fn.body = some c)
 {n : Nat} {rs : List ResultVar} (hnt : fn.ntmps = n) (hrs : fn.results = ⟨rs⟩) {T : TypeId} {bs : List (List CD)} {args : List VD} {R : RR->Prop} (hn : args.length + 1<=n)
 (h : ∀ w0 base o b u i h,0<=i->i<=(bs.length : Int)->Rd w0 false base u (.s bs)->d9 ⟨P,Ty,w0,⟨base,base,false,λ_=>True⟩⟩ c (tl ⟨P,Ty,w0,⟨base,base,false,λ_=>True⟩⟩ o T b u bs.length rs R)
  { n:=n,kb:=0,t:=(0,.p 0 b 0) :: jy 1 args,h:=(0,.vars b T (dv u bs.length i h)) :: phs o }) : oD P T bs f args R:=by
 subst hnt;have hrs' : fn.results.toList = rs:=by rw [hrs]
 subst hrs';refine ⟨⟨fn,hf,hname,by rw [hb];rfl⟩,λw o b u i hh xs ho hob hi0 hi1 hcell hu hs hx0 hx=>calls_of_wp hf hb ?_⟩
 let F : Nat->Prop:=λc=>c < w.heap.size/\c≠b/\o.off c
 let bs0 : Bs:=⟨F,F,false,λ_=>True⟩
 have hE : EOk ⟨P,Ty,w,bs0⟩:=⟨hT,λw' hb=>trivial⟩;have hR:=I4 hn ho hob hcell hu hs hx0 hx;have hu0 : Rd w false F u (.s bs):=hu.map (λ_ _ _=>rfl) (λc hc hl=>⟨hl,hc⟩);refine wp_mono (bM hE c _ _ _ w hR (h w F o b u i hh hi0 hi1 hu0)) ?_
 rintro e a' w' ⟨st',hq,hR'⟩
 have key : (dB ⟨P,Ty,w,bs0⟩ st' fn.results.toList λl => ∃ rr,R rr /\ nQ ⟨P,Ty,w,bs0⟩ st'.h l rr /\ gr st'.h o /\ s5 T b u bs.length st'.h) -> a'.defers = [] /\ ∃ v,(results fn a'.tmps).run P w' = .ok v w' /\ ∃ (v' : Value) (rr : RR) (i' h' : Int),Ending.returned v = .returned v' /\ R rr /\ 0 <= i' /\ i' <= bs.length /\ w'.heap[b]? = some (.cells #[u,.int .i64 i',.int .i64 h'] T (0,0)) /\
  BelowF (λc=>c < w.heap.size/\c≠b) w w'/\up w' (λc=>c≠b/\o.off c) v' rr:=by
  intro hq;obtain ⟨vs,l,h1,h2,h3,rr,hRR,h4,htl,i',h'',hg,k1,k2⟩:=dA hE hR' fn.results.toList hq;obtain ⟨Es,hH⟩:=hR'.heap;have hb0 : (st'.h.get 0).blk = some b:=by rw [hg];rfl
  have hobj:=hH.obj 0;rw [hg] at hobj
  refine ⟨hR'.dfr,_,vR h1,_,rr,i',h'',rfl,hRR,k1,k2,p9 hobj,⟨hR'.below.os,hR'.below.tape,hR'.below.output,hR'.below.size,λc hc=>?_⟩,
   yn (E:=⟨P,Ty,w,bs0⟩) hH (S:=λc=>c≠b/\o.off c) (λc hc=>⟨λhe=>hc (he ▸ ⟨0,hb0⟩),Classical.byContradiction λh=>?_⟩) (λk b' o' C sz rows own hgk=>⟨λhe=>?_,Classical.byContradiction λh=>?_⟩) (λv d hd=>?_) h2 h3 h4⟩
  ·by_cases h : o.off c
   ·exact hR'.below.block c ⟨hc.1,hc.2,h⟩
   ·exact (mQ hH ho htl h).1
  ·obtain ⟨-,k,-,hk,-⟩:=mQ hH ho htl h
   exact hc ⟨k,hk⟩
  ·have:=hH.inj k 0 b (by rw [hgk,<- he];rfl) hb0
   subst this;rw [hg] at hgk;cases hgk
  ·obtain ⟨-,k',-,hk,b,T,l,he⟩:=mQ hH ho htl h
   have:=hH.inj k k' b' (by rw [hgk];rfl) hk;subst this;rw [hgk] at he;cases he
  ·exact Rd.map hd (λc hc _=>hR'.below.block c hc) (λc hc _=>hc.2)
 cases e with
 | normal=>exact key hq
 | ret=>exact key hq
 | _=>exact hq.elim
theorem bN {E : Env} {T : TypeId} {bs : List (List CD)} {f : Nat} {args : List VD} {R : RR->Prop} (hc : oD E.P T bs f args R) {kc b n : Nat} {u : Value} {i hh : Int} {avs : List AV} {st : ASt} {dst : Option Nat} {K : ASt->Prop}
 (hu : E.rd u (.s bs)) (hn : bs.length = n) (hget : st.h.get kc = .vars b T (dv u n i hh)) (hi0 : 0<=i) (hi1 : i<=(n : Int)) (hin : kK E.rd [] avs args)
 (hout : ∀ rr i' h',R rr->0<=i'->i'<=(n : Int)->aV { st with h:=(kc,.vars b T (dv u n i' h')) :: st.h } dst (roR rr) K) : aa E f (.p kc b 0 :: avs) st dst K:=by
 subst hn;refine ⟨hc.1,λa w hR xs hs hx=>?_⟩;obtain ⟨Es,hH⟩:=hR.heap;have hblk : (st.h.get kc).blk = some b:=by rw [hget];rfl
 have hMb : st.h.M b:=⟨kc,hblk⟩;obtain ⟨o,ho,hoff⟩:=xw hH (λc=>c≠b);have hob : o.off b:=(hoff b).2 (λh=>h.2 rfl);have hM0 : ∀ c,¬ st.h.M c->c≠b/\o.off c:=λc hc=>⟨λhe=>hc (he ▸ hMb),(hoff c).2 (λh=>hc h.1)⟩
 have hM1 : ∀ c,c≠b/\o.off c->¬ st.h.M c:=λc hc hm=>(hoff c).1 hc.2 ⟨hm,hc.1⟩
 have g1 : w.heap[b]? = _:=p9 (by have:=hH.obj kc;rw [hget] at this;exact this);have hur : Rd w false (λc=>c≠b/\o.off c) u (.s bs):=Rd.map hu (λb hb _=>hR.below.block b hb) (λc hc _=>hM0 c (λ⟨k,hk⟩=>(hH.low k c hk).1 hc));obtain ⟨hl,hr⟩:=yf hR hH hM0 avs args (us:=λj=>xs.getD (j + 1) undef) (λj av hj=>hx (j + 1) av (by simpa using hj)) hin
 have hx0 : xs.getD 0 undef = .pointer (some ⟨b,0,none⟩):=by
  have:=hx 0 _ rfl;generalize xs.getD 0 undef = y at this
  cases this;rfl
 refine (hc.2 w o b u i hh xs ho hob hi0 hi1 g1 hur (by simp at hs;omega) hx0 hr).mono ?_
 rintro e w' ⟨v,rr,i',h',rfl,hRR,k1,k2,hcell,hb,hrr⟩
 have fr : ∀ c,c < w.heap.size->c≠b->w'.heap[c]? = w.heap[c]?:=λc h1 h2=>hb.block c ⟨h1,h2⟩
 obtain ⟨ua,uc,hlen⟩:=Rd.slice_len hu
 have H':=hH.upd (k:=kc) (o':=.vars b T (dv u bs.length i' h')) (Ek:=λ_=>False) hb.size (λc hlt hc=>fr c hlt (λhe=>by
  subst he;rcases hc with hc | ⟨j,hj,hjb⟩
  ·exact hc hMb
  ·exact hj (hH.inj _ _ _ hjb hblk))) (λc hc=>by
  simp [AObj.blk] at hc;subst hc;exact ⟨hH.low kc b hblk,.inr hblk⟩) ⟨_,hcell,rfl,λj av hj=>by
  match j,hj with
  | 0,hj=>cases hj;exact .cv _ _ ⟨ua,uc,hlen⟩
  | 1,hj=>cases hj;exact .v _ rfl
  | 2,hj=>cases hj;exact .v _ rfl
  | j + 3,hj=>cases hj⟩ (λ_ hc=>hc.elim)
 have t : Tr st.h.M w (AH.M ((kc,.vars b T (dv u bs.length i' h')) :: st.h)) w':=
  Tr.upd hH hb.size (λc hlt hm=>fr c hlt (λhe=>hm (he ▸ hMb))) (λc hc=>by simp [AObj.blk] at hc;subst hc;exact .inr hblk)
 have hM' : ∀ c,AH.M ((kc,.vars b T (dv u bs.length i' h')) :: st.h) c->st.h.M c:=by
  intro c hm;rcases gM.1 hm with h1 | ⟨j,_,hj⟩
  ·simp [AObj.blk] at h1;exact h1 ▸ hMb
  ·exact ⟨j,hj⟩
 obtain ⟨av',h3,h1,h2,h4,h5⟩:=(hR.move H' t ⟨hb.os,hb.tape,hb.output⟩).put (up.rel hrr (λc hc hm=>hM1 c hc (hM' c hm))) (hout rr i' h' hRR k1 k2);exact ⟨v,av',h3,rfl,h1,h2,h4,h5⟩
def Hn (P : Program) (T : TypeId) (bs : List (List CD)) (f : Nat) : Prop:=
 uq P f /\ ∀ (w : World) (u : Value) (xs : Array Value),Rd w false (λ_ => True) u (.s bs) -> xs.size = 1 -> xs.getD 0 undef = u ->
  Calls P f xs w λe w'=>∃ (b : Nat) (h : Int),e = .returned (.pointer (some ⟨b,0,none⟩))/\w.heap.size<=b/\Below w.heap.size w w'/\w'.heap[b]? = some (.cells #[u,.int .i64 0,.int .i64 h] T (0,0))
def wY (E : Env) (T : TypeId) (u : Value) (n : Nat) (rs : List ResultVar) : Exit->ASt->Prop
 | .normal,st=>dB E st rs λl=>∃ k b h,l = [.p k b 0]/\st.h.get k = .vars b T (dv u n 0 h)
 | .ret,st=>dB E st rs λl=>∃ k b h,l = [.p k b 0]/\st.h.get k = .vars b T (dv u n 0 h)
 | _,_=>False
theorem Hn.intro {P : Program} {Ty : Nat → Option TI} (hT : ∀ t ti, Ty t = some ti → TIok P t ti) {f : Nat} {fn : Func} {c : Code} (hf : P.funcs[f]? = some fn) (hname : (fn.name == "runtime.NumGoroutine") = false) (hb : fn.body = some c)
 {n : Nat} {rs : List ResultVar} (hnt : fn.ntmps = n) (hrs : fn.results = ⟨rs⟩) {T : TypeId} {bs : List (List CD)} (hn : 1<=n)
 (h : ∀ w0 base u,Rd w0 false base u (.s bs)->d9 ⟨P,Ty,w0,⟨base,base,false,λ_=>True⟩⟩ c (wY ⟨P,Ty,w0,⟨base,base,false,λ_=>True⟩⟩ T u bs.length rs) { n:=n,kb:=0,t:=[(0,.cv u bs.length)],h:=[] }) : Hn P T bs f:=by
 subst hnt;have hrs' : fn.results.toList = rs:=by rw [hrs]
 subst hrs';refine ⟨⟨fn,hf,hname,by rw [hb];rfl⟩,λw u xs hu hs hx0=>calls_of_wp hf hb ?_⟩
 let F : Nat->Prop:=λc=>c < w.heap.size
 let B : Bs:=⟨F,F,false,λ_=>True⟩
 have hE : EOk ⟨P,Ty,w,B⟩:=⟨hT,λw' hb=>trivial⟩;have hu0 : Rd w false F u (.s bs):=hu.within.map (λ_ _ _=>rfl) (λc hc _=>hc.2);obtain ⟨ua,uc,hlen⟩:=hu.slice_len
 have hR : Rep w B { n:=fn.ntmps,kb:=0,t:=[(0,.cv u bs.length)],h:=[] } { tmps:=xs ++ Array.replicate (fn.ntmps - xs.size) undef,defers:=[] } w:=by
  refine ⟨rfl,by simp;omega,λq=>?_,⟨λ_ _=>False,λk=>trivial,λk k' b hk=>by simp [AH.get,AObj.blk] at hk,λk b hk=>by simp [AH.get,AObj.blk] at hk,λk c hc=>hc.elim,λk k' c hc=>hc.elim,λk c hc=>hc.elim⟩,BelowF.refl _ _,λb hb=>hb.elim id id⟩
  show VRel w (AH.M []) (aG [(0,.cv u bs.length)] q) _
  unfold aG
  split
  ·rename_i h0
   subst h0
   have : (xs ++ Array.replicate (fn.ntmps - xs.size) undef).getD 0 undef = xs.getD 0 undef:=by
    simp only [Array.getD_eq_getD_getElem?];rw [Array.getElem?_append_left (by omega)]
   rw [this,hx0];exact .cv _ _ ⟨ua,uc,hlen⟩
  ·exact .any _
 refine wp_mono (bM hE c _ _ _ w hR (h w F _ hu0)) ?_
 rintro e a' w' ⟨st',hq,hR'⟩
 have key : (dB ⟨P,Ty,w,B⟩ st' fn.results.toList λl=>∃ k b h,l = [.p k b 0]/\st'.h.get k = .vars b T (dv u bs.length 0 h))->a'.defers = []/\∃ v,(results fn a'.tmps).run P w' = .ok v w'/\∃ (b : Nat) (h : Int),Ending.returned v = .returned (.pointer (some ⟨b,0,none⟩))/\w.heap.size<=b/\Below w.heap.size w w'/\w'.heap[b]? = some (.cells #[u,.int .i64 0,.int .i64 h] T (0,0)):=by
  intro hq;obtain ⟨vs,l,h1,h2,h3,k,b,h',rfl,hg⟩:=dA hE hR' fn.results.toList hq;obtain ⟨Es,hH⟩:=hR'.heap
  have hv0 : vs.getD 0 undef = .pointer (some ⟨b,0,none⟩):=by
   have:=h3 0 _ rfl;generalize vs.getD 0 undef = y at this
   cases this;rfl
  have ho:=hH.obj k;rw [hg] at ho;refine ⟨hR'.dfr,_,vR h1,b,h',by rw [if_pos (by simpa using h2),hv0],Nat.le_of_not_lt (hH.low k b (by rw [hg];rfl)).1,⟨hR'.below.os,hR'.below.tape,hR'.below.output,hR'.below.size,hR'.below.block⟩,p9 ho⟩
 cases e with
 | normal=>exact key hq
 | ret=>exact key hq
 | _=>exact hq.elim
theorem oE {E : Env} {T : TypeId} {bs : List (List CD)} {f : Nat} (hc : Hn E.P T bs f) {n : Nat} {u : Value} {st : ASt} {dst : Option Nat} {K : ASt->Prop}
 (hu : E.rd u (.s bs)) (hn : bs.length = n) (hout : ∀ b h,aV { st with h:=(st.key dst,.vars b T (dv u n 0 h)) :: st.h } dst (.p (st.key dst) b 0) K) : aa E f [.cv u n] st dst K:=by
 subst hn;refine ⟨hc.1,λa w hR xs hs hx=>?_⟩;obtain ⟨Es,hH⟩:=hR.heap
 have hx0 : xs.getD 0 undef = u:=by
  have:=hx 0 _ rfl;generalize xs.getD 0 undef = y at this
  cases this;rfl
 refine (hc.2 w u xs (hR.rd _ _ hu) (by simpa using hs) hx0).mono ?_
 rintro e w' ⟨b,h',rfl,hle,hb,hcell⟩
 obtain ⟨ua,uc,hlen⟩:=Rd.slice_len hu
 have H':=hH.upd (k:=st.key dst) (o':=.vars b T (dv u bs.length 0 h')) (Ek:=λ_=>False) hb.size (λc hlt _=>hb.block c hlt) (λc hc=>by
  simp [AObj.blk] at hc;subst hc;exact ⟨hR.newer hle,.inl hle⟩) ⟨_,hcell,rfl,λj av hj=>by
  match j,hj with
  | 0,hj=>cases hj;exact .cv _ _ ⟨ua,uc,hlen⟩
  | 1,hj=>cases hj;exact .v _ rfl
  | 2,hj=>cases hj;exact .v _ rfl
  | j + 3,hj=>cases hj⟩ (λ_ hc=>hc.elim)
 have t : Tr st.h.M w (AH.M ((st.key dst,.vars b T (dv u bs.length 0 h')) :: st.h)) w':=
  Tr.upd hH hb.size (λc hlt _=>hb.block c hlt) (λc hc=>by simp [AObj.blk] at hc;subst hc;exact .inl hle)
 obtain ⟨av',h3,h1,h2,h4,h5⟩:=(hR.move H' t ⟨hb.os,hb.tape,hb.output⟩).put (.p (st.key dst) b 0) (hout b h');exact ⟨_,av',h3,rfl,h1,h2,h4,h5⟩
theorem HD {W : dH} : wkH (phs W) (phs W) = True:=by rw [<- rq];exact B1
theorem Hz {W : dH} {h : AH} {j : Nat} {o : AObj} (hj : j < 1000000000) : wkH ((j,o) :: h) (phs W) = wkH h (phs W):=by rw [<- rq,<- rq];exact B0 hj
theorem MI {st : ASt} : st.ev (.const (.pointer none)) = .any:=(rfl)
theorem GU {E : Env} {o : dH} {rs : List ResultVar} {R : RR->Prop} {st : ASt} : tj E o rs R .normal st = dB E st rs λl=>∃ rr,R rr/\nQ E st.h l rr/\gr st.h o:=(rfl)
theorem GT {E : Env} {o : dH} {rs : List ResultVar} {R : RR->Prop} {st : ASt} : tj E o rs R .ret st = dB E st rs λl=>∃ rr,R rr/\nQ E st.h l rr/\gr st.h o:=(rfl)
theorem A6 {E : Env} {o : dH} {T : TypeId} {b : Nat} {u : Value} {n : Nat} {rs : List ResultVar} {R : RR->Prop} {st : ASt} : tl E o T b u n rs R .normal st = dB E st rs λl=>∃ rr,R rr/\nQ E st.h l rr/\gr st.h o/\s5 T b u n st.h:=(rfl)
theorem A5 {E : Env} {o : dH} {T : TypeId} {b : Nat} {u : Value} {n : Nat} {rs : List ResultVar} {R : RR->Prop} {st : ASt} : tl E o T b u n rs R .ret st = dB E st rs λl=>∃ rr,R rr/\nQ E st.h l rr/\gr st.h o/\s5 T b u n st.h:=(rfl)
theorem DO {E : Env} {T : TypeId} {u : Value} {n : Nat} {rs : List ResultVar} {st : ASt} : wY E T u n rs .normal st = dB E st rs λl=>∃ k b h,l = [.p k b 0]/\st.h.get k = .vars b T (dv u n 0 h):=(rfl)
theorem DN {E : Env} {T : TypeId} {u : Value} {n : Nat} {rs : List ResultVar} {st : ASt} : wY E T u n rs .ret st = dB E st rs λl=>∃ k b h,l = [.p k b 0]/\st.h.get k = .vars b T (dv u n 0 h):=(rfl)
theorem L3 {E : Env} {h : AH} {x : AV} {r : RV} : nQ E h [x] (.one r) = qw E.rd h x r:=(rfl)
theorem L1 {E : Env} {h : AH} {l : List AV} {rs : List RV} : nQ E h l (.tup rs) = (l.length≠1/\oa E.rd h l rs):=(rfl)
theorem Iq {R : Value->CD->Prop} {h : AH} {x : AV} {d : CD} {sz : Nat} : qw R h x (.c d sz) = aIn R h x d:=(rfl)
theorem CM {R : Value->CD->Prop} {h : AH} {l : List AV} {ts : List (CD × Nat)} : qw R h (.agg l) (.agg ts) = tE R h l (ts.map Prod.fst):=(rfl)
theorem Ag {R : Value->CD->Prop} {h : AH} : oa R h [] [] = True:=(rfl)
theorem yo {R : Value->CD->Prop} {h : AH} {x : AV} {l : List AV} {r : RV} {rs : List RV} : oa R h (x :: l) (r :: rs) = (qw R h x r/\oa R h l rs):=(rfl)
theorem OW {d : CD} {sz : Nat} : roV (.c d sz) = toAV d:=(rfl)
theorem HV {ts : List (CD × Nat)} : roV (.agg ts) = .agg (ts.map λt=>toAV t.1):=(rfl)
theorem HY {r : RV} : roR (.one r) = roV r:=(rfl)
theorem HW {l : List RV} : roR (.tup l) = .tup (l.map roV):=(rfl)
attribute [simp ↓] MI GU GT A6 A5 DO DN
attribute [simp] L3 L1 Iq CM Ag yo OW HV HY HW HD Hz Cl tail_cons B1 B0 If
end Go.AM
namespace Go.Proofs.YtoldjebobgocpaaGreat
open Go.AM
set_option maxRecDepth 20000
set_option maxHeartbeats 6400000
theorem Fj {w : Wld} (hm : ¬ d8 w = 0) {p : Nat} (hp : p < d8 w) : stepTo w (bR w p)/\∃ k,uR w (bR w p) k:=by
 obtain ⟨wok,hs1⟩:=mV hm;by_cases ha : p < (bZ w).length
 ·obtain ⟨k,hk,hke,hky⟩:=nk ha
  have ey : bR w p = (d5 w k).1:=by unfold bR;rw [List.getElem?_eq_getElem ha];simp only [hke]
  rw [ey];exact ⟨.pick hky,k,Gy hky⟩
 have hs : p - (bZ w).length < (bC w).length:=by unfold d8 at hp;omega
 have ey : bR w p = (cO w (bC w)[p - (bZ w).length]).1:=by unfold bR;rw [List.getElem?_eq_none (by omega),List.getElem?_eq_getElem hs]
 obtain ⟨q,hq,hqe⟩:=mM hs;obtain ⟨k,hk,rest,hql,-⟩:=dw wok hq;have hy : (cO w (bC w)[p - (bZ w).length]).2 = true:=by rw [ft wok hs1 hq hqe hk hql]
 rw [ey];exact ⟨.serve hy,Dx hy⟩
theorem CI {w w' : Wld} {k : Nat} (h : uR w w' k) : w'.tasks.length = w.tasks.length:=by
 obtain ⟨_,t,e,-⟩:=h;rw [e,List.length_set]
theorem B9 {h : Hub} (hh : ak h) (picks : List Int) : ∀ (f n i : Nat) (w : Wld),Reach h i w -> dN w < f ->
 ∃ (e : Wld) (m : Nat),jm picks f n w = (e,((n + m : Nat) : Int))/\Reach h (i + m) e/\d8 e = 0/\dN e + m<=dN w/\e.tasks.length = w.tasks.length
 | 0, n, i, w, r, hf => by
   have:=oV w.tasks;unfold dN at hf
   split at hf<;>omega
 | f + 1, n, i, w, r, hf => by
   by_cases hm : d8 w = 0
   ·exact ⟨w,0,by rw [oi hm];rfl,r,hm,by omega,rfl⟩
   ·rw [pW hm]
    have hp:=pL picks n (show 0 < d8 w by omega);obtain ⟨s,k,hon⟩:=Fj hm hp;have hl:=CZ (mV hm).1 hon;obtain ⟨e,m,h1,h2,h3,h4,h5⟩:=B9 hh picks f (n + 1) (i + 1) _ (.step r s) (by omega);refine ⟨e,m + 1,?_,?_,h3,by omega,by rw [h5,CI hon]⟩
    ·rw [h1];congr 2;omega
    ·rw [show i + (m + 1) = i + 1 + m by omega];exact h2
theorem AQ {h : Hub} (hh : ak h) {i : Nat} (hi : i<=1024) {w : Wld} (r : Reach h i w) (picks : List Int) :
 ∃ (e : Wld) (m : Nat),iV w picks = (e,(m : Int))/\Reach h (i + m) e/\d8 e = 0/\(m : Int)<=dN w/\m<=40/\e.tasks.length = w.tasks.length/\ar e/\(∀ t∈e.tasks,t.pc = 4)/\¬ e.step = 1000000:=by
 obtain ⟨wok,ws,wt⟩:=kw hh r;have hb:=oV w.tasks;have hlen:=wok.2.2.2.1
 have hl : dN w<=40:=by
  unfold dN
  split<;>omega
 obtain ⟨e,m,h1,h2,h3,h4,h5⟩:=B9 hh picks 1000001 0 i w r (by omega)
 have h0 : 0<=dN e:=by
  have:=oV e.tasks;unfold dN
  split<;>omega
 obtain ⟨eok,es,-⟩:=kw hh h2;have hst : ¬ e.step = 1000000:=by omega
 refine ⟨e,m,?_,h2,h3,by omega,by omega,h5,eok,(Fh eok hst).1 h3,hst⟩;unfold iV;rw [h1,Nat.zero_add]
noncomputable def cD : Hub->List Call->Hub × List Answer
 | h,[]=>(h,[])
 | h,c :: l=>((cD (fDo h c).1 l).1,(fDo h c).2 :: (cD (fDo h c).1 l).2)
theorem jM : ∀ (l : List Call) (h : Hub) (c : Call),cD h (l ++ [c]) = ((fDo (cD h l).1 c).1,(cD h l).2 ++ [(fDo (cD h l).1 c).2])
 | [],h,c=>rfl
 | a :: l, h, c => by
   simp only [List.cons_append,cD,jM l (fDo h a).1 c]
theorem ol : ∀ (l : List Call) (h : Hub),(cD h l).2.length = l.length
 | [],_=>rfl
 | a :: l,h=>by simp only [cD,List.length_cons,ol l]
theorem sP {B : Nat} (hB : 2 ^ 28<=B) : ∀ (l : List Call) (h : Hub),bW h<=B->bW (cD h l).1<=B/\∀ a∈(cD h l).2,dD a<=2 ^ 24
 | [],h,hl=>⟨hl,λa ha=>by cases ha⟩
 | c :: l, h, hl => by
   have h1:=JK h c;have h2:=sP hB l (fDo h c).1 (by omega);refine ⟨h2.1,λa ha=>?_⟩;rcases List.mem_cons.1 ha with rfl | ha
   ·exact h1.2
   ·exact h2.2 a ha
def lP (w0 : Wld) (c : Call) (k : Nat) (y : Wld) : Prop := ar y /\ y.tasks.length = k + 1 /\ (∀ j,j < k -> y.tasks[j]? = w0.tasks[j]?) /\ (∀ j,j < k -> ∀ t,y.tasks[j]? = some t -> t.pc = 4) /\
 ∃ t,y.tasks[k]? = some t/\t.c = c/\(t.pc<=2->y.h = w0.h)/\(3<=t.pc->y.h = (fDo w0.h c).1/\t.a = (fDo w0.h c).2)
theorem kD {w0 : Wld} {c : Call} {k : Nat} {y : Wld} (h : lP w0 c k y) {y' : Wld} (ok : ar y') {t : Task} (ht : y'.tasks = y.tasks.set k t) (hc : t.c = c) (h2 : t.pc<=2->y'.h = w0.h) (h3 : 3<=t.pc->y'.h = (fDo w0.h c).1/\t.a = (fDo w0.h c).2) : lP w0 c k y':=by
 obtain ⟨-,hl,ho,hd,-⟩:=h;refine ⟨ok,by rw [ht,List.length_set];exact hl,λj hj=>?_,λj hj x hx=>?_,t,?_,hc,h2,h3⟩
 ·rw [ht,List.getElem?_set_ne (by omega)];exact ho j hj
 ·rw [ht,List.getElem?_set_ne (by omega)] at hx;exact hd j hj x hx
 ·rw [ht,List.getElem?_set_self (by omega)]
theorem se {w0 : Wld} {c : Call} {k : Nat} {y : Wld} (h : lP w0 c k y) {j : Nat} (hj : j < y.tasks.length) (hn : ¬ y.tasks[j].pc = 4) : j = k:=by
 obtain ⟨-,hl,-,hd,-⟩:=h;refine Classical.byContradiction λe=>hn ?_
 exact hd j (by omega) _ (List.getElem?_eq_getElem hj)
theorem Ai {w0 : Wld} {c : Call} {k : Nat} {y : Wld} (h : lP w0 c k y) {name : ByteArray} (hy : (cO y name).2 = true) : lP w0 c k (cO y name).1:=by
 have ok:=vf hy;obtain ⟨cy,s,j,hj,e⟩:=xL hy;obtain ⟨q,hq,rest,hl,-⟩:=dw cy hj;have hd:=(gT (cS.1 cy) hj hq hl).1;rw [ft cy s hj e hq hl] at ok ⊢;have e1:=se h hq (by omega);subst e1;obtain ⟨-,-,-,-,t,ht,hc,h2,-⟩:=id h;rw [List.getElem?_eq_getElem hq] at ht
 injection ht with ht
 rw [ht] at hd ok ⊢;refine kD h ok (t:=⟨t.c,3,t.inv,y.step,t.rs,(fDo y.h t.c).2⟩) rfl hc (λh'=>by simp at h') (λ_=>?_);have hh:=h2 (by omega)
 show (fDo y.h t.c).1 = _/\(fDo y.h t.c).2 = _
 rw [hh,hc];exact ⟨rfl,rfl⟩
theorem CS {w0 : Wld} {c : Call} {k : Nat} {y : Wld} (h : lP w0 c k y) {i : Nat} (hy : (d5 y i).2 = true) : lP w0 c k (d5 y i).1:=by
 have ok:=y0 hy;have c0 : ar y/\¬ y.step = 1000000/\(0<=(i : Int)/\(i : Int)<=(y.tasks.length : Int) - 1):=Classical.byContradiction λc=>by rw [ix c] at hy;simp at hy
 obtain ⟨cy,s,-,hi⟩:=c0;have hk : i < y.tasks.length:=by omega
 have hab:=(f3 cy s hk).1 hy;have e1:=se h hk hab.2.2;subst e1;rw [jp cy s hk] at hy ok ⊢;obtain ⟨-,-,-,-,t,ht,hc,h2,h3⟩:=id h;rw [List.getElem?_eq_getElem hk] at ht
 injection ht with ht
 have htk:=cy.1 _ (List.getElem_mem hk)
 have hone : ∀ q,∀ hq : q < y.tasks.length,y.tasks[q].pc = 2->t.pc = 2:=λq hq hp=>by
  have:=se h hq (by omega);subst this;rw [<- ht];exact hp
 rw [ht] at hab hy ok htk ⊢;by_cases p0 : t.pc = 0
 ·by_cases d : aM t.c.kind
  ·rw [fg p0 d (hab.1 ⟨p0,d⟩)] at ok ⊢
   exact kD h ok (t:=⟨t.c,1,t.inv,t.lin,t.rs,t.a⟩) rfl hc (λ_=>h2 (by omega)) (λh'=>by simp at h')
  ·rw [fh p0 d] at ok ⊢
   refine kD h ok (t:=⟨t.c,3,t.inv,y.step,t.rs,(fDo y.h t.c).2⟩) rfl hc (λh'=>by simp at h') (λ_=>?_)
   show (fDo y.h t.c).1 = _/\(fDo y.h t.c).2 = _
   rw [h2 (by omega),hc];exact ⟨rfl,rfl⟩
 by_cases p1 : t.pc = 1
 ·rw [d4 p1] at ok ⊢
  by_cases q : ¬ t.c.kind = 2\/y.h.shut = true\/az y.h.docs t.c.doc < 0
  ·rw [gJ q] at ok ⊢
   refine kD h ok (t:=⟨t.c,3,t.inv,y.step,t.rs,(fDo y.h t.c).2⟩) rfl hc (λh'=>by simp at h') (λ_=>?_)
   show (fDo y.h t.c).1 = _/\(fDo y.h t.c).2 = _
   rw [h2 (by omega),hc];exact ⟨rfl,rfl⟩
  rcases cz y.queues t.c.doc with ⟨j,hj,eq,-⟩ | eq
  ·exfalso
   obtain ⟨z,hz,rest,hl,-⟩:=dw cy hj;have:=hone z hz (gT (cS.1 cy) hj hz hl).1;omega
  ·rw [iA q eq] at ok ⊢
   exact kD h ok (t:=⟨t.c,2,t.inv,t.lin,t.rs,t.a⟩) rfl hc (λ_=>h2 (by omega)) (λh'=>by simp at h')
 have p3 : t.pc = 3:=by
  have h1:=htk.2.2.1;have h2:=hab.2;omega
 rw [ff p3] at ok ⊢;exact kD h ok (t:=⟨t.c,4,t.inv,t.lin,y.step,t.a⟩) rfl hc (λh'=>by simp at h') (λ_=>h3 (by omega))
theorem B8 {K : Wld->Prop} (hK : ∀ y p,K y->¬ d8 y = 0->p < d8 y->K (bR y p)) (picks : List Int) : ∀ (f n : Nat) (w : Wld),K w->K (jm picks f n w).1
 | 0,_,_,h=>h
 | f + 1, n, w, h => by
   by_cases hm : d8 w = 0
   ·rw [oi hm];exact h
   ·rw [pW hm]
    exact B8 hK picks f (n + 1) _ (hK _ _ h hm (pL picks n (by omega)))
theorem CQ {w0 : Wld} {c : Call} {k : Nat} (y : Wld) (p : Nat) (h : lP w0 c k y) (hm : ¬ d8 y = 0) (hp : p < d8 y) : lP w0 c k (bR y p):=by
 obtain ⟨wok,hs1⟩:=mV hm;by_cases ha : p < (bZ y).length
 ·obtain ⟨i,hi,hie,hiy⟩:=nk ha
  have ey : bR y p = (d5 y i).1:=by unfold bR;rw [List.getElem?_eq_getElem ha];simp only [hie]
  rw [ey];exact CS h hiy
 have hs : p - (bZ y).length < (bC y).length:=by unfold d8 at hp;omega
 have ey : bR y p = (cO y (bC y)[p - (bZ y).length]).1:=by unfold bR;rw [List.getElem?_eq_none (by omega),List.getElem?_eq_getElem hs]
 obtain ⟨q,hq,hqe⟩:=mM hs;obtain ⟨i,hi,rest,hql,-⟩:=dw wok hq;have hy : (cO y (bC y)[p - (bZ y).length]).2 = true:=by rw [ft wok hs1 hq hqe hi hql]
 rw [ey];exact Ai h hy
def xa (h : Hub) (_n : Int) (L : List Call) (i : Nat) (w : Wld) : Prop:=i<=L.length/\Reach h (41 * i) w/\w.tasks.length = i/\(∀ t∈w.tasks,t.pc = 4)/\w.h = (cD h (L.take i)).1/\w.tasks.map (·.a) = (cD h (L.take i)).2
theorem A8 {h : Hub} {n : Int} {L : List Call} (hn : ak h/\(1<=n/\n<=4)) : xa h n L 0 (dM h n).1:=by
 have hy : (dM h n).2 = true:=by rw [fJ hn]
 refine ⟨by omega,.new hy,?_,?_,?_,?_⟩<;>rw [fJ hn]<;>simp [cD]
theorem A9 {h : Hub} (hh : ak h) {n : Int} {L : List Call} (hL : L.length<=9) (hc : ∀ c∈L,be c) {i : Nat} {w : Wld} (a : xa h n L i w) (hi : i < L.length) :
 (d6 w L[i]).2 = true/\Reach h (41 * i + 1) (d6 w L[i]).1/\xa h n L (i + 1) (iV (d6 w L[i]).1 []).1:=by
 obtain ⟨a0,a1,a2,a3,a4,a5⟩:=a;obtain ⟨wok,ws,-⟩:=kw hh a1;have hci:=hc _ (List.getElem_mem hi)
 have e : d6 w L[i] = (⟨w.h,w.locks,w.queues,w.tasks ++ [cA L[i] w.step],w.step + 1⟩,true):=by
  unfold d6;rw [if_pos ⟨⟨wok,hci⟩,by omega,by omega⟩]
 have hy : (d6 w L[i]).2 = true:=by rw [e]
 have r1 : Reach h (41 * i + 1) (d6 w L[i]).1:=.step a1 (.come hy);refine ⟨hy,r1,?_⟩;have xok:=(kw hh r1).1;obtain ⟨z,m,e1,e2,-,-,e3,e4,e5,e6,-⟩:=AQ hh (by omega) r1 []
 have hl : lP w L[i] i (d6 w L[i]).1:=by
  rw [e] at xok ⊢;refine ⟨xok,by simp [a2],λj hj=>?_,λj hj t ht=>?_,cA L[i] w.step,?_,rfl,λ_=>rfl,λh'=>by simp [cA] at h'⟩
  ·show (w.tasks ++ _)[j]? = _
   rw [List.getElem?_append_left (by omega)]
  ·have ht : (w.tasks ++ [cA L[i] w.step])[j]? = some t:=ht
   rw [List.getElem?_append_left (by omega)] at ht;exact a3 t (List.mem_of_getElem? ht)
  ·show (w.tasks ++ _)[i]? = _
   rw [List.getElem?_append_right (by omega),a2];simp
 have hz : lP w L[i] i z:=by
  have:=B8 (K:=lP w L[i] i) (λy p=>CQ y p) [] 1000001 0 _ hl
  have e7 : (jm [] 1000001 0 (d6 w L[i]).1).1 = z:=by
   have : iV (d6 w L[i]).1 [] = (z,(m : Int)):=e1;unfold iV at this;rw [this]
  rw [e7] at this;exact this
 rw [e1];obtain ⟨-,z2,z3,-,t,z5,z6,-,z7⟩:=hz;have tk:=List.mem_of_getElem? z5;obtain ⟨z8,z9⟩:=z7 (by have:=e6 t tk;omega);have et : L.take (i + 1) = L.take i ++ [L[i]]:=by rw [List.take_append_getElem hi]
 refine ⟨by omega,xV e2 (by omega),z2,e6,?_,?_⟩
 ·rw [et,jM,z8,a4]
 ·rw [et,jM,<- a4,<- a5]
  apply List.ext_getElem?
  intro j;rw [List.getElem?_map];by_cases hj : j < i
  ·rw [z3 j hj,List.getElem?_append_left (by rw [List.length_map];omega),List.getElem?_map]
  ·by_cases hj2 : j = i
   ·subst hj2
    rw [z5,List.getElem?_append_right (by rw [List.length_map];omega),List.length_map,a2];simp [z9]
   ·rw [List.getElem?_eq_none (l:=z.tasks) (by omega),List.getElem?_eq_none (by rw [List.length_append,List.length_map,List.length_singleton];omega)]
    rfl
end Go.Proofs.YtoldjebobgocpaaGreat
