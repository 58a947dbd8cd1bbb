import Derived.Test.YtoldjebobgocpaaPF
import Derived.Test.YtoldjebobgocpaaME
import Derived.Test.YtoldjebobgocpaaPG
namespace Go.AM
open Go.RowKit
def rb (w : World) (S : Nat->Prop) (v : Value) : RV->Prop
 | .c d _=>Rd w false S v d
 | .agg ts=>∃ xs : Array Value,v = .agg xs/\xs.size = ts.length/\∀ j t,ts[j]? = some t->Rd w false S (xs.getD j undef) t.1
def oK (w : World) (S : Nat->Prop) (v : Value) : RR->Prop
 | .one r=>rb w S v r
 | .tup l=>∃ xs : Array Value,v = .tuple xs/\xs.size = l.length/\∀ j t,l[j]? = some t->rb w S (xs.getD j undef) t
theorem ja.toN {w : World} {S S' : Nat->Prop} {v : Value} {r : RV} (h : ja w S v r) (hS : ∀ c,S c->S' c) : rb w S' v r:=by
 cases r with
 | c d sz=>exact (eI.rd h).weaken.map (λ_ _ _=>rfl) (λc hc _=>hS c hc)
 | agg ts=>
   obtain ⟨xs,F,h1,h2,h3,h4,h5⟩:=h;exact ⟨xs,h1,h2,λj t hj=>(eI.rd (h5 j t hj)).weaken.map (λ_ _ _=>rfl) (λc hc _=>hS c (h3 j c hc))⟩
theorem oJ.toN {w : World} {S S' : Nat->Prop} {v : Value} {r : RR} (h : oJ w S v r) (hS : ∀ c,S c->S' c) : oK w S' v r:=by
 cases r with
 | one r=>exact ja.toN h hS
 | tup l=>
   obtain ⟨xs,F,h1,h2,h3,h4,h5⟩:=h;exact ⟨xs,h1,h2,λj t hj=>ja.toN (h5 j t hj) (λc hc=>hS c (h3 j c hc))⟩
theorem rb.rel {w : World} {M S : Nat->Prop} {v : Value} {r : RV} (h : rb w S v r) (hM : ∀ c,S c->¬ M c) : VRel w M (roV r) v:=by
 cases r with
 | c d sz=>exact dS (Rd.map h (λ_ _ _=>rfl) (λc hc _=>hM c hc))
 | agg ts=>
   obtain ⟨xs,rfl,h2,h5⟩:=h;refine .agg _ _ (by simp [h2]) (λi av hi=>?_);simp only [List.getElem?_map,Option.map_eq_some_iff] at hi;obtain ⟨t,ht,rfl⟩:=hi;exact dS ((h5 i t ht).map (λ_ _ _=>rfl) (λc hc _=>hM c hc))
theorem oK.rel {w : World} {M S : Nat->Prop} {v : Value} {r : RR} (h : oK w S v r) (hM : ∀ c,S c->¬ M c) : VRel w M (roR r) v:=by
 cases r with
 | one r=>exact rb.rel h hM
 | tup l=>
   obtain ⟨xs,rfl,h2,h5⟩:=h;refine .tup _ _ (by simp [h2]) (λi av hi=>?_);simp only [List.getElem?_map,Option.map_eq_some_iff] at hi;obtain ⟨t,ht,rfl⟩:=hi;exact rb.rel (h5 i t ht) hM
theorem aa.ro {E : Env} {f : Nat} {args : List VD} {rr : RR} (hc : aB E.P f args rr) {avs : List AV} {st : ASt} {dst : Option Nat} {K : ASt->Prop} (hin : gl E.rd st.h avs args)
 (hout : aF st dst (roR rr) K) : aa E f avs st dst K:=by
 refine ⟨hc.1,λa w hR xs hs hx=>?_⟩;obtain ⟨Es,hH⟩:=hR.heap;obtain ⟨hl,hr⟩:=gk hH hR.rd avs args hx hin;refine (hc.2 w trivial xs (by omega) hr).mono ?_
 rintro e w' ⟨v,rfl,hb,hrr⟩
 have t : Tr st.h.M w st.h.M w':=⟨hb.size,λb hlt _=>hb.block b hlt,λb _ h=>h⟩;have H' : HRel E.base st.h w' Es:=⟨λk=>(hH.obj k).tr t (λb hk=>hb.block b (hH.lt hk)) (λc hc _=>hc),hH.inj,hH.low,λk c hc=>⟨(hH.elow k c hc).1,Nat.lt_of_lt_of_le (hH.elow k c hc).2 hb.size⟩,hH.einj,hH.em⟩;have hv : VRel w' st.h.M (roR rr) v:=uV hrr (λc hc ⟨k,hk⟩=>by have:=hH.lt hk;omega);obtain ⟨av',h3,h1,h2,h4,h5⟩:=(hR.move H' t ⟨hb.os,hb.tape,hb.output⟩).put hv hout;exact ⟨v,av',h3,rfl,h1,h2,h4,h5⟩
abbrev cJ:=List (Nat × Array Value × TypeId)
def cJ.at (W : cJ) (w : World) : Prop:=(∀ q∈W,w.heap[q.1]? = some (.cells q.2.1 q.2.2 (0,0)))/\(W.map (·.1)).Nodup
def cJ.off (W : cJ) (c : Nat) : Prop:=∀ q∈W,c≠q.1
def phO (q : Nat × Array Value × TypeId) : AObj:=.vars q.1 q.2.2 (q.2.1.toList.map .is)
def fp : Nat->cJ->AH
 | _,[]=>[]
 | i,q :: l=>(i,phO q) :: fp (i + 1) l
def phs (W : cJ) : AH:=fp 1000000000 W
theorem lH : ∀ (W : cJ) (i k : Nat),AH.get (fp i W) k = if i<=k then (match W[k - i]? with | some q=>phO q | none=>.dead) else .dead
 | [],i,k=>by simp [fp,AH.get]
 | q :: l,i,k=>by
   rw [fp,aA,lH l];by_cases h : k = i
   ·subst h;simp
   ·rw [if_neg h]
    by_cases h1 : i + 1<=k
    ·rw [if_pos h1,if_pos (by omega),show k - i = (k - (i + 1)) + 1 by omega];rfl
    ·rw [if_neg h1,if_neg (by omega)]
theorem mw (W : cJ) (k : Nat) : AH.get (phs W) k = if 1000000000<=k then (match W[k - 1000000000]? with | some q=>phO q | none=>.dead) else .dead:=lH W _ k
theorem Ad {W : cJ} {k : Nat} (h : k < 1000000000) : AH.get (phs W) k = .dead:=by rw [mw,if_neg (by omega)]
theorem p7 {W : cJ} {k c : Nat} (h : (AH.get (phs W) k).blk = some c) : 1000000000<=k/\∃ q,W[k - 1000000000]? = some q/\q.1 = c/\AH.get (phs W) k = phO q:=by
 rw [mw] at h ⊢
 split at h
 ·rename_i hk
  rw [if_pos hk]
  split at h
  ·rename_i q hq
   exact ⟨hk,q,hq,by simpa [phO,AObj.blk] using h,by simp [hq]⟩
  ·cases h
 ·cases h
theorem yb {W : cJ} {q : Nat × Array Value × TypeId} (h : q∈W) : ∃ k,1000000000<=k/\AH.get (phs W) k = phO q:=by
 obtain ⟨i,hi,rfl⟩:=List.getElem_of_mem h;exact ⟨1000000000 + i,by omega,by rw [mw,if_pos (by omega)];simp [hi]⟩
theorem uZ {W : cJ} (hn : (W.map (·.1)).Nodup) {k k' c : Nat} (h : (AH.get (phs W) k).blk = some c) (h' : (AH.get (phs W) k').blk = some c) : k = k':=by
 obtain ⟨h1,q,hq,rfl,-⟩:=p7 h;obtain ⟨h2,q',hq',e,-⟩:=p7 h';obtain ⟨hi,rfl⟩:=List.getElem?_eq_some_iff.1 hq;obtain ⟨hi',rfl⟩:=List.getElem?_eq_some_iff.1 hq';have:=(List.getElem_inj (xs:=W.map (·.1)) (i:=k' - 1000000000) (j:=k - 1000000000) (h₀:=by simpa using hi') (h₁:=by simpa using hi) hn).1 (by simpa using e);omega
def eg (h : AH) (W : cJ) : Prop:=∀ k,1000000000<=k->AH.get h k = AH.get (phs W) k
theorem vE {W : cJ} : eg (phs W) W = True:=eq_true λ_ _=>rfl
theorem tail_cons {W : cJ} {h : AH} {j : Nat} {o : AObj} (hj : j < 1000000000) : eg ((j,o) :: h) W = eg h W:=by
 have : ∀ k,1000000000<=k->AH.get ((j,o) :: h) k = AH.get h k:=λk hk=>by rw [aA,if_neg (by omega)]
 refine propext ⟨λht k hk=>by rw [<- this k hk];exact ht k hk,λht k hk=>by rw [this k hk];exact ht k hk⟩
theorem wN (a : AV) : ec a a:=by cases a<;>simp [ec]
theorem sJ : ∀ l : List AV,ALe l l
 | []=>trivial
 | a :: l=>⟨wN a,sJ l⟩
theorem tf (o : AObj) : cR o o:=by
 cases o with
 | vars b T cells=>exact ⟨rfl,rfl,sJ cells⟩
 | dead=>trivial
 | rows=>exact .inl rfl
 | lent=>exact rfl
 | part=>exact rfl
theorem iF : ∀ {W : cJ} {i : Nat} {p : Nat × AObj},p∈fp i W->i<=p.1/\AH.get (fp i W) p.1 = p.2
 | [],_,_,h=>by cases h
 | q :: l,i,p,h=>by
   rcases List.mem_cons.1 h with rfl | h
   ·exact ⟨Nat.le_refl _,by rw [fp,aA,if_pos rfl]⟩
   ·obtain ⟨h1,h2⟩:=iF h
    exact ⟨by omega,by rw [fp,aA,if_neg (by omega)];exact h2⟩
theorem vg {W : cJ} : (∀ p∈phs W,cR (AH.get (phs W) p.1) p.2) = True:=eq_true λp hp=>by
 have e : AH.get (phs W) p.1 = p.2:=(iF hp).2;rw [e];exact tf _
theorem vf {W : cJ} {h : AH} {j : Nat} {o : AObj} (hj : j < 1000000000) : (∀ p∈phs W,cR (AH.get ((j,o) :: h) p.1) p.2) = ∀ p∈phs W,cR (AH.get h p.1) p.2:=by
 have : ∀ p∈phs W,AH.get ((j,o) :: h) p.1 = AH.get h p.1:=λp hp=>by
  have:=(iF hp).1;rw [aA,if_neg (by omega)]
 refine propext ⟨λht p hp=>by rw [<- this p hp];exact ht p hp,λht p hp=>by rw [this p hp];exact ht p hp⟩
def ff (P : Program) (f : Nat) (args : List VD) (R : RR->Prop) : Prop:=
 oe P f /\ ∀ (w : World) (o : cJ) (xs : Array Value),o.at w -> xs.size = args.length -> (∀ i vd,args[i]? = some vd -> gC w o.off (xs.getD i undef) vd) ->
  Calls P f xs w λe w'=>∃ v rr,e = .returned v/\R rr/\Below w.heap.size w w'/\oK w' o.off v rr
theorem kV {o : cJ} {w : World} (h : o.at w) {c : Nat} (hc : w.heap.size<=c) : o.off c:=λq hq he=>by
 have:=cW (h.1 q hq);omega
theorem gC.toV {w : World} {S : Nat->Prop} {v : Value} {d : VD} (h : gC w S v d) : RdV w v d:=by
 cases d with
 | c d=>exact Rd.map h (λ_ _ _=>rfl) (λ_ _ _=>trivial)
 | agg ds=>
   obtain ⟨xs,h1,h2,h3⟩:=h;exact ⟨xs,h1,h2,λj d hd=>(h3 j d hd).map (λ_ _ _=>rfl) (λ_ _ _=>trivial)⟩
theorem aB.toN {P : Program} {f : Nat} {args : List VD} {rr : RR} (hc : aB P f args rr) : ff P f args (λr=>r = rr):=by
 refine ⟨hc.1,λw o xs ho hs hx=>(hc.2 w trivial xs hs (λi vd hi=>(hx i vd hi).toV)).mono ?_⟩
 rintro e w' ⟨v,rfl,hb,hr⟩
 exact ⟨v,rr,rfl,rfl,hb,hr.toN λc hc=>kV ho hc.1⟩
theorem xk {P : Program} {f : Nat} {args : List VD} {u : Value} (hu : plain u = true) (hc : ff P f args (λr=>r = .one (.c (.v u) 1))) : aB P f args (.one (.c (.v u) 1)):=by
 refine ⟨hc.1,λw _ xs hs hx=>(hc.2 w [] xs ⟨by simp,by simp⟩ hs (λi vd hi=>?_)).mono ?_⟩
 ·have:=hx i vd hi
  cases vd with
  | c d=>exact Rd.map this (λ_ _ _=>rfl) (λ_ _ _ q hq=>by cases hq)
  | agg ds=>
    obtain ⟨ys,g1,g2,g3⟩:=this;exact ⟨ys,g1,g2,λj d hd=>(g3 j d hd).map (λ_ _ _=>rfl) (λ_ _ _ q hq=>by cases hq)⟩
 ·rintro e w' ⟨v,rr,rfl,rfl,hb,hr⟩
  have h : Rd w' false _ v (.v u):=hr
  cases h with
  | plain h=>exact ⟨_,rfl,hb,rfl,hu⟩
theorem ff.mono {P : Program} {f : Nat} {args : List VD} {R R' : RR->Prop} (hc : ff P f args R) (h : ∀ r,R r->R' r) : ff P f args R':=by
 refine ⟨hc.1,λw o xs ho hs hx=>(hc.2 w o xs ho hs hx).mono ?_⟩
 rintro e w' ⟨v,rr,rfl,h1,hb,hr⟩
 exact ⟨v,rr,rfl,h _ h1,hb,hr⟩
theorem yo {w : World} {M E : Nat->Prop} {o : AObj} (h : ca w M E o) {b : Nat} (hb : o.blk = some b) : ∃ cs T,w.heap[b]? = some (.cells cs T (0,0)):=by
 cases o with
 | dead=>cases hb
 | vars b' T cells=>obtain ⟨cs,h1,-⟩:=h;cases hb;exact ⟨cs,T,h1⟩
 | lent H sz rows=>cases hb
 | rows H sz rows own=>
   cases H with
   | none=>cases hb
   | some q=>obtain ⟨b',o,C⟩:=q;obtain ⟨cs,T,F,h1,-⟩:=h;cases hb;exact ⟨cs,T,h1⟩
 | part H sz rows lo=>
   cases H with
   | none=>cases hb
   | some q=>obtain ⟨b',o,C⟩:=q;obtain ⟨cs,T,F,h1,-⟩:=h;cases hb;exact ⟨cs,T,h1⟩
theorem sd : ∀ {h : AH} {k : Nat},(AH.get h k).blk≠none->k∈h.map (·.1)
 | [],_,hk=>absurd rfl hk
 | (j,o) :: h,k,hk=>by
   rw [aA] at hk
   split at hk
   ·rename_i e;rw [e];exact List.mem_cons_self ..
   ·exact List.mem_cons_of_mem _ (sd hk)
def ddl : List Nat->List Nat
 | []=>[]
 | a :: l=>if a∈l then ddl l else a :: ddl l
theorem mG {c : Nat} : ∀ l : List Nat,c∈ddl l ↔ c∈l
 | []=>Iff.rfl
 | a :: l=>by
   unfold ddl
   split
   ·rename_i h
    rw [mG l];exact ⟨λhc=>List.mem_cons_of_mem _ hc,λhc=>(List.mem_cons.1 hc).elim (λe=>e ▸ h) id⟩
   ·rw [List.mem_cons,List.mem_cons,mG l]
theorem lu : ∀ l : List Nat,(ddl l).Nodup
 | []=>List.nodup_nil
 | a :: l=>by
   unfold ddl
   split
   ·exact lu l
   ·rename_i h
    rw [List.nodup_cons];exact ⟨λhc=>h ((mG l).1 hc),lu l⟩
theorem uK {w : World} : ∀ {B : List Nat},B.Nodup->(∀ b∈B,∃ cs T,w.heap[b]? = some (.cells cs T (0,0)))->∃ W : cJ,W.at w/\W.map (·.1) = B
 | [],_,_=>⟨[],⟨by simp,by simp⟩,rfl⟩
 | b :: B,hn,hb=>by
   rw [List.nodup_cons] at hn;obtain ⟨W,h1,h2⟩:=uK hn.2 (λc hc=>hb c (List.mem_cons_of_mem _ hc));obtain ⟨cs,T,h3⟩:=hb b (List.mem_cons_self ..);refine ⟨(b,cs,T) :: W,⟨λq hq=>?_,?_⟩,by simp [h2]⟩
   ·rcases List.mem_cons.1 hq with rfl | hq
    ·exact h3
    ·exact h1.1 q hq
   ·simp only [List.map_cons,List.nodup_cons]
    exact ⟨by rw [h2];exact hn.1,h1.2⟩
theorem rg {base : Bs} {h : AH} {w : World} {E : Nat->Nat->Prop} (H : HRel base h w E) (p : Nat->Prop) : ∃ W : cJ,W.at w/\∀ c,W.off c ↔ ¬ (h.M c/\p c):=by
 classical
 let B : List Nat:=ddl (((h.map (·.1)).filterMap λk=>(h.get k).blk).filter (λc=>decide (p c)))
 have hB : ∀ c,c∈B ↔ h.M c/\p c:=by
  intro c;simp only [B,mG,List.mem_filter,List.mem_filterMap,decide_eq_true_eq]
  constructor
  ·rintro ⟨⟨k,-,hk⟩,hp⟩;exact ⟨⟨k,hk⟩,hp⟩
  ·rintro ⟨⟨k,hk⟩,hp⟩;exact ⟨⟨k,sd (by rw [hk];simp),hk⟩,hp⟩
 obtain ⟨W,h1,h2⟩:=uK (w:=w) (B:=B) (lu _) (λb hb=>by
  obtain ⟨⟨k,hk⟩,-⟩:=(hB b).1 hb;exact yo (H.obj k) hk)
 refine ⟨W,h1,λc=>?_⟩;rw [<- hB,<- h2];unfold cJ.off
 constructor
 ·intro h hm
  obtain ⟨q,hq,e⟩:=List.mem_map.1 hm;exact h q hq e.symm
 ·intro h q hq e
  exact h (List.mem_map.2 ⟨q,hq,e.symm⟩)
theorem rK {E : Env} {st : ASt} {a : Act} {w : World} (hR : Rep E.w0 E.base st a w) {Es : Nat->Nat->Prop} (hH : HRel E.base st.h w Es) {S : Nat->Prop} (hoff : ∀ c,¬ st.h.M c->S c) : ∀ (avs : List AV) (args : List VD) {us : Nat->Value} (_ : ∀ i av,avs[i]? = some av->VRel w st.h.M av (us i)) (_ : gl E.rd [] avs args),avs.length = args.length/\∀ i d,args[i]? = some d->gC w S (us i) d:=by
 have one : ∀ {x : AV} {u : Value} {d : CD},VRel w st.h.M x u->aIn E.rd [] x d->Rd w false S u d:=by
  intro x u d hv hk;unfold aIn at hk
  split at hk
  ·cases hv
   exact Rd.map hk (λb hb _=>hR.below.block b hb) (λc hc _=>hoff c (λ⟨k,hk⟩=>(hH.low k c hk).1 hc))
  ·simp [AH.get] at hk
  ·subst hk;cases hv with | v u hp=>exact .plain hp
  ·subst hk;cases hv;exact .empty _ _ (by intro h;cases h)
  ·subst hk;cases hv with | ro rows x hr=>exact hr.map (λ_ _ _=>rfl) (λc hc _=>hoff c hc)
  ·simp [AH.get] at hk
  ·exact hk.elim
 have oneL : ∀ (l : List AV) (ds : List CD) {us : Nat->Value} (_ : ∀ i av,l[i]? = some av->VRel w st.h.M av (us i)) (_ : n7 E.rd [] l ds),l.length = ds.length/\∀ i d,ds[i]? = some d->Rd w false S (us i) d:=by
  intro l
  induction l with
  | nil=>
    intro ds us hv hk
    cases ds with
    | nil=>exact ⟨rfl,λi d hd=>by simp at hd⟩
    | cons _ _=>exact hk.elim
  | cons a l ih=>
    intro ds us hv hk
    cases ds with
    | nil=>exact hk.elim
    | cons d ds=>
      obtain ⟨h1,h2⟩:=ih ds (us:=λi=>us (i + 1)) (λi av hi=>hv (i + 1) av (by simpa using hi)) hk.2;refine ⟨by simp [h1],λi d' hd=>?_⟩
      cases i with
      | zero=>simp at hd;subst hd;exact one (hv 0 a rfl) hk.1
      | succ i=>exact h2 i d' (by simpa using hd)
 intro avs
 induction avs with
 | nil=>
   intro args us hv hk
   cases args with
   | nil=>exact ⟨rfl,λi d hd=>by simp at hd⟩
   | cons _ _=>exact hk.elim
 | cons a l ih=>
   intro args us hv hk
   cases args with
   | nil=>exact hk.elim
   | cons d ds=>
     obtain ⟨h1,h2⟩:=ih ds (us:=λi=>us (i + 1)) (λi av hi=>hv (i + 1) av (by simpa using hi)) hk.2;refine ⟨by simp [h1],λi d' hd=>?_⟩
     cases i with
     | zero=>
       simp at hd;subst hd;have h0:=hv 0 a rfl;have hk0:=hk.1;generalize us 0 = u0 at h0 ⊢;unfold q7 at hk0
       split at hk0
       ·exact one h0 hk0
       ·split at hk0
        ·rename_i ds _ l
         cases h0 with
         | agg _ xs hs hl=>
           obtain ⟨g1,g2⟩:=oneL l ds hl hk0;exact ⟨xs,rfl,by omega,g2⟩
        ·exact hk0.elim
     | succ i=>exact h2 i d' (by simpa using hd)
theorem gn {E : Env} {f : Nat} {args : List VD} {R : RR->Prop} (hc : ff E.P f args R) {avs : List AV} {st : ASt} {dst : Option Nat} {K : ASt->Prop} (hin : gl E.rd [] avs args)
 (hout : ∀ rr,R rr->aF st dst (roR rr) K) : aa E f avs st dst K:=by
 refine ⟨hc.1,λa w hR xs hs hx=>?_⟩;obtain ⟨Es,hH⟩:=hR.heap;obtain ⟨o,ho,hoff⟩:=rg hH (λ_=>True);obtain ⟨hl,hr⟩:=rK hR hH (S:=o.off) (λc hc=>(hoff c).2 (λh=>hc h.1)) avs args hx hin;refine (hc.2 w o xs ho (by omega) hr).mono ?_
 rintro e w' ⟨v,rr,rfl,hRR,hb,hrr⟩
 have t : Tr st.h.M w st.h.M w':=⟨hb.size,λb hlt _=>hb.block b hlt,λb _ h=>h⟩;have H' : HRel E.base st.h w' Es:=⟨λk=>(hH.obj k).tr t (λb hk=>hb.block b (hH.lt hk)) (λc hc _=>hc),hH.inj,hH.low,λk c hc=>⟨(hH.elow k c hc).1,Nat.lt_of_lt_of_le (hH.elow k c hc).2 hb.size⟩,hH.einj,hH.em⟩;have hv : VRel w' st.h.M (roR rr) v:=oK.rel hrr (λc hc hm=>(hoff c).1 hc ⟨hm,trivial⟩);obtain ⟨av',h3,h1,h2,h4,h5⟩:=(hR.move H' t ⟨hb.os,hb.tape,hb.output⟩).put hv (hout rr hRR);exact ⟨v,av',h3,rfl,h1,h2,h4,h5⟩
def lM (R : Value->CD->Prop) (h : AH) (x : AV) (r : RV) : Prop:=
 match r with
 | .c d _=>aIn R h x d
 | .agg ts=>match x with
   | .agg l=>n7 R h l (ts.map Prod.fst)
   | _=>False
def jJ (R : Value->CD->Prop) (h : AH) : List AV->List RV->Prop
 | [],[]=>True
 | a :: l,r :: rs=>lM R h a r/\jJ R h l rs
 | _,_=>False
def nQ (E : Env) (h : AH) (l : List AV) (rr : RR) : Prop:=
 match rr with
 | .one r=>match l with
   | [x]=>lM E.rd h x r
   | _=>False
 | .tup rs=>l.length≠1/\jJ E.rd h l rs
theorem lL {base : Bs} {h : AH} {w : World} {E : Nat->Nat->Prop} (H : HRel base h w E) {S : Nat->Prop} (hS : ∀ c,¬ h.M c->S c) (hSr : ∀ k b o C sz rows own,h.get k = .rows (some (b,o,C)) sz rows own->S b)
 {R : Value->CD->Prop} (hR : ∀ u d,R u d->Rd w false S u d) {x : AV} {u : Value} (hv : VRel w h.M x u) {r : RV} (hk : lM R h x r) : rb w S u r:=by
 unfold lM at hk
 split at hk
 ·exact jU H hS hSr hR hv hk
 ·split at hk
  ·rename_i ts _ l
   cases hv with
   | agg _ xs hs hl=>
     obtain ⟨h1,h2⟩:=i6 H hS hSr hR l _ hl hk;refine ⟨xs,rfl,by simp at h1;omega,λj t hj=>h2 j t.1 (by simp [hj])⟩
  ·exact hk.elim
theorem ko {base : Bs} {h : AH} {w : World} {E : Nat->Nat->Prop} (H : HRel base h w E) {S : Nat->Prop} (hS : ∀ c,¬ h.M c->S c) (hSr : ∀ k b o C sz rows own,h.get k = .rows (some (b,o,C)) sz rows own->S b)
 {R : Value->CD->Prop} (hR : ∀ u d,R u d->Rd w false S u d) : ∀ (l : List AV) (rs : List RV) {us : Nat->Value} (_ : ∀ i av,l[i]? = some av->VRel w h.M av (us i)) (_ : jJ R h l rs),
 l.length = rs.length/\∀ j t,rs[j]? = some t->rb w S (us j) t
 | [],[],us,hv,hk=>⟨rfl,λj t hj=>by simp at hj⟩
 | a :: l,r :: rs,us,hv,hk=>by
   obtain ⟨h1,h2⟩:=ko H hS hSr hR l rs (us:=λi=>us (i + 1)) (λi av hi=>hv (i + 1) av (by simpa using hi)) hk.2;refine ⟨by simp [h1],λj t hj=>?_⟩
   cases j with
   | zero=>simp at hj;subst hj;exact lL H hS hSr hR (hv 0 a rfl) hk.1
   | succ j=>exact h2 j t (by simpa using hj)
 | [],_ :: _,us,hv,hk=>hk.elim
 | _ :: _,[],us,hv,hk=>hk.elim
theorem rQ {E : Env} {h : AH} {w : World} {Es : Nat->Nat->Prop} (H : HRel E.base h w Es) {S : Nat->Prop} (hS : ∀ c,¬ h.M c->S c) (hSr : ∀ k b o C sz rows own,h.get k = .rows (some (b,o,C)) sz rows own->S b)
 (hR : ∀ u d,E.rd u d->Rd w false S u d) {vs : List Value} {l : List AV} (hl : vs.length = l.length) (hv : ∀ i av,l[i]? = some av->VRel w h.M av (vs.getD i undef)) {rr : RR} (hq : nQ E h l rr) :
 oK w S (if vs.length = 1 then vs.getD 0 undef else .tuple vs.toArray) rr:=by
 unfold nQ at hq
 split at hq
 ·split at hq
  ·rename_i r x
   rw [if_pos (by simpa using hl)];exact lL H hS hSr hR (hv 0 x rfl) hq
  ·exact hq.elim
 ·rename_i rs
  obtain ⟨hne,hq⟩:=hq;obtain ⟨h1,h2⟩:=ko H hS hSr hR l rs hv hq;rw [if_neg (by omega)];exact ⟨vs.toArray,rfl,by simp;omega,λj t hj=>by simpa using h2 j t hj⟩
theorem mt {P : Program} {fn : Func} {tmps : Array Value} {w : World} {vs : List Value} (h1 : (fn.results.toList.mapM (ei tmps)).run P w = .ok vs w) : (results fn tmps).run P w = .ok (if vs.length = 1 then vs.getD 0 undef else .tuple vs.toArray) w:=by
 rw [dX,Array.mapM_eq_mapM_toList];simp only [Sem.run_bind,Sem.run_map,h1,Result.andThen_ok,Sem.run_pure]
 cases vs with
 | nil=>simp
 | cons v vs=>cases vs<;>simp
theorem uY {w : World} {o : cJ} (ho : o.at w) (M E : Nat->Prop) (k : Nat) : ca w M E (AH.get (phs o) k):=by
 rw [mw]
 split
 ·split
  ·rename_i q hq
   refine ⟨q.2.1,ho.1 q (List.mem_of_getElem? hq),by simp,λj av hj=>?_⟩;simp only [List.getElem?_map,Array.getElem?_toList,Option.map_eq_some_iff] at hj;obtain ⟨u,hu,rfl⟩:=hj;have : q.2.1.getD j undef = u:=by simp [Array.getD_eq_getD_getElem?,hu]
   rw [this];exact .is u
  ·trivial
 ·trivial
theorem uX {w : World} {o : cJ} (ho : o.at w) (base : Bs) (hb : ∀ c,¬ o.off c->¬ base.F c/\¬ base.G c) : HRel base (phs o) w (λ_ _=>False)/\∀ c,(phs o).M c ↔ ¬ o.off c:=by
 have hm : ∀ c,(phs o).M c ↔ ¬ o.off c:=by
  intro c
  constructor
  ·rintro ⟨k,hk⟩ h
   obtain ⟨-,q,hq,e,-⟩:=p7 hk;exact h q (List.mem_of_getElem? hq) e.symm
  ·intro h
   obtain ⟨q,hq,e⟩ : ∃ q∈o,c = q.1:=Classical.byContradiction λhn=>h (λq hq he=>hn ⟨q,hq,he⟩)
   obtain ⟨k,-,hk⟩:=yb hq;exact ⟨k,by rw [hk,e];rfl⟩
 exact ⟨⟨λk=>uY ho _ _ k,λk k' c h h'=>uZ ho.2 h h',λk c h=>hb c ((hm c).1 ⟨k,h⟩),λ_ _ h=>h.elim,λ_ _ _ h=>h.elim,λ_ _ h=>h.elim⟩,hm⟩
theorem yc {w : World} {o : cJ} (ho : o.at w) {n : Nat} {xs : Array Value} {t : List (Nat × AV)} (hn : xs.size<=n) (ht : ∀ q,VRel w (λc=>¬ o.off c) (ao t q) ((xs ++ Array.replicate (n - xs.size) undef).getD q undef)) :
 Rep w ⟨λc=>c < w.heap.size/\o.off c,λc=>c < w.heap.size/\o.off c,false,λ_=>True⟩ { n:=n,kb:=0,t:=t,h:=phs o } { tmps:=xs ++ Array.replicate (n - xs.size) undef,defers:=[] } w:=by
 obtain ⟨hrel,hm⟩:=uX ho ⟨λc=>c < w.heap.size/\o.off c,λc=>c < w.heap.size/\o.off c,false,λ_=>True⟩ (λc hc=>⟨λh=>hc h.2,λh=>hc h.2⟩);exact ⟨rfl,by simp;omega,λq=>(ht q).tr ⟨Nat.le_refl _,λ_ _ _=>rfl,λc _ hc=>(hm c).1 hc⟩,⟨_,hrel⟩,BelowF.refl _ _,λc hc=>hc.elim (λh=>h.1) (λh=>h.1)⟩
theorem jg {base : Bs} {h : AH} {w w' : World} {E : Nat->Nat->Prop} (hH : HRel base h w' E) {o : cJ} (ho : o.at w) (hg : eg h o) {c : Nat} (hc : ¬ o.off c) : w'.heap[c]? = w.heap[c]?/\∃ k,1000000000<=k/\(h.get k).blk = some c/\∃ b T l,h.get k = .vars b T l:=by
 obtain ⟨q,hq,rfl⟩ : ∃ q∈o,c = q.1:=Classical.byContradiction λhn=>hc (λq hq he=>hn ⟨q,hq,he⟩)
 obtain ⟨k,hk,he⟩:=yb hq;have e : h.get k = phO q:=by rw [hg k hk,he]
 refine ⟨?_,k,hk,by rw [e];rfl,_,_,_,e⟩;have ob:=hH.obj k;rw [e] at ob;obtain ⟨cs',g1,g2,g3⟩:=ob;have hs : cs'.size = q.2.1.size:=by simpa using g2
 have : cs' = q.2.1:=by
  refine Array.ext hs (λj hj hj'=>?_);have:=g3 j (.is q.2.1[j]) (by simp [hj']);have e : cs'.getD j undef = cs'[j]:=by simp [Array.getD_eq_getD_getElem?,hj]
  rw [e] at this;generalize cs'[j] = y at this
  cases this;rfl
 rw [g1,this];exact (ho.1 q hq).symm
theorem p8 {P : Program} {Ty : Nat->Option TI} (hT : ∀ t ti,Ty t = some ti->TIok P t ti) {fn : Func} {w w' : World} {o : cJ} (ho : o.at w) {R : RR->Prop} {st' : ASt} {a' : Act}
 (hR' : Rep w ⟨λc=>c < w.heap.size/\o.off c,λc=>c < w.heap.size/\o.off c,false,λ_=>True⟩ st' a' w')
 (hq : bN ⟨P,Ty,w,⟨λc=>c < w.heap.size/\o.off c,λc=>c < w.heap.size/\o.off c,false,λ_=>True⟩⟩ st' fn.results.toList λl=>∃ rr,R rr/\nQ ⟨P,Ty,w,⟨λc=>c < w.heap.size/\o.off c,λc=>c < w.heap.size/\o.off c,false,λ_=>True⟩⟩ st'.h l rr/\eg st'.h o) :
 a'.defers = []/\∃ v,(results fn a'.tmps).run P w' = .ok v w'/\∃ v' rr,Ending.returned v = .returned v'/\R rr/\Below w.heap.size w w'/\oK w' o.off v' rr:=by
 let B : Bs:=⟨λc=>c < w.heap.size/\o.off c,λc=>c < w.heap.size/\o.off c,false,λ_=>True⟩
 have hE : EOk ⟨P,Ty,w,B⟩:=⟨hT,λw' hb=>trivial⟩;obtain ⟨vs,l,h1,h2,h3,rr,hRR,h4,hg⟩:=bW hE hR' fn.results.toList hq;obtain ⟨Es,hH⟩:=hR'.heap
 refine ⟨hR'.dfr,_,mt h1,_,rr,rfl,hRR,⟨hR'.below.os,hR'.below.tape,hR'.below.output,hR'.below.size,λc hc=>?_⟩,
  rQ (E:=⟨P,Ty,w,B⟩) hH (S:=o.off) (λc hc=>Classical.byContradiction λh=>?_) (λk b' o' C sz rows own hgk=>Classical.byContradiction λh=>?_) (λv d hd=>?_) h2 h3 h4⟩
 ·by_cases h : o.off c
  ·exact hR'.below.block c ⟨hc,h⟩
  ·exact (jg hH ho hg h).1
 ·obtain ⟨-,k,-,hk,-⟩:=jg hH ho hg h
  exact hc ⟨k,hk⟩
 ·obtain ⟨-,k',-,hk,b,T,l,he⟩:=jg hH ho hg h
  have:=hH.inj k k' b' (by rw [hgk];rfl) hk;subst this;rw [hgk] at he;cases he
 ·exact Rd.map hd (λc hc _=>hR'.below.block c hc) (λc hc _=>hc.2)
def qM (E : Env) (o : cJ) (rs : List ResultVar) (R : RR->Prop) : Exit->ASt->Prop
 | .normal,st=>bN E st rs λl=>∃ rr,R rr/\nQ E st.h l rr/\eg st.h o
 | .ret,st=>bN E st rs λl=>∃ rr,R rr/\nQ E st.h l rr/\eg st.h o
 | _,_=>False
theorem gC.ph {w : World} {o : cJ} {v : Value} {d : VD} (h : gC w o.off v d) : VRel w (λc=>¬ o.off c) d.toAV v:=
 gC.rel (M:=λc=>¬ o.off c) (by
  cases d with
  | c d=>exact Rd.map h (λ_ _ _=>rfl) (λc hc _ hn=>hn hc)
  | agg ds=>
    obtain ⟨xs,h1,h2,h3⟩:=h;exact ⟨xs,h1,h2,λj d hd=>(h3 j d hd).map (λ_ _ _=>rfl) (λc hc _ hn=>hn hc)⟩)
theorem ff.intro {P : Program} {Ty : Nat → Option TI} (hT : ∀ t ti, Ty t = some ti → TIok P t ti) {f : Nat} {fn : Func} {c : Code} (hf : P.funcs[f]? = some fn) (hname : (fn.name == "runtime.NumGoroutine") = false) (hb : fn.body = some c)
 {n : Nat} {rs : List ResultVar} (hnt : fn.ntmps = n) (hrs : fn.results = ⟨rs⟩) {args : List VD} {R : RR->Prop} (hn : args.length<=n)
 (h : ∀ w0 base o,cI ⟨P,Ty,w0,⟨base,base,false,λ_=>True⟩⟩ c (qM ⟨P,Ty,w0,⟨base,base,false,λ_=>True⟩⟩ o rs R) { n:=n,kb:=0,t:=fF 0 args,h:=phs o }) : ff P f args R:=by
 subst hnt;have hrs' : fn.results.toList = rs:=by rw [hrs]
 subst hrs';refine ⟨⟨fn,hf,hname,by rw [hb];rfl⟩,λw o xs ho hs hx=>calls_of_wp hf hb ?_⟩;have hE : EOk ⟨P,Ty,w,⟨λc=>c < w.heap.size/\o.off c,λc=>c < w.heap.size/\o.off c,false,λ_=>True⟩⟩:=⟨hT,λw' hb=>trivial⟩
 have hR:=yc ho (n:=fn.ntmps) (xs:=xs) (t:=fF 0 args) (by omega) (λq=>by
  rw [fW,if_pos (Nat.zero_le q),Nat.sub_zero]
  split
  ·rename_i v hv
   have hlt : q < xs.size:=by rw [hs];exact (List.getElem?_eq_some_iff.1 hv).1
   have e : (xs ++ Array.replicate (fn.ntmps - xs.size) undef).getD q undef = xs.getD q undef:=by
    simp only [Array.getD_eq_getD_getElem?];rw [Array.getElem?_append_left hlt]
   rw [e];exact (hx q v hv).ph
  ·exact .any _)
 refine wp_mono (aS hE c _ _ _ w hR (h w _ o)) ?_
 rintro e a' w' ⟨st',hq,hR'⟩
 cases e with
 | normal=>exact p8 hT ho hR' hq
 | ret=>exact p8 hT ho hR' hq
 | _=>exact hq.elim
theorem kW {P : Program} {Ty : Nat → Option TI} (hT : ∀ t ti, Ty t = some ti → TIok P t ti) {f : Nat} {fn : Func} {c : Code} (hf : P.funcs[f]? = some fn) (hname : (fn.name == "runtime.NumGoroutine") = false) (hb : fn.body = some c)
 {n : Nat} {rs : List ResultVar} (hnt : fn.ntmps = n) (hrs : fn.results = ⟨rs⟩) {bs : List (List CD)} {args : List VD} {R : RR->Prop} (hn : args.length + 1<=n)
 (h : ∀ w0 base o u,Rd w0 false base u (.s bs)->cI ⟨P,Ty,w0,⟨base,base,false,λ_=>True⟩⟩ c (qM ⟨P,Ty,w0,⟨base,base,false,λ_=>True⟩⟩ o rs R) { n:=n,kb:=0,t:=(0,.cv u bs.length) :: fF 1 args,h:=phs o }) : ff P f (.c (.s bs) :: args) R:=by
 subst hnt;have hrs' : fn.results.toList = rs:=by rw [hrs]
 subst hrs';refine ⟨⟨fn,hf,hname,by rw [hb];rfl⟩,λw o xs ho hs hx=>calls_of_wp hf hb ?_⟩;have hE : EOk ⟨P,Ty,w,⟨λc=>c < w.heap.size/\o.off c,λc=>c < w.heap.size/\o.off c,false,λ_=>True⟩⟩:=⟨hT,λw' hb=>trivial⟩;have hu : Rd w false o.off (xs.getD 0 undef) (.s bs):=hx 0 _ rfl;have hu0 : Rd w false (λc=>c < w.heap.size/\o.off c) (xs.getD 0 undef) (.s bs):=hu.map (λ_ _ _=>rfl) (λc hc hl=>⟨hl,hc⟩);obtain ⟨ua,uc,hlen⟩:=hu.slice_len;simp only [List.length_cons] at hs
 have e : ∀ q,q < xs.size->(xs ++ Array.replicate (fn.ntmps - xs.size) undef).getD q undef = xs.getD q undef:=λq hq=>by
  simp only [Array.getD_eq_getD_getElem?];rw [Array.getElem?_append_left hq]
 have hR:=yc ho (n:=fn.ntmps) (xs:=xs) (t:=(0,.cv (xs.getD 0 undef) bs.length) :: fF 1 args) (by omega) (λq=>by
  unfold ao
  split
  ·rename_i h0
   subst h0;rw [e 0 (by omega)];exact .cv _ _ ⟨ua,uc,hlen⟩
  ·rename_i h0
   rw [fW]
   split
   ·split
    ·rename_i v hv
     have hlt : q - 1 < args.length:=(List.getElem?_eq_some_iff.1 hv).1;rw [e q (by omega)];exact (hx q v (by rw [show q = q - 1 + 1 by omega];simpa using hv)).ph
    ·exact .any _
   ·exact .any _)
 refine wp_mono (aS hE c _ _ _ w hR (h w _ o _ hu0)) ?_
 rintro e a' w' ⟨st',hq,hR'⟩
 cases e with
 | normal=>exact p8 hT ho hR' hq
 | ret=>exact p8 hT ho hR' hq
 | _=>exact hq.elim
def uF (P : Program) (T : TypeId) (bs : List (List CD)) (f : Nat) (args : List VD) (R : RR->Prop) : Prop:=
 oe P f /\ ∀ (w : World) (o : cJ) (b : Nat) (u : Value) (i h : Int) (xs : Array Value),o.at w -> o.off b -> 0 <= i -> i <= bs.length ->
  w.heap[b]? = some (.cells #[u,.int .i64 i,.int .i64 h] T (0,0)) -> Rd w false (λc => c ≠ b /\ o.off c) u (.s bs) ->
  xs.size = args.length + 1 -> xs.getD 0 undef = .pointer (some ⟨b,0,none⟩) -> (∀ j vd,args[j]? = some vd -> gC w (λc => c ≠ b /\ o.off c) (xs.getD (j + 1) undef) vd) ->
  Calls P f xs w λe w' => ∃ (v : Value) (rr : RR) (i' h' : Int),e = .returned v /\ R rr /\ 0 <= i' /\ i' <= bs.length /\ w'.heap[b]? = some (.cells #[u,.int .i64 i',.int .i64 h'] T (0,0)) /\
   BelowF (λc=>c < w.heap.size/\c≠b) w w'/\oK w' (λc=>c≠b/\o.off c) v rr
theorem gC.map {w : World} {S S' : Nat->Prop} {v : Value} {d : VD} (h : gC w S v d) (hS : ∀ c,S c->S' c) : gC w S' v d:=by
 cases d with
 | c d=>exact Rd.map h (λ_ _ _=>rfl) (λc hc _=>hS c hc)
 | agg ds=>
   obtain ⟨xs,h1,h2,h3⟩:=h;exact ⟨xs,h1,h2,λj d hd=>(h3 j d hd).map (λ_ _ _=>rfl) (λc hc _=>hS c hc)⟩
theorem ig.toN {P : Program} {T : TypeId} {bs : List (List CD)} {f : Nat} {args : List VD} {R : RR->Prop} (hc : ig P T bs f args R) : uF P T bs f args R:=by
 refine ⟨hc.1,λw o b u i h xs o1 o2 a1 a2 a3 a4 a5 a6 a7=>(hc.2 w b u i h xs a1 a2 a3 (a4.map (λ_ _ _=>rfl) (λc hc _=>hc.1)) a5 a6 (λj vd hj=>(a7 j vd hj).map λc hc=>hc.1)).mono ?_⟩
 rintro e w' ⟨v,rr,i',h',rfl,h1,h2,h3,h4,h5,h6⟩
 exact ⟨v,rr,i',h',rfl,h1,h2,h3,h4,h5,h6.toN λc hc=>⟨by have:=cW a3;omega,kV o1 hc.1⟩⟩
theorem uF.mono {P : Program} {T : TypeId} {bs : List (List CD)} {f : Nat} {args : List VD} {R R' : RR->Prop} (hc : uF P T bs f args R) (hr : ∀ r,R r->R' r) : uF P T bs f args R':=by
 refine ⟨hc.1,λw o b u i h xs o1 o2 a1 a2 a3 a4 a5 a6 a7=>(hc.2 w o b u i h xs o1 o2 a1 a2 a3 a4 a5 a6 a7).mono ?_⟩
 rintro e w' ⟨v,rr,i',h',rfl,h1,h2,h3,h4,h5,h6⟩
 exact ⟨v,rr,i',h',rfl,hr _ h1,h2,h3,h4,h5,h6⟩
def nR (E : Env) (o : cJ) (T : TypeId) (b : Nat) (u : Value) (n : Nat) (rs : List ResultVar) (R : RR->Prop) : Exit->ASt->Prop
 | .normal,st=>bN E st rs λl=>∃ rr,R rr/\nQ E st.h l rr/\eg st.h o/\nH T b u n st.h
 | .ret,st=>bN E st rs λl=>∃ rr,R rr/\nQ E st.h l rr/\eg st.h o/\nH T b u n st.h
 | _,_=>False
theorem AY {args : List VD} {n : Nat} {T : TypeId} {bs : List (List CD)} (hn : args.length + 1<=n) {w : World} {o : cJ} (ho : o.at w) {b : Nat} (hob : o.off b) {u : Value} {i hh : Int} {xs : Array Value}
 (hcell : w.heap[b]? = some (.cells #[u,.int .i64 i,.int .i64 hh] T (0,0))) (hu : Rd w false (λc=>c≠b/\o.off c) u (.s bs)) (hs : xs.size = args.length + 1) (hx0 : xs.getD 0 undef = .pointer (some ⟨b,0,none⟩))
 (hx : ∀ j vd,args[j]? = some vd->gC w (λc=>c≠b/\o.off c) (xs.getD (j + 1) undef) vd) :
 Rep w ⟨λc=>c < w.heap.size/\c≠b/\o.off c,λc=>c < w.heap.size/\c≠b/\o.off c,false,λ_=>True⟩ { n:=n,kb:=0,t:=(0,.p 0 b 0) :: fF 1 args,h:=(0,.vars b T (a9 u bs.length i hh)) :: phs o } { tmps:=xs ++ Array.replicate (n - xs.size) undef,defers:=[] } w:=by
 obtain ⟨hrel,hm⟩:=uX ho ⟨λc=>c < w.heap.size/\c≠b/\o.off c,λc=>c < w.heap.size/\c≠b/\o.off c,false,λ_=>True⟩ (λc hc=>⟨λh=>hc h.2.2,λh=>hc h.2.2⟩);obtain ⟨ua,uc,hlen⟩:=hu.slice_len
 have hM : ∀ c,AH.M ((0,.vars b T (a9 u bs.length i hh)) :: phs o) c->¬ (c≠b/\o.off c):=by
  intro c hc h;rcases dG.1 hc with h1 | ⟨k,-,hk⟩
  ·simp [AObj.blk] at h1;exact h.1 h1.symm
  ·exact (hm c).1 ⟨k,hk⟩ h.2
 have hget : ∀ k,AH.get ((0,.vars b T (a9 u bs.length i hh)) :: phs o) k = if k = 0 then .vars b T (a9 u bs.length i hh) else AH.get (phs o) k:=λk=>by rw [aA]
 refine ⟨rfl,by simp;omega,λq=>?_,⟨λ_ _=>False,λk=>?_,λk k' c hk hk'=>?_,λk c hk=>?_,λk c hc=>hc.elim,λk k' c hc=>hc.elim,λk c hc=>hc.elim⟩,BelowF.refl _ _,λc hc=>hc.elim (λh=>h.1) (λh=>h.1)⟩
 ·show VRel w _ (ao ((0,.p 0 b 0) :: fF 1 args) q) _
  have e : ∀ q,q < xs.size->(xs ++ Array.replicate (n - xs.size) undef).getD q undef = xs.getD q undef:=λq hq=>by
   simp only [Array.getD_eq_getD_getElem?];rw [Array.getElem?_append_left hq]
  unfold ao
  split
  ·rename_i h0
   subst h0;rw [e 0 (by omega),hx0];exact .p _ _ _
  ·rename_i h0
   rw [fW]
   split
   ·split
    ·rename_i v hv
     have hlt : q - 1 < args.length:=(List.getElem?_eq_some_iff.1 hv).1;rw [e q (by omega)];have:=hx (q - 1) v hv;rw [show q - 1 + 1 = q by omega] at this;exact gC.rel (this.map λc hc hm=>hM c hm hc)
    ·exact .any _
   ·exact .any _
 ·rw [hget]
  split
  ·refine ⟨_,hcell,rfl,λj av hj=>?_⟩
   match j,hj with
   | 0,hj=>cases hj;exact .cv _ _ ⟨ua,uc,hlen⟩
   | 1,hj=>cases hj;exact .v _ rfl
   | 2,hj=>cases hj;exact .v _ rfl
   | j + 3,hj=>cases hj
  ·exact uY ho _ _ k
 ·rw [hget] at hk hk'
  by_cases h1 : k = 0<;>by_cases h2 : k' = 0
  ·rw [h1,h2]
  ·rw [if_pos h1] at hk;rw [if_neg h2] at hk'
   simp [AObj.blk] at hk;exact absurd hob ((hm b).1 ⟨k',hk ▸ hk'⟩)
  ·rw [if_neg h1] at hk;rw [if_pos h2] at hk'
   simp [AObj.blk] at hk';exact absurd hob ((hm b).1 ⟨k,hk' ▸ hk⟩)
  ·rw [if_neg h1] at hk;rw [if_neg h2] at hk'
   exact uZ ho.2 hk hk'
 ·have:=hM c ⟨k,hk⟩
  exact ⟨λh=>this h.2,λh=>this h.2⟩
theorem jk {w : World} {M E : Nat->Prop} {b : Nat} {T : TypeId} {u : Value} {n : Nat} {i hh : Int} (ho : ca w M E (.vars b T (a9 u n i hh))) : w.heap[b]? = some (.cells #[u,.int .i64 i,.int .i64 hh] T (0,0)):=by
 obtain ⟨cs,g1,g2,g3⟩:=ho;have c0:=g3 0 _ rfl;have c1:=g3 1 _ rfl;have c2:=g3 2 _ rfl;have hs3 : cs.size = 3:=g2;have e0 : cs.getD 0 undef = u:=by generalize cs.getD 0 undef = y at c0;cases c0;rfl
 have e1 : cs.getD 1 undef = .int .i64 i:=by generalize cs.getD 1 undef = y at c1;cases c1;rfl
 have e2 : cs.getD 2 undef = .int .i64 hh:=by generalize cs.getD 2 undef = y at c2;cases c2;rfl
 have : cs = #[u,.int .i64 i,.int .i64 hh]:=by
  refine Array.ext (by simp [hs3]) (λj h1 h2'=>?_);simp only [Array.getD_eq_getD_getElem?] at e0 e1 e2;rcases j with _ | _ | _ | j
  ·rw [Array.getElem?_eq_getElem h1] at e0;exact e0
  ·rw [Array.getElem?_eq_getElem h1] at e1;exact e1
  ·rw [Array.getElem?_eq_getElem h1] at e2;exact e2
  ·omega
 rw [g1,this]
theorem uF.intro {P : Program} {Ty : Nat → Option TI} (hT : ∀ t ti, Ty t = some ti → TIok P t ti) {f : Nat} {fn : Func} {c : Code} (hf : P.funcs[f]? = some fn) (hname : (fn.name == "runtime.NumGoroutine") = false) (hb : fn.body = some c)
 {n : Nat} {rs : List ResultVar} (hnt : fn.ntmps = n) (hrs : fn.results = ⟨rs⟩) {T : TypeId} {bs : List (List CD)} {args : List VD} {R : RR->Prop} (hn : args.length + 1<=n)
 (h : ∀ w0 base o b u i h,0<=i->i<=(bs.length : Int)->Rd w0 false base u (.s bs)->cI ⟨P,Ty,w0,⟨base,base,false,λ_=>True⟩⟩ c (nR ⟨P,Ty,w0,⟨base,base,false,λ_=>True⟩⟩ o T b u bs.length rs R)
  { n:=n,kb:=0,t:=(0,.p 0 b 0) :: fF 1 args,h:=(0,.vars b T (a9 u bs.length i h)) :: phs o }) : uF P T bs f args R:=by
 subst hnt;have hrs' : fn.results.toList = rs:=by rw [hrs]
 subst hrs';refine ⟨⟨fn,hf,hname,by rw [hb];rfl⟩,λw o b u i hh xs ho hob hi0 hi1 hcell hu hs hx0 hx=>calls_of_wp hf hb ?_⟩
 let F : Nat->Prop:=λc=>c < w.heap.size/\c≠b/\o.off c
 let bs0 : Bs:=⟨F,F,false,λ_=>True⟩
 have hE : EOk ⟨P,Ty,w,bs0⟩:=⟨hT,λw' hb=>trivial⟩;have hR:=AY hn ho hob hcell hu hs hx0 hx;have hu0 : Rd w false F u (.s bs):=hu.map (λ_ _ _=>rfl) (λc hc hl=>⟨hl,hc⟩);refine wp_mono (aS hE c _ _ _ w hR (h w F o b u i hh hi0 hi1 hu0)) ?_
 rintro e a' w' ⟨st',hq,hR'⟩
 have key : (bN ⟨P,Ty,w,bs0⟩ st' fn.results.toList λl => ∃ rr,R rr /\ nQ ⟨P,Ty,w,bs0⟩ st'.h l rr /\ eg st'.h o /\ nH T b u bs.length st'.h) -> a'.defers = [] /\ ∃ v,(results fn a'.tmps).run P w' = .ok v w' /\ ∃ (v' : Value) (rr : RR) (i' h' : Int),Ending.returned v = .returned v' /\ R rr /\ 0 <= i' /\ i' <= bs.length /\ w'.heap[b]? = some (.cells #[u,.int .i64 i',.int .i64 h'] T (0,0)) /\
  BelowF (λc=>c < w.heap.size/\c≠b) w w'/\oK w' (λc=>c≠b/\o.off c) v' rr:=by
  intro hq;obtain ⟨vs,l,h1,h2,h3,rr,hRR,h4,htl,i',h'',hg,k1,k2⟩:=bW hE hR' fn.results.toList hq;obtain ⟨Es,hH⟩:=hR'.heap;have hb0 : (st'.h.get 0).blk = some b:=by rw [hg];rfl
  have hobj:=hH.obj 0;rw [hg] at hobj
  refine ⟨hR'.dfr,_,mt h1,_,rr,i',h'',rfl,hRR,k1,k2,jk hobj,⟨hR'.below.os,hR'.below.tape,hR'.below.output,hR'.below.size,λc hc=>?_⟩,
   rQ (E:=⟨P,Ty,w,bs0⟩) hH (S:=λc=>c≠b/\o.off c) (λc hc=>⟨λhe=>hc (he ▸ ⟨0,hb0⟩),Classical.byContradiction λh=>?_⟩) (λk b' o' C sz rows own hgk=>⟨λhe=>?_,Classical.byContradiction λh=>?_⟩) (λv d hd=>?_) h2 h3 h4⟩
  ·by_cases h : o.off c
   ·exact hR'.below.block c ⟨hc.1,hc.2,h⟩
   ·exact (jg hH ho htl h).1
  ·obtain ⟨-,k,-,hk,-⟩:=jg hH ho htl h
   exact hc ⟨k,hk⟩
  ·have:=hH.inj k 0 b (by rw [hgk,<- he];rfl) hb0
   subst this;rw [hg] at hgk;cases hgk
  ·obtain ⟨-,k',-,hk,b,T,l,he⟩:=jg hH ho htl h
   have:=hH.inj k k' b' (by rw [hgk];rfl) hk;subst this;rw [hgk] at he;cases he
  ·exact Rd.map hd (λc hc _=>hR'.below.block c hc) (λc hc _=>hc.2)
 cases e with
 | normal=>exact key hq
 | ret=>exact key hq
 | _=>exact hq.elim
theorem uJ {E : Env} {T : TypeId} {bs : List (List CD)} {f : Nat} {args : List VD} {R : RR->Prop} (hc : uF E.P T bs f args R) {kc b n : Nat} {u : Value} {i hh : Int} {avs : List AV} {st : ASt} {dst : Option Nat} {K : ASt->Prop}
 (hu : E.rd u (.s bs)) (hn : bs.length = n) (hget : st.h.get kc = .vars b T (a9 u n i hh)) (hi0 : 0<=i) (hi1 : i<=(n : Int)) (hin : gl E.rd [] avs args)
 (hout : ∀ rr i' h',R rr->0<=i'->i'<=(n : Int)->aF { st with h:=(kc,.vars b T (a9 u n i' h')) :: st.h } dst (roR rr) K) : aa E f (.p kc b 0 :: avs) st dst K:=by
 subst hn;refine ⟨hc.1,λa w hR xs hs hx=>?_⟩;obtain ⟨Es,hH⟩:=hR.heap;have hblk : (st.h.get kc).blk = some b:=by rw [hget];rfl
 have hMb : st.h.M b:=⟨kc,hblk⟩;obtain ⟨o,ho,hoff⟩:=rg hH (λc=>c≠b);have hob : o.off b:=(hoff b).2 (λh=>h.2 rfl);have hM0 : ∀ c,¬ st.h.M c->c≠b/\o.off c:=λc hc=>⟨λhe=>hc (he ▸ hMb),(hoff c).2 (λh=>hc h.1)⟩
 have hM1 : ∀ c,c≠b/\o.off c->¬ st.h.M c:=λc hc hm=>(hoff c).1 hc.2 ⟨hm,hc.1⟩
 have g1 : w.heap[b]? = _:=jk (by have:=hH.obj kc;rw [hget] at this;exact this);have hur : Rd w false (λc=>c≠b/\o.off c) u (.s bs):=Rd.map hu (λb hb _=>hR.below.block b hb) (λc hc _=>hM0 c (λ⟨k,hk⟩=>(hH.low k c hk).1 hc));obtain ⟨hl,hr⟩:=rK hR hH hM0 avs args (us:=λj=>xs.getD (j + 1) undef) (λj av hj=>hx (j + 1) av (by simpa using hj)) hin
 have hx0 : xs.getD 0 undef = .pointer (some ⟨b,0,none⟩):=by
  have:=hx 0 _ rfl;generalize xs.getD 0 undef = y at this
  cases this;rfl
 refine (hc.2 w o b u i hh xs ho hob hi0 hi1 g1 hur (by simp at hs;omega) hx0 hr).mono ?_
 rintro e w' ⟨v,rr,i',h',rfl,hRR,k1,k2,hcell,hb,hrr⟩
 have fr : ∀ c,c < w.heap.size->c≠b->w'.heap[c]? = w.heap[c]?:=λc h1 h2=>hb.block c ⟨h1,h2⟩
 obtain ⟨ua,uc,hlen⟩:=Rd.slice_len hu
 have H':=hH.upd (k:=kc) (o':=.vars b T (a9 u bs.length i' h')) (Ek:=λ_=>False) hb.size (λc hlt hc=>fr c hlt (λhe=>by
  subst he;rcases hc with hc | ⟨j,hj,hjb⟩
  ·exact hc hMb
  ·exact hj (hH.inj _ _ _ hjb hblk))) (λc hc=>by
  simp [AObj.blk] at hc;subst hc;exact ⟨hH.low kc b hblk,.inr hblk⟩) ⟨_,hcell,rfl,λj av hj=>by
  match j,hj with
  | 0,hj=>cases hj;exact .cv _ _ ⟨ua,uc,hlen⟩
  | 1,hj=>cases hj;exact .v _ rfl
  | 2,hj=>cases hj;exact .v _ rfl
  | j + 3,hj=>cases hj⟩ (λ_ hc=>hc.elim)
 have t : Tr st.h.M w (AH.M ((kc,.vars b T (a9 u bs.length i' h')) :: st.h)) w':=
  Tr.upd hH hb.size (λc hlt hm=>fr c hlt (λhe=>hm (he ▸ hMb))) (λc hc=>by simp [AObj.blk] at hc;subst hc;exact .inr hblk)
 have hM' : ∀ c,AH.M ((kc,.vars b T (a9 u bs.length i' h')) :: st.h) c->st.h.M c:=by
  intro c hm;rcases dG.1 hm with h1 | ⟨j,_,hj⟩
  ·simp [AObj.blk] at h1;exact h1 ▸ hMb
  ·exact ⟨j,hj⟩
 obtain ⟨av',h3,h1,h2,h4,h5⟩:=(hR.move H' t ⟨hb.os,hb.tape,hb.output⟩).put (oK.rel hrr (λc hc hm=>hM1 c hc (hM' c hm))) (hout rr i' h' hRR k1 k2);exact ⟨v,av',h3,rfl,h1,h2,h4,h5⟩
def zG (P : Program) (T : TypeId) (bs : List (List CD)) (f : Nat) : Prop:=
 oe P f /\ ∀ (w : World) (u : Value) (xs : Array Value),Rd w false (λ_ => True) u (.s bs) -> xs.size = 1 -> xs.getD 0 undef = u ->
  Calls P f xs w λe w'=>∃ (b : Nat) (h : Int),e = .returned (.pointer (some ⟨b,0,none⟩))/\w.heap.size<=b/\Below w.heap.size w w'/\w'.heap[b]? = some (.cells #[u,.int .i64 0,.int .i64 h] T (0,0))
def qN (E : Env) (T : TypeId) (u : Value) (n : Nat) (rs : List ResultVar) : Exit->ASt->Prop
 | .normal,st=>bN E st rs λl=>∃ k b h,l = [.p k b 0]/\st.h.get k = .vars b T (a9 u n 0 h)
 | .ret,st=>bN E st rs λl=>∃ k b h,l = [.p k b 0]/\st.h.get k = .vars b T (a9 u n 0 h)
 | _,_=>False
theorem zG.intro {P : Program} {Ty : Nat → Option TI} (hT : ∀ t ti, Ty t = some ti → TIok P t ti) {f : Nat} {fn : Func} {c : Code} (hf : P.funcs[f]? = some fn) (hname : (fn.name == "runtime.NumGoroutine") = false) (hb : fn.body = some c)
 {n : Nat} {rs : List ResultVar} (hnt : fn.ntmps = n) (hrs : fn.results = ⟨rs⟩) {T : TypeId} {bs : List (List CD)} (hn : 1<=n)
 (h : ∀ w0 base u,Rd w0 false base u (.s bs)->cI ⟨P,Ty,w0,⟨base,base,false,λ_=>True⟩⟩ c (qN ⟨P,Ty,w0,⟨base,base,false,λ_=>True⟩⟩ T u bs.length rs) { n:=n,kb:=0,t:=[(0,.cv u bs.length)],h:=[] }) : zG P T bs f:=by
 subst hnt;have hrs' : fn.results.toList = rs:=by rw [hrs]
 subst hrs';refine ⟨⟨fn,hf,hname,by rw [hb];rfl⟩,λw u xs hu hs hx0=>calls_of_wp hf hb ?_⟩
 let F : Nat->Prop:=λc=>c < w.heap.size
 let B : Bs:=⟨F,F,false,λ_=>True⟩
 have hE : EOk ⟨P,Ty,w,B⟩:=⟨hT,λw' hb=>trivial⟩;have hu0 : Rd w false F u (.s bs):=hu.within.map (λ_ _ _=>rfl) (λc hc _=>hc.2);obtain ⟨ua,uc,hlen⟩:=hu.slice_len
 have hR : Rep w B { n:=fn.ntmps,kb:=0,t:=[(0,.cv u bs.length)],h:=[] } { tmps:=xs ++ Array.replicate (fn.ntmps - xs.size) undef,defers:=[] } w:=by
  refine ⟨rfl,by simp;omega,λq=>?_,⟨λ_ _=>False,λk=>trivial,λk k' b hk=>by simp [AH.get,AObj.blk] at hk,λk b hk=>by simp [AH.get,AObj.blk] at hk,λk c hc=>hc.elim,λk k' c hc=>hc.elim,λk c hc=>hc.elim⟩,BelowF.refl _ _,λb hb=>hb.elim id id⟩
  show VRel w (AH.M []) (ao [(0,.cv u bs.length)] q) _
  unfold ao
  split
  ·rename_i h0
   subst h0
   have : (xs ++ Array.replicate (fn.ntmps - xs.size) undef).getD 0 undef = xs.getD 0 undef:=by
    simp only [Array.getD_eq_getD_getElem?];rw [Array.getElem?_append_left (by omega)]
   rw [this,hx0];exact .cv _ _ ⟨ua,uc,hlen⟩
  ·exact .any _
 refine wp_mono (aS hE c _ _ _ w hR (h w F _ hu0)) ?_
 rintro e a' w' ⟨st',hq,hR'⟩
 have key : (bN ⟨P,Ty,w,B⟩ st' fn.results.toList λl=>∃ k b h,l = [.p k b 0]/\st'.h.get k = .vars b T (a9 u bs.length 0 h))->a'.defers = []/\∃ v,(results fn a'.tmps).run P w' = .ok v w'/\∃ (b : Nat) (h : Int),Ending.returned v = .returned (.pointer (some ⟨b,0,none⟩))/\w.heap.size<=b/\Below w.heap.size w w'/\w'.heap[b]? = some (.cells #[u,.int .i64 0,.int .i64 h] T (0,0)):=by
  intro hq;obtain ⟨vs,l,h1,h2,h3,k,b,h',rfl,hg⟩:=bW hE hR' fn.results.toList hq;obtain ⟨Es,hH⟩:=hR'.heap
  have hv0 : vs.getD 0 undef = .pointer (some ⟨b,0,none⟩):=by
   have:=h3 0 _ rfl;generalize vs.getD 0 undef = y at this
   cases this;rfl
  have ho:=hH.obj k;rw [hg] at ho;refine ⟨hR'.dfr,_,mt h1,b,h',by rw [if_pos (by simpa using h2),hv0],Nat.le_of_not_lt (hH.low k b (by rw [hg];rfl)).1,⟨hR'.below.os,hR'.below.tape,hR'.below.output,hR'.below.size,hR'.below.block⟩,jk ho⟩
 cases e with
 | normal=>exact key hq
 | ret=>exact key hq
 | _=>exact hq.elim
theorem uI {E : Env} {T : TypeId} {bs : List (List CD)} {f : Nat} (hc : zG E.P T bs f) {n : Nat} {u : Value} {st : ASt} {dst : Option Nat} {K : ASt->Prop}
 (hu : E.rd u (.s bs)) (hn : bs.length = n) (hout : ∀ b h,aF { st with h:=(st.key dst,.vars b T (a9 u n 0 h)) :: st.h } dst (.p (st.key dst) b 0) K) : aa E f [.cv u n] st dst K:=by
 subst hn;refine ⟨hc.1,λa w hR xs hs hx=>?_⟩;obtain ⟨Es,hH⟩:=hR.heap
 have hx0 : xs.getD 0 undef = u:=by
  have:=hx 0 _ rfl;generalize xs.getD 0 undef = y at this
  cases this;rfl
 refine (hc.2 w u xs (hR.rd _ _ hu) (by simpa using hs) hx0).mono ?_
 rintro e w' ⟨b,h',rfl,hle,hb,hcell⟩
 obtain ⟨ua,uc,hlen⟩:=Rd.slice_len hu
 have H':=hH.upd (k:=st.key dst) (o':=.vars b T (a9 u bs.length 0 h')) (Ek:=λ_=>False) hb.size (λc hlt _=>hb.block c hlt) (λc hc=>by
  simp [AObj.blk] at hc;subst hc;exact ⟨hR.newer hle,.inl hle⟩) ⟨_,hcell,rfl,λj av hj=>by
  match j,hj with
  | 0,hj=>cases hj;exact .cv _ _ ⟨ua,uc,hlen⟩
  | 1,hj=>cases hj;exact .v _ rfl
  | 2,hj=>cases hj;exact .v _ rfl
  | j + 3,hj=>cases hj⟩ (λ_ hc=>hc.elim)
 have t : Tr st.h.M w (AH.M ((st.key dst,.vars b T (a9 u bs.length 0 h')) :: st.h)) w':=
  Tr.upd hH hb.size (λc hlt _=>hb.block c hlt) (λc hc=>by simp [AObj.blk] at hc;subst hc;exact .inl hle)
 obtain ⟨av',h3,h1,h2,h4,h5⟩:=(hR.move H' t ⟨hb.os,hb.tape,hb.output⟩).put (.p (st.key dst) b 0) (hout b h');exact ⟨_,av',h3,rfl,h1,h2,h4,h5⟩
theorem zM {W : cJ} : wkH (phs W) (phs W) = True:=by rw [<- mN];exact vg
theorem zL {W : cJ} {h : AH} {j : Nat} {o : AObj} (hj : j < 1000000000) : wkH ((j,o) :: h) (phs W) = wkH h (phs W):=by rw [<- mN,<- mN];exact vf hj
theorem DD {st : ASt} : st.ev (.const (.pointer none)) = .any:=(rfl)
theorem zk {E : Env} {o : cJ} {rs : List ResultVar} {R : RR->Prop} {st : ASt} : qM E o rs R .normal st = bN E st rs λl=>∃ rr,R rr/\nQ E st.h l rr/\eg st.h o:=(rfl)
theorem zj {E : Env} {o : cJ} {rs : List ResultVar} {R : RR->Prop} {st : ASt} : qM E o rs R .ret st = bN E st rs λl=>∃ rr,R rr/\nQ E st.h l rr/\eg st.h o:=(rfl)
theorem up {E : Env} {o : cJ} {T : TypeId} {b : Nat} {u : Value} {n : Nat} {rs : List ResultVar} {R : RR->Prop} {st : ASt} : nR E o T b u n rs R .normal st = bN E st rs λl=>∃ rr,R rr/\nQ E st.h l rr/\eg st.h o/\nH T b u n st.h:=(rfl)
theorem uo {E : Env} {o : cJ} {T : TypeId} {b : Nat} {u : Value} {n : Nat} {rs : List ResultVar} {R : RR->Prop} {st : ASt} : nR E o T b u n rs R .ret st = bN E st rs λl=>∃ rr,R rr/\nQ E st.h l rr/\eg st.h o/\nH T b u n st.h:=(rfl)
theorem wK {E : Env} {T : TypeId} {u : Value} {n : Nat} {rs : List ResultVar} {st : ASt} : qN E T u n rs .normal st = bN E st rs λl=>∃ k b h,l = [.p k b 0]/\st.h.get k = .vars b T (a9 u n 0 h):=(rfl)
theorem wJ {E : Env} {T : TypeId} {u : Value} {n : Nat} {rs : List ResultVar} {st : ASt} : qN E T u n rs .ret st = bN E st rs λl=>∃ k b h,l = [.p k b 0]/\st.h.get k = .vars b T (a9 u n 0 h):=(rfl)
theorem CZ {E : Env} {h : AH} {x : AV} {r : RV} : nQ E h [x] (.one r) = lM E.rd h x r:=(rfl)
theorem CY {E : Env} {h : AH} {l : List AV} {rs : List RV} : nQ E h l (.tup rs) = (l.length≠1/\jJ E.rd h l rs):=(rfl)
theorem Am {R : Value->CD->Prop} {h : AH} {x : AV} {d : CD} {sz : Nat} : lM R h x (.c d sz) = aIn R h x d:=(rfl)
theorem vW {R : Value->CD->Prop} {h : AH} {l : List AV} {ts : List (CD × Nat)} : lM R h (.agg l) (.agg ts) = n7 R h l (ts.map Prod.fst):=(rfl)
theorem tn {R : Value->CD->Prop} {h : AH} : jJ R h [] [] = True:=(rfl)
theorem rR {R : Value->CD->Prop} {h : AH} {x : AV} {l : List AV} {r : RV} {rs : List RV} : jJ R h (x :: l) (r :: rs) = (lM R h x r/\jJ R h l rs):=(rfl)
theorem FG {d : CD} {sz : Nat} : roV (.c d sz) = toAV d:=(rfl)
theorem zZ {ts : List (CD × Nat)} : roV (.agg ts) = .agg (ts.map λt=>toAV t.1):=(rfl)
theorem z3 {r : RV} : roR (.one r) = roV r:=(rfl)
theorem z2 {l : List RV} : roR (.tup l) = .tup (l.map roV):=(rfl)
attribute [simp ↓] DD zk zj up uo wK wJ
attribute [simp] CZ CY Am vW tn rR FG zZ z3 z2 zM zL vE tail_cons vg vf Ad
end Go.AM
namespace Go.Proofs.Ytoldjebobgocpaa
open Go.AM
set_option maxRecDepth 20000
set_option maxHeartbeats 12800000
theorem yB (l : List UInt8) (_hl : l.length<=2 ^ 40) : zG Try.prog 74 (l.map dP) 27:=by
 refine zG.intro aj Try.func27 (by kernel_rfl) rfl rfl rfl (Nat.le_of_ble_eq_true rfl) (λw0 base u hu=>?_);simp;refine aI eok (λx : Nat × Int=>x.1<=l.length) (λx=>⟨32,0,[(4,.v (.int .i64 x.1)),(3,.v (.int .i64 x.2)),(0,.cv u l.length)],[]⟩) (λx=>l.length - x.1) (0,Go.IntKind.i64.wrap (1621 + (l.length : Int))) (by simp) (by simp) (λx hx=>Ent.refl ?_);obtain ⟨i,h⟩:=x;simp only at hx ⊢;by_cases c : i < l.length
 ·by_cases c2 : i < 4000
  ·have c2' : (i : Int) < 4000:=by omega
   simp [c,c2'];refine ⟨_,hu,?_⟩;simp [c];refine Ent.refl ⟨i + 1,by omega,by omega,?_⟩;simp;exact aY (by omega)
  ·have c2' : ¬ (i : Int) < 4000:=by omega
   simp [c,c2'];exact λb=>⟨496,b,⟨rfl,rfl⟩,_,rfl⟩
 ·simp [c]
  exact λb=>⟨496,b,⟨rfl,rfl⟩,_,rfl⟩
theorem mf (a b : List Int) (hl : a.length<=2 ^ 40) : aB Try.prog 12 [.c (.s (a.map aN)),.c (.s (b.map aN))] (.one (.c (vb (a = b)) 1)):=by
 refine pci aj Try.func12 (λw0 base=>?_);simp;refine aa.pure (jc a b hl) (by simp) ?_;simp
theorem yt (l : List UInt8) (hl : l.length<=2 ^ 40) (n : Int) (h0 : 0<=n) (h1 : n<=2 ^ 40) : ff Try.prog 8 [.c (.s (l.map dP)),.c (vi n)] (FH λo=>o.length<=42/\opD n o):=by
 refine kW aj Try.func8 (by kernel_rfl) rfl rfl rfl (Nat.le_of_ble_eq_true rfl) (λw0 base o u hu=>?_);simp;refine uI (yB l hl) hu (by simp) (λb h=>?_);simp;refine uJ (wb l hl n h0 h1).toN hu (by simp) rfl (by omega) (by omega) (by simp) ?_
 rintro _ i1 h1 ⟨op,⟨k1,-,k2⟩,rfl⟩ g0 g1
 simp;refine ⟨_,⟨op,⟨k1,k2⟩,rfl⟩,?_⟩;simp
end Go.Proofs.Ytoldjebobgocpaa
