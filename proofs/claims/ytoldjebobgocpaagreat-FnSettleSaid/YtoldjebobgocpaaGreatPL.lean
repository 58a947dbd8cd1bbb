import Derived.Test.YtoldjebobgocpaaGreatPK
import Derived.Test.YtoldjebobgocpaaGreatME
import Derived.Test.YtoldjebobgocpaaGreatPH
import Derived.Test.YtoldjebobgocpaaGreatMF
import Derived.Test.YtoldjebobgocpaaGreatPF
import Derived.Test.YtoldjebobgocpaaGreatPD
import Derived.Test.YtoldjebobgocpaaGreatPA
import Derived.Test.YtoldjebobgocpaaGreatPG
import Derived.Test.YtoldjebobgocpaaGreatMG
import Derived.Test.YtoldjebobgocpaaGreatNA
import Derived.Test.YtoldjebobgocpaaGreatPJ
namespace Go.AM
open Go.RowKit
def uf (w : World) (S : Nat->Prop) (v : Value) : RV->Prop
 | .c d _=>Rd w false S v d
 | .agg ts=>∃ xs : Array Value,v = .agg xs/\xs.size = ts.length/\∀ j t,ts[j]? = some t->Rd w false S (xs.getD j undef) t.1
def rz (w : World) (S : Nat->Prop) (v : Value) : RR->Prop
 | .one r=>uf w S v r
 | .tup l=>∃ xs : Array Value,v = .tuple xs/\xs.size = l.length/\∀ j t,l[j]? = some t->uf w S (xs.getD j undef) t
theorem lg.toN {w : World} {S S' : Nat->Prop} {v : Value} {r : RV} (h : lg w S v r) (hS : ∀ c,S c->S' c) : uf w S' v r:=by
 cases r with
 | c d sz=>exact (fQ.rd h).weaken.map (λ_ _ _=>rfl) (λc hc _=>hS c hc)
 | agg ts =>
   obtain ⟨xs,F,h1,h2,h3,h4,h5⟩:=h;exact ⟨xs,h1,h2,λj t hj=>(fQ.rd (h5 j t hj)).weaken.map (λ_ _ _=>rfl) (λc hc _=>hS c (h3 j c hc))⟩
theorem vT.toN {w : World} {S S' : Nat->Prop} {v : Value} {r : RR} (h : vT w S v r) (hS : ∀ c,S c->S' c) : rz w S' v r:=by
 cases r with
 | one r=>exact lg.toN h hS
 | tup l =>
   obtain ⟨xs,F,h1,h2,h3,h4,h5⟩:=h;exact ⟨xs,h1,h2,λj t hj=>lg.toN (h5 j t hj) (λc hc=>hS c (h3 j c hc))⟩
theorem uf.rel {w : World} {M S : Nat->Prop} {v : Value} {r : RV} (h : uf w S v r) (hM : ∀ c,S c->¬ M c) : VRel w M (roV r) v:=by
 cases r with
 | c d sz=>exact eQ (Rd.map h (λ_ _ _=>rfl) (λc hc _=>hM c hc))
 | agg ts =>
   obtain ⟨xs,rfl,h2,h5⟩:=h;refine .agg _ _ (by simp [h2]) (λi av hi=>?_);simp only [List.getElem?_map,Option.map_eq_some_iff] at hi;obtain ⟨t,ht,rfl⟩:=hi;exact eQ ((h5 i t ht).map (λ_ _ _=>rfl) (λc hc _=>hM c hc))
theorem rz.rel {w : World} {M S : Nat->Prop} {v : Value} {r : RR} (h : rz w S v r) (hM : ∀ c,S c->¬ M c) : VRel w M (roR r) v:=by
 cases r with
 | one r=>exact uf.rel h hM
 | tup l =>
   obtain ⟨xs,rfl,h2,h5⟩:=h;refine .tup _ _ (by simp [h2]) (λi av hi=>?_);simp only [List.getElem?_map,Option.map_eq_some_iff] at hi;obtain ⟨t,ht,rfl⟩:=hi;exact uf.rel (h5 i t ht) hM
theorem aa.ro {E : Env} {f : Nat} {args : List VD} {rr : RR} (hc : ak E.P f args rr) {avs : List AV} {st : ASt} {dst : Option Nat} {K : ASt->Prop} (hin : iQ E.rd st.h avs args)
 (hout : aQ st dst (roR rr) K) : aa E f avs st dst K:=by
 refine ⟨hc.1,λa w hR xs hs hx=>?_⟩;obtain ⟨Es,hH⟩:=hR.heap;obtain ⟨hl,hr⟩:=ir hH hR.rd avs args hx hin;refine (hc.2 w trivial xs (by omega) hr).mono ?_
 rintro e w' ⟨v,rfl,hb,hrr⟩
 have t : Tr st.h.M w st.h.M w':=⟨hb.size,λb hlt _=>hb.block b hlt,λb _ h=>h⟩;have H' : HRel E.base st.h w' Es:=⟨λk=>(hH.obj k).tr t (λb hk=>hb.block b (hH.lt hk)) (λc hc _=>hc),hH.inj,hH.low,λk c hc=>⟨(hH.elow k c hc).1,Nat.lt_of_lt_of_le (hH.elow k c hc).2 hb.size⟩,hH.einj,hH.em⟩;have hv : VRel w' st.h.M (roR rr) v:=xW hrr (λc hc ⟨k,hk⟩=>by have:=hH.lt hk;omega);obtain ⟨av',h3,h1,h2,h4,h5⟩:=(hR.move H' t ⟨hb.os,hb.tape,hb.output⟩).put hv hout;exact ⟨v,av',h3,rfl,h1,h2,h4,h5⟩
abbrev dF:=List (Nat × Array Value × TypeId)
def dF.at (W : dF) (w : World) : Prop:=(∀ q∈W,w.heap[q.1]? = some (.cells q.2.1 q.2.2 (0,0)))/\(W.map (·.1)).Nodup
def dF.off (W : dF) (c : Nat) : Prop:=∀ q∈W,c≠q.1
def phO (q : Nat × Array Value × TypeId) : AObj:=.vars q.1 q.2.2 (q.2.1.toList.map .is)
def gA : Nat->dF->AH
 | _,[]=>[]
 | i,q :: l=>(i,phO q) :: gA (i + 1) l
def phs (W : dF) : AH:=gA 1000000000 W
theorem od : ∀ (W : dF) (i k : Nat),AH.get (gA i W) k = if i<=k then (match W[k - i]? with | some q=>phO q | none=>.dead) else .dead
 | [],i,k=>by simp [gA,AH.get]
 | q :: l, i, k => by
   rw [gA,aN,od l];by_cases h : k = i
   ·subst h;simp
   ·rw [if_neg h]
    by_cases h1 : i + 1<=k
    ·rw [if_pos h1,if_pos (by omega),show k - i = (k - (i + 1)) + 1 by omega];rfl
    ·rw [if_neg h1,if_neg (by omega)]
theorem o3 (W : dF) (k : Nat) : AH.get (phs W) k = if 1000000000<=k then (match W[k - 1000000000]? with | some q=>phO q | none=>.dead) else .dead:=od W _ k
theorem DX {W : dF} {k : Nat} (h : k < 1000000000) : AH.get (phs W) k = .dead:=by rw [o3,if_neg (by omega)]
theorem s8 {W : dF} {k c : Nat} (h : (AH.get (phs W) k).blk = some c) : 1000000000<=k/\∃ q,W[k - 1000000000]? = some q/\q.1 = c/\AH.get (phs W) k = phO q:=by
 rw [o3] at h ⊢
 split at h
 ·rename_i hk
  rw [if_pos hk]
  split at h
  ·rename_i q hq
   exact ⟨hk,q,hq,by simpa [phO,AObj.blk] using h,by simp⟩
  ·cases h
 ·cases h
theorem BW {W : dF} {q : Nat × Array Value × TypeId} (h : q∈W) : ∃ k,1000000000<=k/\AH.get (phs W) k = phO q:=by
 obtain ⟨i,hi,rfl⟩:=List.getElem_of_mem h;exact ⟨1000000000 + i,by omega,by rw [o3,if_pos (by omega)];simp [hi]⟩
theorem yc {W : dF} (hn : (W.map (·.1)).Nodup) {k k' c : Nat} (h : (AH.get (phs W) k).blk = some c) (h' : (AH.get (phs W) k').blk = some c) : k = k':=by
 obtain ⟨h1,q,hq,rfl,-⟩:=s8 h;obtain ⟨h2,q',hq',e,-⟩:=s8 h';obtain ⟨hi,rfl⟩:=List.getElem?_eq_some_iff.1 hq;obtain ⟨hi',rfl⟩:=List.getElem?_eq_some_iff.1 hq';have:=(List.getElem_inj (xs:=W.map (·.1)) (i:=k' - 1000000000) (j:=k - 1000000000) (h₀:=by simpa using hi') (h₁:=by simpa using hi) hn).1 (by simpa using e);omega
def fv (h : AH) (W : dF) : Prop:=∀ k,1000000000<=k->AH.get h k = AH.get (phs W) k
theorem yL {W : dF} : fv (phs W) W = True:=eq_true λ_ _=>rfl
theorem tail_cons {W : dF} {h : AH} {j : Nat} {o : AObj} (hj : j < 1000000000) : fv ((j,o) :: h) W = fv h W:=by
 have : ∀ k,1000000000<=k->AH.get ((j,o) :: h) k = AH.get h k:=λk hk=>by rw [aN,if_neg (by omega)]
 refine propext ⟨λht k hk=>by rw [<- this k hk];exact ht k hk,λht k hk=>by rw [this k hk];exact ht k hk⟩
theorem zT (a : AV) : fq a a:=by cases a<;>simp [fq]
theorem vM : ∀ l : List AV,ALe l l
 | []=>trivial
 | a :: l=>⟨zT a,vM l⟩
theorem wk (o : AObj) : dO o o:=by
 cases o with
 | vars b T cells=>exact ⟨rfl,rfl,vM cells⟩
 | dead=>trivial
 | rows=>exact .inl rfl
 | lent=>exact rfl
 | part=>exact rfl
theorem jZ : ∀ {W : dF} {i : Nat} {p : Nat × AObj},p∈gA i W->i<=p.1/\AH.get (gA i W) p.1 = p.2
 | [],_,_,h=>by cases h
 | q :: l, i, p, h => by
   rcases List.mem_cons.1 h with rfl | h
   ·exact ⟨Nat.le_refl _,by rw [gA,aN,if_pos rfl]⟩
   ·obtain ⟨h1,h2⟩:=jZ h
    exact ⟨by omega,by rw [gA,aN,if_neg (by omega)];exact h2⟩
theorem yq {W : dF} : (∀ p∈phs W,dO (AH.get (phs W) p.1) p.2) = True:=eq_true λp hp=>by
 have e : AH.get (phs W) p.1 = p.2:=(jZ hp).2;rw [e];exact wk _
theorem yp {W : dF} {h : AH} {j : Nat} {o : AObj} (hj : j < 1000000000) : (∀ p∈phs W,dO (AH.get ((j,o) :: h) p.1) p.2) = ∀ p∈phs W,dO (AH.get h p.1) p.2:=by
 have : ∀ p∈phs W,AH.get ((j,o) :: h) p.1 = AH.get h p.1:=λp hp=>by
  have:=(jZ hp).1;rw [aN,if_neg (by omega)]
 refine propext ⟨λht p hp=>by rw [<- this p hp];exact ht p hp,λht p hp=>by rw [this p hp];exact ht p hp⟩
def hJ (P : Program) (f : Nat) (args : List VD) (R : RR->Prop) : Prop:=
 uk P f /\ ∀ (w : World) (o : dF) (xs : Array Value),o.at w -> xs.size = args.length -> (∀ i vd,args[i]? = some vd -> jw w o.off (xs.getD i undef) vd) ->
  Calls P f xs w λe w'=>∃ v rr,e = .returned v/\R rr/\Below w.heap.size w w'/\rz w' o.off v rr
theorem nj {o : dF} {w : World} (h : o.at w) {c : Nat} (hc : w.heap.size<=c) : o.off c:=λq hq he=>by
 have:=dY (h.1 q hq);omega
theorem jw.toV {w : World} {S : Nat->Prop} {v : Value} {d : VD} (h : jw w S v d) : RdV w v d:=by
 cases d with
 | c d=>exact Rd.map h (λ_ _ _=>rfl) (λ_ _ _=>trivial)
 | agg ds =>
   obtain ⟨xs,h1,h2,h3⟩:=h;exact ⟨xs,h1,h2,λj d hd=>(h3 j d hd).map (λ_ _ _=>rfl) (λ_ _ _=>trivial)⟩
theorem ak.toN {P : Program} {f : Nat} {args : List VD} {rr : RR} (hc : ak P f args rr) : hJ P f args (λr=>r = rr):=by
 refine ⟨hc.1,λw o xs ho hs hx=>(hc.2 w trivial xs hs (λi vd hi=>(hx i vd hi).toV)).mono ?_⟩
 rintro e w' ⟨v,rfl,hb,hr⟩
 exact ⟨v,rr,rfl,rfl,hb,hr.toN λc hc=>nj ho hc.1⟩
theorem Ao {P : Program} {f : Nat} {args : List VD} {u : Value} (hu : plain u = true) (hc : hJ P f args (λr=>r = .one (.c (.v u) 1))) : ak P f args (.one (.c (.v u) 1)):=by
 refine ⟨hc.1,λw _ xs hs hx=>(hc.2 w [] xs ⟨by simp,by simp⟩ hs (λi vd hi=>?_)).mono ?_⟩
 ·have:=hx i vd hi
  cases vd with
  | c d=>exact Rd.map this (λ_ _ _=>rfl) (λ_ _ _ q hq=>by cases hq)
  | agg ds =>
    obtain ⟨ys,g1,g2,g3⟩:=this;exact ⟨ys,g1,g2,λj d hd=>(g3 j d hd).map (λ_ _ _=>rfl) (λ_ _ _ q hq=>by cases hq)⟩
 ·rintro e w' ⟨v,rr,rfl,rfl,hb,hr⟩
  have h : Rd w' false _ v (.v u):=hr
  cases h with
  | plain h=>exact ⟨_,rfl,hb,rfl,hu⟩
theorem hJ.mono {P : Program} {f : Nat} {args : List VD} {R R' : RR->Prop} (hc : hJ P f args R) (h : ∀ r,R r->R' r) : hJ P f args R':=by
 refine ⟨hc.1,λw o xs ho hs hx=>(hc.2 w o xs ho hs hx).mono ?_⟩
 rintro e w' ⟨v,rr,rfl,h1,hb,hr⟩
 exact ⟨v,rr,rfl,h _ h1,hb,hr⟩
theorem B8 {w : World} {M E : Nat->Prop} {o : AObj} (h : df w M E o) {b : Nat} (hb : o.blk = some b) : ∃ cs T,w.heap[b]? = some (.cells cs T (0,0)):=by
 cases o with
 | dead=>cases hb
 | vars b' T cells=>obtain ⟨cs,h1,-⟩:=h;cases hb;exact ⟨cs,T,h1⟩
 | lent H sz rows=>cases hb
 | rows H sz rows own =>
   cases H with
   | none=>cases hb
   | some q=>obtain ⟨b',o,C⟩:=q;obtain ⟨cs,T,F,h1,-⟩:=h;cases hb;exact ⟨cs,T,h1⟩
 | part H sz rows lo =>
   cases H with
   | none=>cases hb
   | some q=>obtain ⟨b',o,C⟩:=q;obtain ⟨cs,T,F,h1,-⟩:=h;cases hb;exact ⟨cs,T,h1⟩
theorem vr : ∀ {h : AH} {k : Nat},(AH.get h k).blk≠none->k∈h.map (·.1)
 | [],_,hk=>absurd rfl hk
 | (j, o) :: h, k, hk => by
   rw [aN] at hk
   split at hk
   ·rename_i e;rw [e];exact List.mem_cons_self ..
   ·exact List.mem_cons_of_mem _ (vr hk)
def ddl : List Nat->List Nat
 | []=>[]
 | a :: l=>if a∈l then ddl l else a :: ddl l
theorem o8 {c : Nat} : ∀ l : List Nat,c∈ddl l ↔ c∈l
 | []=>Iff.rfl
 | a :: l => by
   unfold ddl
   split
   ·rename_i h
    rw [o8 l];exact ⟨λhc=>List.mem_cons_of_mem _ hc,λhc=>(List.mem_cons.1 hc).elim (λe=>e ▸ h) id⟩
   ·rw [List.mem_cons,List.mem_cons,o8 l]
theorem nT : ∀ l : List Nat,(ddl l).Nodup
 | []=>List.nodup_nil
 | a :: l => by
   unfold ddl
   split
   ·exact nT l
   ·rename_i h
    rw [List.nodup_cons];exact ⟨λhc=>h ((o8 l).1 hc),nT l⟩
theorem xM {w : World} : ∀ {B : List Nat},B.Nodup->(∀ b∈B,∃ cs T,w.heap[b]? = some (.cells cs T (0,0)))->∃ W : dF,W.at w/\W.map (·.1) = B
 | [],_,_=>⟨[],⟨by simp,by simp⟩,rfl⟩
 | b :: B, hn, hb => by
   rw [List.nodup_cons] at hn;obtain ⟨W,h1,h2⟩:=xM hn.2 (λc hc=>hb c (List.mem_cons_of_mem _ hc));obtain ⟨cs,T,h3⟩:=hb b (List.mem_cons_self ..);refine ⟨(b,cs,T) :: W,⟨λq hq=>?_,?_⟩,by simp [h2]⟩
   ·rcases List.mem_cons.1 hq with rfl | hq
    ·exact h3
    ·exact h1.1 q hq
   ·simp only [List.map_cons,List.nodup_cons]
    exact ⟨by rw [h2];exact hn.1,h1.2⟩
theorem um {base : Bs} {h : AH} {w : World} {E : Nat->Nat->Prop} (H : HRel base h w E) (p : Nat->Prop) : ∃ W : dF,W.at w/\∀ c,W.off c ↔ ¬ (h.M c/\p c):=by
 classical
 let B : List Nat:=ddl (((h.map (·.1)).filterMap λk=>(h.get k).blk).filter (λc=>decide (p c)))
 have hB : ∀ c,c∈B ↔ h.M c/\p c:=by
  intro c;simp only [B,o8,List.mem_filter,List.mem_filterMap,decide_eq_true_eq]
  constructor
  ·rintro ⟨⟨k,-,hk⟩,hp⟩;exact ⟨⟨k,hk⟩,hp⟩
  ·rintro ⟨⟨k,hk⟩,hp⟩;exact ⟨⟨k,vr (by rw [hk];simp),hk⟩,hp⟩
 obtain ⟨W,h1,h2⟩:=xM (w:=w) (B:=B) (nT _) (λb hb=>by
  obtain ⟨⟨k,hk⟩,-⟩:=(hB b).1 hb;exact B8 (H.obj k) hk)
 refine ⟨W,h1,λc=>?_⟩;rw [<- hB,<- h2];unfold dF.off
 constructor
 ·intro h hm
  obtain ⟨q,hq,e⟩:=List.mem_map.1 hm;exact h q hq e.symm
 ·intro h q hq e
  exact h (List.mem_map.2 ⟨q,hq,e.symm⟩)
theorem uV {E : Env} {st : ASt} {a : Act} {w : World} (hR : Rep E.w0 E.base st a w) {Es : Nat->Nat->Prop} (hH : HRel E.base st.h w Es) {S : Nat->Prop} (hoff : ∀ c,¬ st.h.M c->S c) : ∀ (avs : List AV) (args : List VD) {us : Nat->Value} (_ : ∀ i av,avs[i]? = some av->VRel w st.h.M av (us i)) (_ : iQ E.rd [] avs args),avs.length = args.length/\∀ i d,args[i]? = some d->jw w S (us i) d:=by
 have one : ∀ {x : AV} {u : Value} {d : CD},VRel w st.h.M x u->aIn E.rd [] x d->Rd w false S u d:=by
  intro x u d hv hk;unfold aIn at hk
  split at hk
  ·cases hv
   exact Rd.map hk (λb hb _=>hR.below.block b hb) (λc hc _=>hoff c (λ⟨k,hk⟩=>(hH.low k c hk).1 hc))
  ·simp at hk
  ·subst hk;cases hv with | v u hp=>exact .plain hp
  ·subst hk;cases hv;exact .empty _ _ (by intro h;cases h)
  ·subst hk;cases hv with | ro rows x hr=>exact hr.map (λ_ _ _=>rfl) (λc hc _=>hoff c hc)
  ·simp at hk
  ·exact hk.elim
 have oneL : ∀ (l : List AV) (ds : List CD) {us : Nat->Value} (_ : ∀ i av,l[i]? = some av->VRel w st.h.M av (us i)) (_ : qJ E.rd [] l ds),l.length = ds.length/\∀ i d,ds[i]? = some d->Rd w false S (us i) d:=by
  intro l
  induction l with
  | nil =>
    intro ds us hv hk
    cases ds with
    | nil=>exact ⟨rfl,λi d hd=>by simp at hd⟩
    | cons _ _=>exact hk.elim
  | cons a l ih =>
    intro ds us hv hk
    cases ds with
    | nil=>exact hk.elim
    | cons d ds =>
      obtain ⟨h1,h2⟩:=ih ds (us:=λi=>us (i + 1)) (λi av hi=>hv (i + 1) av (by simpa using hi)) hk.2;refine ⟨by simp [h1],λi d' hd=>?_⟩
      cases i with
      | zero=>simp at hd;subst hd;exact one (hv 0 a rfl) hk.1
      | succ i=>exact h2 i d' (by simpa using hd)
 intro avs
 induction avs with
 | nil =>
   intro args us hv hk
   cases args with
   | nil=>exact ⟨rfl,λi d hd=>by simp at hd⟩
   | cons _ _=>exact hk.elim
 | cons a l ih =>
   intro args us hv hk
   cases args with
   | nil=>exact hk.elim
   | cons d ds =>
     obtain ⟨h1,h2⟩:=ih ds (us:=λi=>us (i + 1)) (λi av hi=>hv (i + 1) av (by simpa using hi)) hk.2;refine ⟨by simp [h1],λi d' hd=>?_⟩
     cases i with
     | zero =>
       simp at hd;subst hd;have h0:=hv 0 a rfl;have hk0:=hk.1;generalize us 0 = u0 at h0 ⊢;unfold t9 at hk0
       split at hk0
       ·exact one h0 hk0
       ·split at hk0
        ·rename_i ds _ l
         cases h0 with
         | agg _ xs hs hl =>
           obtain ⟨g1,g2⟩:=oneL l ds hl hk0;exact ⟨xs,rfl,by omega,g2⟩
        ·exact hk0.elim
     | succ i=>exact h2 i d' (by simpa using hd)
theorem vV {E : Env} {f : Nat} {args : List VD} {R : RR->Prop} (hc : hJ E.P f args R) {avs : List AV} {st : ASt} {dst : Option Nat} {K : ASt->Prop} (hin : iQ E.rd [] avs args)
 (hout : ∀ rr,R rr->aQ st dst (roR rr) K) : aa E f avs st dst K:=by
 refine ⟨hc.1,λa w hR xs hs hx=>?_⟩;obtain ⟨Es,hH⟩:=hR.heap;obtain ⟨o,ho,hoff⟩:=um hH (λ_=>True);obtain ⟨hl,hr⟩:=uV hR hH (S:=o.off) (λc hc=>(hoff c).2 (λh=>hc h.1)) avs args hx hin;refine (hc.2 w o xs ho (by omega) hr).mono ?_
 rintro e w' ⟨v,rr,rfl,hRR,hb,hrr⟩
 have t : Tr st.h.M w st.h.M w':=⟨hb.size,λb hlt _=>hb.block b hlt,λb _ h=>h⟩;have H' : HRel E.base st.h w' Es:=⟨λk=>(hH.obj k).tr t (λb hk=>hb.block b (hH.lt hk)) (λc hc _=>hc),hH.inj,hH.low,λk c hc=>⟨(hH.elow k c hc).1,Nat.lt_of_lt_of_le (hH.elow k c hc).2 hb.size⟩,hH.einj,hH.em⟩;have hv : VRel w' st.h.M (roR rr) v:=rz.rel hrr (λc hc hm=>(hoff c).1 hc ⟨hm,trivial⟩);obtain ⟨av',h3,h1,h2,h4,h5⟩:=(hR.move H' t ⟨hb.os,hb.tape,hb.output⟩).put hv (hout rr hRR);exact ⟨v,av',h3,rfl,h1,h2,h4,h5⟩
def oh (R : Value->CD->Prop) (h : AH) (x : AV) (r : RV) : Prop:=
 match r with
 | .c d _=>aIn R h x d
 | .agg ts => match x with
   | .agg l=>qJ R h l (ts.map Prod.fst)
   | _=>False
def lS (R : Value->CD->Prop) (h : AH) : List AV->List RV->Prop
 | [],[]=>True
 | a :: l,r :: rs=>oh R h a r/\lS R h l rs
 | _,_=>False
def nQ (E : Env) (h : AH) (l : List AV) (rr : RR) : Prop:=
 match rr with
 | .one r => match l with
   | [x]=>oh E.rd h x r
   | _=>False
 | .tup rs=>l.length≠1/\lS E.rd h l rs
theorem og {base : Bs} {h : AH} {w : World} {E : Nat->Nat->Prop} (H : HRel base h w E) {S : Nat->Prop} (hS : ∀ c,¬ h.M c->S c) (hSr : ∀ k b o C sz rows own,h.get k = .rows (some (b,o,C)) sz rows own->S b)
 {R : Value->CD->Prop} (hR : ∀ u d,R u d->Rd w false S u d) {x : AV} {u : Value} (hv : VRel w h.M x u) {r : RV} (hk : oh R h x r) : uf w S u r:=by
 unfold oh at hk
 split at hk
 ·exact l9 H hS hSr hR hv hk
 ·split at hk
  ·rename_i ts _ l
   cases hv with
   | agg _ xs hs hl =>
     obtain ⟨h1,h2⟩:=kG H hS hSr hR l _ hl hk;refine ⟨xs,rfl,by simp at h1;omega,λj t hj=>h2 j t.1 (by simp [hj])⟩
  ·exact hk.elim
theorem mI {base : Bs} {h : AH} {w : World} {E : Nat->Nat->Prop} (H : HRel base h w E) {S : Nat->Prop} (hS : ∀ c,¬ h.M c->S c) (hSr : ∀ k b o C sz rows own,h.get k = .rows (some (b,o,C)) sz rows own->S b)
 {R : Value->CD->Prop} (hR : ∀ u d,R u d->Rd w false S u d) : ∀ (l : List AV) (rs : List RV) {us : Nat->Value} (_ : ∀ i av,l[i]? = some av->VRel w h.M av (us i)) (_ : lS R h l rs),
 l.length = rs.length/\∀ j t,rs[j]? = some t->uf w S (us j) t
 | [],[],us,hv,hk=>⟨rfl,λj t hj=>by simp at hj⟩
 | a :: l, r :: rs, us, hv, hk => by
   obtain ⟨h1,h2⟩:=mI H hS hSr hR l rs (us:=λi=>us (i + 1)) (λi av hi=>hv (i + 1) av (by simpa using hi)) hk.2;refine ⟨by simp [h1],λj t hj=>?_⟩
   cases j with
   | zero=>simp at hj;subst hj;exact og H hS hSr hR (hv 0 a rfl) hk.1
   | succ j=>exact h2 j t (by simpa using hj)
 | [],_ :: _,us,hv,hk=>hk.elim
 | _ :: _,[],us,hv,hk=>hk.elim
theorem u4 {E : Env} {h : AH} {w : World} {Es : Nat->Nat->Prop} (H : HRel E.base h w Es) {S : Nat->Prop} (hS : ∀ c,¬ h.M c->S c) (hSr : ∀ k b o C sz rows own,h.get k = .rows (some (b,o,C)) sz rows own->S b)
 (hR : ∀ u d,E.rd u d->Rd w false S u d) {vs : List Value} {l : List AV} (hl : vs.length = l.length) (hv : ∀ i av,l[i]? = some av->VRel w h.M av (vs.getD i undef)) {rr : RR} (hq : nQ E h l rr) :
 rz w S (if vs.length = 1 then vs.getD 0 undef else .tuple vs.toArray) rr:=by
 unfold nQ at hq
 split at hq
 ·split at hq
  ·rename_i r x
   rw [if_pos (by simpa using hl)];exact og H hS hSr hR (hv 0 x rfl) hq
  ·exact hq.elim
 ·rename_i rs
  obtain ⟨hne,hq⟩:=hq;obtain ⟨h1,h2⟩:=mI H hS hSr hR l rs hv hq;rw [if_neg (by omega)];exact ⟨vs.toArray,rfl,by simp;omega,λj t hj=>by simpa using h2 j t hj⟩
theorem s6 {P : Program} {fn : Func} {tmps : Array Value} {w : World} {vs : List Value} (h1 : (fn.results.toList.mapM (ga tmps)).run P w = .ok vs w) : (results fn tmps).run P w = .ok (if vs.length = 1 then vs.getD 0 undef else .tuple vs.toArray) w:=by
 rw [fU,Array.mapM_eq_mapM_toList];simp only [Sem.run_bind,Sem.run_map,h1,Result.andThen_ok,Sem.run_pure]
 cases vs with
 | nil=>simp
 | cons v vs=>cases vs<;>simp
theorem yb {w : World} {o : dF} (ho : o.at w) (M E : Nat->Prop) (k : Nat) : df w M E (AH.get (phs o) k):=by
 rw [o3]
 split
 ·split
  ·rename_i q hq
   refine ⟨q.2.1,ho.1 q (List.mem_of_getElem? hq),by simp,λj av hj=>?_⟩;simp only [List.getElem?_map,Array.getElem?_toList,Option.map_eq_some_iff] at hj;obtain ⟨u,hu,rfl⟩:=hj;have : q.2.1.getD j undef = u:=by simp [Array.getD_eq_getD_getElem?,hu]
   rw [this];exact .is u
  ·trivial
 ·trivial
theorem ya {w : World} {o : dF} (ho : o.at w) (base : Bs) (hb : ∀ c,¬ o.off c->¬ base.F c/\¬ base.G c) : HRel base (phs o) w (λ_ _=>False)/\∀ c,(phs o).M c ↔ ¬ o.off c:=by
 have hm : ∀ c,(phs o).M c ↔ ¬ o.off c:=by
  intro c
  constructor
  ·rintro ⟨k,hk⟩ h
   obtain ⟨-,q,hq,e,-⟩:=s8 hk;exact h q (List.mem_of_getElem? hq) e.symm
  ·intro h
   obtain ⟨q,hq,e⟩ : ∃ q∈o,c = q.1:=Classical.byContradiction λhn=>h (λq hq he=>hn ⟨q,hq,he⟩)
   obtain ⟨k,-,hk⟩:=BW hq;exact ⟨k,by rw [hk,e];rfl⟩
 exact ⟨⟨λk=>yb ho _ _ k,λk k' c h h'=>yc ho.2 h h',λk c h=>hb c ((hm c).1 ⟨k,h⟩),λ_ _ h=>h.elim,λ_ _ _ h=>h.elim,λ_ _ h=>h.elim⟩,hm⟩
theorem BX {w : World} {o : dF} (ho : o.at w) {n : Nat} {xs : Array Value} {t : List (Nat × AV)} (hn : xs.size<=n) (ht : ∀ q,VRel w (λc=>¬ o.off c) (aH t q) ((xs ++ Array.replicate (n - xs.size) undef).getD q undef)) :
 Rep w ⟨λc=>c < w.heap.size/\o.off c,λc=>c < w.heap.size/\o.off c,false,λ_=>True⟩ { n:=n,kb:=0,t:=t,h:=phs o } { tmps:=xs ++ Array.replicate (n - xs.size) undef,defers:=[] } w:=by
 obtain ⟨hrel,hm⟩:=ya ho ⟨λc=>c < w.heap.size/\o.off c,λc=>c < w.heap.size/\o.off c,false,λ_=>True⟩ (λc hc=>⟨λh=>hc h.2,λh=>hc h.2⟩);exact ⟨rfl,by simp;omega,λq=>(ht q).tr ⟨Nat.le_refl _,λ_ _ _=>rfl,λc _ hc=>(hm c).1 hc⟩,⟨_,hrel⟩,BelowF.refl _ _,λc hc=>hc.elim (λh=>h.1) (λh=>h.1)⟩
theorem kM {base : Bs} {h : AH} {w w' : World} {E : Nat->Nat->Prop} (hH : HRel base h w' E) {o : dF} (ho : o.at w) (hg : fv h o) {c : Nat} (hc : ¬ o.off c) : w'.heap[c]? = w.heap[c]?/\∃ k,1000000000<=k/\(h.get k).blk = some c/\∃ b T l,h.get k = .vars b T l:=by
 obtain ⟨q,hq,rfl⟩ : ∃ q∈o,c = q.1:=Classical.byContradiction λhn=>hc (λq hq he=>hn ⟨q,hq,he⟩)
 obtain ⟨k,hk,he⟩:=BW hq;have e : h.get k = phO q:=by rw [hg k hk,he]
 refine ⟨?_,k,hk,by rw [e];rfl,_,_,_,e⟩;have ob:=hH.obj k;rw [e] at ob;obtain ⟨cs',g1,g2,g3⟩:=ob;have hs : cs'.size = q.2.1.size:=by simpa using g2
 have : cs' = q.2.1:=by
  refine Array.ext hs (λj hj hj'=>?_);have:=g3 j (.is q.2.1[j]) (by simp [hj']);have e : cs'.getD j undef = cs'[j]:=by simp [Array.getD_eq_getD_getElem?,hj]
  rw [e] at this;generalize cs'[j] = y at this
  cases this;rfl
 rw [g1,this];exact (ho.1 q hq).symm
theorem s9 {P : Program} {Ty : Nat->Option TI} (hT : ∀ t ti,Ty t = some ti->TIok P t ti) {fn : Func} {w w' : World} {o : dF} (ho : o.at w) {R : RR->Prop} {st' : ASt} {a' : Act}
 (hR' : Rep w ⟨λc=>c < w.heap.size/\o.off c,λc=>c < w.heap.size/\o.off c,false,λ_=>True⟩ st' a' w')
 (hq : dt ⟨P,Ty,w,⟨λc=>c < w.heap.size/\o.off c,λc=>c < w.heap.size/\o.off c,false,λ_=>True⟩⟩ st' fn.results.toList λl=>∃ rr,R rr/\nQ ⟨P,Ty,w,⟨λc=>c < w.heap.size/\o.off c,λc=>c < w.heap.size/\o.off c,false,λ_=>True⟩⟩ st'.h l rr/\fv st'.h o) :
 a'.defers = []/\∃ v,(results fn a'.tmps).run P w' = .ok v w'/\∃ v' rr,Ending.returned v = .returned v'/\R rr/\Below w.heap.size w w'/\rz w' o.off v' rr:=by
 let B : Bs:=⟨λc=>c < w.heap.size/\o.off c,λc=>c < w.heap.size/\o.off c,false,λ_=>True⟩
 have hE : EOk ⟨P,Ty,w,B⟩:=⟨hT,λw' hb=>trivial⟩;obtain ⟨vs,l,h1,h2,h3,rr,hRR,h4,hg⟩:=dE hE hR' fn.results.toList hq;obtain ⟨Es,hH⟩:=hR'.heap
 refine ⟨hR'.dfr,_,s6 h1,_,rr,rfl,hRR,⟨hR'.below.os,hR'.below.tape,hR'.below.output,hR'.below.size,λc hc=>?_⟩,
  u4 (E:=⟨P,Ty,w,B⟩) hH (S:=o.off) (λc hc=>Classical.byContradiction λh=>?_) (λk b' o' C sz rows own hgk=>Classical.byContradiction λh=>?_) (λv d hd=>?_) h2 h3 h4⟩
 ·by_cases h : o.off c
  ·exact hR'.below.block c ⟨hc,h⟩
  ·exact (kM hH ho hg h).1
 ·obtain ⟨-,k,-,hk,-⟩:=kM hH ho hg h
  exact hc ⟨k,hk⟩
 ·obtain ⟨-,k',-,hk,b,T,l,he⟩:=kM hH ho hg h
  have:=hH.inj k k' b' (by rw [hgk];rfl) hk;subst this;rw [hgk] at he;cases he
 ·exact Rd.map hd (λc hc _=>hR'.below.block c hc) (λc hc _=>hc.2)
def tQ (E : Env) (o : dF) (rs : List ResultVar) (R : RR->Prop) : Exit->ASt->Prop
 | .normal,st=>dt E st rs λl=>∃ rr,R rr/\nQ E st.h l rr/\fv st.h o
 | .ret,st=>dt E st rs λl=>∃ rr,R rr/\nQ E st.h l rr/\fv st.h o
 | _,_=>False
theorem jw.ph {w : World} {o : dF} {v : Value} {d : VD} (h : jw w o.off v d) : VRel w (λc=>¬ o.off c) d.toAV v:=
 jw.rel (M:=λc=>¬ o.off c) (by
  cases d with
  | c d=>exact Rd.map h (λ_ _ _=>rfl) (λc hc _ hn=>hn hc)
  | agg ds =>
    obtain ⟨xs,h1,h2,h3⟩:=h;exact ⟨xs,h1,h2,λj d hd=>(h3 j d hd).map (λ_ _ _=>rfl) (λc hc _ hn=>hn hc)⟩)
theorem hJ.intro {P : Program} {Ty : Nat → Option TI} (hT : ∀ t ti, Ty t = some ti → TIok P t ti) {f : Nat} {fn : Func} {c : Code} (hf : P.funcs[f]? = some fn) (hname : (fn.name == "runtime.NumGoroutine") = false) (hb : fn.body = some c)
 {n : Nat} {rs : List ResultVar} (hnt : fn.ntmps = n) (hrs : fn.results = ⟨rs⟩) {args : List VD} {R : RR->Prop} (hn : args.length<=n)
 (h : ∀ w0 base o,dP ⟨P,Ty,w0,⟨base,base,false,λ_=>True⟩⟩ c (tQ ⟨P,Ty,w0,⟨base,base,false,λ_=>True⟩⟩ o rs R) { n:=n,kb:=0,t:=iB 0 args,h:=phs o }) : hJ P f args R:=by
 subst hnt;have hrs' : fn.results.toList = rs:=by rw [hrs]
 subst hrs';refine ⟨⟨fn,hf,hname,by rw [hb];rfl⟩,λw o xs ho hs hx=>calls_of_wp hf hb ?_⟩;have hE : EOk ⟨P,Ty,w,⟨λc=>c < w.heap.size/\o.off c,λc=>c < w.heap.size/\o.off c,false,λ_=>True⟩⟩:=⟨hT,λw' hb=>trivial⟩
 have hR:=BX ho (n:=fn.ntmps) (xs:=xs) (t:=iB 0 args) (by omega) (λq=>by
  rw [iO,if_pos (Nat.zero_le q),Nat.sub_zero]
  split
  ·rename_i v hv
   have hlt : q < xs.size:=by rw [hs];exact (List.getElem?_eq_some_iff.1 hv).1
   have e : (xs ++ Array.replicate (fn.ntmps - xs.size) undef).getD q undef = xs.getD q undef:=by
    simp only [Array.getD_eq_getD_getElem?];rw [Array.getElem?_append_left hlt]
   rw [e];exact (hx q v hv).ph
  ·exact .any _)
 refine wp_mono (bO hE c _ _ _ w hR (h w _ o)) ?_
 rintro e a' w' ⟨st',hq,hR'⟩
 cases e with
 | normal=>exact s9 hT ho hR' hq
 | ret=>exact s9 hT ho hR' hq
 | _=>exact hq.elim
theorem ug {P : Program} {Ty : Nat → Option TI} (hT : ∀ t ti, Ty t = some ti → TIok P t ti) {f : Nat} {fn : Func} {c : Code} (hf : P.funcs[f]? = some fn) (hname : (fn.name == "runtime.NumGoroutine") = false) (hb : fn.body = some c)
 {n : Nat} {rs : List ResultVar} (hnt : fn.ntmps = n) (hrs : fn.results = ⟨rs⟩) {bs : List (List CD)} {args : List VD} {R : RR->Prop} (hn : args.length + 1<=n)
 (h : ∀ w0 base o u,Rd w0 false base u (.s bs)->dP ⟨P,Ty,w0,⟨base,base,false,λ_=>True⟩⟩ c (tQ ⟨P,Ty,w0,⟨base,base,false,λ_=>True⟩⟩ o rs R) { n:=n,kb:=0,t:=(0,.cv u bs.length) :: iB 1 args,h:=phs o }) : hJ P f (.c (.s bs) :: args) R:=by
 subst hnt;have hrs' : fn.results.toList = rs:=by rw [hrs]
 subst hrs';refine ⟨⟨fn,hf,hname,by rw [hb];rfl⟩,λw o xs ho hs hx=>calls_of_wp hf hb ?_⟩;have hE : EOk ⟨P,Ty,w,⟨λc=>c < w.heap.size/\o.off c,λc=>c < w.heap.size/\o.off c,false,λ_=>True⟩⟩:=⟨hT,λw' hb=>trivial⟩;have hu : Rd w false o.off (xs.getD 0 undef) (.s bs):=hx 0 _ rfl;have hu0 : Rd w false (λc=>c < w.heap.size/\o.off c) (xs.getD 0 undef) (.s bs):=hu.map (λ_ _ _=>rfl) (λc hc hl=>⟨hl,hc⟩);obtain ⟨ua,uc,hlen⟩:=hu.slice_len;simp only [List.length_cons] at hs
 have e : ∀ q,q < xs.size->(xs ++ Array.replicate (fn.ntmps - xs.size) undef).getD q undef = xs.getD q undef:=λq hq=>by
  simp only [Array.getD_eq_getD_getElem?];rw [Array.getElem?_append_left hq]
 have hR:=BX ho (n:=fn.ntmps) (xs:=xs) (t:=(0,.cv (xs.getD 0 undef) bs.length) :: iB 1 args) (by omega) (λq=>by
  unfold aH
  split
  ·rename_i h0
   subst h0;rw [e 0 (by omega)];exact .cv _ _ ⟨ua,uc,hlen⟩
  ·rename_i h0
   rw [iO]
   split
   ·split
    ·rename_i v hv
     have hlt : q - 1 < args.length:=(List.getElem?_eq_some_iff.1 hv).1;rw [e q (by omega)];exact (hx q v (by rw [show q = q - 1 + 1 by omega];simpa using hv)).ph
    ·exact .any _
   ·exact .any _)
 refine wp_mono (bO hE c _ _ _ w hR (h w _ o _ hu0)) ?_
 rintro e a' w' ⟨st',hq,hR'⟩
 cases e with
 | normal=>exact s9 hT ho hR' hq
 | ret=>exact s9 hT ho hR' hq
 | _=>exact hq.elim
def qQ (P : Program) (T : TypeId) (bs : List (List CD)) (f : Nat) (args : List VD) (R : RR->Prop) : Prop:=
 uk P f /\ ∀ (w : World) (o : dF) (b : Nat) (u : Value) (i h : Int) (xs : Array Value),o.at w -> o.off b -> 0 <= i -> i <= bs.length ->
  w.heap[b]? = some (.cells #[u,.int .i64 i,.int .i64 h] T (0,0)) -> Rd w false (λc => c ≠ b /\ o.off c) u (.s bs) ->
  xs.size = args.length + 1 -> xs.getD 0 undef = .pointer (some ⟨b,0,none⟩) -> (∀ j vd,args[j]? = some vd -> jw w (λc => c ≠ b /\ o.off c) (xs.getD (j + 1) undef) vd) ->
  Calls P f xs w λe w' => ∃ (v : Value) (rr : RR) (i' h' : Int),e = .returned v /\ R rr /\ 0 <= i' /\ i' <= bs.length /\ w'.heap[b]? = some (.cells #[u,.int .i64 i',.int .i64 h'] T (0,0)) /\
   BelowF (λc=>c < w.heap.size/\c≠b) w w'/\rz w' (λc=>c≠b/\o.off c) v rr
theorem jw.map {w : World} {S S' : Nat->Prop} {v : Value} {d : VD} (h : jw w S v d) (hS : ∀ c,S c->S' c) : jw w S' v d:=by
 cases d with
 | c d=>exact Rd.map h (λ_ _ _=>rfl) (λc hc _=>hS c hc)
 | agg ds =>
   obtain ⟨xs,h1,h2,h3⟩:=h;exact ⟨xs,h1,h2,λj d hd=>(h3 j d hd).map (λ_ _ _=>rfl) (λc hc _=>hS c hc)⟩
theorem jy.toN {P : Program} {T : TypeId} {bs : List (List CD)} {f : Nat} {args : List VD} {R : RR->Prop} (hc : jy P T bs f args R) : qQ P T bs f args R:=by
 refine ⟨hc.1,λw o b u i h xs o1 o2 a1 a2 a3 a4 a5 a6 a7=>(hc.2 w b u i h xs a1 a2 a3 (a4.map (λ_ _ _=>rfl) (λc hc _=>hc.1)) a5 a6 (λj vd hj=>(a7 j vd hj).map λc hc=>hc.1)).mono ?_⟩
 rintro e w' ⟨v,rr,i',h',rfl,h1,h2,h3,h4,h5,h6⟩
 exact ⟨v,rr,i',h',rfl,h1,h2,h3,h4,h5,h6.toN λc hc=>⟨by have:=dY a3;omega,nj o1 hc.1⟩⟩
theorem qQ.mono {P : Program} {T : TypeId} {bs : List (List CD)} {f : Nat} {args : List VD} {R R' : RR->Prop} (hc : qQ P T bs f args R) (hr : ∀ r,R r->R' r) : qQ P T bs f args R':=by
 refine ⟨hc.1,λw o b u i h xs o1 o2 a1 a2 a3 a4 a5 a6 a7=>(hc.2 w o b u i h xs o1 o2 a1 a2 a3 a4 a5 a6 a7).mono ?_⟩
 rintro e w' ⟨v,rr,i',h',rfl,h1,h2,h3,h4,h5,h6⟩
 exact ⟨v,rr,i',h',rfl,hr _ h1,h2,h3,h4,h5,h6⟩
def qt (E : Env) (o : dF) (T : TypeId) (b : Nat) (u : Value) (n : Nat) (rs : List ResultVar) (R : RR->Prop) : Exit->ASt->Prop
 | .normal,st=>dt E st rs λl=>∃ rr,R rr/\nQ E st.h l rr/\fv st.h o/\qi T b u n st.h
 | .ret,st=>dt E st rs λl=>∃ rr,R rr/\nQ E st.h l rr/\fv st.h o/\qi T b u n st.h
 | _,_=>False
theorem EE {args : List VD} {n : Nat} {T : TypeId} {bs : List (List CD)} (hn : args.length + 1<=n) {w : World} {o : dF} (ho : o.at w) {b : Nat} (hob : o.off b) {u : Value} {i hh : Int} {xs : Array Value}
 (hcell : w.heap[b]? = some (.cells #[u,.int .i64 i,.int .i64 hh] T (0,0))) (hu : Rd w false (λc=>c≠b/\o.off c) u (.s bs)) (hs : xs.size = args.length + 1) (hx0 : xs.getD 0 undef = .pointer (some ⟨b,0,none⟩))
 (hx : ∀ j vd,args[j]? = some vd->jw w (λc=>c≠b/\o.off c) (xs.getD (j + 1) undef) vd) :
 Rep w ⟨λc=>c < w.heap.size/\c≠b/\o.off c,λc=>c < w.heap.size/\c≠b/\o.off c,false,λ_=>True⟩ { n:=n,kb:=0,t:=(0,.p 0 b 0) :: iB 1 args,h:=(0,.vars b T (dC u bs.length i hh)) :: phs o } { tmps:=xs ++ Array.replicate (n - xs.size) undef,defers:=[] } w:=by
 obtain ⟨hrel,hm⟩:=ya ho ⟨λc=>c < w.heap.size/\c≠b/\o.off c,λc=>c < w.heap.size/\c≠b/\o.off c,false,λ_=>True⟩ (λc hc=>⟨λh=>hc h.2.2,λh=>hc h.2.2⟩);obtain ⟨ua,uc,hlen⟩:=hu.slice_len
 have hM : ∀ c,AH.M ((0,.vars b T (dC u bs.length i hh)) :: phs o) c->¬ (c≠b/\o.off c):=by
  intro c hc h;rcases fJ.1 hc with h1 | ⟨k,-,hk⟩
  ·simp [AObj.blk] at h1;exact h.1 h1.symm
  ·exact (hm c).1 ⟨k,hk⟩ h.2
 have hget : ∀ k,AH.get ((0,.vars b T (dC u bs.length i hh)) :: phs o) k = if k = 0 then .vars b T (dC u bs.length i hh) else AH.get (phs o) k:=λk=>by rw [aN]
 refine ⟨rfl,by simp;omega,λq=>?_,⟨λ_ _=>False,λk=>?_,λk k' c hk hk'=>?_,λk c hk=>?_,λk c hc=>hc.elim,λk k' c hc=>hc.elim,λk c hc=>hc.elim⟩,BelowF.refl _ _,λc hc=>hc.elim (λh=>h.1) (λh=>h.1)⟩
 ·show VRel w _ (aH ((0,.p 0 b 0) :: iB 1 args) q) _
  have e : ∀ q,q < xs.size->(xs ++ Array.replicate (n - xs.size) undef).getD q undef = xs.getD q undef:=λq hq=>by
   simp only [Array.getD_eq_getD_getElem?];rw [Array.getElem?_append_left hq]
  unfold aH
  split
  ·rename_i h0
   subst h0;rw [e 0 (by omega),hx0];exact .p _ _ _
  ·rename_i h0
   rw [iO]
   split
   ·split
    ·rename_i v hv
     have hlt : q - 1 < args.length:=(List.getElem?_eq_some_iff.1 hv).1;rw [e q (by omega)];have:=hx (q - 1) v hv;rw [show q - 1 + 1 = q by omega] at this;exact jw.rel (this.map λc hc hm=>hM c hm hc)
    ·exact .any _
   ·exact .any _
 ·rw [hget]
  split
  ·refine ⟨_,hcell,rfl,λj av hj=>?_⟩
   match j,hj with
   | 0,hj=>cases hj;exact .cv _ _ ⟨ua,uc,hlen⟩
   | 1,hj=>cases hj;exact .v _ rfl
   | 2,hj=>cases hj;exact .v _ rfl
   | j + 3,hj=>cases hj
  ·exact yb ho _ _ k
 ·rw [hget] at hk hk'
  by_cases h1 : k = 0<;>by_cases h2 : k' = 0
  ·rw [h1,h2]
  ·rw [if_pos h1] at hk;rw [if_neg h2] at hk'
   simp [AObj.blk] at hk;exact absurd hob ((hm b).1 ⟨k',hk ▸ hk'⟩)
  ·rw [if_neg h1] at hk;rw [if_pos h2] at hk'
   simp [AObj.blk] at hk';exact absurd hob ((hm b).1 ⟨k,hk' ▸ hk⟩)
  ·rw [if_neg h1] at hk;rw [if_neg h2] at hk'
   exact yc ho.2 hk hk'
 ·have:=hM c ⟨k,hk⟩
  exact ⟨λh=>this h.2,λh=>this h.2⟩
theorem nV {w : World} {M E : Nat->Prop} {b : Nat} {T : TypeId} {u : Value} {n : Nat} {i hh : Int} (ho : df w M E (.vars b T (dC u n i hh))) : w.heap[b]? = some (.cells #[u,.int .i64 i,.int .i64 hh] T (0,0)):=by
 obtain ⟨cs,g1,g2,g3⟩:=ho;have c0:=g3 0 _ rfl;have c1:=g3 1 _ rfl;have c2:=g3 2 _ rfl;have hs3 : cs.size = 3:=g2;have e0 : cs.getD 0 undef = u:=by generalize cs.getD 0 undef = y at c0;cases c0;rfl
 have e1 : cs.getD 1 undef = .int .i64 i:=by generalize cs.getD 1 undef = y at c1;cases c1;rfl
 have e2 : cs.getD 2 undef = .int .i64 hh:=by generalize cs.getD 2 undef = y at c2;cases c2;rfl
 have : cs = #[u,.int .i64 i,.int .i64 hh]:=by
  refine Array.ext (by simp [hs3]) (λj h1 h2'=>?_);simp only [Array.getD_eq_getD_getElem?] at e0 e1 e2;rcases j with _ | _ | _ | j
  ·rw [Array.getElem?_eq_getElem h1] at e0;exact e0
  ·rw [Array.getElem?_eq_getElem h1] at e1;exact e1
  ·rw [Array.getElem?_eq_getElem h1] at e2;exact e2
  ·omega
 rw [g1,this]
theorem qQ.intro {P : Program} {Ty : Nat → Option TI} (hT : ∀ t ti, Ty t = some ti → TIok P t ti) {f : Nat} {fn : Func} {c : Code} (hf : P.funcs[f]? = some fn) (hname : (fn.name == "runtime.NumGoroutine") = false) (hb : fn.body = some c)
 {n : Nat} {rs : List ResultVar} (hnt : fn.ntmps = n) (hrs : fn.results = ⟨rs⟩) {T : TypeId} {bs : List (List CD)} {args : List VD} {R : RR->Prop} (hn : args.length + 1<=n)
 (h : ∀ w0 base o b u i h,0<=i->i<=(bs.length : Int)->Rd w0 false base u (.s bs)->dP ⟨P,Ty,w0,⟨base,base,false,λ_=>True⟩⟩ c (qt ⟨P,Ty,w0,⟨base,base,false,λ_=>True⟩⟩ o T b u bs.length rs R)
  { n:=n,kb:=0,t:=(0,.p 0 b 0) :: iB 1 args,h:=(0,.vars b T (dC u bs.length i h)) :: phs o }) : qQ P T bs f args R:=by
 subst hnt;have hrs' : fn.results.toList = rs:=by rw [hrs]
 subst hrs';refine ⟨⟨fn,hf,hname,by rw [hb];rfl⟩,λw o b u i hh xs ho hob hi0 hi1 hcell hu hs hx0 hx=>calls_of_wp hf hb ?_⟩
 let F : Nat->Prop:=λc=>c < w.heap.size/\c≠b/\o.off c
 let bs0 : Bs:=⟨F,F,false,λ_=>True⟩
 have hE : EOk ⟨P,Ty,w,bs0⟩:=⟨hT,λw' hb=>trivial⟩;have hR:=EE hn ho hob hcell hu hs hx0 hx;have hu0 : Rd w false F u (.s bs):=hu.map (λ_ _ _=>rfl) (λc hc hl=>⟨hl,hc⟩);refine wp_mono (bO hE c _ _ _ w hR (h w F o b u i hh hi0 hi1 hu0)) ?_
 rintro e a' w' ⟨st',hq,hR'⟩
 have key : (dt ⟨P,Ty,w,bs0⟩ st' fn.results.toList λl => ∃ rr,R rr /\ nQ ⟨P,Ty,w,bs0⟩ st'.h l rr /\ fv st'.h o /\ qi T b u bs.length st'.h) -> a'.defers = [] /\ ∃ v,(results fn a'.tmps).run P w' = .ok v w' /\ ∃ (v' : Value) (rr : RR) (i' h' : Int),Ending.returned v = .returned v' /\ R rr /\ 0 <= i' /\ i' <= bs.length /\ w'.heap[b]? = some (.cells #[u,.int .i64 i',.int .i64 h'] T (0,0)) /\
  BelowF (λc=>c < w.heap.size/\c≠b) w w'/\rz w' (λc=>c≠b/\o.off c) v' rr:=by
  intro hq;obtain ⟨vs,l,h1,h2,h3,rr,hRR,h4,htl,i',h'',hg,k1,k2⟩:=dE hE hR' fn.results.toList hq;obtain ⟨Es,hH⟩:=hR'.heap;have hb0 : (st'.h.get 0).blk = some b:=by rw [hg];rfl
  have hobj:=hH.obj 0;rw [hg] at hobj
  refine ⟨hR'.dfr,_,s6 h1,_,rr,i',h'',rfl,hRR,k1,k2,nV hobj,⟨hR'.below.os,hR'.below.tape,hR'.below.output,hR'.below.size,λc hc=>?_⟩,
   u4 (E:=⟨P,Ty,w,bs0⟩) hH (S:=λc=>c≠b/\o.off c) (λc hc=>⟨λhe=>hc (he ▸ ⟨0,hb0⟩),Classical.byContradiction λh=>?_⟩) (λk b' o' C sz rows own hgk=>⟨λhe=>?_,Classical.byContradiction λh=>?_⟩) (λv d hd=>?_) h2 h3 h4⟩
  ·by_cases h : o.off c
   ·exact hR'.below.block c ⟨hc.1,hc.2,h⟩
   ·exact (kM hH ho htl h).1
  ·obtain ⟨-,k,-,hk,-⟩:=kM hH ho htl h
   exact hc ⟨k,hk⟩
  ·have:=hH.inj k 0 b (by rw [hgk,<- he];rfl) hb0
   subst this;rw [hg] at hgk;cases hgk
  ·obtain ⟨-,k',-,hk,b,T,l,he⟩:=kM hH ho htl h
   have:=hH.inj k k' b' (by rw [hgk];rfl) hk;subst this;rw [hgk] at he;cases he
  ·exact Rd.map hd (λc hc _=>hR'.below.block c hc) (λc hc _=>hc.2)
 cases e with
 | normal=>exact key hq
 | ret=>exact key hq
 | _=>exact hq.elim
theorem hQ {E : Env} {T : TypeId} {bs : List (List CD)} {f : Nat} {args : List VD} {R : RR->Prop} (hc : qQ E.P T bs f args R) {kc b n : Nat} {u : Value} {i hh : Int} {avs : List AV} {st : ASt} {dst : Option Nat} {K : ASt->Prop}
 (hu : E.rd u (.s bs)) (hn : bs.length = n) (hget : st.h.get kc = .vars b T (dC u n i hh)) (hi0 : 0<=i) (hi1 : i<=(n : Int)) (hin : iQ E.rd [] avs args)
 (hout : ∀ rr i' h',R rr->0<=i'->i'<=(n : Int)->aQ { st with h:=(kc,.vars b T (dC u n i' h')) :: st.h } dst (roR rr) K) : aa E f (.p kc b 0 :: avs) st dst K:=by
 subst hn;refine ⟨hc.1,λa w hR xs hs hx=>?_⟩;obtain ⟨Es,hH⟩:=hR.heap;have hblk : (st.h.get kc).blk = some b:=by rw [hget];rfl
 have hMb : st.h.M b:=⟨kc,hblk⟩;obtain ⟨o,ho,hoff⟩:=um hH (λc=>c≠b);have hob : o.off b:=(hoff b).2 (λh=>h.2 rfl);have hM0 : ∀ c,¬ st.h.M c->c≠b/\o.off c:=λc hc=>⟨λhe=>hc (he ▸ hMb),(hoff c).2 (λh=>hc h.1)⟩
 have hM1 : ∀ c,c≠b/\o.off c->¬ st.h.M c:=λc hc hm=>(hoff c).1 hc.2 ⟨hm,hc.1⟩
 have g1 : w.heap[b]? = _:=nV (by have:=hH.obj kc;rw [hget] at this;exact this);have hur : Rd w false (λc=>c≠b/\o.off c) u (.s bs):=Rd.map hu (λb hb _=>hR.below.block b hb) (λc hc _=>hM0 c (λ⟨k,hk⟩=>(hH.low k c hk).1 hc));obtain ⟨hl,hr⟩:=uV hR hH hM0 avs args (us:=λj=>xs.getD (j + 1) undef) (λj av hj=>hx (j + 1) av (by simpa using hj)) hin
 have hx0 : xs.getD 0 undef = .pointer (some ⟨b,0,none⟩):=by
  have:=hx 0 _ rfl;generalize xs.getD 0 undef = y at this
  cases this;rfl
 refine (hc.2 w o b u i hh xs ho hob hi0 hi1 g1 hur (by simp at hs;omega) hx0 hr).mono ?_
 rintro e w' ⟨v,rr,i',h',rfl,hRR,k1,k2,hcell,hb,hrr⟩
 have fr : ∀ c,c < w.heap.size->c≠b->w'.heap[c]? = w.heap[c]?:=λc h1 h2=>hb.block c ⟨h1,h2⟩
 obtain ⟨ua,uc,hlen⟩:=Rd.slice_len hu
 have H':=hH.upd (k:=kc) (o':=.vars b T (dC u bs.length i' h')) (Ek:=λ_=>False) hb.size (λc hlt hc=>fr c hlt (λhe=>by
  subst he;rcases hc with hc | ⟨j,hj,hjb⟩
  ·exact hc hMb
  ·exact hj (hH.inj _ _ _ hjb hblk))) (λc hc=>by
  simp [AObj.blk] at hc;subst hc;exact ⟨hH.low kc b hblk,.inr hblk⟩) ⟨_,hcell,rfl,λj av hj=>by
  match j,hj with
  | 0,hj=>cases hj;exact .cv _ _ ⟨ua,uc,hlen⟩
  | 1,hj=>cases hj;exact .v _ rfl
  | 2,hj=>cases hj;exact .v _ rfl
  | j + 3,hj=>cases hj⟩ (λ_ hc=>hc.elim)
 have t : Tr st.h.M w (AH.M ((kc,.vars b T (dC u bs.length i' h')) :: st.h)) w':=
  Tr.upd hH hb.size (λc hlt hm=>fr c hlt (λhe=>hm (he ▸ hMb))) (λc hc=>by simp [AObj.blk] at hc;subst hc;exact .inr hblk)
 have hM' : ∀ c,AH.M ((kc,.vars b T (dC u bs.length i' h')) :: st.h) c->st.h.M c:=by
  intro c hm;rcases fJ.1 hm with h1 | ⟨j,_,hj⟩
  ·simp [AObj.blk] at h1;exact h1 ▸ hMb
  ·exact ⟨j,hj⟩
 obtain ⟨av',h3,h1,h2,h4,h5⟩:=(hR.move H' t ⟨hb.os,hb.tape,hb.output⟩).put (rz.rel hrr (λc hc hm=>hM1 c hc (hM' c hm))) (hout rr i' h' hRR k1 k2);exact ⟨v,av',h3,rfl,h1,h2,h4,h5⟩
def Do (P : Program) (T : TypeId) (bs : List (List CD)) (f : Nat) : Prop:=
 uk P f /\ ∀ (w : World) (u : Value) (xs : Array Value),Rd w false (λ_ => True) u (.s bs) -> xs.size = 1 -> xs.getD 0 undef = u ->
  Calls P f xs w λe w'=>∃ (b : Nat) (h : Int),e = .returned (.pointer (some ⟨b,0,none⟩))/\w.heap.size<=b/\Below w.heap.size w w'/\w'.heap[b]? = some (.cells #[u,.int .i64 0,.int .i64 h] T (0,0))
def tR (E : Env) (T : TypeId) (u : Value) (n : Nat) (rs : List ResultVar) : Exit->ASt->Prop
 | .normal,st=>dt E st rs λl=>∃ k b h,l = [.p k b 0]/\st.h.get k = .vars b T (dC u n 0 h)
 | .ret,st=>dt E st rs λl=>∃ k b h,l = [.p k b 0]/\st.h.get k = .vars b T (dC u n 0 h)
 | _,_=>False
theorem Do.intro {P : Program} {Ty : Nat → Option TI} (hT : ∀ t ti, Ty t = some ti → TIok P t ti) {f : Nat} {fn : Func} {c : Code} (hf : P.funcs[f]? = some fn) (hname : (fn.name == "runtime.NumGoroutine") = false) (hb : fn.body = some c)
 {n : Nat} {rs : List ResultVar} (hnt : fn.ntmps = n) (hrs : fn.results = ⟨rs⟩) {T : TypeId} {bs : List (List CD)} (hn : 1<=n)
 (h : ∀ w0 base u,Rd w0 false base u (.s bs)->dP ⟨P,Ty,w0,⟨base,base,false,λ_=>True⟩⟩ c (tR ⟨P,Ty,w0,⟨base,base,false,λ_=>True⟩⟩ T u bs.length rs) { n:=n,kb:=0,t:=[(0,.cv u bs.length)],h:=[] }) : Do P T bs f:=by
 subst hnt;have hrs' : fn.results.toList = rs:=by rw [hrs]
 subst hrs';refine ⟨⟨fn,hf,hname,by rw [hb];rfl⟩,λw u xs hu hs hx0=>calls_of_wp hf hb ?_⟩
 let F : Nat->Prop:=λc=>c < w.heap.size
 let B : Bs:=⟨F,F,false,λ_=>True⟩
 have hE : EOk ⟨P,Ty,w,B⟩:=⟨hT,λw' hb=>trivial⟩;have hu0 : Rd w false F u (.s bs):=hu.within.map (λ_ _ _=>rfl) (λc hc _=>hc.2);obtain ⟨ua,uc,hlen⟩:=hu.slice_len
 have hR : Rep w B { n:=fn.ntmps,kb:=0,t:=[(0,.cv u bs.length)],h:=[] } { tmps:=xs ++ Array.replicate (fn.ntmps - xs.size) undef,defers:=[] } w:=by
  refine ⟨rfl,by simp;omega,λq=>?_,⟨λ_ _=>False,λk=>trivial,λk k' b hk=>by simp [AH.get,AObj.blk] at hk,λk b hk=>by simp [AH.get,AObj.blk] at hk,λk c hc=>hc.elim,λk k' c hc=>hc.elim,λk c hc=>hc.elim⟩,BelowF.refl _ _,λb hb=>hb.elim id id⟩
  show VRel w (AH.M []) (aH [(0,.cv u bs.length)] q) _
  unfold aH
  split
  ·rename_i h0
   subst h0
   have : (xs ++ Array.replicate (fn.ntmps - xs.size) undef).getD 0 undef = xs.getD 0 undef:=by
    simp only [Array.getD_eq_getD_getElem?];rw [Array.getElem?_append_left (by omega)]
   rw [this,hx0];exact .cv _ _ ⟨ua,uc,hlen⟩
  ·exact .any _
 refine wp_mono (bO hE c _ _ _ w hR (h w F _ hu0)) ?_
 rintro e a' w' ⟨st',hq,hR'⟩
 have key : (dt ⟨P,Ty,w,B⟩ st' fn.results.toList λl=>∃ k b h,l = [.p k b 0]/\st'.h.get k = .vars b T (dC u bs.length 0 h))->a'.defers = []/\∃ v,(results fn a'.tmps).run P w' = .ok v w'/\∃ (b : Nat) (h : Int),Ending.returned v = .returned (.pointer (some ⟨b,0,none⟩))/\w.heap.size<=b/\Below w.heap.size w w'/\w'.heap[b]? = some (.cells #[u,.int .i64 0,.int .i64 h] T (0,0)):=by
  intro hq;obtain ⟨vs,l,h1,h2,h3,k,b,h',rfl,hg⟩:=dE hE hR' fn.results.toList hq;obtain ⟨Es,hH⟩:=hR'.heap
  have hv0 : vs.getD 0 undef = .pointer (some ⟨b,0,none⟩):=by
   have:=h3 0 _ rfl;generalize vs.getD 0 undef = y at this
   cases this;rfl
  have ho:=hH.obj k;rw [hg] at ho;refine ⟨hR'.dfr,_,s6 h1,b,h',by rw [if_pos (by simpa using h2),hv0],Nat.le_of_not_lt (hH.low k b (by rw [hg];rfl)).1,⟨hR'.below.os,hR'.below.tape,hR'.below.output,hR'.below.size,hR'.below.block⟩,nV ho⟩
 cases e with
 | normal=>exact key hq
 | ret=>exact key hq
 | _=>exact hq.elim
theorem xK {E : Env} {T : TypeId} {bs : List (List CD)} {f : Nat} (hc : Do E.P T bs f) {n : Nat} {u : Value} {st : ASt} {dst : Option Nat} {K : ASt->Prop}
 (hu : E.rd u (.s bs)) (hn : bs.length = n) (hout : ∀ b h,aQ { st with h:=(st.key dst,.vars b T (dC u n 0 h)) :: st.h } dst (.p (st.key dst) b 0) K) : aa E f [.cv u n] st dst K:=by
 subst hn;refine ⟨hc.1,λa w hR xs hs hx=>?_⟩;obtain ⟨Es,hH⟩:=hR.heap
 have hx0 : xs.getD 0 undef = u:=by
  have:=hx 0 _ rfl;generalize xs.getD 0 undef = y at this
  cases this;rfl
 refine (hc.2 w u xs (hR.rd _ _ hu) (by simpa using hs) hx0).mono ?_
 rintro e w' ⟨b,h',rfl,hle,hb,hcell⟩
 obtain ⟨ua,uc,hlen⟩:=Rd.slice_len hu
 have H':=hH.upd (k:=st.key dst) (o':=.vars b T (dC u bs.length 0 h')) (Ek:=λ_=>False) hb.size (λc hlt _=>hb.block c hlt) (λc hc=>by
  simp [AObj.blk] at hc;subst hc;exact ⟨hR.newer hle,.inl hle⟩) ⟨_,hcell,rfl,λj av hj=>by
  match j,hj with
  | 0,hj=>cases hj;exact .cv _ _ ⟨ua,uc,hlen⟩
  | 1,hj=>cases hj;exact .v _ rfl
  | 2,hj=>cases hj;exact .v _ rfl
  | j + 3,hj=>cases hj⟩ (λ_ hc=>hc.elim)
 have t : Tr st.h.M w (AH.M ((st.key dst,.vars b T (dC u bs.length 0 h')) :: st.h)) w':=
  Tr.upd hH hb.size (λc hlt _=>hb.block c hlt) (λc hc=>by simp [AObj.blk] at hc;subst hc;exact .inl hle)
 obtain ⟨av',h3,h1,h2,h4,h5⟩:=(hR.move H' t ⟨hb.os,hb.tape,hb.output⟩).put (.p (st.key dst) b 0) (hout b h');exact ⟨_,av',h3,rfl,h1,h2,h4,h5⟩
theorem Du {W : dF} : wkH (phs W) (phs W) = True:=by rw [<- pf];exact yq
theorem Dt {W : dF} {h : AH} {j : Nat} {o : AObj} (hj : j < 1000000000) : wkH ((j,o) :: h) (phs W) = wkH h (phs W):=by rw [<- pf,<- pf];exact yp hj
theorem Ip {st : ASt} : st.ev (.const (.pointer none)) = .any:=(rfl)
theorem CZ {E : Env} {o : dF} {rs : List ResultVar} {R : RR->Prop} {st : ASt} : tQ E o rs R .normal st = dt E st rs λl=>∃ rr,R rr/\nQ E st.h l rr/\fv st.h o:=(rfl)
theorem CY {E : Env} {o : dF} {rs : List ResultVar} {R : RR->Prop} {st : ASt} : tQ E o rs R .ret st = dt E st rs λl=>∃ rr,R rr/\nQ E st.h l rr/\fv st.h o:=(rfl)
theorem xt {E : Env} {o : dF} {T : TypeId} {b : Nat} {u : Value} {n : Nat} {rs : List ResultVar} {R : RR->Prop} {st : ASt} : qt E o T b u n rs R .normal st = dt E st rs λl=>∃ rr,R rr/\nQ E st.h l rr/\fv st.h o/\qi T b u n st.h:=(rfl)
theorem xr {E : Env} {o : dF} {T : TypeId} {b : Nat} {u : Value} {n : Nat} {rs : List ResultVar} {R : RR->Prop} {st : ASt} : qt E o T b u n rs R .ret st = dt E st rs λl=>∃ rr,R rr/\nQ E st.h l rr/\fv st.h o/\qi T b u n st.h:=(rfl)
theorem zQ {E : Env} {T : TypeId} {u : Value} {n : Nat} {rs : List ResultVar} {st : ASt} : tR E T u n rs .normal st = dt E st rs λl=>∃ k b h,l = [.p k b 0]/\st.h.get k = .vars b T (dC u n 0 h):=(rfl)
theorem zP {E : Env} {T : TypeId} {u : Value} {n : Nat} {rs : List ResultVar} {st : ASt} : tR E T u n rs .ret st = dt E st rs λl=>∃ k b h,l = [.p k b 0]/\st.h.get k = .vars b T (dC u n 0 h):=(rfl)
theorem HI {E : Env} {h : AH} {x : AV} {r : RV} : nQ E h [x] (.one r) = oh E.rd h x r:=(rfl)
theorem HG {E : Env} {h : AH} {l : List AV} {rs : List RV} : nQ E h l (.tup rs) = (l.length≠1/\lS E.rd h l rs):=(rfl)
theorem D6 {R : Value->CD->Prop} {h : AH} {x : AV} {d : CD} {sz : Nat} : oh R h x (.c d sz) = aIn R h x d:=(rfl)
theorem y8 {R : Value->CD->Prop} {h : AH} {l : List AV} {ts : List (CD × Nat)} : oh R h (.agg l) (.agg ts) = qJ R h l (ts.map Prod.fst):=(rfl)
theorem wt {R : Value->CD->Prop} {h : AH} : lS R h [] [] = True:=(rfl)
theorem u5 {R : Value->CD->Prop} {h : AH} {x : AV} {l : List AV} {r : RV} {rs : List RV} : lS R h (x :: l) (r :: rs) = (oh R h x r/\lS R h l rs):=(rfl)
theorem KC {d : CD} {sz : Nat} : roV (.c d sz) = toAV d:=(rfl)
theorem DK {ts : List (CD × Nat)} : roV (.agg ts) = .agg (ts.map λt=>toAV t.1):=(rfl)
theorem DM {r : RV} : roR (.one r) = roV r:=(rfl)
theorem DL {l : List RV} : roR (.tup l) = .tup (l.map roV):=(rfl)
attribute [simp ↓] Ip CZ CY xt xr zQ zP
attribute [simp] HI HG D6 y8 wt u5 KC DK DM DL Du Dt yL tail_cons yq yp DX
end Go.AM
namespace Go.Proofs.YtoldjebobgocpaaGreat
open Go.AM
set_option maxRecDepth 20000
set_option maxHeartbeats 12800000
theorem Ci (l : List UInt8) (_hl : l.length<=2 ^ 40) : Do Tryz.prog 141 (l.map gt) 107:=by
 refine Do.intro ae Tryz.func107 (by kernel_rfl) rfl rfl rfl (Nat.le_of_ble_eq_true rfl) (λw0 base u hu=>?_);simp;refine aw eok (λx : Nat × Int=>x.1<=l.length) (λx=>⟨32,0,[(4,.v (.int .i64 x.1)),(3,.v (.int .i64 x.2)),(0,.cv u l.length)],[]⟩) (λx=>l.length - x.1) (0,Go.IntKind.i64.wrap (1621 + (l.length : Int))) (by simp) (by simp) (λx hx=>Ent.refl ?_);obtain ⟨i,h⟩:=x;simp only at hx ⊢;by_cases c : i < l.length
 ·by_cases c2 : i < 4000
  ·have c2' : (i : Int) < 4000:=by omega
   simp [c,c2'];refine ⟨_,hu,?_⟩;simp [c];refine Ent.refl ⟨i + 1,by omega,by omega,?_⟩;simp;exact aB (by omega)
  ·have c2' : ¬ (i : Int) < 4000:=by omega
   simp [c,c2'];exact λb=>⟨496,b,⟨rfl,rfl⟩,_,rfl⟩
 ·simp [c]
  exact λb=>⟨496,b,⟨rfl,rfl⟩,_,rfl⟩
attribute [local simp ↓] Mz
set_option maxHeartbeats 6400000
def KK (p : Part) : Prop:=(-9223372036854775808<=p.kind/\p.kind<=9223372036854775807)/\(-9223372036854775808<=p.n/\p.n<=9223372036854775807)/\p.signs.length<=4/\∀ x∈p.signs,-9223372036854775808<=x/\x<=9223372036854775807
theorem uU.any {fr : Int} (hf : fr<=2 ^ 40) {p : Part} (h : uU fr p) : KK p:=by
 obtain ⟨h1,h2,h3,h4⟩:=h;exact ⟨by omega,by omega,by omega,λx hx=>by have:=h4 x hx;unfold et at this;omega⟩
set_option maxHeartbeats 3200000
set_option maxHeartbeats 6400000
set_option maxHeartbeats 3200000
set_option maxHeartbeats 1600000
theorem s0 (name : ByteArray) (t : List Int) (h1 : name.size<=2 ^ 28) (h2 : t.length<=2 ^ 28) : ak Tryz.prog 292 [.c (.v (.string name)),.c (.s (t.map aE))] (.tup [.agg (ej name t).1.res,.c (.v (.bool (ej name t).2)) 1]):=by
 refine pci ae Tryz.func292 (λw0 base=>?_);have hn:=It name t;simp;intro b4 b8;refine ⟨by omega,λH9 b6=>?_⟩;refine aa.pure (es (gl name t) (by omega)) (by simp [Doc.row,gl]) ?_;by_cases c : aJ (gl name t)
 ·have e : ej name t = (gl name t,true):=by unfold ej;rw [if_pos c]
  simp [c,e,Doc.res];simp [gl]
 ·have e : ej name t = (Doc.zero,false):=by unfold ej;rw [if_neg c]
  simp [ah c,e,Doc.res,Doc.zero]
theorem sY (name : ByteArray) (_ : name.size<=9223372036854775807) (h0 : name.size<=2 ^ 20) (t : List Int) (ft : t.length<=9223372036854775807/\∀ n∈t,pW n) (h1 : t.length<=2 ^ 20) (many : Int) (_ : pW many) :
 ak Tryz.prog 237 [.c (.v (.string name)),.c (.s (t.map aE)),.c (vi many)] (.tup [.agg (eK name t many).1.res,.c (.v (.bool (eK name t many).2)) 1]):=by
 refine pci ae Tryz.func237 (λw0 base=>?_);have hno:=xd (name:=name) (t:=t) (many:=many);have hyes:=oB (name:=name) (t:=t) (many:=many);simp;intro b6;refine aa.pure (s0 name t (by omega) (by omega)) (by simp) ?_;generalize ej name t = D at hno hyes ⊢;obtain ⟨d,ok⟩:=D;simp only at hno hyes ⊢;simp [Doc.res];intro H2 H3 H4 b8
 cases ok with
 | false =>
   have e:=hno (by simp);simp [e,Net.res,Net.zero,Doc.zero]
 | true=>
 simp;refine aa.pure (cF many 1 4) (by simp) ?_;by_cases c : 1<=many/\many<=4
 rotate_left
 ·have e:=hno (λh=>c h.2)
  simp [ah c,e,Net.res,Net.zero,Doc.zero]
 have e:=hyes ⟨rfl,c⟩;simp [c];intro b10;obtain ⟨m,rfl⟩ : ∃ m : Nat,many = m:=⟨many.toNat,by omega⟩;simp only [Int.toNat_natCast] at e
 refine aw eok (λx : Nat × Hd=>x.1<=m) (λx=>⟨48,0,[(11,.v (.int .i64 ((x.1 : Int) + 1))),(2,.v (.int .i64 m)),(1,.ro (t.map aE)),(6,.p 96 b6 0),(10,.p 160 b10 0)],
  [(160, .vars b10 92 [.v (.string d.name), .v (.int .i64 d.fr), .sl 274 H2 1 0 d.text.length, .sl 275 H3 3 0 d.list.length, .sl 276 H4 3 0 d.seen.length, .sl 5000 x.2 7 0 x.1]), (96, .vars b6 92 [.v (.string ⟨#[]⟩), .v (.int .i64 0), .nil, .nil, .nil, .nil]),
   (274,.rows H2 1 (d.text.map aE) true),(275,.rows H3 3 (d.list.map Entry.row) true),(276,.rows H4 3 (d.seen.map Seen.row) true),(5000,.rows x.2 7 ((ei t x.1).map Rep.row) true)]⟩) (λx=>m - x.1) (0,none) (by simp) (by simp [ei]) (λx hi=>Ent.refl ?_)
 obtain ⟨i,H⟩:=x;simp only at hi ⊢;by_cases hlt : i < m
 ·have hlt' : (i : Int) + 1<=m:=by omega
  have ew2 : Go.IntKind.i64.wrap ((i : Int) + 1 + 1) = (i : Int) + 1 + 1:=Go.IntWalk.i64_in _ (by omega);simp [hlt'];refine aa.pure (sV ((i : Int) + 1) (by unfold pW;omega) 0 (by unfold pW;omega) 0 (by unfold pW;omega) t ft h1) (by simp) ?_;have hs:=uZ t i;generalize bK ((i : Int) + 1) 0 0 t = Q at hs ⊢;obtain ⟨r,ok2⟩:=Q;simp only at hs ⊢;simp [Rep.res];intro G3 G5 G6 b12;simp [fh];intro b45;refine ⟨by omega,λH'=>Ent.refl ⟨i + 1,by omega,by omega,H',?_⟩⟩;rw [hs];simp [Rep.row,ew2]
 ·have hm : i = m:=by omega
  subst hm;have hlt' : ¬ (i : Int) + 1<=i:=by omega
  simp [hlt',e,Net.res,fh]
set_option maxHeartbeats 6400000
set_option maxHeartbeats 1600000
theorem oQ (p q : Entry) (hl : bo p<=2 ^ 40) : ak Tryz.prog 119 [.agg p.row,.agg q.row] (.one (.c (vb (p = q)) 1)):=by
 refine pci ae Tryz.func119 (λw0 base=>?_);obtain ⟨k1,n1,s1⟩:=p;obtain ⟨k2,n2,s2⟩:=q;simp [Entry.row];intro b1 b2;by_cases h1 : k1 = k2
 ·by_cases h2 : n1 = n2
  ·simp [h1,h2]
   refine aa.pure (fE s1 s2 hl) (by simp) ?_;simp
  ·simp [h1,h2]
 ·simp [h1]
theorem nR (a b : List Entry) (hs : nL bo a<=2 ^ 40) : ak Tryz.prog 118 [.c (.s (a.map Entry.row)),.c (.s (b.map Entry.row)),.c (.v (.func (.func 119) #[] #[]))] (.one (.c (vb (a = b)) 1)):=by
 have hl:=cj hs;refine pci ae Tryz.func118 (λw0 base=>?_);by_cases h : a.length = b.length
 ·simp [h]
  refine aT.intro eok (λi : Nat=>i<=a.length/\a.take i = b.take i) (λi=>⟨32,0,[(17,.v (.int .i64 i)),(16,.v (.int .i64 b.length)),(15,.ro (a.map Entry.row)),(2,.v (.func (.func 119) #[] #[])),(1,.ro (b.map Entry.row))],[]⟩) (λi=>a.length - i) 0 (by simp) (by simp) (λi hi=>?_);by_cases hlt : i < a.length
  ·have hlt' : i < b.length:=by omega
   simp [hlt,hlt',Entry.row];intro b1 b2;refine aa.pure (oQ a[i] b[i] (dM hs (List.getElem_mem hlt))) (by simp [Entry.row]) ?_;simp;refine Br.mk (λh1=>?_) (λh1=>?_)
   ·simp
    exact ⟨i + 1,⟨by omega,fR hlt hlt' hi.2 (i8 h1)⟩,by omega,aB (by omega)⟩
   ·simp [aC]
    exact mH hlt hlt' (mA h1)
  ·have hlt' : ¬ i < b.length:=by omega
   simp [hlt',fZ];exact gM (by omega) (by omega) hi.2
 ·have hz : ¬ (a.length : Int) = b.length:=by omega
  simp [hz,aC];exact λh2=>absurd (by rw [h2]) h
set_option maxHeartbeats 6400000
set_option maxHeartbeats 12800000
set_option maxHeartbeats 25600000
end Go.Proofs.YtoldjebobgocpaaGreat
