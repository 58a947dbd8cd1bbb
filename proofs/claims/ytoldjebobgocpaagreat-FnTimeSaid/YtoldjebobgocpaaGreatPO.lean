import Derived.Test.YtoldjebobgocpaaGreatPN
import Derived.Test.YtoldjebobgocpaaGreatME
import Derived.Test.YtoldjebobgocpaaGreatPL
import Derived.Test.YtoldjebobgocpaaGreatPK
import Derived.Test.YtoldjebobgocpaaGreatPJ
import Derived.Test.YtoldjebobgocpaaGreatPM
namespace Go.AM
open Go.RowKit
def xD (w : World) (S : Nat->Prop) (v : Value) : RV->Prop
 | .c d _=>Rd w false S v d
 | .agg ts=>∃ xs : Array Value,v = .agg xs/\xs.size = ts.length/\∀ j t,ts[j]? = some t->Rd w false S (xs.getD j undef) t.1
def uE (w : World) (S : Nat->Prop) (v : Value) : RR->Prop
 | .one r=>xD w S v r
 | .tup l=>∃ xs : Array Value,v = .tuple xs/\xs.size = l.length/\∀ j t,l[j]? = some t->xD w S (xs.getD j undef) t
theorem mR.toN {w : World} {S S' : Nat->Prop} {v : Value} {r : RV} (h : mR w S v r) (hS : ∀ c,S c->S' c) : xD w S' v r:=by
 cases r with
 | c d sz=>exact (gW.rd h).weaken.map (λ_ _ _=>rfl) (λc hc _=>hS c hc)
 | agg ts =>
   obtain ⟨xs,F,h1,h2,h3,h4,h5⟩:=h;exact ⟨xs,h1,h2,λj t hj=>(gW.rd (h5 j t hj)).weaken.map (λ_ _ _=>rfl) (λc hc _=>hS c (h3 j c hc))⟩
theorem xC.toN {w : World} {S S' : Nat->Prop} {v : Value} {r : RR} (h : xC w S v r) (hS : ∀ c,S c->S' c) : uE w S' v r:=by
 cases r with
 | one r=>exact mR.toN h hS
 | tup l =>
   obtain ⟨xs,F,h1,h2,h3,h4,h5⟩:=h;exact ⟨xs,h1,h2,λj t hj=>mR.toN (h5 j t hj) (λc hc=>hS c (h3 j c hc))⟩
theorem xD.rel {w : World} {M S : Nat->Prop} {v : Value} {r : RV} (h : xD w S v r) (hM : ∀ c,S c->¬ M c) : VRel w M (roV r) v:=by
 cases r with
 | c d sz=>exact fR (Rd.map h (λ_ _ _=>rfl) (λc hc _=>hM c hc))
 | agg ts =>
   obtain ⟨xs,rfl,h2,h5⟩:=h;refine .agg _ _ (by simp [h2]) (λi av hi=>?_);simp only [List.getElem?_map,Option.map_eq_some_iff] at hi;obtain ⟨t,ht,rfl⟩:=hi;exact fR ((h5 i t ht).map (λ_ _ _=>rfl) (λc hc _=>hM c hc))
theorem uE.rel {w : World} {M S : Nat->Prop} {v : Value} {r : RR} (h : uE w S v r) (hM : ∀ c,S c->¬ M c) : VRel w M (roR r) v:=by
 cases r with
 | one r=>exact xD.rel h hM
 | tup l =>
   obtain ⟨xs,rfl,h2,h5⟩:=h;refine .tup _ _ (by simp [h2]) (λi av hi=>?_);simp only [List.getElem?_map,Option.map_eq_some_iff] at hi;obtain ⟨t,ht,rfl⟩:=hi;exact xD.rel (h5 i t ht) hM
theorem aa.ro {E : Env} {f : Nat} {args : List VD} {rr : RR} (hc : aj E.P f args rr) {avs : List AV} {st : ASt} {dst : Option Nat} {K : ASt->Prop} (hin : kU E.rd st.h avs args)
 (hout : aW st dst (roR rr) K) : aa E f avs st dst K:=by
 refine ⟨hc.1,λa w hR xs hs hx=>?_⟩;obtain ⟨Es,hH⟩:=hR.heap;obtain ⟨hl,hr⟩:=jZ hH hR.rd avs args hx hin;refine (hc.2 w trivial xs (by omega) hr).mono ?_
 rintro e w' ⟨v,rfl,hb,hrr⟩
 have t : Tr st.h.M w st.h.M w':=⟨hb.size,λb hlt _=>hb.block b hlt,λb _ h=>h⟩;have H' : HRel E.base st.h w' Es:=⟨λk=>(hH.obj k).tr t (λb hk=>hb.block b (hH.lt hk)) (λc hc _=>hc),hH.inj,hH.low,λk c hc=>⟨(hH.elow k c hc).1,Nat.lt_of_lt_of_le (hH.elow k c hc).2 hb.size⟩,hH.einj,hH.em⟩;have hv : VRel w' st.h.M (roR rr) v:=Bz hrr (λc hc ⟨k,hk⟩=>by have:=hH.lt hk;omega);obtain ⟨av',h3,h1,h2,h4,h5⟩:=(hR.move H' t ⟨hb.os,hb.tape,hb.output⟩).put hv hout;exact ⟨v,av',h3,rfl,h1,h2,h4,h5⟩
abbrev dJ:=List (Nat × Array Value × TypeId)
def dJ.at (W : dJ) (w : World) : Prop:=(∀ q∈W,w.heap[q.1]? = some (.cells q.2.1 q.2.2 (0,0)))/\(W.map (·.1)).Nodup
def dJ.off (W : dJ) (c : Nat) : Prop:=∀ q∈W,c≠q.1
def phO (q : Nat × Array Value × TypeId) : AObj:=.vars q.1 q.2.2 (q.2.1.toList.map .is)
def fb : Nat->dJ->AH
 | _,[]=>[]
 | i,q :: l=>(i,phO q) :: fb (i + 1) l
def phs (W : dJ) : AH:=fb 1000000000 W
theorem qJ : ∀ (W : dJ) (i k : Nat),AH.get (fb i W) k = if i<=k then (match W[k - i]? with | some q=>phO q | none=>.dead) else .dead
 | [],i,k=>by simp [fb,AH.get]
 | q :: l, i, k => by
   rw [fb,aH,qJ l];by_cases h : k = i
   ·subst h;simp
   ·rw [if_neg h]
    by_cases h1 : i + 1<=k
    ·rw [if_pos h1,if_pos (by omega),show k - i = (k - (i + 1)) + 1 by omega];rfl
    ·rw [if_neg h1,if_neg (by omega)]
theorem rG (W : dJ) (k : Nat) : AH.get (phs W) k = if 1000000000<=k then (match W[k - 1000000000]? with | some q=>phO q | none=>.dead) else .dead:=qJ W _ k
theorem Ib {W : dJ} {k : Nat} (h : k < 1000000000) : AH.get (phs W) k = .dead:=by rw [rG,if_neg (by omega)]
theorem v9 {W : dJ} {k c : Nat} (h : (AH.get (phs W) k).blk = some c) : 1000000000<=k/\∃ q,W[k - 1000000000]? = some q/\q.1 = c/\AH.get (phs W) k = phO q:=by
 rw [rG] at h ⊢
 split at h
 ·rename_i hk
  rw [if_pos hk]
  split at h
  ·rename_i q hq
   exact ⟨hk,q,hq,by simpa [phO,AObj.blk] using h,by simp [hq]⟩
  ·cases h
 ·cases h
theorem Ft {W : dJ} {q : Nat × Array Value × TypeId} (h : q∈W) : ∃ k,1000000000<=k/\AH.get (phs W) k = phO q:=by
 obtain ⟨i,hi,rfl⟩:=List.getElem_of_mem h;exact ⟨1000000000 + i,by omega,by rw [rG,if_pos (by omega)];simp [hi]⟩
theorem BH {W : dJ} (hn : (W.map (·.1)).Nodup) {k k' c : Nat} (h : (AH.get (phs W) k).blk = some c) (h' : (AH.get (phs W) k').blk = some c) : k = k':=by
 obtain ⟨h1,q,hq,rfl,-⟩:=v9 h;obtain ⟨h2,q',hq',e,-⟩:=v9 h';obtain ⟨hi,rfl⟩:=List.getElem?_eq_some_iff.1 hq;obtain ⟨hi',rfl⟩:=List.getElem?_eq_some_iff.1 hq';have:=(List.getElem_inj (xs:=W.map (·.1)) (i:=k' - 1000000000) (j:=k - 1000000000) (h₀:=by simpa using hi') (h₁:=by simpa using hi) hn).1 (by simpa using e);omega
def gB (h : AH) (W : dJ) : Prop:=∀ k,1000000000<=k->AH.get h k = AH.get (phs W) k
theorem Ch {W : dJ} : gB (phs W) W = True:=eq_true λ_ _=>rfl
theorem tail_cons {W : dJ} {h : AH} {j : Nat} {o : AObj} (hj : j < 1000000000) : gB ((j,o) :: h) W = gB h W:=by
 have : ∀ k,1000000000<=k->AH.get ((j,o) :: h) k = AH.get h k:=λk hk=>by rw [aH,if_neg (by omega)]
 refine propext ⟨λht k hk=>by rw [<- this k hk];exact ht k hk,λht k hk=>by rw [this k hk];exact ht k hk⟩
theorem DG (a : AV) : gw a a:=by cases a<;>simp [gw]
theorem zw : ∀ l : List AV,ALe l l
 | []=>trivial
 | a :: l=>⟨DG a,zw l⟩
theorem Ac (o : AObj) : eC o o:=by
 cases o with
 | vars b T cells=>exact ⟨rfl,rfl,zw cells⟩
 | dead=>trivial
 | rows=>exact .inl rfl
 | lent=>exact rfl
 | part=>exact rfl
theorem mj : ∀ {W : dJ} {i : Nat} {p : Nat × AObj},p∈fb i W->i<=p.1/\AH.get (fb i W) p.1 = p.2
 | [],_,_,h=>by cases h
 | q :: l, i, p, h => by
   rcases List.mem_cons.1 h with rfl | h
   ·exact ⟨Nat.le_refl _,by rw [fb,aH,if_pos rfl]⟩
   ·obtain ⟨h1,h2⟩:=mj h
    exact ⟨by omega,by rw [fb,aH,if_neg (by omega)];exact h2⟩
theorem BV {W : dJ} : (∀ p∈phs W,eC (AH.get (phs W) p.1) p.2) = True:=eq_true λp hp=>by
 have e : AH.get (phs W) p.1 = p.2:=(mj hp).2;rw [e];exact Ac _
theorem BU {W : dJ} {h : AH} {j : Nat} {o : AObj} (hj : j < 1000000000) : (∀ p∈phs W,eC (AH.get ((j,o) :: h) p.1) p.2) = ∀ p∈phs W,eC (AH.get h p.1) p.2:=by
 have : ∀ p∈phs W,AH.get ((j,o) :: h) p.1 = AH.get h p.1:=λp hp=>by
  have:=(mj hp).1;rw [aH,if_neg (by omega)]
 refine propext ⟨λht p hp=>by rw [<- this p hp];exact ht p hp,λht p hp=>by rw [this p hp];exact ht p hp⟩
def d6 (P : Program) (f : Nat) (args : List VD) (R : RR->Prop) : Prop:=
 uF P f /\ ∀ (w : World) (o : dJ) (xs : Array Value),o.at w -> xs.size = args.length -> (∀ i vd,args[i]? = some vd -> lO w o.off (xs.getD i undef) vd) ->
  Calls P f xs w λe w'=>∃ v rr,e = .returned v/\R rr/\Below w.heap.size w w'/\uE w' o.off v rr
theorem pE {o : dJ} {w : World} (h : o.at w) {c : Nat} (hc : w.heap.size<=c) : o.off c:=λq hq he=>by
 have:=cU (h.1 q hq);omega
theorem lO.toV {w : World} {S : Nat->Prop} {v : Value} {d : VD} (h : lO w S v d) : RdV w v d:=by
 cases d with
 | c d=>exact Rd.map h (λ_ _ _=>rfl) (λ_ _ _=>trivial)
 | agg ds =>
   obtain ⟨xs,h1,h2,h3⟩:=h;exact ⟨xs,h1,h2,λj d hd=>(h3 j d hd).map (λ_ _ _=>rfl) (λ_ _ _=>trivial)⟩
theorem aj.toN {P : Program} {f : Nat} {args : List VD} {rr : RR} (hc : aj P f args rr) : d6 P f args (λr=>r = rr):=by
 refine ⟨hc.1,λw o xs ho hs hx=>(hc.2 w trivial xs hs (λi vd hi=>(hx i vd hi).toV)).mono ?_⟩
 rintro e w' ⟨v,rfl,hb,hr⟩
 exact ⟨v,rr,rfl,rfl,hb,hr.toN λc hc=>pE ho hc.1⟩
theorem D1 {P : Program} {f : Nat} {args : List VD} {u : Value} (hu : plain u = true) (hc : d6 P f args (λr=>r = .one (.c (.v u) 1))) : aj P f args (.one (.c (.v u) 1)):=by
 refine ⟨hc.1,λw _ xs hs hx=>(hc.2 w [] xs ⟨by simp,by simp⟩ hs (λi vd hi=>?_)).mono ?_⟩
 ·have:=hx i vd hi
  cases vd with
  | c d=>exact Rd.map this (λ_ _ _=>rfl) (λ_ _ _ q hq=>by cases hq)
  | agg ds =>
    obtain ⟨ys,g1,g2,g3⟩:=this;exact ⟨ys,g1,g2,λj d hd=>(g3 j d hd).map (λ_ _ _=>rfl) (λ_ _ _ q hq=>by cases hq)⟩
 ·rintro e w' ⟨v,rr,rfl,rfl,hb,hr⟩
  have h : Rd w' false _ v (.v u):=hr
  cases h with
  | plain h=>exact ⟨_,rfl,hb,rfl,hu⟩
theorem d6.mono {P : Program} {f : Nat} {args : List VD} {R R' : RR->Prop} (hc : d6 P f args R) (h : ∀ r,R r->R' r) : d6 P f args R':=by
 refine ⟨hc.1,λw o xs ho hs hx=>(hc.2 w o xs ho hs hx).mono ?_⟩
 rintro e w' ⟨v,rr,rfl,h1,hb,hr⟩
 exact ⟨v,rr,rfl,h _ h1,hb,hr⟩
theorem FG {w : World} {M E : Nat->Prop} {o : AObj} (h : dz w M E o) {b : Nat} (hb : o.blk = some b) : ∃ cs T,w.heap[b]? = some (.cells cs T (0,0)):=by
 cases o with
 | dead=>cases hb
 | vars b' T cells=>obtain ⟨cs,h1,-⟩:=h;cases hb;exact ⟨cs,T,h1⟩
 | lent H sz rows=>cases hb
 | rows H sz rows own =>
   cases H with
   | none=>cases hb
   | some q=>obtain ⟨b',o,C⟩:=q;obtain ⟨cs,T,F,h1,-⟩:=h;cases hb;exact ⟨cs,T,h1⟩
 | part H sz rows lo =>
   cases H with
   | none=>cases hb
   | some q=>obtain ⟨b',o,C⟩:=q;obtain ⟨cs,T,F,h1,-⟩:=h;cases hb;exact ⟨cs,T,h1⟩
theorem yW : ∀ {h : AH} {k : Nat},(AH.get h k).blk≠none->k∈h.map (·.1)
 | [],_,hk=>absurd rfl hk
 | (j, o) :: h, k, hk => by
   rw [aH] at hk
   split at hk
   ·rename_i e;rw [e];exact List.mem_cons_self ..
   ·exact List.mem_cons_of_mem _ (yW hk)
def ddl : List Nat->List Nat
 | []=>[]
 | a :: l=>if a∈l then ddl l else a :: ddl l
theorem rK {c : Nat} : ∀ l : List Nat,c∈ddl l ↔ c∈l
 | []=>Iff.rfl
 | a :: l => by
   unfold ddl
   split
   ·rename_i h
    rw [rK l];exact ⟨λhc=>List.mem_cons_of_mem _ hc,λhc=>(List.mem_cons.1 hc).elim (λe=>e ▸ h) id⟩
   ·rw [List.mem_cons,List.mem_cons,rK l]
theorem qo : ∀ l : List Nat,(ddl l).Nodup
 | []=>List.nodup_nil
 | a :: l => by
   unfold ddl
   split
   ·exact qo l
   ·rename_i h
    rw [List.nodup_cons];exact ⟨λhc=>h ((rK l).1 hc),qo l⟩
theorem Bk {w : World} : ∀ {B : List Nat},B.Nodup->(∀ b∈B,∃ cs T,w.heap[b]? = some (.cells cs T (0,0)))->∃ W : dJ,W.at w/\W.map (·.1) = B
 | [],_,_=>⟨[],⟨by simp,by simp⟩,rfl⟩
 | b :: B, hn, hb => by
   rw [List.nodup_cons] at hn;obtain ⟨W,h1,h2⟩:=Bk hn.2 (λc hc=>hb c (List.mem_cons_of_mem _ hc));obtain ⟨cs,T,h3⟩:=hb b (List.mem_cons_self ..);refine ⟨(b,cs,T) :: W,⟨λq hq=>?_,?_⟩,by simp [h2]⟩
   ·rcases List.mem_cons.1 hq with rfl | hq
    ·exact h3
    ·exact h1.1 q hq
   ·simp only [List.map_cons,List.nodup_cons]
    exact ⟨by rw [h2];exact hn.1,h1.2⟩
theorem xK {base : Bs} {h : AH} {w : World} {E : Nat->Nat->Prop} (H : HRel base h w E) (p : Nat->Prop) : ∃ W : dJ,W.at w/\∀ c,W.off c ↔ ¬ (h.M c/\p c):=by
 classical
 let B : List Nat:=ddl (((h.map (·.1)).filterMap λk=>(h.get k).blk).filter (λc=>decide (p c)))
 have hB : ∀ c,c∈B ↔ h.M c/\p c:=by
  intro c;simp only [B,rK,List.mem_filter,List.mem_filterMap,decide_eq_true_eq]
  constructor
  ·rintro ⟨⟨k,-,hk⟩,hp⟩;exact ⟨⟨k,hk⟩,hp⟩
  ·rintro ⟨⟨k,hk⟩,hp⟩;exact ⟨⟨k,yW (by rw [hk];simp),hk⟩,hp⟩
 obtain ⟨W,h1,h2⟩:=Bk (w:=w) (B:=B) (qo _) (λb hb=>by
  obtain ⟨⟨k,hk⟩,-⟩:=(hB b).1 hb;exact FG (H.obj k) hk)
 refine ⟨W,h1,λc=>?_⟩;rw [<- hB,<- h2];unfold dJ.off
 constructor
 ·intro h hm
  obtain ⟨q,hq,e⟩:=List.mem_map.1 hm;exact h q hq e.symm
 ·intro h q hq e
  exact h (List.mem_map.2 ⟨q,hq,e.symm⟩)
theorem ym {E : Env} {st : ASt} {a : Act} {w : World} (hR : Rep E.w0 E.base st a w) {Es : Nat->Nat->Prop} (hH : HRel E.base st.h w Es) {S : Nat->Prop} (hoff : ∀ c,¬ st.h.M c->S c) : ∀ (avs : List AV) (args : List VD) {us : Nat->Value} (_ : ∀ i av,avs[i]? = some av->VRel w st.h.M av (us i)) (_ : kU E.rd [] avs args),avs.length = args.length/\∀ i d,args[i]? = some d->lO w S (us i) d:=by
 have one : ∀ {x : AV} {u : Value} {d : CD},VRel w st.h.M x u->aIn E.rd [] x d->Rd w false S u d:=by
  intro x u d hv hk;unfold aIn at hk
  split at hk
  ·cases hv
   exact Rd.map hk (λb hb _=>hR.below.block b hb) (λc hc _=>hoff c (λ⟨k,hk⟩=>(hH.low k c hk).1 hc))
  ·simp [AH.get] at hk
  ·subst hk;cases hv with | v u hp=>exact .plain hp
  ·subst hk;cases hv;exact .empty _ _ (by intro h;cases h)
  ·subst hk;cases hv with | ro rows x hr=>exact hr.map (λ_ _ _=>rfl) (λc hc _=>hoff c hc)
  ·simp [AH.get] at hk
  ·exact hk.elim
 have oneL : ∀ (l : List AV) (ds : List CD) {us : Nat->Value} (_ : ∀ i av,l[i]? = some av->VRel w st.h.M av (us i)) (_ : tU E.rd [] l ds),l.length = ds.length/\∀ i d,ds[i]? = some d->Rd w false S (us i) d:=by
  intro l
  induction l with
  | nil =>
    intro ds us hv hk
    cases ds with
    | nil=>exact ⟨rfl,λi d hd=>by simp at hd⟩
    | cons _ _=>exact hk.elim
  | cons a l ih =>
    intro ds us hv hk
    cases ds with
    | nil=>exact hk.elim
    | cons d ds =>
      obtain ⟨h1,h2⟩:=ih ds (us:=λi=>us (i + 1)) (λi av hi=>hv (i + 1) av (by simpa using hi)) hk.2;refine ⟨by simp [h1],λi d' hd=>?_⟩
      cases i with
      | zero=>simp at hd;subst hd;exact one (hv 0 a rfl) hk.1
      | succ i=>exact h2 i d' (by simpa using hd)
 intro avs
 induction avs with
 | nil =>
   intro args us hv hk
   cases args with
   | nil=>exact ⟨rfl,λi d hd=>by simp at hd⟩
   | cons _ _=>exact hk.elim
 | cons a l ih =>
   intro args us hv hk
   cases args with
   | nil=>exact hk.elim
   | cons d ds =>
     obtain ⟨h1,h2⟩:=ih ds (us:=λi=>us (i + 1)) (λi av hi=>hv (i + 1) av (by simpa using hi)) hk.2;refine ⟨by simp [h1],λi d' hd=>?_⟩
     cases i with
     | zero =>
       simp at hd;subst hd;have h0:=hv 0 a rfl;have hk0:=hk.1;generalize us 0 = u0 at h0 ⊢;unfold xy at hk0
       split at hk0
       ·exact one h0 hk0
       ·split at hk0
        ·rename_i ds _ l
         cases h0 with
         | agg _ xs hs hl =>
           obtain ⟨g1,g2⟩:=oneL l ds hl hk0;exact ⟨xs,rfl,by omega,g2⟩
        ·exact hk0.elim
     | succ i=>exact h2 i d' (by simpa using hd)
theorem d7 {E : Env} {f : Nat} {args : List VD} {R : RR->Prop} (hc : d6 E.P f args R) {avs : List AV} {st : ASt} {dst : Option Nat} {K : ASt->Prop} (hin : kU E.rd [] avs args)
 (hout : ∀ rr,R rr->aW st dst (roR rr) K) : aa E f avs st dst K:=by
 refine ⟨hc.1,λa w hR xs hs hx=>?_⟩;obtain ⟨Es,hH⟩:=hR.heap;obtain ⟨o,ho,hoff⟩:=xK hH (λ_=>True);obtain ⟨hl,hr⟩:=ym hR hH (S:=o.off) (λc hc=>(hoff c).2 (λh=>hc h.1)) avs args hx hin;refine (hc.2 w o xs ho (by omega) hr).mono ?_
 rintro e w' ⟨v,rr,rfl,hRR,hb,hrr⟩
 have t : Tr st.h.M w st.h.M w':=⟨hb.size,λb hlt _=>hb.block b hlt,λb _ h=>h⟩;have H' : HRel E.base st.h w' Es:=⟨λk=>(hH.obj k).tr t (λb hk=>hb.block b (hH.lt hk)) (λc hc _=>hc),hH.inj,hH.low,λk c hc=>⟨(hH.elow k c hc).1,Nat.lt_of_lt_of_le (hH.elow k c hc).2 hb.size⟩,hH.einj,hH.em⟩;have hv : VRel w' st.h.M (roR rr) v:=uE.rel hrr (λc hc hm=>(hoff c).1 hc ⟨hm,trivial⟩);obtain ⟨av',h3,h1,h2,h4,h5⟩:=(hR.move H' t ⟨hb.os,hb.tape,hb.output⟩).put hv (hout rr hRR);exact ⟨v,av',h3,rfl,h1,h2,h4,h5⟩
def qQ (R : Value->CD->Prop) (h : AH) (x : AV) (r : RV) : Prop:=
 match r with
 | .c d _=>aIn R h x d
 | .agg ts => match x with
   | .agg l=>tU R h l (ts.map Prod.fst)
   | _=>False
def og (R : Value->CD->Prop) (h : AH) : List AV->List RV->Prop
 | [],[]=>True
 | a :: l,r :: rs=>qQ R h a r/\og R h l rs
 | _,_=>False
def nQ (E : Env) (h : AH) (l : List AV) (rr : RR) : Prop:=
 match rr with
 | .one r => match l with
   | [x]=>qQ E.rd h x r
   | _=>False
 | .tup rs=>l.length≠1/\og E.rd h l rs
theorem qP {base : Bs} {h : AH} {w : World} {E : Nat->Nat->Prop} (H : HRel base h w E) {S : Nat->Prop} (hS : ∀ c,¬ h.M c->S c) (hSr : ∀ k b o C sz rows own,h.get k = .rows (some (b,o,C)) sz rows own->S b)
 {R : Value->CD->Prop} (hR : ∀ u d,R u d->Rd w false S u d) {x : AV} {u : Value} (hv : VRel w h.M x u) {r : RV} (hk : qQ R h x r) : xD w S u r:=by
 unfold qQ at hk
 split at hk
 ·exact oB H hS hSr hR hv hk
 ·split at hk
  ·rename_i ts _ l
   cases hv with
   | agg _ xs hs hl =>
     obtain ⟨h1,h2⟩:=mO H hS hSr hR l _ hl hk;refine ⟨xs,rfl,by simp at h1;omega,λj t hj=>h2 j t.1 (by simp [hj])⟩
  ·exact hk.elim
theorem oS {base : Bs} {h : AH} {w : World} {E : Nat->Nat->Prop} (H : HRel base h w E) {S : Nat->Prop} (hS : ∀ c,¬ h.M c->S c) (hSr : ∀ k b o C sz rows own,h.get k = .rows (some (b,o,C)) sz rows own->S b)
 {R : Value->CD->Prop} (hR : ∀ u d,R u d->Rd w false S u d) : ∀ (l : List AV) (rs : List RV) {us : Nat->Value} (_ : ∀ i av,l[i]? = some av->VRel w h.M av (us i)) (_ : og R h l rs),
 l.length = rs.length/\∀ j t,rs[j]? = some t->xD w S (us j) t
 | [],[],us,hv,hk=>⟨rfl,λj t hj=>by simp at hj⟩
 | a :: l, r :: rs, us, hv, hk => by
   obtain ⟨h1,h2⟩:=oS H hS hSr hR l rs (us:=λi=>us (i + 1)) (λi av hi=>hv (i + 1) av (by simpa using hi)) hk.2;refine ⟨by simp [h1],λj t hj=>?_⟩
   cases j with
   | zero=>simp at hj;subst hj;exact qP H hS hSr hR (hv 0 a rfl) hk.1
   | succ j=>exact h2 j t (by simpa using hj)
 | [],_ :: _,us,hv,hk=>hk.elim
 | _ :: _,[],us,hv,hk=>hk.elim
theorem yt {E : Env} {h : AH} {w : World} {Es : Nat->Nat->Prop} (H : HRel E.base h w Es) {S : Nat->Prop} (hS : ∀ c,¬ h.M c->S c) (hSr : ∀ k b o C sz rows own,h.get k = .rows (some (b,o,C)) sz rows own->S b)
 (hR : ∀ u d,E.rd u d->Rd w false S u d) {vs : List Value} {l : List AV} (hl : vs.length = l.length) (hv : ∀ i av,l[i]? = some av->VRel w h.M av (vs.getD i undef)) {rr : RR} (hq : nQ E h l rr) :
 uE w S (if vs.length = 1 then vs.getD 0 undef else .tuple vs.toArray) rr:=by
 unfold nQ at hq
 split at hq
 ·split at hq
  ·rename_i r x
   rw [if_pos (by simpa using hl)];exact qP H hS hSr hR (hv 0 x rfl) hq
  ·exact hq.elim
 ·rename_i rs
  obtain ⟨hne,hq⟩:=hq;obtain ⟨h1,h2⟩:=oS H hS hSr hR l rs hv hq;rw [if_neg (by omega)];exact ⟨vs.toArray,rfl,by simp;omega,λj t hj=>by simpa using h2 j t hj⟩
theorem v6 {P : Program} {fn : Func} {tmps : Array Value} {w : World} {vs : List Value} (h1 : (fn.results.toList.mapM (fX tmps)).run P w = .ok vs w) : (results fn tmps).run P w = .ok (if vs.length = 1 then vs.getD 0 undef else .tuple vs.toArray) w:=by
 rw [fo,Array.mapM_eq_mapM_toList];simp only [Sem.run_bind,Sem.run_map,h1,Result.andThen_ok,Sem.run_pure]
 cases vs with
 | nil=>simp
 | cons v vs=>cases vs<;>simp
theorem BG {w : World} {o : dJ} (ho : o.at w) (M E : Nat->Prop) (k : Nat) : dz w M E (AH.get (phs o) k):=by
 rw [rG]
 split
 ·split
  ·rename_i q hq
   refine ⟨q.2.1,ho.1 q (List.mem_of_getElem? hq),by simp,λj av hj=>?_⟩;simp only [List.getElem?_map,Array.getElem?_toList,Option.map_eq_some_iff] at hj;obtain ⟨u,hu,rfl⟩:=hj;have : q.2.1.getD j undef = u:=by simp [Array.getD_eq_getD_getElem?,hu]
   rw [this];exact .is u
  ·trivial
 ·trivial
theorem BF {w : World} {o : dJ} (ho : o.at w) (base : Bs) (hb : ∀ c,¬ o.off c->¬ base.F c/\¬ base.G c) : HRel base (phs o) w (λ_ _=>False)/\∀ c,(phs o).M c ↔ ¬ o.off c:=by
 have hm : ∀ c,(phs o).M c ↔ ¬ o.off c:=by
  intro c
  constructor
  ·rintro ⟨k,hk⟩ h
   obtain ⟨-,q,hq,e,-⟩:=v9 hk;exact h q (List.mem_of_getElem? hq) e.symm
  ·intro h
   obtain ⟨q,hq,e⟩ : ∃ q∈o,c = q.1:=Classical.byContradiction λhn=>h (λq hq he=>hn ⟨q,hq,he⟩)
   obtain ⟨k,-,hk⟩:=Ft hq;exact ⟨k,by rw [hk,e];rfl⟩
 exact ⟨⟨λk=>BG ho _ _ k,λk k' c h h'=>BH ho.2 h h',λk c h=>hb c ((hm c).1 ⟨k,h⟩),λ_ _ h=>h.elim,λ_ _ _ h=>h.elim,λ_ _ h=>h.elim⟩,hm⟩
theorem zZ {w : World} {o : dJ} (ho : o.at w) {n : Nat} {xs : Array Value} {t : List (Nat × AV)} (hn : xs.size<=n) (ht : ∀ q,VRel w (λc=>¬ o.off c) (aD t q) ((xs ++ Array.replicate (n - xs.size) undef).getD q undef)) :
 Rep w ⟨λc=>c < w.heap.size/\o.off c,λc=>c < w.heap.size/\o.off c,false,λ_=>True⟩ { n:=n,kb:=0,t:=t,h:=phs o } { tmps:=xs ++ Array.replicate (n - xs.size) undef,defers:=[] } w:=by
 obtain ⟨hrel,hm⟩:=BF ho ⟨λc=>c < w.heap.size/\o.off c,λc=>c < w.heap.size/\o.off c,false,λ_=>True⟩ (λc hc=>⟨λh=>hc h.2,λh=>hc h.2⟩);exact ⟨rfl,by simp;omega,λq=>(ht q).tr ⟨Nat.le_refl _,λ_ _ _=>rfl,λc _ hc=>(hm c).1 hc⟩,⟨_,hrel⟩,BelowF.refl _ _,λc hc=>hc.elim (λh=>h.1) (λh=>h.1)⟩
theorem m3 {base : Bs} {h : AH} {w w' : World} {E : Nat->Nat->Prop} (hH : HRel base h w' E) {o : dJ} (ho : o.at w) (hg : gB h o) {c : Nat} (hc : ¬ o.off c) : w'.heap[c]? = w.heap[c]?/\∃ k,1000000000<=k/\(h.get k).blk = some c/\∃ b T l,h.get k = .vars b T l:=by
 obtain ⟨q,hq,rfl⟩ : ∃ q∈o,c = q.1:=Classical.byContradiction λhn=>hc (λq hq he=>hn ⟨q,hq,he⟩)
 obtain ⟨k,hk,he⟩:=Ft hq;have e : h.get k = phO q:=by rw [hg k hk,he]
 refine ⟨?_,k,hk,by rw [e];rfl,_,_,_,e⟩;have ob:=hH.obj k;rw [e] at ob;obtain ⟨cs',g1,g2,g3⟩:=ob;have hs : cs'.size = q.2.1.size:=by simpa using g2
 have : cs' = q.2.1:=by
  refine Array.ext hs (λj hj hj'=>?_);have:=g3 j (.is q.2.1[j]) (by simp [hj']);have e : cs'.getD j undef = cs'[j]:=by simp [Array.getD_eq_getD_getElem?,hj]
  rw [e] at this;generalize cs'[j] = y at this
  cases this;rfl
 rw [g1,this];exact (ho.1 q hq).symm
theorem pU {P : Program} {Ty : Nat->Option TI} (hT : ∀ t ti,Ty t = some ti->TIok P t ti) {fn : Func} {w w' : World} {o : dJ} (ho : o.at w) {R : RR->Prop} {st' : ASt} {a' : Act}
 (hR' : Rep w ⟨λc=>c < w.heap.size/\o.off c,λc=>c < w.heap.size/\o.off c,false,λ_=>True⟩ st' a' w')
 (hq : dE ⟨P,Ty,w,⟨λc=>c < w.heap.size/\o.off c,λc=>c < w.heap.size/\o.off c,false,λ_=>True⟩⟩ st' fn.results.toList λl=>∃ rr,R rr/\nQ ⟨P,Ty,w,⟨λc=>c < w.heap.size/\o.off c,λc=>c < w.heap.size/\o.off c,false,λ_=>True⟩⟩ st'.h l rr/\gB st'.h o) :
 a'.defers = []/\∃ v,(results fn a'.tmps).run P w' = .ok v w'/\∃ v' rr,Ending.returned v = .returned v'/\R rr/\Below w.heap.size w w'/\uE w' o.off v' rr:=by
 let B : Bs:=⟨λc=>c < w.heap.size/\o.off c,λc=>c < w.heap.size/\o.off c,false,λ_=>True⟩
 have hE : EOk ⟨P,Ty,w,B⟩:=⟨hT,λw' hb=>trivial⟩;obtain ⟨vs,l,h1,h2,h3,rr,hRR,h4,hg⟩:=dt hE hR' fn.results.toList hq;obtain ⟨Es,hH⟩:=hR'.heap
 refine ⟨hR'.dfr,_,v6 h1,_,rr,rfl,hRR,⟨hR'.below.os,hR'.below.tape,hR'.below.output,hR'.below.size,λc hc=>?_⟩,
  yt (E:=⟨P,Ty,w,B⟩) hH (S:=o.off) (λc hc=>Classical.byContradiction λh=>?_) (λk b' o' C sz rows own hgk=>Classical.byContradiction λh=>?_) (λv d hd=>?_) h2 h3 h4⟩
 ·by_cases h : o.off c
  ·exact hR'.below.block c ⟨hc,h⟩
  ·exact (m3 hH ho hg h).1
 ·obtain ⟨-,k,-,hk,-⟩:=m3 hH ho hg h
  exact hc ⟨k,hk⟩
 ·obtain ⟨-,k',-,hk,b,T,l,he⟩:=m3 hH ho hg h
  have:=hH.inj k k' b' (by rw [hgk];rfl) hk;subst this;rw [hgk] at he;cases he
 ·exact Rd.map hd (λc hc _=>hR'.below.block c hc) (λc hc _=>hc.2)
def tJ (E : Env) (o : dJ) (rs : List ResultVar) (R : RR->Prop) : Exit->ASt->Prop
 | .normal,st=>dE E st rs λl=>∃ rr,R rr/\nQ E st.h l rr/\gB st.h o
 | .ret,st=>dE E st rs λl=>∃ rr,R rr/\nQ E st.h l rr/\gB st.h o
 | _,_=>False
theorem lO.ph {w : World} {o : dJ} {v : Value} {d : VD} (h : lO w o.off v d) : VRel w (λc=>¬ o.off c) d.toAV v:=
 lO.rel (M:=λc=>¬ o.off c) (by
  cases d with
  | c d=>exact Rd.map h (λ_ _ _=>rfl) (λc hc _ hn=>hn hc)
  | agg ds =>
    obtain ⟨xs,h1,h2,h3⟩:=h;exact ⟨xs,h1,h2,λj d hd=>(h3 j d hd).map (λ_ _ _=>rfl) (λc hc _ hn=>hn hc)⟩)
theorem d6.intro {P : Program} {Ty : Nat → Option TI} (hT : ∀ t ti, Ty t = some ti → TIok P t ti) {f : Nat} {fn : Func} {c : Code} (hf : P.funcs[f]? = some fn) (hname : (fn.name == "runtime.NumGoroutine") = false) (hb : fn.body = some c)
 {n : Nat} {rs : List ResultVar} (hnt : fn.ntmps = n) (hrs : fn.results = ⟨rs⟩) {args : List VD} {R : RR->Prop} (hn : args.length<=n)
 (h : ∀ w0 base o,d5 ⟨P,Ty,w0,⟨base,base,false,λ_=>True⟩⟩ c (tJ ⟨P,Ty,w0,⟨base,base,false,λ_=>True⟩⟩ o rs R) { n:=n,kb:=0,t:=jG 0 args,h:=phs o }) : d6 P f args R:=by
 subst hnt;have hrs' : fn.results.toList = rs:=by rw [hrs]
 subst hrs';refine ⟨⟨fn,hf,hname,by rw [hb];rfl⟩,λw o xs ho hs hx=>calls_of_wp hf hb ?_⟩;have hE : EOk ⟨P,Ty,w,⟨λc=>c < w.heap.size/\o.off c,λc=>c < w.heap.size/\o.off c,false,λ_=>True⟩⟩:=⟨hT,λw' hb=>trivial⟩
 have hR:=zZ ho (n:=fn.ntmps) (xs:=xs) (t:=jG 0 args) (by omega) (λq=>by
  rw [jF,if_pos (Nat.zero_le q),Nat.sub_zero]
  split
  ·rename_i v hv
   have hlt : q < xs.size:=by rw [hs];exact (List.getElem?_eq_some_iff.1 hv).1
   have e : (xs ++ Array.replicate (fn.ntmps - xs.size) undef).getD q undef = xs.getD q undef:=by
    simp only [Array.getD_eq_getD_getElem?];rw [Array.getElem?_append_left hlt]
   rw [e];exact (hx q v hv).ph
  ·exact .any _)
 refine wp_mono (bM hE c _ _ _ w hR (h w _ o)) ?_
 rintro e a' w' ⟨st',hq,hR'⟩
 cases e with
 | normal=>exact pU hT ho hR' hq
 | ret=>exact pU hT ho hR' hq
 | _=>exact hq.elim
theorem pG {P : Program} {Ty : Nat → Option TI} (hT : ∀ t ti, Ty t = some ti → TIok P t ti) {f : Nat} {fn : Func} {c : Code} (hf : P.funcs[f]? = some fn) (hname : (fn.name == "runtime.NumGoroutine") = false) (hb : fn.body = some c)
 {n : Nat} {rs : List ResultVar} (hnt : fn.ntmps = n) (hrs : fn.results = ⟨rs⟩) {bs : List (List CD)} {args : List VD} {R : RR->Prop} (hn : args.length + 1<=n)
 (h : ∀ w0 base o u,Rd w0 false base u (.s bs)->d5 ⟨P,Ty,w0,⟨base,base,false,λ_=>True⟩⟩ c (tJ ⟨P,Ty,w0,⟨base,base,false,λ_=>True⟩⟩ o rs R) { n:=n,kb:=0,t:=(0,.cv u bs.length) :: jG 1 args,h:=phs o }) : d6 P f (.c (.s bs) :: args) R:=by
 subst hnt;have hrs' : fn.results.toList = rs:=by rw [hrs]
 subst hrs';refine ⟨⟨fn,hf,hname,by rw [hb];rfl⟩,λw o xs ho hs hx=>calls_of_wp hf hb ?_⟩;have hE : EOk ⟨P,Ty,w,⟨λc=>c < w.heap.size/\o.off c,λc=>c < w.heap.size/\o.off c,false,λ_=>True⟩⟩:=⟨hT,λw' hb=>trivial⟩;have hu : Rd w false o.off (xs.getD 0 undef) (.s bs):=hx 0 _ rfl;have hu0 : Rd w false (λc=>c < w.heap.size/\o.off c) (xs.getD 0 undef) (.s bs):=hu.map (λ_ _ _=>rfl) (λc hc hl=>⟨hl,hc⟩);obtain ⟨ua,uc,hlen⟩:=hu.slice_len;simp only [List.length_cons] at hs
 have e : ∀ q,q < xs.size->(xs ++ Array.replicate (fn.ntmps - xs.size) undef).getD q undef = xs.getD q undef:=λq hq=>by
  simp only [Array.getD_eq_getD_getElem?];rw [Array.getElem?_append_left hq]
 have hR:=zZ ho (n:=fn.ntmps) (xs:=xs) (t:=(0,.cv (xs.getD 0 undef) bs.length) :: jG 1 args) (by omega) (λq=>by
  unfold aD
  split
  ·rename_i h0
   subst h0;rw [e 0 (by omega)];exact .cv _ _ ⟨ua,uc,hlen⟩
  ·rename_i h0
   rw [jF]
   split
   ·split
    ·rename_i v hv
     have hlt : q - 1 < args.length:=(List.getElem?_eq_some_iff.1 hv).1;rw [e q (by omega)];exact (hx q v (by rw [show q = q - 1 + 1 by omega];simpa using hv)).ph
    ·exact .any _
   ·exact .any _)
 refine wp_mono (bM hE c _ _ _ w hR (h w _ o _ hu0)) ?_
 rintro e a' w' ⟨st',hq,hR'⟩
 cases e with
 | normal=>exact pU hT ho hR' hq
 | ret=>exact pU hT ho hR' hq
 | _=>exact hq.elim
def oE (P : Program) (T : TypeId) (bs : List (List CD)) (f : Nat) (args : List VD) (R : RR->Prop) : Prop:=
 uF P f /\ ∀ (w : World) (o : dJ) (b : Nat) (u : Value) (i h : Int) (xs : Array Value),o.at w -> o.off b -> 0 <= i -> i <= bs.length ->
  w.heap[b]? = some (.cells #[u,.int .i64 i,.int .i64 h] T (0,0)) -> Rd w false (λc => c ≠ b /\ o.off c) u (.s bs) ->
  xs.size = args.length + 1 -> xs.getD 0 undef = .pointer (some ⟨b,0,none⟩) -> (∀ j vd,args[j]? = some vd -> lO w (λc => c ≠ b /\ o.off c) (xs.getD (j + 1) undef) vd) ->
  Calls P f xs w λe w' => ∃ (v : Value) (rr : RR) (i' h' : Int),e = .returned v /\ R rr /\ 0 <= i' /\ i' <= bs.length /\ w'.heap[b]? = some (.cells #[u,.int .i64 i',.int .i64 h'] T (0,0)) /\
   BelowF (λc=>c < w.heap.size/\c≠b) w w'/\uE w' (λc=>c≠b/\o.off c) v rr
theorem lO.map {w : World} {S S' : Nat->Prop} {v : Value} {d : VD} (h : lO w S v d) (hS : ∀ c,S c->S' c) : lO w S' v d:=by
 cases d with
 | c d=>exact Rd.map h (λ_ _ _=>rfl) (λc hc _=>hS c hc)
 | agg ds =>
   obtain ⟨xs,h1,h2,h3⟩:=h;exact ⟨xs,h1,h2,λj d hd=>(h3 j d hd).map (λ_ _ _=>rfl) (λc hc _=>hS c hc)⟩
theorem gg.toN {P : Program} {T : TypeId} {bs : List (List CD)} {f : Nat} {args : List VD} {R : RR->Prop} (hc : gg P T bs f args R) : oE P T bs f args R:=by
 refine ⟨hc.1,λw o b u i h xs o1 o2 a1 a2 a3 a4 a5 a6 a7=>(hc.2 w b u i h xs a1 a2 a3 (a4.map (λ_ _ _=>rfl) (λc hc _=>hc.1)) a5 a6 (λj vd hj=>(a7 j vd hj).map λc hc=>hc.1)).mono ?_⟩
 rintro e w' ⟨v,rr,i',h',rfl,h1,h2,h3,h4,h5,h6⟩
 exact ⟨v,rr,i',h',rfl,h1,h2,h3,h4,h5,h6.toN λc hc=>⟨by have:=cU a3;omega,pE o1 hc.1⟩⟩
theorem oE.mono {P : Program} {T : TypeId} {bs : List (List CD)} {f : Nat} {args : List VD} {R R' : RR->Prop} (hc : oE P T bs f args R) (hr : ∀ r,R r->R' r) : oE P T bs f args R':=by
 refine ⟨hc.1,λw o b u i h xs o1 o2 a1 a2 a3 a4 a5 a6 a7=>(hc.2 w o b u i h xs o1 o2 a1 a2 a3 a4 a5 a6 a7).mono ?_⟩
 rintro e w' ⟨v,rr,i',h',rfl,h1,h2,h3,h4,h5,h6⟩
 exact ⟨v,rr,i',h',rfl,hr _ h1,h2,h3,h4,h5,h6⟩
def tK (E : Env) (o : dJ) (T : TypeId) (b : Nat) (u : Value) (n : Nat) (rs : List ResultVar) (R : RR->Prop) : Exit->ASt->Prop
 | .normal,st=>dE E st rs λl=>∃ rr,R rr/\nQ E st.h l rr/\gB st.h o/\tC T b u n st.h
 | .ret,st=>dE E st rs λl=>∃ rr,R rr/\nQ E st.h l rr/\gB st.h o/\tC T b u n st.h
 | _,_=>False
theorem I0 {args : List VD} {n : Nat} {T : TypeId} {bs : List (List CD)} (hn : args.length + 1<=n) {w : World} {o : dJ} (ho : o.at w) {b : Nat} (hob : o.off b) {u : Value} {i hh : Int} {xs : Array Value}
 (hcell : w.heap[b]? = some (.cells #[u,.int .i64 i,.int .i64 hh] T (0,0))) (hu : Rd w false (λc=>c≠b/\o.off c) u (.s bs)) (hs : xs.size = args.length + 1) (hx0 : xs.getD 0 undef = .pointer (some ⟨b,0,none⟩))
 (hx : ∀ j vd,args[j]? = some vd->lO w (λc=>c≠b/\o.off c) (xs.getD (j + 1) undef) vd) :
 Rep w ⟨λc=>c < w.heap.size/\c≠b/\o.off c,λc=>c < w.heap.size/\c≠b/\o.off c,false,λ_=>True⟩ { n:=n,kb:=0,t:=(0,.p 0 b 0) :: jG 1 args,h:=(0,.vars b T (cN u bs.length i hh)) :: phs o } { tmps:=xs ++ Array.replicate (n - xs.size) undef,defers:=[] } w:=by
 obtain ⟨hrel,hm⟩:=BF ho ⟨λc=>c < w.heap.size/\c≠b/\o.off c,λc=>c < w.heap.size/\c≠b/\o.off c,false,λ_=>True⟩ (λc hc=>⟨λh=>hc h.2.2,λh=>hc h.2.2⟩);obtain ⟨ua,uc,hlen⟩:=hu.slice_len
 have hM : ∀ c,AH.M ((0,.vars b T (cN u bs.length i hh)) :: phs o) c->¬ (c≠b/\o.off c):=by
  intro c hc h;rcases gQ.1 hc with h1 | ⟨k,-,hk⟩
  ·simp [AObj.blk] at h1;exact h.1 h1.symm
  ·exact (hm c).1 ⟨k,hk⟩ h.2
 have hget : ∀ k,AH.get ((0,.vars b T (cN u bs.length i hh)) :: phs o) k = if k = 0 then .vars b T (cN u bs.length i hh) else AH.get (phs o) k:=λk=>by rw [aH]
 refine ⟨rfl,by simp;omega,λq=>?_,⟨λ_ _=>False,λk=>?_,λk k' c hk hk'=>?_,λk c hk=>?_,λk c hc=>hc.elim,λk k' c hc=>hc.elim,λk c hc=>hc.elim⟩,BelowF.refl _ _,λc hc=>hc.elim (λh=>h.1) (λh=>h.1)⟩
 ·show VRel w _ (aD ((0,.p 0 b 0) :: jG 1 args) q) _
  have e : ∀ q,q < xs.size->(xs ++ Array.replicate (n - xs.size) undef).getD q undef = xs.getD q undef:=λq hq=>by
   simp only [Array.getD_eq_getD_getElem?];rw [Array.getElem?_append_left hq]
  unfold aD
  split
  ·rename_i h0
   subst h0;rw [e 0 (by omega),hx0];exact .p _ _ _
  ·rename_i h0
   rw [jF]
   split
   ·split
    ·rename_i v hv
     have hlt : q - 1 < args.length:=(List.getElem?_eq_some_iff.1 hv).1;rw [e q (by omega)];have:=hx (q - 1) v hv;rw [show q - 1 + 1 = q by omega] at this;exact lO.rel (this.map λc hc hm=>hM c hm hc)
    ·exact .any _
   ·exact .any _
 ·rw [hget]
  split
  ·refine ⟨_,hcell,rfl,λj av hj=>?_⟩
   match j,hj with
   | 0,hj=>cases hj;exact .cv _ _ ⟨ua,uc,hlen⟩
   | 1,hj=>cases hj;exact .v _ rfl
   | 2,hj=>cases hj;exact .v _ rfl
   | j + 3,hj=>cases hj
  ·exact BG ho _ _ k
 ·rw [hget] at hk hk'
  by_cases h1 : k = 0<;>by_cases h2 : k' = 0
  ·rw [h1,h2]
  ·rw [if_pos h1] at hk;rw [if_neg h2] at hk'
   simp [AObj.blk] at hk;exact absurd hob ((hm b).1 ⟨k',hk ▸ hk'⟩)
  ·rw [if_neg h1] at hk;rw [if_pos h2] at hk'
   simp [AObj.blk] at hk';exact absurd hob ((hm b).1 ⟨k,hk' ▸ hk⟩)
  ·rw [if_neg h1] at hk;rw [if_neg h2] at hk'
   exact BH ho.2 hk hk'
 ·have:=hM c ⟨k,hk⟩
  exact ⟨λh=>this h.2,λh=>this h.2⟩
theorem qu {w : World} {M E : Nat->Prop} {b : Nat} {T : TypeId} {u : Value} {n : Nat} {i hh : Int} (ho : dz w M E (.vars b T (cN u n i hh))) : w.heap[b]? = some (.cells #[u,.int .i64 i,.int .i64 hh] T (0,0)):=by
 obtain ⟨cs,g1,g2,g3⟩:=ho;have c0:=g3 0 _ rfl;have c1:=g3 1 _ rfl;have c2:=g3 2 _ rfl;have hs3 : cs.size = 3:=g2;have e0 : cs.getD 0 undef = u:=by generalize cs.getD 0 undef = y at c0;cases c0;rfl
 have e1 : cs.getD 1 undef = .int .i64 i:=by generalize cs.getD 1 undef = y at c1;cases c1;rfl
 have e2 : cs.getD 2 undef = .int .i64 hh:=by generalize cs.getD 2 undef = y at c2;cases c2;rfl
 have : cs = #[u,.int .i64 i,.int .i64 hh]:=by
  refine Array.ext (by simp [hs3]) (λj h1 h2'=>?_);simp only [Array.getD_eq_getD_getElem?] at e0 e1 e2;rcases j with _ | _ | _ | j
  ·rw [Array.getElem?_eq_getElem h1] at e0;exact e0
  ·rw [Array.getElem?_eq_getElem h1] at e1;exact e1
  ·rw [Array.getElem?_eq_getElem h1] at e2;exact e2
  ·omega
 rw [g1,this]
theorem oE.intro {P : Program} {Ty : Nat → Option TI} (hT : ∀ t ti, Ty t = some ti → TIok P t ti) {f : Nat} {fn : Func} {c : Code} (hf : P.funcs[f]? = some fn) (hname : (fn.name == "runtime.NumGoroutine") = false) (hb : fn.body = some c)
 {n : Nat} {rs : List ResultVar} (hnt : fn.ntmps = n) (hrs : fn.results = ⟨rs⟩) {T : TypeId} {bs : List (List CD)} {args : List VD} {R : RR->Prop} (hn : args.length + 1<=n)
 (h : ∀ w0 base o b u i h,0<=i->i<=(bs.length : Int)->Rd w0 false base u (.s bs)->d5 ⟨P,Ty,w0,⟨base,base,false,λ_=>True⟩⟩ c (tK ⟨P,Ty,w0,⟨base,base,false,λ_=>True⟩⟩ o T b u bs.length rs R)
  { n:=n,kb:=0,t:=(0,.p 0 b 0) :: jG 1 args,h:=(0,.vars b T (cN u bs.length i h)) :: phs o }) : oE P T bs f args R:=by
 subst hnt;have hrs' : fn.results.toList = rs:=by rw [hrs]
 subst hrs';refine ⟨⟨fn,hf,hname,by rw [hb];rfl⟩,λw o b u i hh xs ho hob hi0 hi1 hcell hu hs hx0 hx=>calls_of_wp hf hb ?_⟩
 let F : Nat->Prop:=λc=>c < w.heap.size/\c≠b/\o.off c
 let bs0 : Bs:=⟨F,F,false,λ_=>True⟩
 have hE : EOk ⟨P,Ty,w,bs0⟩:=⟨hT,λw' hb=>trivial⟩;have hR:=I0 hn ho hob hcell hu hs hx0 hx;have hu0 : Rd w false F u (.s bs):=hu.map (λ_ _ _=>rfl) (λc hc hl=>⟨hl,hc⟩);refine wp_mono (bM hE c _ _ _ w hR (h w F o b u i hh hi0 hi1 hu0)) ?_
 rintro e a' w' ⟨st',hq,hR'⟩
 have key : (dE ⟨P,Ty,w,bs0⟩ st' fn.results.toList λl => ∃ rr,R rr /\ nQ ⟨P,Ty,w,bs0⟩ st'.h l rr /\ gB st'.h o /\ tC T b u bs.length st'.h) -> a'.defers = [] /\ ∃ v,(results fn a'.tmps).run P w' = .ok v w' /\ ∃ (v' : Value) (rr : RR) (i' h' : Int),Ending.returned v = .returned v' /\ R rr /\ 0 <= i' /\ i' <= bs.length /\ w'.heap[b]? = some (.cells #[u,.int .i64 i',.int .i64 h'] T (0,0)) /\
  BelowF (λc=>c < w.heap.size/\c≠b) w w'/\uE w' (λc=>c≠b/\o.off c) v' rr:=by
  intro hq;obtain ⟨vs,l,h1,h2,h3,rr,hRR,h4,htl,i',h'',hg,k1,k2⟩:=dt hE hR' fn.results.toList hq;obtain ⟨Es,hH⟩:=hR'.heap;have hb0 : (st'.h.get 0).blk = some b:=by rw [hg];rfl
  have hobj:=hH.obj 0;rw [hg] at hobj
  refine ⟨hR'.dfr,_,v6 h1,_,rr,i',h'',rfl,hRR,k1,k2,qu hobj,⟨hR'.below.os,hR'.below.tape,hR'.below.output,hR'.below.size,λc hc=>?_⟩,
   yt (E:=⟨P,Ty,w,bs0⟩) hH (S:=λc=>c≠b/\o.off c) (λc hc=>⟨λhe=>hc (he ▸ ⟨0,hb0⟩),Classical.byContradiction λh=>?_⟩) (λk b' o' C sz rows own hgk=>⟨λhe=>?_,Classical.byContradiction λh=>?_⟩) (λv d hd=>?_) h2 h3 h4⟩
  ·by_cases h : o.off c
   ·exact hR'.below.block c ⟨hc.1,hc.2,h⟩
   ·exact (m3 hH ho htl h).1
  ·obtain ⟨-,k,-,hk,-⟩:=m3 hH ho htl h
   exact hc ⟨k,hk⟩
  ·have:=hH.inj k 0 b (by rw [hgk,<- he];rfl) hb0
   subst this;rw [hg] at hgk;cases hgk
  ·obtain ⟨-,k',-,hk,b,T,l,he⟩:=m3 hH ho htl h
   have:=hH.inj k k' b' (by rw [hgk];rfl) hk;subst this;rw [hgk] at he;cases he
  ·exact Rd.map hd (λc hc _=>hR'.below.block c hc) (λc hc _=>hc.2)
 cases e with
 | normal=>exact key hq
 | ret=>exact key hq
 | _=>exact hq.elim
theorem bH {E : Env} {T : TypeId} {bs : List (List CD)} {f : Nat} {args : List VD} {R : RR->Prop} (hc : oE E.P T bs f args R) {kc b n : Nat} {u : Value} {i hh : Int} {avs : List AV} {st : ASt} {dst : Option Nat} {K : ASt->Prop}
 (hu : E.rd u (.s bs)) (hn : bs.length = n) (hget : st.h.get kc = .vars b T (cN u n i hh)) (hi0 : 0<=i) (hi1 : i<=(n : Int)) (hin : kU E.rd [] avs args)
 (hout : ∀ rr i' h',R rr->0<=i'->i'<=(n : Int)->aW { st with h:=(kc,.vars b T (cN u n i' h')) :: st.h } dst (roR rr) K) : aa E f (.p kc b 0 :: avs) st dst K:=by
 subst hn;refine ⟨hc.1,λa w hR xs hs hx=>?_⟩;obtain ⟨Es,hH⟩:=hR.heap;have hblk : (st.h.get kc).blk = some b:=by rw [hget];rfl
 have hMb : st.h.M b:=⟨kc,hblk⟩;obtain ⟨o,ho,hoff⟩:=xK hH (λc=>c≠b);have hob : o.off b:=(hoff b).2 (λh=>h.2 rfl);have hM0 : ∀ c,¬ st.h.M c->c≠b/\o.off c:=λc hc=>⟨λhe=>hc (he ▸ hMb),(hoff c).2 (λh=>hc h.1)⟩
 have hM1 : ∀ c,c≠b/\o.off c->¬ st.h.M c:=λc hc hm=>(hoff c).1 hc.2 ⟨hm,hc.1⟩
 have g1 : w.heap[b]? = _:=qu (by have:=hH.obj kc;rw [hget] at this;exact this);have hur : Rd w false (λc=>c≠b/\o.off c) u (.s bs):=Rd.map hu (λb hb _=>hR.below.block b hb) (λc hc _=>hM0 c (λ⟨k,hk⟩=>(hH.low k c hk).1 hc));obtain ⟨hl,hr⟩:=ym hR hH hM0 avs args (us:=λj=>xs.getD (j + 1) undef) (λj av hj=>hx (j + 1) av (by simpa using hj)) hin
 have hx0 : xs.getD 0 undef = .pointer (some ⟨b,0,none⟩):=by
  have:=hx 0 _ rfl;generalize xs.getD 0 undef = y at this
  cases this;rfl
 refine (hc.2 w o b u i hh xs ho hob hi0 hi1 g1 hur (by simp at hs;omega) hx0 hr).mono ?_
 rintro e w' ⟨v,rr,i',h',rfl,hRR,k1,k2,hcell,hb,hrr⟩
 have fr : ∀ c,c < w.heap.size->c≠b->w'.heap[c]? = w.heap[c]?:=λc h1 h2=>hb.block c ⟨h1,h2⟩
 obtain ⟨ua,uc,hlen⟩:=Rd.slice_len hu
 have H':=hH.upd (k:=kc) (o':=.vars b T (cN u bs.length i' h')) (Ek:=λ_=>False) hb.size (λc hlt hc=>fr c hlt (λhe=>by
  subst he;rcases hc with hc | ⟨j,hj,hjb⟩
  ·exact hc hMb
  ·exact hj (hH.inj _ _ _ hjb hblk))) (λc hc=>by
  simp [AObj.blk] at hc;subst hc;exact ⟨hH.low kc b hblk,.inr hblk⟩) ⟨_,hcell,rfl,λj av hj=>by
  match j,hj with
  | 0,hj=>cases hj;exact .cv _ _ ⟨ua,uc,hlen⟩
  | 1,hj=>cases hj;exact .v _ rfl
  | 2,hj=>cases hj;exact .v _ rfl
  | j + 3,hj=>cases hj⟩ (λ_ hc=>hc.elim)
 have t : Tr st.h.M w (AH.M ((kc,.vars b T (cN u bs.length i' h')) :: st.h)) w':=
  Tr.upd hH hb.size (λc hlt hm=>fr c hlt (λhe=>hm (he ▸ hMb))) (λc hc=>by simp [AObj.blk] at hc;subst hc;exact .inr hblk)
 have hM' : ∀ c,AH.M ((kc,.vars b T (cN u bs.length i' h')) :: st.h) c->st.h.M c:=by
  intro c hm;rcases gQ.1 hm with h1 | ⟨j,_,hj⟩
  ·simp [AObj.blk] at h1;exact h1 ▸ hMb
  ·exact ⟨j,hj⟩
 obtain ⟨av',h3,h1,h2,h4,h5⟩:=(hR.move H' t ⟨hb.os,hb.tape,hb.output⟩).put (uE.rel hrr (λc hc hm=>hM1 c hc (hM' c hm))) (hout rr i' h' hRR k1 k2);exact ⟨v,av',h3,rfl,h1,h2,h4,h5⟩
def Hi (P : Program) (T : TypeId) (bs : List (List CD)) (f : Nat) : Prop:=
 uF P f /\ ∀ (w : World) (u : Value) (xs : Array Value),Rd w false (λ_ => True) u (.s bs) -> xs.size = 1 -> xs.getD 0 undef = u ->
  Calls P f xs w λe w'=>∃ (b : Nat) (h : Int),e = .returned (.pointer (some ⟨b,0,none⟩))/\w.heap.size<=b/\Below w.heap.size w w'/\w'.heap[b]? = some (.cells #[u,.int .i64 0,.int .i64 h] T (0,0))
def xk (E : Env) (T : TypeId) (u : Value) (n : Nat) (rs : List ResultVar) : Exit->ASt->Prop
 | .normal,st=>dE E st rs λl=>∃ k b h,l = [.p k b 0]/\st.h.get k = .vars b T (cN u n 0 h)
 | .ret,st=>dE E st rs λl=>∃ k b h,l = [.p k b 0]/\st.h.get k = .vars b T (cN u n 0 h)
 | _,_=>False
theorem Hi.intro {P : Program} {Ty : Nat → Option TI} (hT : ∀ t ti, Ty t = some ti → TIok P t ti) {f : Nat} {fn : Func} {c : Code} (hf : P.funcs[f]? = some fn) (hname : (fn.name == "runtime.NumGoroutine") = false) (hb : fn.body = some c)
 {n : Nat} {rs : List ResultVar} (hnt : fn.ntmps = n) (hrs : fn.results = ⟨rs⟩) {T : TypeId} {bs : List (List CD)} (hn : 1<=n)
 (h : ∀ w0 base u,Rd w0 false base u (.s bs)->d5 ⟨P,Ty,w0,⟨base,base,false,λ_=>True⟩⟩ c (xk ⟨P,Ty,w0,⟨base,base,false,λ_=>True⟩⟩ T u bs.length rs) { n:=n,kb:=0,t:=[(0,.cv u bs.length)],h:=[] }) : Hi P T bs f:=by
 subst hnt;have hrs' : fn.results.toList = rs:=by rw [hrs]
 subst hrs';refine ⟨⟨fn,hf,hname,by rw [hb];rfl⟩,λw u xs hu hs hx0=>calls_of_wp hf hb ?_⟩
 let F : Nat->Prop:=λc=>c < w.heap.size
 let B : Bs:=⟨F,F,false,λ_=>True⟩
 have hE : EOk ⟨P,Ty,w,B⟩:=⟨hT,λw' hb=>trivial⟩;have hu0 : Rd w false F u (.s bs):=hu.within.map (λ_ _ _=>rfl) (λc hc _=>hc.2);obtain ⟨ua,uc,hlen⟩:=hu.slice_len
 have hR : Rep w B { n:=fn.ntmps,kb:=0,t:=[(0,.cv u bs.length)],h:=[] } { tmps:=xs ++ Array.replicate (fn.ntmps - xs.size) undef,defers:=[] } w:=by
  refine ⟨rfl,by simp;omega,λq=>?_,⟨λ_ _=>False,λk=>trivial,λk k' b hk=>by simp [AH.get,AObj.blk] at hk,λk b hk=>by simp [AH.get,AObj.blk] at hk,λk c hc=>hc.elim,λk k' c hc=>hc.elim,λk c hc=>hc.elim⟩,BelowF.refl _ _,λb hb=>hb.elim id id⟩
  show VRel w (AH.M []) (aD [(0,.cv u bs.length)] q) _
  unfold aD
  split
  ·rename_i h0
   subst h0
   have : (xs ++ Array.replicate (fn.ntmps - xs.size) undef).getD 0 undef = xs.getD 0 undef:=by
    simp only [Array.getD_eq_getD_getElem?];rw [Array.getElem?_append_left (by omega)]
   rw [this,hx0];exact .cv _ _ ⟨ua,uc,hlen⟩
  ·exact .any _
 refine wp_mono (bM hE c _ _ _ w hR (h w F _ hu0)) ?_
 rintro e a' w' ⟨st',hq,hR'⟩
 have key : (dE ⟨P,Ty,w,B⟩ st' fn.results.toList λl=>∃ k b h,l = [.p k b 0]/\st'.h.get k = .vars b T (cN u bs.length 0 h))->a'.defers = []/\∃ v,(results fn a'.tmps).run P w' = .ok v w'/\∃ (b : Nat) (h : Int),Ending.returned v = .returned (.pointer (some ⟨b,0,none⟩))/\w.heap.size<=b/\Below w.heap.size w w'/\w'.heap[b]? = some (.cells #[u,.int .i64 0,.int .i64 h] T (0,0)):=by
  intro hq;obtain ⟨vs,l,h1,h2,h3,k,b,h',rfl,hg⟩:=dt hE hR' fn.results.toList hq;obtain ⟨Es,hH⟩:=hR'.heap
  have hv0 : vs.getD 0 undef = .pointer (some ⟨b,0,none⟩):=by
   have:=h3 0 _ rfl;generalize vs.getD 0 undef = y at this
   cases this;rfl
  have ho:=hH.obj k;rw [hg] at ho;refine ⟨hR'.dfr,_,v6 h1,b,h',by rw [if_pos (by simpa using h2),hv0],Nat.le_of_not_lt (hH.low k b (by rw [hg];rfl)).1,⟨hR'.below.os,hR'.below.tape,hR'.below.output,hR'.below.size,hR'.below.block⟩,qu ho⟩
 cases e with
 | normal=>exact key hq
 | ret=>exact key hq
 | _=>exact hq.elim
theorem t6 {E : Env} {T : TypeId} {bs : List (List CD)} {f : Nat} (hc : Hi E.P T bs f) {n : Nat} {u : Value} {st : ASt} {dst : Option Nat} {K : ASt->Prop}
 (hu : E.rd u (.s bs)) (hn : bs.length = n) (hout : ∀ b h,aW { st with h:=(st.key dst,.vars b T (cN u n 0 h)) :: st.h } dst (.p (st.key dst) b 0) K) : aa E f [.cv u n] st dst K:=by
 subst hn;refine ⟨hc.1,λa w hR xs hs hx=>?_⟩;obtain ⟨Es,hH⟩:=hR.heap
 have hx0 : xs.getD 0 undef = u:=by
  have:=hx 0 _ rfl;generalize xs.getD 0 undef = y at this
  cases this;rfl
 refine (hc.2 w u xs (hR.rd _ _ hu) (by simpa using hs) hx0).mono ?_
 rintro e w' ⟨b,h',rfl,hle,hb,hcell⟩
 obtain ⟨ua,uc,hlen⟩:=Rd.slice_len hu
 have H':=hH.upd (k:=st.key dst) (o':=.vars b T (cN u bs.length 0 h')) (Ek:=λ_=>False) hb.size (λc hlt _=>hb.block c hlt) (λc hc=>by
  simp [AObj.blk] at hc;subst hc;exact ⟨hR.newer hle,.inl hle⟩) ⟨_,hcell,rfl,λj av hj=>by
  match j,hj with
  | 0,hj=>cases hj;exact .cv _ _ ⟨ua,uc,hlen⟩
  | 1,hj=>cases hj;exact .v _ rfl
  | 2,hj=>cases hj;exact .v _ rfl
  | j + 3,hj=>cases hj⟩ (λ_ hc=>hc.elim)
 have t : Tr st.h.M w (AH.M ((st.key dst,.vars b T (cN u bs.length 0 h')) :: st.h)) w':=
  Tr.upd hH hb.size (λc hlt _=>hb.block c hlt) (λc hc=>by simp [AObj.blk] at hc;subst hc;exact .inl hle)
 obtain ⟨av',h3,h1,h2,h4,h5⟩:=(hR.move H' t ⟨hb.os,hb.tape,hb.output⟩).put (.p (st.key dst) b 0) (hout b h');exact ⟨_,av',h3,rfl,h1,h2,h4,h5⟩
theorem Hw {W : dJ} : wkH (phs W) (phs W) = True:=by rw [<- rO];exact BV
theorem Hu {W : dJ} {h : AH} {j : Nat} {o : AObj} (hj : j < 1000000000) : wkH ((j,o) :: h) (phs W) = wkH h (phs W):=by rw [<- rO,<- rO];exact BU hj
theorem MB {st : ASt} : st.ev (.const (.pointer none)) = .any:=(rfl)
theorem GR {E : Env} {o : dJ} {rs : List ResultVar} {R : RR->Prop} {st : ASt} : tJ E o rs R .normal st = dE E st rs λl=>∃ rr,R rr/\nQ E st.h l rr/\gB st.h o:=(rfl)
theorem GQ {E : Env} {o : dJ} {rs : List ResultVar} {R : RR->Prop} {st : ASt} : tJ E o rs R .ret st = dE E st rs λl=>∃ rr,R rr/\nQ E st.h l rr/\gB st.h o:=(rfl)
theorem A3 {E : Env} {o : dJ} {T : TypeId} {b : Nat} {u : Value} {n : Nat} {rs : List ResultVar} {R : RR->Prop} {st : ASt} : tK E o T b u n rs R .normal st = dE E st rs λl=>∃ rr,R rr/\nQ E st.h l rr/\gB st.h o/\tC T b u n st.h:=(rfl)
theorem A2 {E : Env} {o : dJ} {T : TypeId} {b : Nat} {u : Value} {n : Nat} {rs : List ResultVar} {R : RR->Prop} {st : ASt} : tK E o T b u n rs R .ret st = dE E st rs λl=>∃ rr,R rr/\nQ E st.h l rr/\gB st.h o/\tC T b u n st.h:=(rfl)
theorem DD {E : Env} {T : TypeId} {u : Value} {n : Nat} {rs : List ResultVar} {st : ASt} : xk E T u n rs .normal st = dE E st rs λl=>∃ k b h,l = [.p k b 0]/\st.h.get k = .vars b T (cN u n 0 h):=(rfl)
theorem DC {E : Env} {T : TypeId} {u : Value} {n : Nat} {rs : List ResultVar} {st : ASt} : xk E T u n rs .ret st = dE E st rs λl=>∃ k b h,l = [.p k b 0]/\st.h.get k = .vars b T (cN u n 0 h):=(rfl)
theorem LV {E : Env} {h : AH} {x : AV} {r : RV} : nQ E h [x] (.one r) = qQ E.rd h x r:=(rfl)
theorem LU {E : Env} {h : AH} {l : List AV} {rs : List RV} : nQ E h l (.tup rs) = (l.length≠1/\og E.rd h l rs):=(rfl)
theorem Im {R : Value->CD->Prop} {h : AH} {x : AV} {d : CD} {sz : Nat} : qQ R h x (.c d sz) = aIn R h x d:=(rfl)
theorem CI {R : Value->CD->Prop} {h : AH} {l : List AV} {ts : List (CD × Nat)} : qQ R h (.agg l) (.agg ts) = tU R h l (ts.map Prod.fst):=(rfl)
theorem Ah {R : Value->CD->Prop} {h : AH} : og R h [] [] = True:=(rfl)
theorem yu {R : Value->CD->Prop} {h : AH} {x : AV} {l : List AV} {r : RV} {rs : List RV} : og R h (x :: l) (r :: rs) = (qQ R h x r/\og R h l rs):=(rfl)
theorem ON {d : CD} {sz : Nat} : roV (.c d sz) = toAV d:=(rfl)
theorem HP {ts : List (CD × Nat)} : roV (.agg ts) = .agg (ts.map λt=>toAV t.1):=(rfl)
theorem HT {r : RV} : roR (.one r) = roV r:=(rfl)
theorem HQ {l : List RV} : roR (.tup l) = .tup (l.map roV):=(rfl)
attribute [simp ↓] MB GR GQ A3 A2 DD DC
attribute [simp] LV LU Im CI Ah yu ON HP HT HQ Hw Hu Ch tail_cons BV BU Ib
end Go.AM
namespace Go.Proofs.YtoldjebobgocpaaGreat
open Go.AM
set_option maxRecDepth 20000
set_option maxHeartbeats 6400000
theorem E9 {w : Wld} (hm : ¬ fg w = 0) {p : Nat} (hp : p < fg w) : stepTo w (cG w p)/\∃ k,va w (cG w p) k:=by
 obtain ⟨wok,hs1⟩:=oU hm;by_cases ha : p < (cB w).length
 ·obtain ⟨k,hk,hke,hky⟩:=pw ha
  have ey : cG w p = (cA w k).1:=by unfold cG;rw [List.getElem?_eq_getElem ha];simp only [hke]
  rw [ey];exact ⟨.pick hky,k,Gw hky⟩
 have hs : p - (cB w).length < (bQ w).length:=by unfold fg at hp;omega
 have ey : cG w p = (cf w (bQ w)[p - (cB w).length]).1:=by unfold cG;rw [List.getElem?_eq_none (by omega),List.getElem?_eq_getElem hs]
 obtain ⟨q,hq,hqe⟩:=pQ hs;obtain ⟨k,hk,rest,hql,-⟩:=eH wok hq;have hy : (cf w (bQ w)[p - (cB w).length]).2 = true:=by rw [go wok hs1 hq hqe hk hql]
 rw [ey];exact ⟨.serve hy,Dl hy⟩
theorem CG {w w' : Wld} {k : Nat} (h : va w w' k) : w'.tasks.length = w.tasks.length:=by
 obtain ⟨_,t,e,-⟩:=h;rw [e,List.length_set]
theorem B3 {h : Hub} (hh : an h) (picks : List Int) : ∀ (f n i : Nat) (w : Wld),Reach h i w -> dQ w < f ->
 ∃ (e : Wld) (m : Nat),lB picks f n w = (e,((n + m : Nat) : Int))/\Reach h (i + m) e/\fg e = 0/\dQ e + m<=dQ w/\e.tasks.length = w.tasks.length
 | 0, n, i, w, r, hf => by
   have:=oX w.tasks;unfold dQ at hf
   split at hf<;>omega
 | f + 1, n, i, w, r, hf => by
   by_cases hm : fg w = 0
   ·exact ⟨w,0,by rw [s6 hm];rfl,r,hm,by omega,rfl⟩
   ·rw [vx hm]
    have hp:=u3 picks n (show 0 < fg w by omega);obtain ⟨s,k,hon⟩:=E9 hm hp;have hl:=CS (oU hm).1 hon;obtain ⟨e,m,h1,h2,h3,h4,h5⟩:=B3 hh picks f (n + 1) (i + 1) _ (.step r s) (by omega);refine ⟨e,m + 1,?_,?_,h3,by omega,by rw [h5,CG hon]⟩
    ·rw [h1];congr 2;omega
    ·rw [show i + (m + 1) = i + 1 + m by omega];exact h2
theorem AN {h : Hub} (hh : an h) {i : Nat} (hi : i<=1024) {w : Wld} (r : Reach h i w) (picks : List Int) :
 ∃ (e : Wld) (m : Nat),pl w picks = (e,(m : Int))/\Reach h (i + m) e/\fg e = 0/\(m : Int)<=dQ w/\m<=40/\e.tasks.length = w.tasks.length/\ao e/\(∀ t∈e.tasks,t.pc = 4)/\¬ e.step = 1000000:=by
 obtain ⟨wok,ws,wt⟩:=kH hh r;have hb:=oX w.tasks;have hlen:=wok.2.2.2.1
 have hl : dQ w<=40:=by
  unfold dQ
  split<;>omega
 obtain ⟨e,m,h1,h2,h3,h4,h5⟩:=B3 hh picks 1000001 0 i w r (by omega)
 have h0 : 0<=dQ e:=by
  have:=oX e.tasks;unfold dQ
  split<;>omega
 obtain ⟨eok,es,-⟩:=kH hh h2;have hst : ¬ e.step = 1000000:=by omega
 refine ⟨e,m,?_,h2,h3,by omega,by omega,h5,eok,(E7 eok hst).1 h3,hst⟩;unfold pl;rw [h1,Nat.zero_add]
theorem Ec {e : Wld} (eok : ao e) (hp : ∀ t∈e.tasks,t.pc = 4) : (∀ t∈e.tasks,t.inv<=t.rs/\(t.lin = -1\/(t.inv<=t.lin/\t.lin<=t.rs))):=by
 intro t ht;have k:=eok.1 t ht;have p:=hp t ht;have k1:=k.2.2.2.2.2.2.1 (by omega);have k2:=k.2.2.2.2.2.2.2.2 p;refine ⟨k2.1.1,?_⟩;rcases k1 with k1 | k1
 ·exact .inl k1.2.2
 ·exact .inr ⟨k1.1,k2.2⟩
theorem q4 (a b : Task) : aj Tryz.prog 47 [.agg a.row,.agg b.row] (.one (.c (vb (¬ a.rs = -1/\a.rs < b.inv)) 1)):=by
 refine pci ae Tryz.func47 (λw0 base=>?_);simp [Task.row];intro b1 b2;by_cases h : a.rs = -1
 ·have e : ¬ (¬ a.rs = -1/\a.rs < b.inv):=λh'=>h'.1 h
  simp [h]
 ·have e : (¬ a.rs = -1/\a.rs < b.inv) ↔ a.rs < b.inv:=⟨λh'=>h'.2,λh'=>⟨h,h'⟩⟩
  simp [h]
theorem sW (r : Ring) (hl : cP r<=2 ^ 30) (n : Int) : d6 Tryz.prog 304 [.agg r.row,.c (vi n)] (λrr=>rr = .tup [.agg (be r n).1.res,.c (.s ((be r n).2.1.map Entry.row)) 3,.c (vi (be r n).2.2) 1]):=by
 refine d6.intro ae Tryz.func304 (by kernel_rfl) rfl rfl rfl (Nat.le_of_ble_eq_true rfl) (λw0 base o=>?_);have hno:=@pf r n;have hout:=@kt r n;have hyes:=@kr r n;have hnl : nL aQ r.list<=2 ^ 30:=by unfold cP at hl;omega
 have hle:=aA hnl;simp [Ring.row];intro b2 b4;refine aa.ro (ow r hl) (by simp [Ring.row]) ?_;simp [Ring.res];intro b7;refine aa.ro (fH r (by omega)) (by simp [Ring.row]) ?_;by_cases c1 : aX r
 rotate_left
 ·simp [ab c1,hno (λh=>c1 h.1)]
 simp [c1];by_cases c2 : 1<=n
 rotate_left
 ·have c2' : n < 1:=by omega
  simp [c2',hno (λh=>c2 h.2)]
 have c2' : ¬ n < 1:=by omega
 simp [c2'];have hnx:=c1.2.2.1
 cases c3 : r.out with
 | true=>simp [hout ⟨c1,c2⟩ c3,c3]
 | false=>
 simp;obtain ⟨m,rfl⟩ : ∃ m : Nat,n = m:=⟨n.toNat,by omega⟩;obtain ⟨k,hk0⟩ : ∃ k : Nat,min m r.list.length = k:=⟨_,rfl⟩;have hk : k<=r.list.length:=by omega
 have e1:=hyes ⟨c1,c2⟩ c3 (k:=k) (by simp;omega);have ew : Go.IntKind.i64.wrap (r.next + (k : Int)) = r.next + k:=Go.IntWalk.i64_in _ (by omega);have cd:=ij (l:=r.list) (k:=k) hk;have ct:=qt (l:=r.list) (k:=k) hk;rw [GY,hk0];simp [hk,ew,cd,ct];rw [e1];simp [c3]
theorem uu (h : Hub) (hl : ch h<=2 ^ 28) (id n : Int) : d6 Tryz.prog 222 [.agg h.row,.c (vi id),.c (vi n)]
 (λrr=>rr = .tup [.agg (bC h id n).1.res,.c (.s ((bC h id n).2.1.map Entry.row)) 3,.c (vi (bC h id n).2.2) 1]):=by
 refine d6.intro ae Tryz.func222 (by kernel_rfl) rfl rfl rfl (Nat.le_of_ble_eq_true rfl) (λw0 base o=>?_);have hls:=aA (fc hl).2;simp [Hub.row];intro b3 b6;refine aa.ro (o9 h (by omega) id) (by simp [Hub.row]) ?_;simp;refine aa.ro (dD h (by omega)) (by simp [Hub.row]) ?_;by_cases c1 : an h
 rotate_left
 ·simp [ab c1,iF (λh=>c1 h.1),Hub.res,Hub.zero]
 simp [c1];by_cases c2 : 1<=n
 rotate_left
 ·have c2' : n < 1:=by omega
  simp [c2',iF (λh=>c2 h.2),Hub.res,Hub.zero]
 have c2' : ¬ n < 1:=by omega
 simp [c2'];rcases fB h.subs id with ⟨k,hk,e,-⟩ | e;rotate_left
 ·simp [e,kB ⟨c1,c2⟩ e,Hub.res,Hub.zero]
 have hk0 : ¬ (k : Int) < 0:=by omega
 have hat:=mD ⟨c1,c2⟩ hk e;have hm:=dB (f:=ee) (fc hl).2 hk;unfold ee at hm;have hmod:=m6 hk;obtain ⟨s,hs⟩ : ∃ s,h.subs[k] = s:=⟨_,rfl⟩;rw [hs] at hat hm hmod;have hc:=sW s.r (by omega) n;generalize be s.r n = R at hc hat;obtain ⟨r,list,code⟩:=R;simp only at hat hc;simp [e,hk0,hk,hs,Sub.row];refine d7 hc (by simp [Ring.row]) ?_
 rintro _ rfl
 simp [Ring.res];intro b10;by_cases c3 : code = 0
 rotate_left
 ·rw [if_neg c3] at hat
  simp [c3,hat,Hub.res,Hub.zero]
 rw [if_pos c3] at hat;simp [c3];refine aa.pure (bP h (by omega)) (by simp [Hub.row]) ?_;simp [Hub.res,hk]
 try intros
 rw [hat];simp [hmod r]
theorem F9 (h : Hub) (hl : ch h<=2 ^ 28) (c : Call) (hc : dC c<=2 ^ 28) : d6 Tryz.prog 116 [.agg h.row,.agg c.row] (λrr=>rr = .tup [.agg (fDo h c).1.res,.agg (fDo h c).2.res]):=by
 by_cases n6 : c.kind = 6
 rotate_left
 ·exact (Dd h hl c hc n6).toN
 refine d6.intro ae Tryz.func116 (by kernel_rfl) rfl rfl rfl (Nat.le_of_ble_eq_true rfl) (λw0 base o=>?_);have hcn : c.doc.size<=2 ^ 28/\nL aF c.o<=2 ^ 28/\c.text.length<=2 ^ 28:=by unfold dC at hc;omega
 simp [Hub.row,Call.row];intro b2 b3 b4 b5;refine aa.ro (dD h (by omega)) (by simp [Hub.row]) ?_;by_cases c1 : an h
 rotate_left
 ·simp [ab c1]
  refine aa.ro (bP h (by omega)) (by simp [Hub.row]) ?_;simp [Hub.res,kC (λh=>c1 h.1),Answer.res,bK]
 simp [c1];refine aa.ro (jb c (by omega)) (by simp [Call.row]) ?_;by_cases c2 : bm c
 rotate_left
 ·simp [ab c2]
  refine aa.ro (bP h (by omega)) (by simp [Hub.row]) ?_;simp [Hub.res,kC (λh=>c2 h.2),Answer.res,bK]
 simp [c2];intro b6 b7;have hat:=JH ⟨c1,c2⟩ n6;have hd:=uu h (by omega) c.client c.n;generalize bC h c.client c.n = R at hd hat;obtain ⟨X,list,code⟩:=R;simp only at hd hat;simp [n6];refine d7 hd (by simp [Hub.row]) ?_
 rintro _ rfl
 simp [Hub.res]
 try intros
 by_cases z : code = 0
 ·rw [if_pos z] at hat
  simp [z];refine drw eok mix [0,1] [2,3] (.c 2 2 2 1 (.c 2 3 1 0 (.l 2 0) .s) .s) ?_;simp
  try intros
  rw [hat];simp [Answer.res]
 ·rw [if_neg z] at hat
  simp [z];refine drw eok mix [0,2,3,4] [1,5,6] (.c 4 1 8 7 (.c 4 5 0 7 (.c 4 6 7 0 (.l 4 0) .s) .s) .s) ?_;simp
  try intros
  refine aa.ro (bP h (by omega)) (by simp [Hub.row]) ?_;simp [Hub.res]
  try intros
  rw [hat];simp [Answer.res,bK]
end Go.Proofs.YtoldjebobgocpaaGreat
