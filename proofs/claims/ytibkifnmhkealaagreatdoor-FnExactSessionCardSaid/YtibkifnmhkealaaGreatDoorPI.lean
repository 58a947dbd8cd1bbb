import Derived.Test.YtibkifnmhkealaaGreatDoorPH
import Derived.Test.YtibkifnmhkealaaGreatDoorME
import Derived.Test.YtibkifnmhkealaaGreatDoorNA
import Derived.Lib.SplitLaws
import Derived.Lib.Join
import Derived.Lib.ItoaNum
import Derived.Shelf.Strconv.Itoa3
import Derived.Shelf.Strconv.AtoiAll
import Derived.Shelf.Strings.Split
import Derived.Shelf.Strings.Replace
import Derived.Shelf.Strings.OnBuilder
import Derived.Test.YtibkifnmhkealaaGreatDoorMH
namespace Go.AM
open Go.RowKit
def Cj (w:World) (S:Nat->Prop) (v:Value):RV->Prop
 | .c d _=>Rd w false S v d
 | .agg ts=>∃ xs:Array Value,v=.agg xs/\xs.size=ts.length/\∀ j t,ts[j]? = some t->Rd w false S (xs.getD j undef) t.1
def zo (w:World) (S:Nat->Prop) (v:Value):RR->Prop
 | .one r=>Cj w S v r
 | .tup l=>∃ xs:Array Value,v=.tuple xs/\xs.size=l.length/\∀ j t,l[j]? = some t->Cj w S (xs.getD j undef) t
theorem nH.toN {w:World} {S S':Nat->Prop} {v:Value} {r:RV} (h:nH w S v r) (hS:∀ c,S c->S' c):Cj w S' v r:=by
 cases r with
 |c d sz=>exact (j7.rd h).weaken.map (λ_ _ _=>rfl) (λc hc _=>hS c hc)
 | agg ts =>
   obtain ⟨xs,F,h1,h2,h3,h4,h5⟩:=h;exact ⟨xs,h1,h2,λj t hj=>(j7.rd (h5 j t hj)).weaken.map (λ_ _ _=>rfl) (λc hc _=>hS c (h3 j c hc))⟩
theorem Ep.toN {w:World} {S S':Nat->Prop} {v:Value} {r:RR} (h:Ep w S v r) (hS:∀ c,S c->S' c):zo w S' v r:=by
 cases r with
 |one r=>exact nH.toN h hS
 | tup l =>
   obtain ⟨xs,F,h1,h2,h3,h4,h5⟩:=h;exact ⟨xs,h1,h2,λj t hj=>nH.toN (h5 j t hj) (λc hc=>hS c (h3 j c hc))⟩
theorem Cj.rel {w:World} {M S:Nat->Prop} {v:Value} {r:RV} (h:Cj w S v r) (hM:∀ c,S c->¬ M c):VRel w M (roV r) v:=by
 cases r with
 |c d sz=>exact ig (Rd.map h (λ_ _ _=>rfl) (λc hc _=>hM c hc))
 | agg ts =>
   obtain ⟨xs,rfl,h2,h5⟩:=h;refine .agg _ _ (by simp [h2]) (λi av hi=>?_);simp only [List.getElem?_map,Option.map_eq_some_iff] at hi;obtain ⟨t,ht,rfl⟩:=hi;exact ig ((h5 i t ht).map (λ_ _ _=>rfl) (λc hc _=>hM c hc))
theorem zo.rel {w:World} {M S:Nat->Prop} {v:Value} {r:RR} (h:zo w S v r) (hM:∀ c,S c->¬ M c):VRel w M (roR r) v:=by
 cases r with
 |one r=>exact Cj.rel h hM
 | tup l =>
   obtain ⟨xs,rfl,h2,h5⟩:=h;refine .tup _ _ (by simp [h2]) (λi av hi=>?_);simp only [List.getElem?_map,Option.map_eq_some_iff] at hi;obtain ⟨t,ht,rfl⟩:=hi;exact Cj.rel (h5 i t ht) hM
theorem aa.ro {E:Env} {f:Nat} {args:List VD} {rr:RR} (hc:ai E.P f args rr) {avs:List AV} {st:ASt} {dst:Option Nat} {K:ASt->Prop} (hin:lS E.rd st.h avs args)
 (hout:bk st dst (roR rr) K):aa E f avs st dst K:=by
 refine ⟨hc.1,λa w hR xs hs hx=>?_⟩;obtain ⟨Es,hH⟩:=hR.heap;obtain ⟨hl,hr⟩:=iX hH hR.rd avs args hx hin;refine (hc.2 w trivial xs (by omega) hr).mono ?_
 rintro e w' ⟨v,rfl,hb,hrr⟩
 have t:Tr st.h.M w st.h.M w':=⟨hb.size,λb hlt _=>hb.block b hlt,λb _ h=>h⟩;have H':HRel E.base st.h w' Es:=⟨λk=>(hH.obj k).tr t (λb hk=>hb.block b (hH.lt hk)) (λc hc _=>hc),hH.inj,hH.low,λk c hc=>⟨(hH.elow k c hc).1,Nat.lt_of_lt_of_le (hH.elow k c hc).2 hb.size⟩,hH.einj,hH.em⟩;have hv:VRel w' st.h.M (roR rr) v:=Be hrr (λc hc ⟨k,hk⟩=>by have:=hH.lt hk;omega);obtain ⟨av',h3,h1,h2,h4,h5⟩:=(hR.move H' t ⟨hb.os,hb.tape,hb.output⟩).put hv hout;exact ⟨v,av',h3,rfl,h1,h2,h4,h5⟩
abbrev gf:=List (Nat×Array Value×TypeId)
def gf.at (W:gf) (w:World):Prop:=(∀ q∈W,w.heap[q.1]? = some (.cells q.2.1 q.2.2 (0,0)))/\(W.map (·.1)).Nodup
def gf.off (W:gf) (c:Nat):Prop:=∀ q∈W,c≠q.1
def phO (q:Nat×Array Value×TypeId):AObj:=.vars q.1 q.2.2 (q.2.1.toList.map .is)
def kF:Nat->gf->AH
 |_,[]=>[]
 |i,q::l=>(i,phO q)::kF (i+1) l
def phs (W:gf):AH:=kF 1000000000 W
theorem uB:∀ (W:gf) (i k:Nat),AH.get (kF i W) k=if i<=k then (match W[k - i]? with|some q=>phO q|none=>.dead) else .dead
 | [],i,k=>by simp [kF,AH.get]
 | q :: l, i, k => by
   rw [kF,bo,uB l];by_cases h:k=i
   ·subst h;simp
   ·rw [if_neg h]
    by_cases h1:i+1<=k
    ·rw [if_pos h1,if_pos (by omega),show k - i=(k - (i+1))+1 by omega];rfl
    ·rw [if_neg h1,if_neg (by omega)]
theorem vK (W:gf) (k:Nat):AH.get (phs W) k=if 1000000000<=k then (match W[k - 1000000000]? with|some q=>phO q|none=>.dead) else .dead:=uB W _ k
theorem LV {W:gf} {k:Nat} (h:k<1000000000):AH.get (phs W) k=.dead:=by rw [vK,if_neg (by omega)]
theorem Bi {W:gf} {k c:Nat} (h:(AH.get (phs W) k).blk=some c):1000000000<=k/\∃ q,W[k - 1000000000]? = some q/\q.1=c/\AH.get (phs W) k=phO q:=by
 rw [vK] at h ⊢
 split at h
 ·rename_i hk
  rw [if_pos hk]
  split at h
  ·rename_i q hq
   exact ⟨hk,q,hq,by simpa [phO,AObj.blk] using h,by simp⟩
  ·cases h
 ·cases h
theorem JR {W:gf} {q:Nat×Array Value×TypeId} (h:q∈W):∃ k,1000000000<=k/\AH.get (phs W) k=phO q:=by
 obtain ⟨i,hi,rfl⟩:=List.getElem_of_mem h;exact ⟨1000000000+i,by omega,by rw [vK,if_pos (by omega)];simp [hi]⟩
theorem LW {W:gf} (hn:(W.map (·.1)).Nodup) {k k' c:Nat} (h:(AH.get (phs W) k).blk=some c) (h':(AH.get (phs W) k').blk=some c):k=k':=by
 obtain ⟨h1,q,hq,rfl,-⟩:=Bi h;obtain ⟨h2,q',hq',e,-⟩:=Bi h';obtain ⟨hi,rfl⟩:=List.getElem?_eq_some_iff.1 hq;obtain ⟨hi',rfl⟩:=List.getElem?_eq_some_iff.1 hq';have:=(List.getElem_inj (xs:=W.map (·.1)) (i:=k' - 1000000000) (j:=k - 1000000000) (h₀:=by simpa using hi') (h₁:=by simpa using hi) hn).1 (by simpa using e);omega
def lT (h:AH) (W:gf):Prop:=∀ k,1000000000<=k->AH.get h k=AH.get (phs W) k
theorem GQ {W:gf}:lT (phs W) W=True:=eq_true λ_ _=>rfl
theorem tail_cons {W:gf} {h:AH} {j:Nat} {o:AObj} (hj:j<1000000000):lT ((j,o)::h) W=lT h W:=by
 have:∀ k,1000000000<=k->AH.get ((j,o)::h) k=AH.get h k:=λk hk=>by rw [bo,if_neg (by omega)]
 refine propext ⟨λht k hk=>by rw [<- this k hk];exact ht k hk,λht k hk=>by rw [this k hk];exact ht k hk⟩
theorem Io (a:AV):iZ a a:=by cases a<;>simp [iZ]
theorem Ej:∀ l:List AV,ALe l l
 | []=>trivial
 |a::l=>⟨Io a,Ej l⟩
theorem ES (o:AObj):fN o o:=by
 cases o with
 |vars b T cells=>exact ⟨rfl,rfl,Ej cells⟩
 |dead=>trivial
 |rows=>exact .inl rfl
 |lent=>exact rfl
 |part=>exact rfl
theorem oG:∀ {W:gf} {i:Nat} {p:Nat×AObj},p∈kF i W->i<=p.1/\AH.get (kF i W) p.1=p.2
 | [],_,_,h=>by cases h
 | q :: l, i, p, h => by
   rcases List.mem_cons.1 h with rfl|h
   ·exact ⟨Nat.le_refl _,by rw [kF,bo,if_pos rfl]⟩
   ·obtain ⟨h1,h2⟩:=oG h
    exact ⟨by omega,by rw [kF,bo,if_neg (by omega)];exact h2⟩
theorem Gs {W:gf}:(∀ p∈phs W,fN (AH.get (phs W) p.1) p.2)=True:=eq_true λp hp=>by
 have e:AH.get (phs W) p.1=p.2:=(oG hp).2;rw [e];exact ES _
theorem Gr {W:gf} {h:AH} {j:Nat} {o:AObj} (hj:j<1000000000):(∀ p∈phs W,fN (AH.get ((j,o)::h) p.1) p.2) = ∀ p∈phs W,fN (AH.get h p.1) p.2:=by
 have:∀ p∈phs W,AH.get ((j,o)::h) p.1=AH.get h p.1:=λp hp=>by
  have:=(oG hp).1;rw [bo,if_neg (by omega)]
 refine propext ⟨λht p hp=>by rw [<- this p hp];exact ht p hp,λht p hp=>by rw [this p hp];exact ht p hp⟩
def dC (P:Program) (f:Nat) (args:List VD) (R:RR->Prop):Prop:=
 IN P f /\ ∀ (w:World) (o:gf) (xs:Array Value),o.at w -> xs.size=args.length -> (∀ i vd,args[i]? = some vd -> ui w o.off (xs.getD i undef) vd) ->
  Calls P f xs w λe w'=>∃ v rr,e=.returned v/\R rr/\Below w.heap.size w w'/\zo w' o.off v rr
theorem Cg {o:gf} {w:World} (h:o.at w) {c:Nat} (hc:w.heap.size<=c):o.off c:=λq hq he=>by
 have:=dw (h.1 q hq);omega
theorem ui.toV {w:World} {S:Nat->Prop} {v:Value} {d:VD} (h:ui w S v d):RdV w v d:=by
 cases d with
 |c d=>exact Rd.map h (λ_ _ _=>rfl) (λ_ _ _=>trivial)
 | agg ds =>
   obtain ⟨xs,h1,h2,h3⟩:=h;exact ⟨xs,h1,h2,λj d hd=>(h3 j d hd).map (λ_ _ _=>rfl) (λ_ _ _=>trivial)⟩
theorem ai.toN {P:Program} {f:Nat} {args:List VD} {rr:RR} (hc:ai P f args rr):dC P f args (λr=>r=rr):=by
 refine ⟨hc.1,λw o xs ho hs hx=>(hc.2 w trivial xs hs (λi vd hi=>(hx i vd hi).toV)).mono ?_⟩
 rintro e w' ⟨v,rfl,hb,hr⟩
 exact ⟨v,rr,rfl,rfl,hb,hr.toN λc hc=>Cg ho hc.1⟩
theorem AQ {P:Program} {f:Nat} {args:List VD} {u:Value} (hu:plain u=true) (hc:dC P f args (λr=>r=.one (.c (.v u) 1))):ai P f args (.one (.c (.v u) 1)):=by
 refine ⟨hc.1,λw _ xs hs hx=>(hc.2 w [] xs ⟨by simp,by simp⟩ hs (λi vd hi=>?_)).mono ?_⟩
 ·have:=hx i vd hi
  cases vd with
  |c d=>exact Rd.map this (λ_ _ _=>rfl) (λ_ _ _ q hq=>by cases hq)
  | agg ds =>
    obtain ⟨ys,g1,g2,g3⟩:=this;exact ⟨ys,g1,g2,λj d hd=>(g3 j d hd).map (λ_ _ _=>rfl) (λ_ _ _ q hq=>by cases hq)⟩
 ·rintro e w' ⟨v,rr,rfl,rfl,hb,hr⟩
  have h:Rd w' false _ v (.v u):=hr
  cases h with
  |plain h=>exact ⟨_,rfl,hb,rfl,hu⟩
theorem dC.mono {P:Program} {f:Nat} {args:List VD} {R R':RR->Prop} (hc:dC P f args R) (h:∀ r,R r->R' r):dC P f args R':=by
 refine ⟨hc.1,λw o xs ho hs hx=>(hc.2 w o xs ho hs hx).mono ?_⟩
 rintro e w' ⟨v,rr,rfl,h1,hb,hr⟩
 exact ⟨v,rr,rfl,h _ h1,hb,hr⟩
theorem J4 {w:World} {M E:Nat->Prop} {o:AObj} (h:eT w M E o) {b:Nat} (hb:o.blk=some b):∃ cs T,w.heap[b]? = some (.cells cs T (0,0)):=by
 cases o with
 |dead=>cases hb
 |vars b' T cells=>obtain ⟨cs,h1,-⟩:=h;cases hb;exact ⟨cs,T,h1⟩
 |lent H sz rows=>cases hb
 | rows H sz rows own =>
   cases H with
   |none=>cases hb
   |some q=>obtain ⟨b',o,C⟩:=q;obtain ⟨cs,T,F,h1,-⟩:=h;cases hb;exact ⟨cs,T,h1⟩
 | part H sz rows lo =>
   cases H with
   |none=>cases hb
   |some q=>obtain ⟨b',o,C⟩:=q;obtain ⟨cs,T,F,h1,-⟩:=h;cases hb;exact ⟨cs,T,h1⟩
theorem DE:∀ {h:AH} {k:Nat},(AH.get h k).blk≠none->k∈h.map (·.1)
 | [],_,hk=>absurd rfl hk
 | (j, o) :: h, k, hk => by
   rw [bo] at hk
   split at hk
   ·rename_i e;rw [e];exact List.mem_cons_self ..
   ·exact List.mem_cons_of_mem _ (DE hk)
def ddl:List Nat->List Nat
 | []=>[]
 |a::l=>if a∈l then ddl l else a::ddl l
theorem vQ {c:Nat}:∀ l:List Nat,c∈ddl l ↔ c∈l
 | []=>Iff.rfl
 | a :: l => by
   unfold ddl
   split
   ·rename_i h
    rw [vQ l];exact ⟨λhc=>List.mem_cons_of_mem _ hc,λhc=>(List.mem_cons.1 hc).elim (λe=>e ▸ h) id⟩
   ·rw [List.mem_cons,List.mem_cons,vQ l]
theorem t7:∀ l:List Nat,(ddl l).Nodup
 | []=>List.nodup_nil
 | a :: l => by
   unfold ddl
   split
   ·exact t7 l
   ·rename_i h
    rw [List.nodup_cons];exact ⟨λhc=>h ((vQ l).1 hc),t7 l⟩
theorem FV {w:World}:∀ {B:List Nat},B.Nodup->(∀ b∈B,∃ cs T,w.heap[b]? = some (.cells cs T (0,0)))->∃ W:gf,W.at w/\W.map (·.1)=B
 | [],_,_=>⟨[],⟨by simp,by simp⟩,rfl⟩
 | b :: B, hn, hb => by
   rw [List.nodup_cons] at hn;obtain ⟨W,h1,h2⟩:=FV hn.2 (λc hc=>hb c (List.mem_cons_of_mem _ hc));obtain ⟨cs,T,h3⟩:=hb b (List.mem_cons_self ..);refine ⟨(b,cs,T)::W,⟨λq hq=>?_,?_⟩,by simp [h2]⟩
   ·rcases List.mem_cons.1 hq with rfl|hq
    ·exact h3
    ·exact h1.1 q hq
   ·simp only [List.map_cons,List.nodup_cons]
    exact ⟨by rw [h2];exact hn.1,h1.2⟩
theorem Cr {base:Bs} {h:AH} {w:World} {E:Nat->Nat->Prop} (H:HRel base h w E) (p:Nat->Prop):∃ W:gf,W.at w/\∀ c,W.off c ↔ ¬ (h.M c/\p c):=by
 classical
 let B:List Nat:=ddl (((h.map (·.1)).filterMap λk=>(h.get k).blk).filter (λc=>decide (p c)))
 have hB:∀ c,c∈B ↔ h.M c/\p c:=by
  intro c;simp only [B,vQ,List.mem_filter,List.mem_filterMap,decide_eq_true_eq]
  constructor
  ·rintro ⟨⟨k,-,hk⟩,hp⟩;exact ⟨⟨k,hk⟩,hp⟩
  ·rintro ⟨⟨k,hk⟩,hp⟩;exact ⟨⟨k,DE (by rw [hk];simp),hk⟩,hp⟩
 obtain ⟨W,h1,h2⟩:=FV (w:=w) (B:=B) (t7 _) (λb hb=>by
  obtain ⟨⟨k,hk⟩,-⟩:=(hB b).1 hb;exact J4 (H.obj k) hk)
 refine ⟨W,h1,λc=>?_⟩;rw [<- hB,<- h2];unfold gf.off
 constructor
 ·intro h hm
  obtain ⟨q,hq,e⟩:=List.mem_map.1 hm;exact h q hq e.symm
 ·intro h q hq e
  exact h (List.mem_map.2 ⟨q,hq,e.symm⟩)
theorem C7 {E:Env} {st:ASt} {a:Act} {w:World} (hR:Rep E.w0 E.base st a w) {Es:Nat->Nat->Prop} (hH:HRel E.base st.h w Es) {S:Nat->Prop} (hoff:∀ c,¬ st.h.M c->S c):∀ (avs:List AV) (args:List VD) {us:Nat->Value} (_:∀ i av,avs[i]? = some av->VRel w st.h.M av (us i)) (_:lS E.rd [] avs args),avs.length=args.length/\∀ i d,args[i]? = some d->ui w S (us i) d:=by
 have one:∀ {x:AV} {u:Value} {d:CD},VRel w st.h.M x u->aIn E.rd [] x d->Rd w false S u d:=by
  intro x u d hv hk;unfold aIn at hk
  split at hk
  ·cases hv
   exact Rd.map hk (λb hb _=>hR.below.block b hb) (λc hc _=>hoff c (λ⟨k,hk⟩=>(hH.low k c hk).1 hc))
  ·simp at hk
  ·subst hk;cases hv with|v u hp=>exact .plain hp
  ·subst hk;cases hv;exact .empty _ _ (by intro h;cases h)
  ·subst hk;cases hv with|ro rows x hr=>exact hr.map (λ_ _ _=>rfl) (λc hc _=>hoff c hc)
  ·simp at hk
  ·exact hk.elim
 have oneL:∀ (l:List AV) (ds:List CD) {us:Nat->Value} (_:∀ i av,l[i]? = some av->VRel w st.h.M av (us i)) (_:yk E.rd [] l ds),l.length=ds.length/\∀ i d,ds[i]? = some d->Rd w false S (us i) d:=by
  intro l
  induction l with
  | nil =>
    intro ds us hv hk
    cases ds with
    |nil=>exact ⟨rfl,λi d hd=>by simp at hd⟩
    |cons _ _=>exact hk.elim
  | cons a l ih =>
    intro ds us hv hk
    cases ds with
    |nil=>exact hk.elim
    | cons d ds =>
      obtain ⟨h1,h2⟩:=ih ds (us:=λi=>us (i+1)) (λi av hi=>hv (i+1) av (by simpa using hi)) hk.2;refine ⟨by simp [h1],λi d' hd=>?_⟩
      cases i with
      |zero=>simp at hd;subst hd;exact one (hv 0 a rfl) hk.1
      |succ i=>exact h2 i d' (by simpa using hd)
 intro avs
 induction avs with
 | nil =>
   intro args us hv hk
   cases args with
   |nil=>exact ⟨rfl,λi d hd=>by simp at hd⟩
   |cons _ _=>exact hk.elim
 | cons a l ih =>
   intro args us hv hk
   cases args with
   |nil=>exact hk.elim
   | cons d ds =>
     obtain ⟨h1,h2⟩:=ih ds (us:=λi=>us (i+1)) (λi av hi=>hv (i+1) av (by simpa using hi)) hk.2;refine ⟨by simp [h1],λi d' hd=>?_⟩
     cases i with
     | zero =>
       simp at hd;subst hd;have h0:=hv 0 a rfl;have hk0:=hk.1;generalize us 0=u0 at h0 ⊢;unfold FJ at hk0
       split at hk0
       ·exact one h0 hk0
       ·split at hk0
        ·rename_i ds _ l
         cases h0 with
         | agg _ xs hs hl =>
           obtain ⟨g1,g2⟩:=oneL l ds hl hk0;exact ⟨xs,rfl,by omega,g2⟩
        ·exact hk0.elim
     |succ i=>exact h2 i d' (by simpa using hd)
theorem dq {E:Env} {f:Nat} {args:List VD} {R:RR->Prop} (hc:dC E.P f args R) {avs:List AV} {st:ASt} {dst:Option Nat} {K:ASt->Prop} (hin:lS E.rd [] avs args)
 (hout:∀ rr,R rr->bk st dst (roR rr) K):aa E f avs st dst K:=by
 refine ⟨hc.1,λa w hR xs hs hx=>?_⟩;obtain ⟨Es,hH⟩:=hR.heap;obtain ⟨o,ho,hoff⟩:=Cr hH (λ_=>True);obtain ⟨hl,hr⟩:=C7 hR hH (S:=o.off) (λc hc=>(hoff c).2 (λh=>hc h.1)) avs args hx hin;refine (hc.2 w o xs ho (by omega) hr).mono ?_
 rintro e w' ⟨v,rr,rfl,hRR,hb,hrr⟩
 have t:Tr st.h.M w st.h.M w':=⟨hb.size,λb hlt _=>hb.block b hlt,λb _ h=>h⟩;have H':HRel E.base st.h w' Es:=⟨λk=>(hH.obj k).tr t (λb hk=>hb.block b (hH.lt hk)) (λc hc _=>hc),hH.inj,hH.low,λk c hc=>⟨(hH.elow k c hc).1,Nat.lt_of_lt_of_le (hH.elow k c hc).2 hb.size⟩,hH.einj,hH.em⟩;have hv:VRel w' st.h.M (roR rr) v:=zo.rel hrr (λc hc hm=>(hoff c).1 hc ⟨hm,trivial⟩);obtain ⟨av',h3,h1,h2,h4,h5⟩:=(hR.move H' t ⟨hb.os,hb.tape,hb.output⟩).put hv (hout rr hRR);exact ⟨v,av',h3,rfl,h1,h2,h4,h5⟩
def uK (R:Value->CD->Prop) (h:AH) (x:AV) (r:RV):Prop:=
 match r with
 | .c d _=>aIn R h x d
 | .agg ts => match x with
   | .agg l=>yk R h l (ts.map Prod.fst)
   |_=>False
def re (R:Value->CD->Prop) (h:AH):List AV->List RV->Prop
 | [],[]=>True
 |a::l,r::rs=>uK R h a r/\re R h l rs
 |_,_=>False
def nQ (E:Env) (h:AH) (l:List AV) (rr:RR):Prop:=
 match rr with
 | .one r => match l with
   | [x]=>uK E.rd h x r
   |_=>False
 | .tup rs=>l.length≠1/\re E.rd h l rs
theorem uJ {base:Bs} {h:AH} {w:World} {E:Nat->Nat->Prop} (H:HRel base h w E) {S:Nat->Prop} (hS:∀ c,¬ h.M c->S c) (hSr:∀ k b o C sz rows own,h.get k=.rows (some (b,o,C)) sz rows own->S b)
 {R:Value->CD->Prop} (hR:∀ u d,R u d->Rd w false S u d) {x:AV} {u:Value} (hv:VRel w h.M x u) {r:RV} (hk:uK R h x r):Cj w S u r:=by
 unfold uK at hk
 split at hk
 ·exact yi H hS hSr hR hv hk
 ·split at hk
  ·rename_i ts _ l
   cases hv with
   | agg _ xs hs hl =>
     obtain ⟨h1,h2⟩:=vf H hS hSr hR l _ hl hk;refine ⟨xs,rfl,by simp at h1;omega,λj t hj=>h2 j t.1 (by simp [hj])⟩
  ·exact hk.elim
theorem sf {base:Bs} {h:AH} {w:World} {E:Nat->Nat->Prop} (H:HRel base h w E) {S:Nat->Prop} (hS:∀ c,¬ h.M c->S c) (hSr:∀ k b o C sz rows own,h.get k=.rows (some (b,o,C)) sz rows own->S b)
 {R:Value->CD->Prop} (hR:∀ u d,R u d->Rd w false S u d):∀ (l:List AV) (rs:List RV) {us:Nat->Value} (_:∀ i av,l[i]? = some av->VRel w h.M av (us i)) (_:re R h l rs),
 l.length=rs.length/\∀ j t,rs[j]? = some t->Cj w S (us j) t
 | [],[],us,hv,hk=>⟨rfl,λj t hj=>by simp at hj⟩
 | a :: l, r :: rs, us, hv, hk => by
   obtain ⟨h1,h2⟩:=sf H hS hSr hR l rs (us:=λi=>us (i+1)) (λi av hi=>hv (i+1) av (by simpa using hi)) hk.2;refine ⟨by simp [h1],λj t hj=>?_⟩
   cases j with
   |zero=>simp at hj;subst hj;exact uJ H hS hSr hR (hv 0 a rfl) hk.1
   |succ j=>exact h2 j t (by simpa using hj)
 | [],_::_,us,hv,hk=>hk.elim
 |_::_,[],us,hv,hk=>hk.elim
theorem Df {E:Env} {h:AH} {w:World} {Es:Nat->Nat->Prop} (H:HRel E.base h w Es) {S:Nat->Prop} (hS:∀ c,¬ h.M c->S c) (hSr:∀ k b o C sz rows own,h.get k=.rows (some (b,o,C)) sz rows own->S b)
 (hR:∀ u d,E.rd u d->Rd w false S u d) {vs:List Value} {l:List AV} (hl:vs.length=l.length) (hv:∀ i av,l[i]? = some av->VRel w h.M av (vs.getD i undef)) {rr:RR} (hq:nQ E h l rr) :
 zo w S (if vs.length=1 then vs.getD 0 undef else .tuple vs.toArray) rr:=by
 unfold nQ at hq
 split at hq
 ·split at hq
  ·rename_i r x
   rw [if_pos (by simpa using hl)];exact uJ H hS hSr hR (hv 0 x rfl) hq
  ·exact hq.elim
 ·rename_i rs
  obtain ⟨hne,hq⟩:=hq;obtain ⟨h1,h2⟩:=sf H hS hSr hR l rs hv hq;rw [if_neg (by omega)];exact ⟨vs.toArray,rfl,by simp;omega,λj t hj=>by simpa using h2 j t hj⟩
theorem Ga {P:Program} {fn:Func} {tmps:Array Value} {w:World} {vs:List Value} (h1:(fn.results.toList.mapM (kE tmps)).run P w=.ok vs w):(results fn tmps).run P w=.ok (if vs.length=1 then vs.getD 0 undef else .tuple vs.toArray) w:=by
 rw [kW,Array.mapM_eq_mapM_toList];simp only [Sem.run_bind,Sem.run_map,h1,Result.andThen_ok,Sem.run_pure]
 cases vs with
 |nil=>simp
 |cons v vs=>cases vs<;>simp
theorem LU {w:World} {o:gf} (ho:o.at w) (M E:Nat->Prop) (k:Nat):eT w M E (AH.get (phs o) k):=by
 rw [vK]
 split
 ·split
  ·rename_i q hq
   refine ⟨q.2.1,ho.1 q (List.mem_of_getElem? hq),by simp,λj av hj=>?_⟩;simp only [List.getElem?_map,Array.getElem?_toList,Option.map_eq_some_iff] at hj;obtain ⟨u,hu,rfl⟩:=hj;have:q.2.1.getD j undef=u:=by simp [Array.getD_eq_getD_getElem?,hu]
   rw [this];exact .is u
  ·trivial
 ·trivial
theorem LS {w:World} {o:gf} (ho:o.at w) (base:Bs) (hb:∀ c,¬ o.off c->¬ base.F c/\¬ base.G c):HRel base (phs o) w (λ_ _=>False)/\∀ c,(phs o).M c ↔ ¬ o.off c:=by
 have hm:∀ c,(phs o).M c ↔ ¬ o.off c:=by
  intro c
  constructor
  ·rintro ⟨k,hk⟩ h
   obtain ⟨-,q,hq,e,-⟩:=Bi hk;exact h q (List.mem_of_getElem? hq) e.symm
  ·intro h
   obtain ⟨q,hq,e⟩:∃ q∈o,c=q.1:=Classical.byContradiction λhn=>h (λq hq he=>hn ⟨q,hq,he⟩)
   obtain ⟨k,-,hk⟩:=JR hq;exact ⟨k,by rw [hk,e];rfl⟩
 exact ⟨⟨λk=>LU ho _ _ k,λk k' c h h'=>LW ho.2 h h',λk c h=>hb c ((hm c).1 ⟨k,h⟩),λ_ _ h=>h.elim,λ_ _ _ h=>h.elim,λ_ _ h=>h.elim⟩,hm⟩
theorem JS {w:World} {o:gf} (ho:o.at w) {n:Nat} {xs:Array Value} {t:List (Nat×AV)} (hn:xs.size<=n) (ht:∀ q,VRel w (λc=>¬ o.off c) (aW t q) ((xs++Array.replicate (n - xs.size) undef).getD q undef)) :
 Rep w ⟨λc=>c<w.heap.size/\o.off c,λc=>c<w.heap.size/\o.off c,false,λ_=>True⟩ { n:=n,kb:=0,t:=t,h:=phs o } { tmps:=xs++Array.replicate (n - xs.size) undef,defers:=[] } w:=by
 obtain ⟨hrel,hm⟩:=LS ho ⟨λc=>c<w.heap.size/\o.off c,λc=>c<w.heap.size/\o.off c,false,λ_=>True⟩ (λc hc=>⟨λh=>hc h.2,λh=>hc h.2⟩);exact ⟨rfl,by simp;omega,λq=>(ht q).tr ⟨Nat.le_refl _,λ_ _ _=>rfl,λc _ hc=>(hm c).1 hc⟩,⟨_,hrel⟩,BelowF.refl _ _,λc hc=>hc.elim (λh=>h.1) (λh=>h.1)⟩
theorem pH {base:Bs} {h:AH} {w w':World} {E:Nat->Nat->Prop} (hH:HRel base h w' E) {o:gf} (ho:o.at w) (hg:lT h o) {c:Nat} (hc:¬ o.off c):w'.heap[c]? = w.heap[c]?/\∃ k,1000000000<=k/\(h.get k).blk=some c/\∃ b T l,h.get k=.vars b T l:=by
 obtain ⟨q,hq,rfl⟩:∃ q∈o,c=q.1:=Classical.byContradiction λhn=>hc (λq hq he=>hn ⟨q,hq,he⟩)
 obtain ⟨k,hk,he⟩:=JR hq;have e:h.get k=phO q:=by rw [hg k hk,he]
 refine ⟨?_,k,hk,by rw [e];rfl,_,_,_,e⟩;have ob:=hH.obj k;rw [e] at ob;obtain ⟨cs',g1,g2,g3⟩:=ob;have hs:cs'.size=q.2.1.size:=by simpa using g2
 have:cs'=q.2.1:=by
  refine Array.ext hs (λj hj hj'=>?_);have:=g3 j (.is q.2.1[j]) (by simp [hj']);have e:cs'.getD j undef=cs'[j]:=by simp [Array.getD_eq_getD_getElem?,hj]
  rw [e] at this;generalize cs'[j]=y at this
  cases this;rfl
 rw [g1,this];exact (ho.1 q hq).symm
theorem JT {P:Program} {Ty:Nat->Option TI} (hT:∀ t ti,Ty t=some ti->TIok P t ti) {fn:Func} {w w':World} {o:gf} (ho:o.at w) {R:RR->Prop} {st':ASt} {a':Act}
 (hR':Rep w ⟨λc=>c<w.heap.size/\o.off c,λc=>c<w.heap.size/\o.off c,false,λ_=>True⟩ st' a' w')
 (hq:jr ⟨P,Ty,w,⟨λc=>c<w.heap.size/\o.off c,λc=>c<w.heap.size/\o.off c,false,λ_=>True⟩⟩ st' fn.results.toList λl=>∃ rr,R rr/\nQ ⟨P,Ty,w,⟨λc=>c<w.heap.size/\o.off c,λc=>c<w.heap.size/\o.off c,false,λ_=>True⟩⟩ st'.h l rr/\lT st'.h o) :
 a'.defers=[]/\∃ v,(results fn a'.tmps).run P w'=.ok v w'/\∃ v' rr,Ending.returned v=.returned v'/\R rr/\Below w.heap.size w w'/\zo w' o.off v' rr:=by
 let B:Bs:=⟨λc=>c<w.heap.size/\o.off c,λc=>c<w.heap.size/\o.off c,false,λ_=>True⟩
 have hE:EOk ⟨P,Ty,w,B⟩:=⟨hT,λw' hb=>trivial⟩;obtain ⟨vs,l,h1,h2,h3,rr,hRR,h4,hg⟩:=gL hE hR' fn.results.toList hq;obtain ⟨Es,hH⟩:=hR'.heap
 refine ⟨hR'.dfr,_,Ga h1,_,rr,rfl,hRR,⟨hR'.below.os,hR'.below.tape,hR'.below.output,hR'.below.size,λc hc=>?_⟩,
  Df (E:=⟨P,Ty,w,B⟩) hH (S:=o.off) (λc hc=>Classical.byContradiction λh=>?_) (λk b' o' C sz rows own hgk=>Classical.byContradiction λh=>?_) (λv d hd=>?_) h2 h3 h4⟩
 ·by_cases h:o.off c
  ·exact hR'.below.block c ⟨hc,h⟩
  ·exact (pH hH ho hg h).1
 ·obtain ⟨-,k,-,hk,-⟩:=pH hH ho hg h
  exact hc ⟨k,hk⟩
 ·obtain ⟨-,k',-,hk,b,T,l,he⟩:=pH hH ho hg h
  have:=hH.inj k k' b' (by rw [hgk];rfl) hk;subst this;rw [hgk] at he;cases he
 ·exact Rd.map hd (λc hc _=>hR'.below.block c hc) (λc hc _=>hc.2)
def B5 (E:Env) (o:gf) (rs:List ResultVar) (R:RR->Prop):Exit->ASt->Prop
 | .normal,st=>jr E st rs λl=>∃ rr,R rr/\nQ E st.h l rr/\lT st.h o
 | .ret,st=>jr E st rs λl=>∃ rr,R rr/\nQ E st.h l rr/\lT st.h o
 |_,_=>False
theorem ui.ph {w:World} {o:gf} {v:Value} {d:VD} (h:ui w o.off v d):VRel w (λc=>¬ o.off c) d.toAV v:=
 ui.rel (M:=λc=>¬ o.off c) (by
  cases d with
  |c d=>exact Rd.map h (λ_ _ _=>rfl) (λc hc _ hn=>hn hc)
  | agg ds =>
    obtain ⟨xs,h1,h2,h3⟩:=h;exact ⟨xs,h1,h2,λj d hd=>(h3 j d hd).map (λ_ _ _=>rfl) (λc hc _ hn=>hn hc)⟩)
theorem dC.intro {P : Program} {Ty : Nat → Option TI} (hT : ∀ t ti, Ty t = some ti → TIok P t ti) {f : Nat} {fn : Func} {c : Code} (hf : P.funcs[f]? = some fn) (hname : (fn.name == "runtime.NumGoroutine") = false) (hb : fn.body = some c)
 {n:Nat} {rs:List ResultVar} (hnt:fn.ntmps=n) (hrs:fn.results=⟨rs⟩) {args:List VD} {R:RR->Prop} (hn:args.length<=n)
 (h:∀ w0 base o,ge ⟨P,Ty,w0,⟨base,base,false,λ_=>True⟩⟩ c (B5 ⟨P,Ty,w0,⟨base,base,false,λ_=>True⟩⟩ o rs R) { n:=n,kb:=0,t:=pm 0 args,h:=phs o }):dC P f args R:=by
 subst hnt;have hrs':fn.results.toList=rs:=by rw [hrs]
 subst hrs';refine ⟨⟨fn,hf,hname,by rw [hb];rfl⟩,λw o xs ho hs hx=>calls_of_wp hf hb ?_⟩;have hE:EOk ⟨P,Ty,w,⟨λc=>c<w.heap.size/\o.off c,λc=>c<w.heap.size/\o.off c,false,λ_=>True⟩⟩:=⟨hT,λw' hb=>trivial⟩
 have hR:=JS ho (n:=fn.ntmps) (xs:=xs) (t:=pm 0 args) (by omega) (λq=>by
  rw [s6,if_pos (Nat.zero_le q),Nat.sub_zero]
  split
  ·rename_i v hv
   have hlt:q<xs.size:=by rw [hs];exact (List.getElem?_eq_some_iff.1 hv).1
   have e:(xs++Array.replicate (fn.ntmps - xs.size) undef).getD q undef=xs.getD q undef:=by
    simp only [Array.getD_eq_getD_getElem?];rw [Array.getElem?_append_left hlt]
   rw [e];exact (hx q v hv).ph
  ·exact .any _)
 refine wp_mono (dQ hE c _ _ _ w hR (h w _ o)) ?_
 rintro e a' w' ⟨st',hq,hR'⟩
 cases e with
 |normal=>exact JT hT ho hR' hq
 |ret=>exact JT hT ho hR' hq
 |_=>exact hq.elim
theorem ui.map {w:World} {S S':Nat->Prop} {v:Value} {d:VD} (h:ui w S v d) (hS:∀ c,S c->S' c):ui w S' v d:=by
 cases d with
 |c d=>exact Rd.map h (λ_ _ _=>rfl) (λc hc _=>hS c hc)
 | agg ds =>
   obtain ⟨xs,h1,h2,h3⟩:=h;exact ⟨xs,h1,h2,λj d hd=>(h3 j d hd).map (λ_ _ _=>rfl) (λc hc _=>hS c hc)⟩
theorem Lu {W:gf}:wkH (phs W) (phs W)=True:=by rw [<- vY];exact Gs
theorem Lt {W:gf} {h:AH} {j:Nat} {o:AObj} (hj:j<1000000000):wkH ((j,o)::h) (phs W)=wkH h (phs W):=by rw [<- vY,<- vY];exact Gr hj
theorem PD {st:ASt}:st.ev (.const (.pointer none))=.any:=(rfl)
theorem KX {E:Env} {o:gf} {rs:List ResultVar} {R:RR->Prop} {st:ASt}:B5 E o rs R .normal st=jr E st rs λl=>∃ rr,R rr/\nQ E st.h l rr/\lT st.h o:=(rfl)
theorem KW {E:Env} {o:gf} {rs:List ResultVar} {R:RR->Prop} {st:ASt}:B5 E o rs R .ret st=jr E st rs λl=>∃ rr,R rr/\nQ E st.h l rr/\lT st.h o:=(rfl)
theorem Pc {E:Env} {h:AH} {x:AV} {r:RV}:nQ E h [x] (.one r)=uK E.rd h x r:=(rfl)
theorem Pb {E:Env} {h:AH} {l:List AV} {rs:List RV}:nQ E h l (.tup rs)=(l.length≠1/\re E.rd h l rs):=(rfl)
theorem Md {R:Value->CD->Prop} {h:AH} {x:AV} {d:CD} {sz:Nat}:uK R h x (.c d sz)=aIn R h x d:=(rfl)
theorem Hq {R:Value->CD->Prop} {h:AH} {l:List AV} {ts:List (CD×Nat)}:uK R h (.agg l) (.agg ts)=yk R h l (ts.map Prod.fst):=(rfl)
theorem EZ {R:Value->CD->Prop} {h:AH}:re R h [] []=True:=(rfl)
theorem Dg {R:Value->CD->Prop} {h:AH} {x:AV} {l:List AV} {r:RV} {rs:List RV}:re R h (x::l) (r::rs)=(uK R h x r/\re R h l rs):=(rfl)
theorem RJ {d:CD} {sz:Nat}:roV (.c d sz)=toAV d:=(rfl)
theorem LG {ts:List (CD×Nat)}:roV (.agg ts)=.agg (ts.map λt=>toAV t.1):=(rfl)
theorem LI {r:RV}:roR (.one r)=roV r:=(rfl)
theorem LH {l:List RV}:roR (.tup l)=.tup (l.map roV):=(rfl)
attribute [simp ↓] PD KX KW
attribute [simp] Pc Pb Md Hq EZ Dg RJ LG LI LH Lu Lt GQ tail_cons Gs Gr LV
end Go.AM
namespace Go.Proofs.YtibkifnmhkealaaGreatDoor
open Go.AM
set_option maxRecDepth 20000
set_option maxHeartbeats 6400000
def bs (l:List UInt8):ByteArray:=⟨l.toArray⟩
theorem gv (l:List UInt8):(⟨l.toArray⟩:ByteArray)=bs l:=rfl
theorem eJ (a b:List UInt8):bs a++bs b=bs (a++b):=by
 apply ByteArray.ext
 simp [bs]
theorem aX (l:List UInt8):(bs l).size=l.length:=by simp [bs,ByteArray.size]
theorem dv (l:List UInt8):(bs l).data.toList=l:=by simp [bs]
theorem jN (s:ByteArray):bs s.data.toList=s:=by cases s;simp [bs]
theorem eD {a b:List UInt8}:bs a=bs b ↔ a=b:=⟨λh=>by have:=congrArg (λs=>s.data.toList) h;simpa [bs] using this,λh=>by rw [h]⟩
theorem B4 {l:List UInt8} {i:Nat} (h:i<(bs l).size):(bs l)[i]'h=l[i]'(by rw [aX] at h;exact h):=by
 simp [bs,ByteArray.getElem_eq_getElem_data]
theorem x7 (l:List UInt8) (i j:Nat):(bs l).extract i j=bs ((l.take j).drop i):=by
 apply ByteArray.ext
 simp [bs,List.drop_take]
theorem IB {P:Program} {T:Nat->Option TI} {w0:World} {base:Bs} {t:Nat} {s:ByteArray} {k:IntKind} {F:AV->Prop} :
 zl ⟨P,T,w0,base⟩ t (.v (.string s)) (.v (.int k 0)) F=(Env.isStr ⟨P,T,w0,base⟩ t/\∃ h:0<s.size,F (.v (.int .u8 (s[0]'h).toNat))):=by
 simp [zl]
attribute [simp ↓] IB
abbrev vs (l:List UInt8):CD:=.v (.string (bs l))
def wR (l:List UInt8):List CD:=[vs l]
theorem eA (l:List UInt8):(wR l).length=1:=rfl
def ao (n:Int):List UInt8:=if 0<=n/\n<=1000000000 then Lib.decDigits n.toNat else []
theorem nw {m:Nat} (h:m<10):Lib.decDigits m=[UInt8.ofNat (48+m)]:=Lib.decDigits_one h
theorem mE {m:Nat} (h:¬ m<10):Lib.decDigits m=Lib.decDigits (m / 10)++[UInt8.ofNat (48+m % 10)]:=by rw [Lib.decDigits,dif_neg h]
theorem D3 {m:Nat} (h:m<10):Lib.decDigits m=[UInt8.ofNat (48+m % 10)]:=by rw [nw h,Nat.mod_eq_of_lt h]
theorem MH:∀ m:Nat,(Lib.decDigits m).length<=m+1:=by
 intro m
 induction m using Nat.strongRecOn with
 | ind m ih =>
   by_cases h:m<10
   ·rw [nw h];simp
   ·rw [mE h]
    have:=ih (m / 10) (by omega);simp;omega
theorem D4 (m:Nat):dV (UInt8.ofNat (48+m % 10))=[.v (.int .u8 (IntKind.u8.wrap (48+((m % 10:Nat):Int))))]:=by
 have h:m % 10<10:=Nat.mod_lt _ (by omega);generalize m % 10=k at h
 have:∀ k,k<10->dV (UInt8.ofNat (48+k))=[.v (.int .u8 (IntKind.u8.wrap (48+(k:Int))))]:=by
  intro k hk;rcases (by omega:k=0\/k=1\/k=2\/k=3\/k=4\/k=5\/k=6\/k=7\/k=8\/k=9) with rfl|rfl|rfl|rfl|rfl|rfl|rfl|rfl|rfl|rfl<;>rfl
 exact this k h
def aw (c:UInt8):List UInt8->List (List UInt8)
 | []=>[[]]
 | x :: l => if x = c then [] :: aw c l else match aw c l with
   | []=>[[x]]
   |w::r=>(x::w)::r
theorem fG (c:UInt8):∀ l,aw c l≠[]
 | []=>by simp [aw]
 | x :: l => by
   unfold aw
   split
   ·simp
   ·split<;>simp
theorem mR (c:UInt8):∀ (a b:List UInt8),c ∉ a->aw c (a++c::b)=a::aw c b
 | [],b,_=>by simp [aw]
 | x :: a, b, h => by
   have hx:x≠c:=λe=>h (by simp [e])
   have ih:=mR c a b (λe=>h (by simp [e]));simp [aw,hx,ih]
theorem pA (c:UInt8):∀ (a:List UInt8),c ∉ a->aw c a=[a]
 | [],_=>by simp [aw]
 | x :: a, h => by
   have hx:x≠c:=λe=>h (by simp [e])
   have ih:=pA c a (λe=>h (by simp [e]));simp [aw,hx,ih]
theorem jR (c:UInt8):∀ (l:List (List UInt8)),l≠[]->(∀ w∈l,c ∉ w)->aw c (Lib.join l [c])=l
 | [],h,_=>absurd rfl h
 | [w],_,h=>by rw [Lib.join_one,pA c w (h w (by simp))]
 | w :: v :: r, _, h => by
   have e:Lib.join (w::v::r) [c]=w++c::Lib.join (v::r) [c]:=by
    rw [Lib.join_cons,Lib.join_cons];simp [Lib.joinTail]
   rw [e,mR c _ _ (h w (by simp)),jR c (v::r) (by simp) (λu hu=>h u (by simp [hu]))]
theorem xn (c:UInt8):∀ l:List UInt8,Lib.join (aw c l) [c]=l
 | []=>by simp [aw,Lib.join_one]
 | x :: l => by
   have ih:=xn c l;unfold aw
   split
   ·rename_i h
    subst h
    cases hs:aw x l with
    |nil=>exact absurd hs (fG x l)
    | cons w r =>
      rw [hs] at ih;rw [Lib.join_cons] at ih ⊢;simp only [Lib.joinTail,List.map_cons,List.flatten_cons,List.nil_append,List.cons_append];rw [<- ih];simp [Lib.joinTail]
   ·split
    ·rename_i hs;exact absurd hs (fG c l)
    ·rename_i w r hs
     rw [hs,Lib.join_cons] at ih;rw [Lib.join_cons,List.cons_append,ih]
theorem bJ (c:UInt8):∀ (l:List UInt8),(aw c l).length<=l.length+1/\∀ w∈aw c l,w.length<=l.length
 | []=>by simp [aw]
 | x :: l => by
   have ih:=bJ c l;unfold aw
   split
   ·refine ⟨by simp;omega,λw hw=>?_⟩
    rcases List.mem_cons.1 hw with rfl|hw
    ·simp
    ·have:=ih.2 w hw;simp;omega
   ·split
    ·simp
    ·rename_i v r hs
     rw [hs] at ih;refine ⟨by have:=ih.1;simp at this ⊢;omega,λw hw=>?_⟩;rcases List.mem_cons.1 hw with rfl|hw
     ·have:=ih.2 v (by simp);simp;omega
     ·have:=ih.2 w (by simp [hw]);simp;omega
def Bn (W:List (List UInt8)):Nat:=(W.map λw=>w.length+1).sum
theorem pM (w:List UInt8) (W:List (List UInt8)):Bn (w::W)=w.length+1+Bn W:=by simp [Bn]
theorem rg (c:UInt8):∀ l:List UInt8,Bn (aw c l)=l.length+1
 | []=>by simp [aw,Bn]
 | x :: l => by
   have ih:=rg c l;unfold aw
   split
   ·rw [pM,ih];simp;omega
   ·split
    ·rename_i hs;exact absurd hs (fG c l)
    ·rename_i w r hs
     rw [hs,pM] at ih;rw [pM];simp;omega
theorem Ab {W:List (List UInt8)} {i:Nat} (h:i<W.length):Bn (W.drop i)=W[i].length+1+Bn (W.drop (i+1)):=by
 rw [List.drop_eq_getElem_cons h,pM]
theorem HK (c:UInt8) (w:List UInt8):∀ W:List (List UInt8),Lib.join (W++[w]) [c]=if W=[] then w else Lib.join W [c]++c::w
 | []=>by simp [Lib.join_one]
 | x :: W => by
   rw [List.cons_append,Lib.join_cons,Lib.join_cons,if_neg (by simp)];simp [Lib.joinTail]
attribute [local simp] gv eJ aX eD
theorem aL (n:Int):ai Tryz.prog 65 [.c (vi n)] (.one (.c (vs (ao n)) 1)):=by
 refine pci ae Tryz.func65 (λw0 base=>?_);simp;refine aa.pure (bX n 0 1000000000) (by simp) ?_;by_cases h:0<=n/\n<=1000000000
 rotate_left
 ·simp [h,ao]
 simp [h];obtain ⟨m,rfl⟩:∃ m:Nat,n=m:=⟨n.toNat,by omega⟩;have hm:m<=1000000000:=by omega
 have hL:=MH m;refine ah eok (λx:Nat×List UInt8=>x.1<=m/\Lib.decDigits x.1++x.2=Lib.decDigits m) (λx=>⟨26,0,[(3,.v (.string (bs x.2))),(0,.v (.int .i64 x.1))],[]⟩) (λx=>x.1) (m,[]) ⟨by simp,by simp⟩ (by simp) (λx hi=>Ent.refl ?_);obtain ⟨k,s⟩:=x;obtain ⟨h1,h2⟩:=hi;simp only at h1 h2 ⊢;have hs:s.length<=m+1:=by have:=congrArg List.length h2;simp at this;omega
 by_cases h9:(9:Int)<k
 ·have e10:(k:Int).tmod 10=((k % 10:Nat):Int):=(Int.ofNat_tmod k 10).symm
  have e11:IntKind.i64.wrap (48+((k % 10:Nat):Int))=48+((k % 10:Nat):Int):=by rw [IntKind.wrap_i64];omega
  have e12:IntKind.i64.wrap ((k:Int) / 10)=((k / 10:Nat):Int):=by rw [IntKind.wrap_i64];omega
  simp [h9];intro b;refine ⟨[UInt8.ofNat (48+k % 10)],?_,by simp;omega,Ent.refl ⟨k / 10,UInt8.ofNat (48+k % 10)::s,⟨by omega,?_⟩,by omega,?_⟩⟩
  ·rw [e10,e11];simp only [List.map_cons,List.map_nil,D4]
  ·rw [<- h2,mE (by omega:¬ k<10)];simp
  ·rw [e12];simp
 ·have hk:k<10:=by omega
  have e11:IntKind.i64.wrap (48+(k:Int))=48+((k % 10:Nat):Int):=by rw [IntKind.wrap_i64];omega
  simp [h9];refine ⟨[UInt8.ofNat (48+k % 10)],?_,by simp;omega,?_⟩
  ·rw [e11];simp only [List.map_cons,List.map_nil,D4]
  ·unfold ao
   rw [if_pos (by omega),<- D3 hk,Int.toNat_natCast,h2]
theorem oj (l:List UInt8) (c:UInt8) (hl:l.length<=2 ^ 40):ai Tryz.prog 12 [.c (vs l),.c (.v (.int .u8 c.toNat))] (.one (.c (.s ((aw c l).map wR)) 1)):=by
 refine pci ae Tryz.func12 (λw0 base=>?_);simp;intro b
 refine ah eok (λx:Nat×Nat×List (List UInt8)×Hd=>x.2.2.1.length<=x.1/\((x.1<=l.length/\x.2.1<=x.1/\c ∉ (l.take x.1).drop x.2.1/\x.2.2.1++aw c (l.drop x.2.1)=aw c l)\/(x.1=l.length+1/\x.2.2.1=aw c l)))
  (λx=>⟨36,0,[(7,.v (.int .i64 x.1)),(6,.v (.int .i64 x.2.1)),(5,.sl 128 x.2.2.2 1 0 x.2.2.1.length),(1,.v (.int .u8 c.toNat)),(0,.v (.string (bs l)))],[(128,.rows x.2.2.2 1 (x.2.2.1.map wR) true)]⟩)
  (λx=>l.length+1 - x.1) (0,0,[],some (b,0,0)) ⟨by simp,.inl ⟨by simp,by simp,by simp,by simp⟩⟩ (by simp) (λx hi=>Ent.refl ?_)
 obtain ⟨i,f,R,H⟩:=x;obtain ⟨hR,hi⟩:=hi;simp only at hR hi ⊢;rcases hi with ⟨h1,h2,h3,h4⟩|⟨rfl,rfl⟩;rotate_left
 ·have h9:¬ ((l.length:Int)+1<=l.length):=by omega
  simp [h9,eA]
 have h9:(i:Int)<=l.length:=by omega
 have w1:IntKind.i64.wrap ((i:Int)+1)=((i+1:Nat):Int):=aj (by omega);have he:((l.take i).drop f).length=i - f:=by simp;omega
 have hex:(bs l).extract f i=bs ((l.take i).drop f):=x7 _ _ _;have hbi:∀ x:List UInt8,((R++[x]).map wR)=R.map wR++[[vs x]]:=λx=>by simp [wR]
 by_cases hlt:i<l.length
 ·have hne:¬ ((i:Int)=l.length):=by omega
  have hdrop:l.drop f=(l.take i).drop f++l[i]::l.drop (i+1):=by
   have e:=List.take_append_drop i l;have e2:=List.drop_eq_getElem_cons hlt;rw [<- e2]
   conv=>lhs;rw [<- e]
   rw [List.drop_append_of_le_length (by simp;omega)]
  have hget:∀ h,(bs l)[i]'h=l[i]'hlt:=λh=>B4 h
  by_cases hc:l[i]=c
  ·have hc':(l[i].toNat:Int)=(c.toNat:Int):=by rw [hc]
   simp [h9,hne,hlt,hget];simp [hc',hex];refine ⟨by omega,by omega,λb1=>⟨by omega,λH1=>Ent.refl ⟨i+1,i+1,R++[(l.take i).drop f],⟨by simp;omega,.inl ⟨by omega,by omega,by simp,?_⟩⟩,by omega,H1,?_⟩⟩⟩
   ·rw [<- h4,hdrop,hc,mR c _ _ h3]
    simp
   ·simp [w1,wR]
  ·have hc':¬ (l[i].toNat:Int)=(c.toNat:Int):=λh=>hc (UInt8.toNat_inj.1 (by omega))
   simp [h9,hne,hlt,hget];simp [hc'];refine Ent.refl ⟨i+1,f,R,⟨by omega,.inl ⟨by omega,by omega,?_,h4⟩⟩,by omega,H,?_⟩
   ·rw [List.take_succ_eq_append_getElem hlt,List.drop_append_of_le_length (by simp;omega)]
    intro h;rcases List.mem_append.1 h with h|h
    ·exact h3 h
    ·exact hc (List.mem_singleton.1 h).symm
   ·simp [w1]
 ·have hei:i=l.length:=by omega
  have e1:(bs l).extract f l.length=bs (l.drop f):=by rw [x7,List.take_length]
  simp [hei,e1];refine ⟨by omega,λb1=>⟨by omega,λH1=>Ent.refl ⟨l.length+1,l.length+1,R++[l.drop f],⟨by simp;omega,.inr ⟨rfl,?_⟩⟩,by omega,H1,?_⟩⟩⟩
  ·rw [hei,List.take_length] at h3
   rw [<- h4,pA c _ h3]
  ·rw [hei] at w1
   simp [w1,wR]
end Go.Proofs.YtibkifnmhkealaaGreatDoor
namespace Go.Proofs
open Go.Shelf
def Tryz.laysM171_ren:Go.Shelf.Ren:=⟨λ| 171=>200|243=>266|246=>301|283=>318|284=>319|285=>320|286=>321|129=>329|317=>328|318=>330|319=>331|320=>332|337=>335|338=>336|n=>n,λ| 3=>3|9=>9|2=>2|4=>4|171=>274|0=>0|53=>275|37=>156|5=>5|173=>278|212=>291|51=>241|20=>20|213=>292|46=>247|232=>299|233=>300|n=>n,λ| 17=>5|18=>6|19=>7|n=>n⟩
theorem zn:Go.Proofs.LaysM.n171 Tryz.prog Tryz.laysM171_ren:={
 mixed:=by kernel_rfl
 f129:=Tryz.func329.trans (congrArg some (by kernel_rfl))
 f171:=Tryz.func200.trans (congrArg some (by kernel_rfl))
 f243:=Tryz.func266.trans (congrArg some (by kernel_rfl))
 f246:=Tryz.func301.trans (congrArg some (by kernel_rfl))
 f283:=Tryz.func318.trans (congrArg some (by kernel_rfl))
 f284:=Tryz.func319.trans (congrArg some (by kernel_rfl))
 f285:=Tryz.func320.trans (congrArg some (by kernel_rfl))
 f286:=Tryz.func321.trans (congrArg some (by kernel_rfl))
 f317:=Tryz.func328.trans (congrArg some (by kernel_rfl))
 f318:=Tryz.func330.trans (congrArg some (by kernel_rfl))
 f319:=Tryz.func331.trans (congrArg some (by kernel_rfl))
 f320:=Tryz.func332.trans (congrArg some (by kernel_rfl))
 f337:=Tryz.func335.trans (congrArg some (by kernel_rfl))
 f338:=Tryz.func336.trans (congrArg some (by kernel_rfl))
 t0:=Tryz.underlying0
 a0:=Tryz.isAgg0
 z0:=Tryz.sizeOf0
 v0:=Tryz.zeroValue0
 t2:=Tryz.underlying2
 a2:=Tryz.isAgg2
 z2:=Tryz.sizeOf2
 v2:=Tryz.zeroValue2
 t3:=Tryz.underlying3
 a3:=Tryz.isAgg3
 z3:=Tryz.sizeOf3
 v3:=Tryz.zeroValue3
 t4:=Tryz.underlying4
 a4:=Tryz.isAgg4
 z4:=Tryz.sizeOf4
 v4:=Tryz.zeroValue4
 t5:=Tryz.underlying5
 a5:=Tryz.isAgg5
 z5:=Tryz.sizeOf5
 v5:=Tryz.zeroValue5
 t9:=Tryz.underlying9
 a9:=Tryz.isAgg9
 z9:=Tryz.sizeOf9
 v9:=Tryz.zeroValue9
 t20:=Tryz.underlying20
 a20:=Tryz.isAgg20
 z20:=Tryz.sizeOf20
 v20:=Tryz.zeroValue20
 t37:=Tryz.underlying156
 a37:=Tryz.isAgg156
 z37:=Tryz.sizeOf156
 v37:=Tryz.zeroValue156
 t46:=Tryz.underlying247
 a46:=Tryz.isAgg247
 z46:=Tryz.sizeOf247
 v46:=Tryz.zeroValue247
 t51:=Tryz.underlying241
 a51:=Tryz.isAgg241
 z51:=Tryz.sizeOf241
 v51:=Tryz.zeroValue241
 t53:=Tryz.underlying275
 a53:=Tryz.isAgg275
 z53:=Tryz.sizeOf275
 v53:=Tryz.zeroValue275
 t171:=Tryz.underlying274
 a171:=Tryz.isAgg274
 z171:=Tryz.sizeOf274
 v171:=Tryz.zeroValue274
 t173:=Tryz.underlying278
 a173:=Tryz.isAgg278
 z173:=Tryz.sizeOf278
 v173:=Tryz.zeroValue278
 t212:=Tryz.underlying291
 a212:=Tryz.isAgg291
 z212:=Tryz.sizeOf291
 v212:=Tryz.zeroValue291
 t213:=Tryz.underlying292
 a213:=Tryz.isAgg292
 z213:=Tryz.sizeOf292
 t232:=Tryz.underlying299
 a232:=Tryz.isAgg299
 z232:=Tryz.sizeOf299
 v232:=Tryz.zeroValue299
 t233:=Tryz.underlying300
 a233:=Tryz.isAgg300
 z233:=Tryz.sizeOf300
 v233:=Tryz.zeroValue300
 g17:=by kernel_rfl
 g18:=by kernel_rfl
 g19:=by kernel_rfl
 i0:=by kernel_rfl
 i2:=by kernel_rfl
 i3:=by kernel_rfl
 i4:=by kernel_rfl
 i5:=by kernel_rfl
 i9:=by kernel_rfl
 i20:=by kernel_rfl
 i37:=by kernel_rfl
 i46:=by kernel_rfl
 i51:=by kernel_rfl
 i53:=by kernel_rfl
 i171:=by kernel_rfl
 i173:=by kernel_rfl
 i212:=by kernel_rfl
 i232:=by kernel_rfl
 i233:=by kernel_rfl
 m17:=by kernel_rfl
 m18:=by kernel_rfl
 m19:=by kernel_rfl }
def Tryz.laysC172_ren:Go.Shelf.Ren:=⟨λ| 172=>207|244=>277|245=>278|247=>305|279=>306|280=>307|281=>308|282=>309|287=>322|316=>323|171=>200|205=>324|321=>333|322=>334|243=>266|246=>301|283=>318|284=>319|285=>320|286=>321|129=>329|317=>328|318=>330|319=>331|320=>332|337=>335|338=>336|n=>n,λ| 9=>9|3=>3|75=>184|76=>185|4=>4|5=>5|167=>258|37=>156|0=>0|85=>259|2=>2|168=>261|53=>275|175=>280|46=>247|210=>284|127=>272|145=>297|143=>295|21=>21|171=>274|173=>278|212=>291|51=>241|20=>20|213=>292|232=>299|233=>300|80=>252|n=>n,λ| 15=>3|16=>4|17=>5|18=>6|19=>7|n=>n⟩
theorem mg:Go.Proofs.LaysC.n172 Tryz.prog Tryz.laysC172_ren:={
 mixed:=by kernel_rfl
 f129:=Tryz.func329.trans (congrArg some (by kernel_rfl))
 f171:=Tryz.func200.trans (congrArg some (by kernel_rfl))
 f172:=Tryz.func207.trans (congrArg some (by kernel_rfl))
 f205:=Tryz.func324.trans (congrArg some (by kernel_rfl))
 f243:=Tryz.func266.trans (congrArg some (by kernel_rfl))
 f244:=Tryz.func277.trans (congrArg some (by kernel_rfl))
 f245:=Tryz.func278.trans (congrArg some (by kernel_rfl))
 f246:=Tryz.func301.trans (congrArg some (by kernel_rfl))
 f247:=Tryz.func305.trans (congrArg some (by kernel_rfl))
 f279:=Tryz.func306.trans (congrArg some (by kernel_rfl))
 f280:=Tryz.func307.trans (congrArg some (by kernel_rfl))
 f281:=Tryz.func308.trans (congrArg some (by kernel_rfl))
 f282:=Tryz.func309.trans (congrArg some (by kernel_rfl))
 f283:=Tryz.func318.trans (congrArg some (by kernel_rfl))
 f284:=Tryz.func319.trans (congrArg some (by kernel_rfl))
 f285:=Tryz.func320.trans (congrArg some (by kernel_rfl))
 f286:=Tryz.func321.trans (congrArg some (by kernel_rfl))
 f287:=Tryz.func322.trans (congrArg some (by kernel_rfl))
 f316:=Tryz.func323.trans (congrArg some (by kernel_rfl))
 f317:=Tryz.func328.trans (congrArg some (by kernel_rfl))
 f318:=Tryz.func330.trans (congrArg some (by kernel_rfl))
 f319:=Tryz.func331.trans (congrArg some (by kernel_rfl))
 f320:=Tryz.func332.trans (congrArg some (by kernel_rfl))
 f321:=Tryz.func333.trans (congrArg some (by kernel_rfl))
 f322:=Tryz.func334.trans (congrArg some (by kernel_rfl))
 f337:=Tryz.func335.trans (congrArg some (by kernel_rfl))
 f338:=Tryz.func336.trans (congrArg some (by kernel_rfl))
 t0:=Tryz.underlying0
 a0:=Tryz.isAgg0
 z0:=Tryz.sizeOf0
 v0:=Tryz.zeroValue0
 t2:=Tryz.underlying2
 a2:=Tryz.isAgg2
 z2:=Tryz.sizeOf2
 v2:=Tryz.zeroValue2
 t3:=Tryz.underlying3
 a3:=Tryz.isAgg3
 z3:=Tryz.sizeOf3
 v3:=Tryz.zeroValue3
 t4:=Tryz.underlying4
 a4:=Tryz.isAgg4
 z4:=Tryz.sizeOf4
 v4:=Tryz.zeroValue4
 t5:=Tryz.underlying5
 a5:=Tryz.isAgg5
 z5:=Tryz.sizeOf5
 v5:=Tryz.zeroValue5
 t9:=Tryz.underlying9
 a9:=Tryz.isAgg9
 z9:=Tryz.sizeOf9
 v9:=Tryz.zeroValue9
 t20:=Tryz.underlying20
 a20:=Tryz.isAgg20
 z20:=Tryz.sizeOf20
 v20:=Tryz.zeroValue20
 t21:=Tryz.underlying21
 a21:=Tryz.isAgg21
 z21:=Tryz.sizeOf21
 v21:=Tryz.zeroValue21
 t37:=Tryz.underlying156
 a37:=Tryz.isAgg156
 z37:=Tryz.sizeOf156
 v37:=Tryz.zeroValue156
 t46:=Tryz.underlying247
 a46:=Tryz.isAgg247
 z46:=Tryz.sizeOf247
 v46:=Tryz.zeroValue247
 t51:=Tryz.underlying241
 a51:=Tryz.isAgg241
 z51:=Tryz.sizeOf241
 v51:=Tryz.zeroValue241
 t53:=Tryz.underlying275
 a53:=Tryz.isAgg275
 z53:=Tryz.sizeOf275
 v53:=Tryz.zeroValue275
 t75:=Tryz.underlying184
 a75:=Tryz.isAgg184
 z75:=Tryz.sizeOf184
 v75:=Tryz.zeroValue184
 t76:=Tryz.underlying185
 a76:=Tryz.isAgg185
 z76:=Tryz.sizeOf185
 v76:=Tryz.zeroValue185
 t85:=Tryz.underlying259
 a85:=Tryz.isAgg259
 z85:=Tryz.sizeOf259
 v85:=Tryz.zeroValue259
 t127:=Tryz.underlying272
 a127:=Tryz.isAgg272
 z127:=Tryz.sizeOf272
 v127:=Tryz.zeroValue272
 t143:=Tryz.underlying295
 a143:=Tryz.isAgg295
 z143:=Tryz.sizeOf295
 v143:=Tryz.zeroValue295
 t145:=Tryz.underlying297
 a145:=Tryz.isAgg297
 z145:=Tryz.sizeOf297
 v145:=Tryz.zeroValue297
 t167:=Tryz.underlying258
 a167:=Tryz.isAgg258
 z167:=Tryz.sizeOf258
 v167:=Tryz.zeroValue258
 t168:=Tryz.underlying261
 a168:=Tryz.isAgg261
 z168:=Tryz.sizeOf261
 v168:=Tryz.zeroValue261
 t171:=Tryz.underlying274
 a171:=Tryz.isAgg274
 z171:=Tryz.sizeOf274
 v171:=Tryz.zeroValue274
 t173:=Tryz.underlying278
 a173:=Tryz.isAgg278
 z173:=Tryz.sizeOf278
 v173:=Tryz.zeroValue278
 t175:=Tryz.underlying280
 a175:=Tryz.isAgg280
 z175:=Tryz.sizeOf280
 v175:=Tryz.zeroValue280
 t210:=Tryz.underlying284
 a210:=Tryz.isAgg284
 z210:=Tryz.sizeOf284
 v210:=Tryz.zeroValue284
 t212:=Tryz.underlying291
 a212:=Tryz.isAgg291
 z212:=Tryz.sizeOf291
 v212:=Tryz.zeroValue291
 t213:=Tryz.underlying292
 a213:=Tryz.isAgg292
 z213:=Tryz.sizeOf292
 t232:=Tryz.underlying299
 a232:=Tryz.isAgg299
 z232:=Tryz.sizeOf299
 v232:=Tryz.zeroValue299
 t233:=Tryz.underlying300
 a233:=Tryz.isAgg300
 z233:=Tryz.sizeOf300
 v233:=Tryz.zeroValue300
 g15:=by kernel_rfl
 g16:=by kernel_rfl
 g17:=by kernel_rfl
 g18:=by kernel_rfl
 g19:=by kernel_rfl
 t80:=Tryz.underlying252
 a80:=Tryz.isAgg252
 z80:=Tryz.sizeOf252
 v80:=Tryz.zeroValue252
 i0:=by kernel_rfl
 i2:=by kernel_rfl
 i3:=by kernel_rfl
 i4:=by kernel_rfl
 i5:=by kernel_rfl
 i9:=by kernel_rfl
 i20:=by kernel_rfl
 i21:=by kernel_rfl
 i37:=by kernel_rfl
 i46:=by kernel_rfl
 i51:=by kernel_rfl
 i53:=by kernel_rfl
 i75:=by kernel_rfl
 i76:=by kernel_rfl
 i80:=by kernel_rfl
 i85:=by kernel_rfl
 i127:=by kernel_rfl
 i143:=by kernel_rfl
 i145:=by kernel_rfl
 i167:=by kernel_rfl
 i168:=by kernel_rfl
 i171:=by kernel_rfl
 i173:=by kernel_rfl
 i175:=by kernel_rfl
 i210:=by kernel_rfl
 i212:=by kernel_rfl
 i232:=by kernel_rfl
 i233:=by kernel_rfl
 m15:=by kernel_rfl
 m16:=by kernel_rfl
 m17:=by kernel_rfl
 m18:=by kernel_rfl
 m19:=by kernel_rfl
 c0:=by kernel_rfl
 c2:=by kernel_rfl
 c3:=by kernel_rfl
 c4:=by kernel_rfl
 c5:=by kernel_rfl
 c9:=by kernel_rfl
 c20:=by kernel_rfl
 c21:=by kernel_rfl
 c37:=by kernel_rfl
 c46:=by kernel_rfl
 c51:=by kernel_rfl
 c53:=by kernel_rfl
 c75:=by kernel_rfl
 c76:=by kernel_rfl
 c80:=by kernel_rfl
 c85:=by kernel_rfl
 c127:=by kernel_rfl
 c143:=by kernel_rfl
 c145:=by kernel_rfl
 c167:=by kernel_rfl
 c168:=by kernel_rfl
 c171:=by kernel_rfl
 c173:=by kernel_rfl
 c175:=by kernel_rfl
 c210:=by kernel_rfl
 c212:=by kernel_rfl
 c213:=by kernel_rfl
 c232:=by kernel_rfl
 c233:=by kernel_rfl }
def Tryz.lays146_ren:Go.Shelf.Ren:=⟨λ| 146=>26|221=>85|268=>171|138=>172|143=>173|195=>247|197=>248|218=>249|219=>250|260=>287|217=>288|225=>289|224=>290|267=>291|266=>311|314=>312|n=>n,λ| 9=>9|31=>25|3=>3|4=>4|0=>0|105=>220|21=>21|5=>5|46=>247|119=>266|139=>269|138=>268|146=>270|51=>241|n=>n,λ| 1=>0|3=>1|4=>2|n=>n⟩
theorem Ci:Go.Proofs.Lays.n146 Tryz.prog Tryz.lays146_ren:={
 mixed:=by kernel_rfl
 f138:=Tryz.func172.trans (congrArg some (by kernel_rfl))
 f143:=Tryz.func173.trans (congrArg some (by kernel_rfl))
 f146:=Tryz.func26.trans (congrArg some (by kernel_rfl))
 f195:=Tryz.func247.trans (congrArg some (by kernel_rfl))
 f197:=Tryz.func248.trans (congrArg some (by kernel_rfl))
 f217:=Tryz.func288.trans (congrArg some (by kernel_rfl))
 f218:=Tryz.func249.trans (congrArg some (by kernel_rfl))
 f219:=Tryz.func250.trans (congrArg some (by kernel_rfl))
 f221:=Tryz.func85.trans (congrArg some (by kernel_rfl))
 f224:=Tryz.func290.trans (congrArg some (by kernel_rfl))
 f225:=Tryz.func289.trans (congrArg some (by kernel_rfl))
 f260:=Tryz.func287.trans (congrArg some (by kernel_rfl))
 f266:=Tryz.func311.trans (congrArg some (by kernel_rfl))
 f267:=Tryz.func291.trans (congrArg some (by kernel_rfl))
 f268:=Tryz.func171.trans (congrArg some (by kernel_rfl))
 f314:=Tryz.func312.trans (congrArg some (by kernel_rfl))
 t0:=Tryz.underlying0
 a0:=Tryz.isAgg0
 z0:=Tryz.sizeOf0
 v0:=Tryz.zeroValue0
 t3:=Tryz.underlying3
 a3:=Tryz.isAgg3
 z3:=Tryz.sizeOf3
 v3:=Tryz.zeroValue3
 t4:=Tryz.underlying4
 a4:=Tryz.isAgg4
 z4:=Tryz.sizeOf4
 v4:=Tryz.zeroValue4
 t5:=Tryz.underlying5
 a5:=Tryz.isAgg5
 z5:=Tryz.sizeOf5
 v5:=Tryz.zeroValue5
 t9:=Tryz.underlying9
 a9:=Tryz.isAgg9
 z9:=Tryz.sizeOf9
 v9:=Tryz.zeroValue9
 t21:=Tryz.underlying21
 a21:=Tryz.isAgg21
 z21:=Tryz.sizeOf21
 v21:=Tryz.zeroValue21
 t31:=Tryz.underlying25
 a31:=Tryz.isAgg25
 z31:=Tryz.sizeOf25
 v31:=Tryz.zeroValue25
 t46:=Tryz.underlying247
 a46:=Tryz.isAgg247
 z46:=Tryz.sizeOf247
 v46:=Tryz.zeroValue247
 t51:=Tryz.underlying241
 a51:=Tryz.isAgg241
 z51:=Tryz.sizeOf241
 v51:=Tryz.zeroValue241
 t105:=Tryz.underlying220
 a105:=Tryz.isAgg220
 z105:=Tryz.sizeOf220
 v105:=Tryz.zeroValue220
 t119:=Tryz.underlying266
 a119:=Tryz.isAgg266
 z119:=Tryz.sizeOf266
 t138:=Tryz.underlying268
 a138:=Tryz.isAgg268
 z138:=Tryz.sizeOf268
 v138:=Tryz.zeroValue268
 t139:=Tryz.underlying269
 a139:=Tryz.isAgg269
 z139:=Tryz.sizeOf269
 v139:=Tryz.zeroValue269
 t146:=Tryz.underlying270
 a146:=Tryz.isAgg270
 z146:=Tryz.sizeOf270
 v146:=Tryz.zeroValue270
 g1:=by kernel_rfl
 g3:=by kernel_rfl
 g4:=by kernel_rfl }
def Tryz.lays155_ren:Go.Shelf.Ren:=⟨λ| 155=>185|154=>256|138=>172|165=>292|143=>173|166=>293|197=>248|169=>294|195=>247|218=>249|240=>313|241=>314|219=>250|260=>287|276=>325|277=>326|217=>288|225=>289|224=>290|267=>291|266=>311|314=>312|n=>n,λ| 9=>9|3=>3|4=>4|72=>250|0=>0|76=>185|105=>220|21=>21|5=>5|70=>248|20=>20|37=>156|75=>184|127=>272|164=>286|46=>247|119=>266|139=>269|138=>268|146=>270|51=>241|80=>252|n=>n,λ| 1=>0|3=>1|4=>2|n=>n⟩
theorem Ch:Go.Proofs.Lays.n155 Tryz.prog Tryz.lays155_ren:={
 mixed:=by kernel_rfl
 f138:=Tryz.func172.trans (congrArg some (by kernel_rfl))
 f143:=Tryz.func173.trans (congrArg some (by kernel_rfl))
 f154:=Tryz.func256.trans (congrArg some (by kernel_rfl))
 f155:=Tryz.func185.trans (congrArg some (by kernel_rfl))
 f165:=Tryz.func292.trans (congrArg some (by kernel_rfl))
 f166:=Tryz.func293.trans (congrArg some (by kernel_rfl))
 f169:=Tryz.func294.trans (congrArg some (by kernel_rfl))
 f195:=Tryz.func247.trans (congrArg some (by kernel_rfl))
 f197:=Tryz.func248.trans (congrArg some (by kernel_rfl))
 f217:=Tryz.func288.trans (congrArg some (by kernel_rfl))
 f218:=Tryz.func249.trans (congrArg some (by kernel_rfl))
 f219:=Tryz.func250.trans (congrArg some (by kernel_rfl))
 f224:=Tryz.func290.trans (congrArg some (by kernel_rfl))
 f225:=Tryz.func289.trans (congrArg some (by kernel_rfl))
 f240:=Tryz.func313.trans (congrArg some (by kernel_rfl))
 f241:=Tryz.func314.trans (congrArg some (by kernel_rfl))
 f260:=Tryz.func287.trans (congrArg some (by kernel_rfl))
 f266:=Tryz.func311.trans (congrArg some (by kernel_rfl))
 f267:=Tryz.func291.trans (congrArg some (by kernel_rfl))
 f276:=Tryz.func325.trans (congrArg some (by kernel_rfl))
 f277:=Tryz.func326.trans (congrArg some (by kernel_rfl))
 f314:=Tryz.func312.trans (congrArg some (by kernel_rfl))
 t0:=Tryz.underlying0
 a0:=Tryz.isAgg0
 z0:=Tryz.sizeOf0
 v0:=Tryz.zeroValue0
 t3:=Tryz.underlying3
 a3:=Tryz.isAgg3
 z3:=Tryz.sizeOf3
 v3:=Tryz.zeroValue3
 t4:=Tryz.underlying4
 a4:=Tryz.isAgg4
 z4:=Tryz.sizeOf4
 v4:=Tryz.zeroValue4
 t5:=Tryz.underlying5
 a5:=Tryz.isAgg5
 z5:=Tryz.sizeOf5
 v5:=Tryz.zeroValue5
 t9:=Tryz.underlying9
 a9:=Tryz.isAgg9
 z9:=Tryz.sizeOf9
 v9:=Tryz.zeroValue9
 t20:=Tryz.underlying20
 a20:=Tryz.isAgg20
 z20:=Tryz.sizeOf20
 v20:=Tryz.zeroValue20
 t21:=Tryz.underlying21
 a21:=Tryz.isAgg21
 z21:=Tryz.sizeOf21
 v21:=Tryz.zeroValue21
 t37:=Tryz.underlying156
 a37:=Tryz.isAgg156
 z37:=Tryz.sizeOf156
 v37:=Tryz.zeroValue156
 t46:=Tryz.underlying247
 a46:=Tryz.isAgg247
 z46:=Tryz.sizeOf247
 v46:=Tryz.zeroValue247
 t51:=Tryz.underlying241
 a51:=Tryz.isAgg241
 z51:=Tryz.sizeOf241
 v51:=Tryz.zeroValue241
 t70:=Tryz.underlying248
 a70:=Tryz.isAgg248
 z70:=Tryz.sizeOf248
 v70:=Tryz.zeroValue248
 t72:=Tryz.underlying250
 a72:=Tryz.isAgg250
 z72:=Tryz.sizeOf250
 v72:=Tryz.zeroValue250
 t75:=Tryz.underlying184
 a75:=Tryz.isAgg184
 z75:=Tryz.sizeOf184
 v75:=Tryz.zeroValue184
 t76:=Tryz.underlying185
 a76:=Tryz.isAgg185
 z76:=Tryz.sizeOf185
 v76:=Tryz.zeroValue185
 t105:=Tryz.underlying220
 a105:=Tryz.isAgg220
 z105:=Tryz.sizeOf220
 v105:=Tryz.zeroValue220
 t119:=Tryz.underlying266
 a119:=Tryz.isAgg266
 z119:=Tryz.sizeOf266
 t127:=Tryz.underlying272
 a127:=Tryz.isAgg272
 z127:=Tryz.sizeOf272
 v127:=Tryz.zeroValue272
 t138:=Tryz.underlying268
 a138:=Tryz.isAgg268
 z138:=Tryz.sizeOf268
 v138:=Tryz.zeroValue268
 t139:=Tryz.underlying269
 a139:=Tryz.isAgg269
 z139:=Tryz.sizeOf269
 v139:=Tryz.zeroValue269
 t146:=Tryz.underlying270
 a146:=Tryz.isAgg270
 z146:=Tryz.sizeOf270
 v146:=Tryz.zeroValue270
 t164:=Tryz.underlying286
 a164:=Tryz.isAgg286
 z164:=Tryz.sizeOf286
 v164:=Tryz.zeroValue286
 g1:=by kernel_rfl
 g3:=by kernel_rfl
 g4:=by kernel_rfl }
theorem nG:Builder.Extra Tryz.prog Tryz.lays155_ren:={
 sizeBuilder:=by kernel_rfl
 liesBuilder:=by kernel_rfl
 t5:=Tryz.underlying5
 a5:=Tryz.isAgg5
 z5:=Tryz.sizeOf5
 v5:=Tryz.zeroValue5
 infoByte:=by kernel_rfl
 cellsByte:=by kernel_rfl
 sizeByte:=by kernel_rfl
 neB5:=by decide }
def Tryz.lays156_ren:Go.Shelf.Ren:=⟨λ| 156=>267|165=>292|166=>293|169=>294|240=>313|241=>314|276=>325|277=>326|n=>n,λ| 31=>25|9=>9|3=>3|4=>4|0=>0|20=>20|72=>250|76=>185|70=>248|37=>156|75=>184|127=>272|164=>286|5=>5|80=>252|n=>n,λ| n=>n⟩
theorem td:Go.Proofs.Lays.n156 Tryz.prog Tryz.lays156_ren:={
 mixed:=by kernel_rfl
 f156:=Tryz.func267.trans (congrArg some (by kernel_rfl))
 f165:=Tryz.func292.trans (congrArg some (by kernel_rfl))
 f166:=Tryz.func293.trans (congrArg some (by kernel_rfl))
 f169:=Tryz.func294.trans (congrArg some (by kernel_rfl))
 f240:=Tryz.func313.trans (congrArg some (by kernel_rfl))
 f241:=Tryz.func314.trans (congrArg some (by kernel_rfl))
 f276:=Tryz.func325.trans (congrArg some (by kernel_rfl))
 f277:=Tryz.func326.trans (congrArg some (by kernel_rfl))
 t0:=Tryz.underlying0
 a0:=Tryz.isAgg0
 z0:=Tryz.sizeOf0
 v0:=Tryz.zeroValue0
 t3:=Tryz.underlying3
 a3:=Tryz.isAgg3
 z3:=Tryz.sizeOf3
 v3:=Tryz.zeroValue3
 t4:=Tryz.underlying4
 a4:=Tryz.isAgg4
 z4:=Tryz.sizeOf4
 v4:=Tryz.zeroValue4
 t9:=Tryz.underlying9
 a9:=Tryz.isAgg9
 z9:=Tryz.sizeOf9
 v9:=Tryz.zeroValue9
 t20:=Tryz.underlying20
 a20:=Tryz.isAgg20
 z20:=Tryz.sizeOf20
 v20:=Tryz.zeroValue20
 t31:=Tryz.underlying25
 a31:=Tryz.isAgg25
 z31:=Tryz.sizeOf25
 v31:=Tryz.zeroValue25
 t37:=Tryz.underlying156
 a37:=Tryz.isAgg156
 z37:=Tryz.sizeOf156
 v37:=Tryz.zeroValue156
 t70:=Tryz.underlying248
 a70:=Tryz.isAgg248
 z70:=Tryz.sizeOf248
 v70:=Tryz.zeroValue248
 t72:=Tryz.underlying250
 a72:=Tryz.isAgg250
 z72:=Tryz.sizeOf250
 v72:=Tryz.zeroValue250
 t75:=Tryz.underlying184
 a75:=Tryz.isAgg184
 z75:=Tryz.sizeOf184
 v75:=Tryz.zeroValue184
 t76:=Tryz.underlying185
 a76:=Tryz.isAgg185
 z76:=Tryz.sizeOf185
 v76:=Tryz.zeroValue185
 t127:=Tryz.underlying272
 a127:=Tryz.isAgg272
 z127:=Tryz.sizeOf272
 v127:=Tryz.zeroValue272
 t164:=Tryz.underlying286
 a164:=Tryz.isAgg286
 z164:=Tryz.sizeOf286
 v164:=Tryz.zeroValue286 }
theorem jp:Builder.Extra Tryz.prog Tryz.lays156_ren:={
 sizeBuilder:=by kernel_rfl
 liesBuilder:=by kernel_rfl
 t5:=Tryz.underlying5
 a5:=Tryz.isAgg5
 z5:=Tryz.sizeOf5
 v5:=Tryz.zeroValue5
 infoByte:=by kernel_rfl
 cellsByte:=by kernel_rfl
 sizeByte:=by kernel_rfl
 neB5:=by decide }
end Go.Proofs
