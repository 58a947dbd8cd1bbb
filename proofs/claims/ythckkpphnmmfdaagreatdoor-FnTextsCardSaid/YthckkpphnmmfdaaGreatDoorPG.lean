import Derived.Test.YthckkpphnmmfdaaGreatDoorPF
import Derived.Test.YthckkpphnmmfdaaGreatDoorME
import Derived.Test.YthckkpphnmmfdaaGreatDoorNA
import Derived.Lib.SplitLaws
import Derived.Lib.Join
import Derived.Lib.ItoaNum
namespace Go.AM
open Go.RowKit
def xC (w:World) (S:Nat->Prop) (v:Value):RV->Prop
 | .c d _=>Rd w false S v d
 | .agg ts=>∃ xs:Array Value,v=.agg xs/\xs.size=ts.length/\∀ j t,ts[j]? = some t->Rd w false S (xs.getD j undef) t.1
def ul (w:World) (S:Nat->Prop) (v:Value):RR->Prop
 | .one r=>xC w S v r
 | .tup l=>∃ xs:Array Value,v=.tuple xs/\xs.size=l.length/\∀ j t,l[j]? = some t->xC w S (xs.getD j undef) t
theorem m8.toN {w:World} {S S':Nat->Prop} {v:Value} {r:RV} (h:m8 w S v r) (hS:∀ c,S c->S' c):xC w S' v r:=by
 cases r with
 |c d sz=>exact (gS.rd h).weaken.map (λ_ _ _=>rfl) (λc hc _=>hS c hc)
 | agg ts =>
   obtain ⟨xs,F,h1,h2,h3,h4,h5⟩:=h;exact ⟨xs,h1,h2,λj t hj=>(gS.rd (h5 j t hj)).weaken.map (λ_ _ _=>rfl) (λc hc _=>hS c (h3 j c hc))⟩
theorem xB.toN {w:World} {S S':Nat->Prop} {v:Value} {r:RR} (h:xB w S v r) (hS:∀ c,S c->S' c):ul w S' v r:=by
 cases r with
 |one r=>exact m8.toN h hS
 | tup l =>
   obtain ⟨xs,F,h1,h2,h3,h4,h5⟩:=h;exact ⟨xs,h1,h2,λj t hj=>m8.toN (h5 j t hj) (λc hc=>hS c (h3 j c hc))⟩
theorem xC.rel {w:World} {M S:Nat->Prop} {v:Value} {r:RV} (h:xC w S v r) (hM:∀ c,S c->¬ M c):VRel w M (roV r) v:=by
 cases r with
 |c d sz=>exact fQ (Rd.map h (λ_ _ _=>rfl) (λc hc _=>hM c hc))
 | agg ts =>
   obtain ⟨xs,rfl,h2,h5⟩:=h;refine .agg _ _ (by simp [h2]) (λi av hi=>?_);simp only [List.getElem?_map,Option.map_eq_some_iff] at hi;obtain ⟨t,ht,rfl⟩:=hi;exact fQ ((h5 i t ht).map (λ_ _ _=>rfl) (λc hc _=>hM c hc))
theorem ul.rel {w:World} {M S:Nat->Prop} {v:Value} {r:RR} (h:ul w S v r) (hM:∀ c,S c->¬ M c):VRel w M (roR r) v:=by
 cases r with
 |one r=>exact xC.rel h hM
 | tup l =>
   obtain ⟨xs,rfl,h2,h5⟩:=h;refine .tup _ _ (by simp [h2]) (λi av hi=>?_);simp only [List.getElem?_map,Option.map_eq_some_iff] at hi;obtain ⟨t,ht,rfl⟩:=hi;exact xC.rel (h5 i t ht) hM
theorem aa.ro {E:Env} {f:Nat} {args:List VD} {rr:RR} (hc:au E.P f args rr) {avs:List AV} {st:ASt} {dst:Option Nat} {K:ASt->Prop} (hin:iD E.rd st.h avs args)
 (hout:bk st dst (roR rr) K):aa E f avs st dst K:=by
 refine ⟨hc.1,λa w hR xs hs hx=>?_⟩;obtain ⟨Es,hH⟩:=hR.heap;obtain ⟨hl,hr⟩:=gt hH hR.rd avs args hx hin;refine (hc.2 w trivial xs (by omega) hr).mono ?_
 rintro e w' ⟨v,rfl,hb,hrr⟩
 have t:Tr st.h.M w st.h.M w':=⟨hb.size,λb hlt _=>hb.block b hlt,λb _ h=>h⟩;have H':HRel E.base st.h w' Es:=⟨λk=>(hH.obj k).tr t (λb hk=>hb.block b (hH.lt hk)) (λc hc _=>hc),hH.inj,hH.low,λk c hc=>⟨(hH.elow k c hc).1,Nat.lt_of_lt_of_le (hH.elow k c hc).2 hb.size⟩,hH.einj,hH.em⟩;have hv:VRel w' st.h.M (roR rr) v:=we hrr (λc hc ⟨k,hk⟩=>by have:=hH.lt hk;omega);obtain ⟨av',h3,h1,h2,h4,h5⟩:=(hR.move H' t ⟨hb.os,hb.tape,hb.output⟩).put hv hout;exact ⟨v,av',h3,rfl,h1,h2,h4,h5⟩
abbrev d4:=List (Nat×Array Value×TypeId)
def d4.at (W:d4) (w:World):Prop:=(∀ q∈W,w.heap[q.1]? = some (.cells q.2.1 q.2.2 (0,0)))/\(W.map (·.1)).Nodup
def d4.off (W:d4) (c:Nat):Prop:=∀ q∈W,c≠q.1
def phO (q:Nat×Array Value×TypeId):AObj:=.vars q.1 q.2.2 (q.2.1.toList.map .is)
def fY:Nat->d4->AH
 |_,[]=>[]
 |i,q::l=>(i,phO q)::fY (i+1) l
def phs (W:d4):AH:=fY 1000000000 W
theorem qa:∀ (W:d4) (i k:Nat),AH.get (fY i W) k=if i<=k then (match W[k - i]? with|some q=>phO q|none=>.dead) else .dead
 | [],i,k=>by simp [fY,AH.get]
 | q :: l, i, k => by
   rw [fY,aU,qa l];by_cases h:k=i
   ·subst h;simp
   ·rw [if_neg h]
    by_cases h1:i+1<=k
    ·rw [if_pos h1,if_pos (by omega),show k - i=(k - (i+1))+1 by omega];rfl
    ·rw [if_neg h1,if_neg (by omega)]
theorem rg (W:d4) (k:Nat):AH.get (phs W) k=if 1000000000<=k then (match W[k - 1000000000]? with|some q=>phO q|none=>.dead) else .dead:=qa W _ k
theorem Iz {W:d4} {k:Nat} (h:k<1000000000):AH.get (phs W) k=.dead:=by rw [rg,if_neg (by omega)]
theorem wk {W:d4} {k c:Nat} (h:(AH.get (phs W) k).blk=some c):1000000000<=k/\∃ q,W[k - 1000000000]? = some q/\q.1=c/\AH.get (phs W) k=phO q:=by
 rw [rg] at h ⊢
 split at h
 ·rename_i hk
  rw [if_pos hk]
  split at h
  ·rename_i q hq
   exact ⟨hk,q,hq,by simpa [phO,AObj.blk] using h,by simp⟩
  ·cases h
 ·cases h
theorem FQ {W:d4} {q:Nat×Array Value×TypeId} (h:q∈W):∃ k,1000000000<=k/\AH.get (phs W) k=phO q:=by
 obtain ⟨i,hi,rfl⟩:=List.getElem_of_mem h;exact ⟨1000000000+i,by omega,by rw [rg,if_pos (by omega)];simp [hi]⟩
theorem B7 {W:d4} (hn:(W.map (·.1)).Nodup) {k k' c:Nat} (h:(AH.get (phs W) k).blk=some c) (h':(AH.get (phs W) k').blk=some c):k=k':=by
 obtain ⟨h1,q,hq,rfl,-⟩:=wk h;obtain ⟨h2,q',hq',e,-⟩:=wk h';obtain ⟨hi,rfl⟩:=List.getElem?_eq_some_iff.1 hq;obtain ⟨hi',rfl⟩:=List.getElem?_eq_some_iff.1 hq';have:=(List.getElem_inj (xs:=W.map (·.1)) (i:=k' - 1000000000) (j:=k - 1000000000) (h₀:=by simpa using hi') (h₁:=by simpa using hi) hn).1 (by simpa using e);omega
def gz (h:AH) (W:d4):Prop:=∀ k,1000000000<=k->AH.get h k=AH.get (phs W) k
theorem CH {W:d4}:gz (phs W) W=True:=eq_true λ_ _=>rfl
theorem tail_cons {W:d4} {h:AH} {j:Nat} {o:AObj} (hj:j<1000000000):gz ((j,o)::h) W=gz h W:=by
 have:∀ k,1000000000<=k->AH.get ((j,o)::h) k=AH.get h k:=λk hk=>by rw [aU,if_neg (by omega)]
 refine propext ⟨λht k hk=>by rw [<- this k hk];exact ht k hk,λht k hk=>by rw [this k hk];exact ht k hk⟩
theorem Eg (a:AV):gv a a:=by cases a<;>simp [gv]
theorem zL:∀ l:List AV,ALe l l
 | []=>trivial
 |a::l=>⟨Eg a,zL l⟩
theorem Aw (o:AObj):ez o o:=by
 cases o with
 |vars b T cells=>exact ⟨rfl,rfl,zL cells⟩
 |dead=>trivial
 |rows=>exact .inl rfl
 |lent=>exact rfl
 |part=>exact rfl
theorem lW:∀ {W:d4} {i:Nat} {p:Nat×AObj},p∈fY i W->i<=p.1/\AH.get (fY i W) p.1=p.2
 | [],_,_,h=>by cases h
 | q :: l, i, p, h => by
   rcases List.mem_cons.1 h with rfl|h
   ·exact ⟨Nat.le_refl _,by rw [fY,aU,if_pos rfl]⟩
   ·obtain ⟨h1,h2⟩:=lW h
    exact ⟨by omega,by rw [fY,aU,if_neg (by omega)];exact h2⟩
theorem Ck {W:d4}:(∀ p∈phs W,ez (AH.get (phs W) p.1) p.2)=True:=eq_true λp hp=>by
 have e:AH.get (phs W) p.1=p.2:=(lW hp).2;rw [e];exact Aw _
theorem Cj {W:d4} {h:AH} {j:Nat} {o:AObj} (hj:j<1000000000):(∀ p∈phs W,ez (AH.get ((j,o)::h) p.1) p.2) = ∀ p∈phs W,ez (AH.get h p.1) p.2:=by
 have:∀ p∈phs W,AH.get ((j,o)::h) p.1=AH.get h p.1:=λp hp=>by
  have:=(lW hp).1;rw [aU,if_neg (by omega)]
 refine propext ⟨λht p hp=>by rw [<- this p hp];exact ht p hp,λht p hp=>by rw [this p hp];exact ht p hp⟩
def iy (P:Program) (f:Nat) (args:List VD) (R:RR->Prop):Prop:=
 zS P f /\ ∀ (w:World) (o:d4) (xs:Array Value),o.at w -> xs.size=args.length -> (∀ i vd,args[i]? = some vd -> lg w o.off (xs.getD i undef) vd) ->
  Calls P f xs w λe w'=>∃ v rr,e=.returned v/\R rr/\Below w.heap.size w w'/\ul w' o.off v rr
theorem pj {o:d4} {w:World} (h:o.at w) {c:Nat} (hc:w.heap.size<=c):o.off c:=λq hq he=>by
 have:=dl (h.1 q hq);omega
theorem lg.toV {w:World} {S:Nat->Prop} {v:Value} {d:VD} (h:lg w S v d):RdV w v d:=by
 cases d with
 |c d=>exact Rd.map h (λ_ _ _=>rfl) (λ_ _ _=>trivial)
 | agg ds =>
   obtain ⟨xs,h1,h2,h3⟩:=h;exact ⟨xs,h1,h2,λj d hd=>(h3 j d hd).map (λ_ _ _=>rfl) (λ_ _ _=>trivial)⟩
theorem au.toN {P:Program} {f:Nat} {args:List VD} {rr:RR} (hc:au P f args rr):iy P f args (λr=>r=rr):=by
 refine ⟨hc.1,λw o xs ho hs hx=>(hc.2 w trivial xs hs (λi vd hi=>(hx i vd hi).toV)).mono ?_⟩
 rintro e w' ⟨v,rfl,hb,hr⟩
 exact ⟨v,rr,rfl,rfl,hb,hr.toN λc hc=>pj ho hc.1⟩
theorem iy.mono {P:Program} {f:Nat} {args:List VD} {R R':RR->Prop} (hc:iy P f args R) (h:∀ r,R r->R' r):iy P f args R':=by
 refine ⟨hc.1,λw o xs ho hs hx=>(hc.2 w o xs ho hs hx).mono ?_⟩
 rintro e w' ⟨v,rr,rfl,h1,hb,hr⟩
 exact ⟨v,rr,rfl,h _ h1,hb,hr⟩
theorem F6 {w:World} {M E:Nat->Prop} {o:AObj} (h:dI w M E o) {b:Nat} (hb:o.blk=some b):∃ cs T,w.heap[b]? = some (.cells cs T (0,0)):=by
 cases o with
 |dead=>cases hb
 |vars b' T cells=>obtain ⟨cs,h1,-⟩:=h;cases hb;exact ⟨cs,T,h1⟩
 |lent H sz rows=>cases hb
 | rows H sz rows own =>
   cases H with
   |none=>cases hb
   |some q=>obtain ⟨b',o,C⟩:=q;obtain ⟨cs,T,F,h1,-⟩:=h;cases hb;exact ⟨cs,T,h1⟩
 | part H sz rows lo =>
   cases H with
   |none=>cases hb
   |some q=>obtain ⟨b',o,C⟩:=q;obtain ⟨cs,T,F,h1,-⟩:=h;cases hb;exact ⟨cs,T,h1⟩
theorem y4:∀ {h:AH} {k:Nat},(AH.get h k).blk≠none->k∈h.map (·.1)
 | [],_,hk=>absurd rfl hk
 | (j, o) :: h, k, hk => by
   rw [aU] at hk
   split at hk
   ·rename_i e;rw [e];exact List.mem_cons_self ..
   ·exact List.mem_cons_of_mem _ (y4 hk)
def ddl:List Nat->List Nat
 | []=>[]
 |a::l=>if a∈l then ddl l else a::ddl l
theorem rx {c:Nat}:∀ l:List Nat,c∈ddl l ↔ c∈l
 | []=>Iff.rfl
 | a :: l => by
   unfold ddl
   split
   ·rename_i h
    rw [rx l];exact ⟨λhc=>List.mem_cons_of_mem _ hc,λhc=>(List.mem_cons.1 hc).elim (λe=>e ▸ h) id⟩
   ·rw [List.mem_cons,List.mem_cons,rx l]
theorem pT:∀ l:List Nat,(ddl l).Nodup
 | []=>List.nodup_nil
 | a :: l => by
   unfold ddl
   split
   ·exact pT l
   ·rename_i h
    rw [List.nodup_cons];exact ⟨λhc=>h ((rx l).1 hc),pT l⟩
theorem BM {w:World}:∀ {B:List Nat},B.Nodup->(∀ b∈B,∃ cs T,w.heap[b]? = some (.cells cs T (0,0)))->∃ W:d4,W.at w/\W.map (·.1)=B
 | [],_,_=>⟨[],⟨by simp,by simp⟩,rfl⟩
 | b :: B, hn, hb => by
   rw [List.nodup_cons] at hn;obtain ⟨W,h1,h2⟩:=BM hn.2 (λc hc=>hb c (List.mem_cons_of_mem _ hc));obtain ⟨cs,T,h3⟩:=hb b (List.mem_cons_self ..);refine ⟨(b,cs,T)::W,⟨λq hq=>?_,?_⟩,by simp [h2]⟩
   ·rcases List.mem_cons.1 hq with rfl|hq
    ·exact h3
    ·exact h1.1 q hq
   ·simp only [List.map_cons,List.nodup_cons]
    exact ⟨by rw [h2];exact hn.1,h1.2⟩
theorem xG {base:Bs} {h:AH} {w:World} {E:Nat->Nat->Prop} (H:HRel base h w E) (p:Nat->Prop):∃ W:d4,W.at w/\∀ c,W.off c ↔ ¬ (h.M c/\p c):=by
 classical
 let B:List Nat:=ddl (((h.map (·.1)).filterMap λk=>(h.get k).blk).filter (λc=>decide (p c)))
 have hB:∀ c,c∈B ↔ h.M c/\p c:=by
  intro c;simp only [B,rx,List.mem_filter,List.mem_filterMap,decide_eq_true_eq]
  constructor
  ·rintro ⟨⟨k,-,hk⟩,hp⟩;exact ⟨⟨k,hk⟩,hp⟩
  ·rintro ⟨⟨k,hk⟩,hp⟩;exact ⟨⟨k,y4 (by rw [hk];simp),hk⟩,hp⟩
 obtain ⟨W,h1,h2⟩:=BM (w:=w) (B:=B) (pT _) (λb hb=>by
  obtain ⟨⟨k,hk⟩,-⟩:=(hB b).1 hb;exact F6 (H.obj k) hk)
 refine ⟨W,h1,λc=>?_⟩;rw [<- hB,<- h2];unfold d4.off
 constructor
 ·intro h hm
  obtain ⟨q,hq,e⟩:=List.mem_map.1 hm;exact h q hq e.symm
 ·intro h q hq e
  exact h (List.mem_map.2 ⟨q,hq,e.symm⟩)
theorem yw {E:Env} {st:ASt} {a:Act} {w:World} (hR:Rep E.w0 E.base st a w) {Es:Nat->Nat->Prop} (hH:HRel E.base st.h w Es) {S:Nat->Prop} (hoff:∀ c,¬ st.h.M c->S c):∀ (avs:List AV) (args:List VD) {us:Nat->Value} (_:∀ i av,avs[i]? = some av->VRel w st.h.M av (us i)) (_:iD E.rd [] avs args),avs.length=args.length/\∀ i d,args[i]? = some d->lg w S (us i) d:=by
 have one:∀ {x:AV} {u:Value} {d:CD},VRel w st.h.M x u->aIn E.rd [] x d->Rd w false S u d:=by
  intro x u d hv hk;unfold aIn at hk
  split at hk
  ·cases hv
   exact Rd.map hk (λb hb _=>hR.below.block b hb) (λc hc _=>hoff c (λ⟨k,hk⟩=>(hH.low k c hk).1 hc))
  ·simp at hk
  ·subst hk;cases hv with|v u hp=>exact .plain hp
  ·subst hk;cases hv;exact .empty _ _ (by intro h;cases h)
  ·subst hk;cases hv with|ro rows x hr=>exact hr.map (λ_ _ _=>rfl) (λc hc _=>hoff c hc)
  ·simp at hk
  ·exact hk.elim
 have oneL:∀ (l:List AV) (ds:List CD) {us:Nat->Value} (_:∀ i av,l[i]? = some av->VRel w st.h.M av (us i)) (_:tv E.rd [] l ds),l.length=ds.length/\∀ i d,ds[i]? = some d->Rd w false S (us i) d:=by
  intro l
  induction l with
  | nil =>
    intro ds us hv hk
    cases ds with
    |nil=>exact ⟨rfl,λi d hd=>by simp at hd⟩
    |cons _ _=>exact hk.elim
  | cons a l ih =>
    intro ds us hv hk
    cases ds with
    |nil=>exact hk.elim
    | cons d ds =>
      obtain ⟨h1,h2⟩:=ih ds (us:=λi=>us (i+1)) (λi av hi=>hv (i+1) av (by simpa using hi)) hk.2;refine ⟨by simp [h1],λi d' hd=>?_⟩
      cases i with
      |zero=>simp at hd;subst hd;exact one (hv 0 a rfl) hk.1
      |succ i=>exact h2 i d' (by simpa using hd)
 intro avs
 induction avs with
 | nil =>
   intro args us hv hk
   cases args with
   |nil=>exact ⟨rfl,λi d hd=>by simp at hd⟩
   |cons _ _=>exact hk.elim
 | cons a l ih =>
   intro args us hv hk
   cases args with
   |nil=>exact hk.elim
   | cons d ds =>
     obtain ⟨h1,h2⟩:=ih ds (us:=λi=>us (i+1)) (λi av hi=>hv (i+1) av (by simpa using hi)) hk.2;refine ⟨by simp [h1],λi d' hd=>?_⟩
     cases i with
     | zero =>
       simp at hd;subst hd;have h0:=hv 0 a rfl;have hk0:=hk.1;generalize us 0=u0 at h0 ⊢;unfold xv at hk0
       split at hk0
       ·exact one h0 hk0
       ·split at hk0
        ·rename_i ds _ l
         cases h0 with
         | agg _ xs hs hl =>
           obtain ⟨g1,g2⟩:=oneL l ds hl hk0;exact ⟨xs,rfl,by omega,g2⟩
        ·exact hk0.elim
     |succ i=>exact h2 i d' (by simpa using hd)
theorem jG {E:Env} {f:Nat} {args:List VD} {R:RR->Prop} (hc:iy E.P f args R) {avs:List AV} {st:ASt} {dst:Option Nat} {K:ASt->Prop} (hin:iD E.rd [] avs args)
 (hout:∀ rr,R rr->bk st dst (roR rr) K):aa E f avs st dst K:=by
 refine ⟨hc.1,λa w hR xs hs hx=>?_⟩;obtain ⟨Es,hH⟩:=hR.heap;obtain ⟨o,ho,hoff⟩:=xG hH (λ_=>True);obtain ⟨hl,hr⟩:=yw hR hH (S:=o.off) (λc hc=>(hoff c).2 (λh=>hc h.1)) avs args hx hin;refine (hc.2 w o xs ho (by omega) hr).mono ?_
 rintro e w' ⟨v,rr,rfl,hRR,hb,hrr⟩
 have t:Tr st.h.M w st.h.M w':=⟨hb.size,λb hlt _=>hb.block b hlt,λb _ h=>h⟩;have H':HRel E.base st.h w' Es:=⟨λk=>(hH.obj k).tr t (λb hk=>hb.block b (hH.lt hk)) (λc hc _=>hc),hH.inj,hH.low,λk c hc=>⟨(hH.elow k c hc).1,Nat.lt_of_lt_of_le (hH.elow k c hc).2 hb.size⟩,hH.einj,hH.em⟩;have hv:VRel w' st.h.M (roR rr) v:=ul.rel hrr (λc hc hm=>(hoff c).1 hc ⟨hm,trivial⟩);obtain ⟨av',h3,h1,h2,h4,h5⟩:=(hR.move H' t ⟨hb.os,hb.tape,hb.output⟩).put hv (hout rr hRR);exact ⟨v,av',h3,rfl,h1,h2,h4,h5⟩
def qj (R:Value->CD->Prop) (h:AH) (x:AV) (r:RV):Prop:=
 match r with
 | .c d _=>aIn R h x d
 | .agg ts => match x with
   | .agg l=>tv R h l (ts.map Prod.fst)
   |_=>False
def nR (R:Value->CD->Prop) (h:AH):List AV->List RV->Prop
 | [],[]=>True
 |a::l,r::rs=>qj R h a r/\nR R h l rs
 |_,_=>False
def nQ (E:Env) (h:AH) (l:List AV) (rr:RR):Prop:=
 match rr with
 | .one r => match l with
   | [x]=>qj E.rd h x r
   |_=>False
 | .tup rs=>l.length≠1/\nR E.rd h l rs
theorem qi {base:Bs} {h:AH} {w:World} {E:Nat->Nat->Prop} (H:HRel base h w E) {S:Nat->Prop} (hS:∀ c,¬ h.M c->S c) (hSr:∀ k b o C sz rows own,h.get k=.rows (some (b,o,C)) sz rows own->S b)
 {R:Value->CD->Prop} (hR:∀ u d,R u d->Rd w false S u d) {x:AV} {u:Value} (hv:VRel w h.M x u) {r:RV} (hk:qj R h x r):xC w S u r:=by
 unfold qj at hk
 split at hk
 ·exact n8 H hS hSr hR hv hk
 ·split at hk
  ·rename_i ts _ l
   cases hv with
   | agg _ xs hs hl =>
     obtain ⟨h1,h2⟩:=mC H hS hSr hR l _ hl hk;refine ⟨xs,rfl,by simp at h1;omega,λj t hj=>h2 j t.1 (by simp [hj])⟩
  ·exact hk.elim
theorem oK {base:Bs} {h:AH} {w:World} {E:Nat->Nat->Prop} (H:HRel base h w E) {S:Nat->Prop} (hS:∀ c,¬ h.M c->S c) (hSr:∀ k b o C sz rows own,h.get k=.rows (some (b,o,C)) sz rows own->S b)
 {R:Value->CD->Prop} (hR:∀ u d,R u d->Rd w false S u d):∀ (l:List AV) (rs:List RV) {us:Nat->Value} (_:∀ i av,l[i]? = some av->VRel w h.M av (us i)) (_:nR R h l rs),
 l.length=rs.length/\∀ j t,rs[j]? = some t->xC w S (us j) t
 | [],[],us,hv,hk=>⟨rfl,λj t hj=>by simp at hj⟩
 | a :: l, r :: rs, us, hv, hk => by
   obtain ⟨h1,h2⟩:=oK H hS hSr hR l rs (us:=λi=>us (i+1)) (λi av hi=>hv (i+1) av (by simpa using hi)) hk.2;refine ⟨by simp [h1],λj t hj=>?_⟩
   cases j with
   |zero=>simp at hj;subst hj;exact qi H hS hSr hR (hv 0 a rfl) hk.1
   |succ j=>exact h2 j t (by simpa using hj)
 | [],_::_,us,hv,hk=>hk.elim
 |_::_,[],us,hv,hk=>hk.elim
theorem yG {E:Env} {h:AH} {w:World} {Es:Nat->Nat->Prop} (H:HRel E.base h w Es) {S:Nat->Prop} (hS:∀ c,¬ h.M c->S c) (hSr:∀ k b o C sz rows own,h.get k=.rows (some (b,o,C)) sz rows own->S b)
 (hR:∀ u d,E.rd u d->Rd w false S u d) {vs:List Value} {l:List AV} (hl:vs.length=l.length) (hv:∀ i av,l[i]? = some av->VRel w h.M av (vs.getD i undef)) {rr:RR} (hq:nQ E h l rr) :
 ul w S (if vs.length=1 then vs.getD 0 undef else .tuple vs.toArray) rr:=by
 unfold nQ at hq
 split at hq
 ·split at hq
  ·rename_i r x
   rw [if_pos (by simpa using hl)];exact qi H hS hSr hR (hv 0 x rfl) hq
  ·exact hq.elim
 ·rename_i rs
  obtain ⟨hne,hq⟩:=hq;obtain ⟨h1,h2⟩:=oK H hS hSr hR l rs hv hq;rw [if_neg (by omega)];exact ⟨vs.toArray,rfl,by simp;omega,λj t hj=>by simpa using h2 j t hj⟩
theorem wg {P:Program} {fn:Func} {tmps:Array Value} {w:World} {vs:List Value} (h1:(fn.results.toList.mapM (iJ tmps)).run P w=.ok vs w):(results fn tmps).run P w=.ok (if vs.length=1 then vs.getD 0 undef else .tuple vs.toArray) w:=by
 rw [iY,Array.mapM_eq_mapM_toList];simp only [Sem.run_bind,Sem.run_map,h1,Result.andThen_ok,Sem.run_pure]
 cases vs with
 |nil=>simp
 |cons v vs=>cases vs<;>simp
theorem B6 {w:World} {o:d4} (ho:o.at w) (M E:Nat->Prop) (k:Nat):dI w M E (AH.get (phs o) k):=by
 rw [rg]
 split
 ·split
  ·rename_i q hq
   refine ⟨q.2.1,ho.1 q (List.mem_of_getElem? hq),by simp,λj av hj=>?_⟩;simp only [List.getElem?_map,Array.getElem?_toList,Option.map_eq_some_iff] at hj;obtain ⟨u,hu,rfl⟩:=hj;have:q.2.1.getD j undef=u:=by simp [Array.getD_eq_getD_getElem?,hu]
   rw [this];exact .is u
  ·trivial
 ·trivial
theorem B5 {w:World} {o:d4} (ho:o.at w) (base:Bs) (hb:∀ c,¬ o.off c->¬ base.F c/\¬ base.G c):HRel base (phs o) w (λ_ _=>False)/\∀ c,(phs o).M c ↔ ¬ o.off c:=by
 have hm:∀ c,(phs o).M c ↔ ¬ o.off c:=by
  intro c
  constructor
  ·rintro ⟨k,hk⟩ h
   obtain ⟨-,q,hq,e,-⟩:=wk hk;exact h q (List.mem_of_getElem? hq) e.symm
  ·intro h
   obtain ⟨q,hq,e⟩:∃ q∈o,c=q.1:=Classical.byContradiction λhn=>h (λq hq he=>hn ⟨q,hq,he⟩)
   obtain ⟨k,-,hk⟩:=FQ hq;exact ⟨k,by rw [hk,e];rfl⟩
 exact ⟨⟨λk=>B6 ho _ _ k,λk k' c h h'=>B7 ho.2 h h',λk c h=>hb c ((hm c).1 ⟨k,h⟩),λ_ _ h=>h.elim,λ_ _ _ h=>h.elim,λ_ _ h=>h.elim⟩,hm⟩
theorem FS {w:World} {o:d4} (ho:o.at w) {n:Nat} {xs:Array Value} {t:List (Nat×AV)} (hn:xs.size<=n) (ht:∀ q,VRel w (λc=>¬ o.off c) (aN t q) ((xs++Array.replicate (n - xs.size) undef).getD q undef)) :
 Rep w ⟨λc=>c<w.heap.size/\o.off c,λc=>c<w.heap.size/\o.off c,false,λ_=>True⟩ { n:=n,kb:=0,t:=t,h:=phs o } { tmps:=xs++Array.replicate (n - xs.size) undef,defers:=[] } w:=by
 obtain ⟨hrel,hm⟩:=B5 ho ⟨λc=>c<w.heap.size/\o.off c,λc=>c<w.heap.size/\o.off c,false,λ_=>True⟩ (λc hc=>⟨λh=>hc h.2,λh=>hc h.2⟩);exact ⟨rfl,by simp;omega,λq=>(ht q).tr ⟨Nat.le_refl _,λ_ _ _=>rfl,λc _ hc=>(hm c).1 hc⟩,⟨_,hrel⟩,BelowF.refl _ _,λc hc=>hc.elim (λh=>h.1) (λh=>h.1)⟩
theorem mL {base:Bs} {h:AH} {w w':World} {E:Nat->Nat->Prop} (hH:HRel base h w' E) {o:d4} (ho:o.at w) (hg:gz h o) {c:Nat} (hc:¬ o.off c):w'.heap[c]? = w.heap[c]?/\∃ k,1000000000<=k/\(h.get k).blk=some c/\∃ b T l,h.get k=.vars b T l:=by
 obtain ⟨q,hq,rfl⟩:∃ q∈o,c=q.1:=Classical.byContradiction λhn=>hc (λq hq he=>hn ⟨q,hq,he⟩)
 obtain ⟨k,hk,he⟩:=FQ hq;have e:h.get k=phO q:=by rw [hg k hk,he]
 refine ⟨?_,k,hk,by rw [e];rfl,_,_,_,e⟩;have ob:=hH.obj k;rw [e] at ob;obtain ⟨cs',g1,g2,g3⟩:=ob;have hs:cs'.size=q.2.1.size:=by simpa using g2
 have:cs'=q.2.1:=by
  refine Array.ext hs (λj hj hj'=>?_);have:=g3 j (.is q.2.1[j]) (by simp [hj']);have e:cs'.getD j undef=cs'[j]:=by simp [Array.getD_eq_getD_getElem?,hj]
  rw [e] at this;generalize cs'[j]=y at this
  cases this;rfl
 rw [g1,this];exact (ho.1 q hq).symm
theorem wo {P:Program} {Ty:Nat->Option TI} (hT:∀ t ti,Ty t=some ti->TIok P t ti) {fn:Func} {w w':World} {o:d4} (ho:o.at w) {R:RR->Prop} {st':ASt} {a':Act}
 (hR':Rep w ⟨λc=>c<w.heap.size/\o.off c,λc=>c<w.heap.size/\o.off c,false,λ_=>True⟩ st' a' w')
 (hq:dR ⟨P,Ty,w,⟨λc=>c<w.heap.size/\o.off c,λc=>c<w.heap.size/\o.off c,false,λ_=>True⟩⟩ st' fn.results.toList λl=>∃ rr,R rr/\nQ ⟨P,Ty,w,⟨λc=>c<w.heap.size/\o.off c,λc=>c<w.heap.size/\o.off c,false,λ_=>True⟩⟩ st'.h l rr/\gz st'.h o) :
 a'.defers=[]/\∃ v,(results fn a'.tmps).run P w'=.ok v w'/\∃ v' rr,Ending.returned v=.returned v'/\R rr/\Below w.heap.size w w'/\ul w' o.off v' rr:=by
 let B:Bs:=⟨λc=>c<w.heap.size/\o.off c,λc=>c<w.heap.size/\o.off c,false,λ_=>True⟩
 have hE:EOk ⟨P,Ty,w,B⟩:=⟨hT,λw' hb=>trivial⟩;obtain ⟨vs,l,h1,h2,h3,rr,hRR,h4,hg⟩:=eP hE hR' fn.results.toList hq;obtain ⟨Es,hH⟩:=hR'.heap
 refine ⟨hR'.dfr,_,wg h1,_,rr,rfl,hRR,⟨hR'.below.os,hR'.below.tape,hR'.below.output,hR'.below.size,λc hc=>?_⟩,
  yG (E:=⟨P,Ty,w,B⟩) hH (S:=o.off) (λc hc=>Classical.byContradiction λh=>?_) (λk b' o' C sz rows own hgk=>Classical.byContradiction λh=>?_) (λv d hd=>?_) h2 h3 h4⟩
 ·by_cases h:o.off c
  ·exact hR'.below.block c ⟨hc,h⟩
  ·exact (mL hH ho hg h).1
 ·obtain ⟨-,k,-,hk,-⟩:=mL hH ho hg h
  exact hc ⟨k,hk⟩
 ·obtain ⟨-,k',-,hk,b,T,l,he⟩:=mL hH ho hg h
  have:=hH.inj k k' b' (by rw [hgk];rfl) hk;subst this;rw [hgk] at he;cases he
 ·exact Rd.map hd (λc hc _=>hR'.below.block c hc) (λc hc _=>hc.2)
def xl (E:Env) (o:d4) (rs:List ResultVar) (R:RR->Prop):Exit->ASt->Prop
 | .normal,st=>dR E st rs λl=>∃ rr,R rr/\nQ E st.h l rr/\gz st.h o
 | .ret,st=>dR E st rs λl=>∃ rr,R rr/\nQ E st.h l rr/\gz st.h o
 |_,_=>False
theorem lg.ph {w:World} {o:d4} {v:Value} {d:VD} (h:lg w o.off v d):VRel w (λc=>¬ o.off c) d.toAV v:=
 lg.rel (M:=λc=>¬ o.off c) (by
  cases d with
  |c d=>exact Rd.map h (λ_ _ _=>rfl) (λc hc _ hn=>hn hc)
  | agg ds =>
    obtain ⟨xs,h1,h2,h3⟩:=h;exact ⟨xs,h1,h2,λj d hd=>(h3 j d hd).map (λ_ _ _=>rfl) (λc hc _ hn=>hn hc)⟩)
theorem iy.intro {P : Program} {Ty : Nat → Option TI} (hT : ∀ t ti, Ty t = some ti → TIok P t ti) {f : Nat} {fn : Func} {c : Code} (hf : P.funcs[f]? = some fn) (hname : (fn.name == "runtime.NumGoroutine") = false) (hb : fn.body = some c)
 {n:Nat} {rs:List ResultVar} (hnt:fn.ntmps=n) (hrs:fn.results=⟨rs⟩) {args:List VD} {R:RR->Prop} (hn:args.length<=n)
 (h:∀ w0 base o,eO ⟨P,Ty,w0,⟨base,base,false,λ_=>True⟩⟩ c (xl ⟨P,Ty,w0,⟨base,base,false,λ_=>True⟩⟩ o rs R) { n:=n,kb:=0,t:=jo 0 args,h:=phs o }):iy P f args R:=by
 subst hnt;have hrs':fn.results.toList=rs:=by rw [hrs]
 subst hrs';refine ⟨⟨fn,hf,hname,by rw [hb];rfl⟩,λw o xs ho hs hx=>calls_of_wp hf hb ?_⟩;have hE:EOk ⟨P,Ty,w,⟨λc=>c<w.heap.size/\o.off c,λc=>c<w.heap.size/\o.off c,false,λ_=>True⟩⟩:=⟨hT,λw' hb=>trivial⟩
 have hR:=FS ho (n:=fn.ntmps) (xs:=xs) (t:=jo 0 args) (by omega) (λq=>by
  rw [kj,if_pos (Nat.zero_le q),Nat.sub_zero]
  split
  ·rename_i v hv
   have hlt:q<xs.size:=by rw [hs];exact (List.getElem?_eq_some_iff.1 hv).1
   have e:(xs++Array.replicate (fn.ntmps - xs.size) undef).getD q undef=xs.getD q undef:=by
    simp only [Array.getD_eq_getD_getElem?];rw [Array.getElem?_append_left hlt]
   rw [e];exact (hx q v hv).ph
  ·exact .any _)
 refine wp_mono (cC hE c _ _ _ w hR (h w _ o)) ?_
 rintro e a' w' ⟨st',hq,hR'⟩
 cases e with
 |normal=>exact wo hT ho hR' hq
 |ret=>exact wo hT ho hR' hq
 |_=>exact hq.elim
theorem iO {P : Program} {Ty : Nat → Option TI} (hT : ∀ t ti, Ty t = some ti → TIok P t ti) {f : Nat} {fn : Func} {c : Code} (hf : P.funcs[f]? = some fn) (hname : (fn.name == "runtime.NumGoroutine") = false) (hb : fn.body = some c)
 {n:Nat} {rs:List ResultVar} (hnt:fn.ntmps=n) (hrs:fn.results=⟨rs⟩) {bs:List (List CD)} {args:List VD} {R:RR->Prop} (hn:args.length+1<=n)
 (h:∀ w0 base o u,Rd w0 false base u (.s bs)->eO ⟨P,Ty,w0,⟨base,base,false,λ_=>True⟩⟩ c (xl ⟨P,Ty,w0,⟨base,base,false,λ_=>True⟩⟩ o rs R) { n:=n,kb:=0,t:=(0,.cv u bs.length)::jo 1 args,h:=phs o }):iy P f (.c (.s bs)::args) R:=by
 subst hnt;have hrs':fn.results.toList=rs:=by rw [hrs]
 subst hrs';refine ⟨⟨fn,hf,hname,by rw [hb];rfl⟩,λw o xs ho hs hx=>calls_of_wp hf hb ?_⟩;have hE:EOk ⟨P,Ty,w,⟨λc=>c<w.heap.size/\o.off c,λc=>c<w.heap.size/\o.off c,false,λ_=>True⟩⟩:=⟨hT,λw' hb=>trivial⟩;have hu:Rd w false o.off (xs.getD 0 undef) (.s bs):=hx 0 _ rfl;have hu0:Rd w false (λc=>c<w.heap.size/\o.off c) (xs.getD 0 undef) (.s bs):=hu.map (λ_ _ _=>rfl) (λc hc hl=>⟨hl,hc⟩);obtain ⟨ua,uc,hlen⟩:=hu.slice_len;simp only [List.length_cons] at hs
 have e:∀ q,q<xs.size->(xs++Array.replicate (fn.ntmps - xs.size) undef).getD q undef=xs.getD q undef:=λq hq=>by
  simp only [Array.getD_eq_getD_getElem?];rw [Array.getElem?_append_left hq]
 have hR:=FS ho (n:=fn.ntmps) (xs:=xs) (t:=(0,.cv (xs.getD 0 undef) bs.length)::jo 1 args) (by omega) (λq=>by
  unfold aN
  split
  ·rename_i h0
   subst h0;rw [e 0 (by omega)];exact .cv _ _ ⟨ua,uc,hlen⟩
  ·rename_i h0
   rw [kj]
   split
   ·split
    ·rename_i v hv
     have hlt:q - 1<args.length:=(List.getElem?_eq_some_iff.1 hv).1;rw [e q (by omega)];exact (hx q v (by rw [show q=q - 1+1 by omega];simpa using hv)).ph
    ·exact .any _
   ·exact .any _)
 refine wp_mono (cC hE c _ _ _ w hR (h w _ o _ hu0)) ?_
 rintro e a' w' ⟨st',hq,hR'⟩
 cases e with
 |normal=>exact wo hT ho hR' hq
 |ret=>exact wo hT ho hR' hq
 |_=>exact hq.elim
def lh (P:Program) (T:TypeId) (bs:List (List CD)) (f:Nat) (args:List VD) (R:RR->Prop):Prop:=
 zS P f /\ ∀ (w:World) (o:d4) (b:Nat) (u:Value) (i h:Int) (xs:Array Value),o.at w -> o.off b -> 0 <= i -> i <= bs.length ->
  w.heap[b]? = some (.cells #[u,.int .i64 i,.int .i64 h] T (0,0)) -> Rd w false (λc => c ≠ b /\ o.off c) u (.s bs) ->
  xs.size=args.length+1 -> xs.getD 0 undef=.pointer (some ⟨b,0,none⟩) -> (∀ j vd,args[j]? = some vd -> lg w (λc => c ≠ b /\ o.off c) (xs.getD (j+1) undef) vd) ->
  Calls P f xs w λe w' => ∃ (v:Value) (rr:RR) (i' h':Int),e=.returned v /\ R rr /\ 0 <= i' /\ i' <= bs.length /\ w'.heap[b]? = some (.cells #[u,.int .i64 i',.int .i64 h'] T (0,0)) /\
   BelowF (λc=>c<w.heap.size/\c≠b) w w'/\ul w' (λc=>c≠b/\o.off c) v rr
theorem lg.map {w:World} {S S':Nat->Prop} {v:Value} {d:VD} (h:lg w S v d) (hS:∀ c,S c->S' c):lg w S' v d:=by
 cases d with
 |c d=>exact Rd.map h (λ_ _ _=>rfl) (λc hc _=>hS c hc)
 | agg ds =>
   obtain ⟨xs,h1,h2,h3⟩:=h;exact ⟨xs,h1,h2,λj d hd=>(h3 j d hd).map (λ_ _ _=>rfl) (λc hc _=>hS c hc)⟩
theorem gk.toN {P:Program} {T:TypeId} {bs:List (List CD)} {f:Nat} {args:List VD} {R:RR->Prop} (hc:gk P T bs f args R):lh P T bs f args R:=by
 refine ⟨hc.1,λw o b u i h xs o1 o2 a1 a2 a3 a4 a5 a6 a7=>(hc.2 w b u i h xs a1 a2 a3 (a4.map (λ_ _ _=>rfl) (λc hc _=>hc.1)) a5 a6 (λj vd hj=>(a7 j vd hj).map λc hc=>hc.1)).mono ?_⟩
 rintro e w' ⟨v,rr,i',h',rfl,h1,h2,h3,h4,h5,h6⟩
 exact ⟨v,rr,i',h',rfl,h1,h2,h3,h4,h5,h6.toN λc hc=>⟨by have:=dl a3;omega,pj o1 hc.1⟩⟩
theorem lh.mono {P:Program} {T:TypeId} {bs:List (List CD)} {f:Nat} {args:List VD} {R R':RR->Prop} (hc:lh P T bs f args R) (hr:∀ r,R r->R' r):lh P T bs f args R':=by
 refine ⟨hc.1,λw o b u i h xs o1 o2 a1 a2 a3 a4 a5 a6 a7=>(hc.2 w o b u i h xs o1 o2 a1 a2 a3 a4 a5 a6 a7).mono ?_⟩
 rintro e w' ⟨v,rr,i',h',rfl,h1,h2,h3,h4,h5,h6⟩
 exact ⟨v,rr,i',h',rfl,hr _ h1,h2,h3,h4,h5,h6⟩
def td (E:Env) (o:d4) (T:TypeId) (b:Nat) (u:Value) (n:Nat) (rs:List ResultVar) (R:RR->Prop):Exit->ASt->Prop
 | .normal,st=>dR E st rs λl=>∃ rr,R rr/\nQ E st.h l rr/\gz st.h o/\sW T b u n st.h
 | .ret,st=>dR E st rs λl=>∃ rr,R rr/\nQ E st.h l rr/\gz st.h o/\sW T b u n st.h
 |_,_=>False
theorem Js {args:List VD} {n:Nat} {T:TypeId} {bs:List (List CD)} (hn:args.length+1<=n) {w:World} {o:d4} (ho:o.at w) {b:Nat} (hob:o.off b) {u:Value} {i hh:Int} {xs:Array Value}
 (hcell:w.heap[b]? = some (.cells #[u,.int .i64 i,.int .i64 hh] T (0,0))) (hu:Rd w false (λc=>c≠b/\o.off c) u (.s bs)) (hs:xs.size=args.length+1) (hx0:xs.getD 0 undef=.pointer (some ⟨b,0,none⟩))
 (hx:∀ j vd,args[j]? = some vd->lg w (λc=>c≠b/\o.off c) (xs.getD (j+1) undef) vd) :
 Rep w ⟨λc=>c<w.heap.size/\c≠b/\o.off c,λc=>c<w.heap.size/\c≠b/\o.off c,false,λ_=>True⟩ { n:=n,kb:=0,t:=(0,.p 0 b 0)::jo 1 args,h:=(0,.vars b T (dy u bs.length i hh))::phs o } { tmps:=xs++Array.replicate (n - xs.size) undef,defers:=[] } w:=by
 obtain ⟨hrel,hm⟩:=B5 ho ⟨λc=>c<w.heap.size/\c≠b/\o.off c,λc=>c<w.heap.size/\c≠b/\o.off c,false,λ_=>True⟩ (λc hc=>⟨λh=>hc h.2.2,λh=>hc h.2.2⟩);obtain ⟨ua,uc,hlen⟩:=hu.slice_len
 have hM:∀ c,AH.M ((0,.vars b T (dy u bs.length i hh))::phs o) c->¬ (c≠b/\o.off c):=by
  intro c hc h;rcases hZ.1 hc with h1|⟨k,-,hk⟩
  ·simp [AObj.blk] at h1;exact h.1 h1.symm
  ·exact (hm c).1 ⟨k,hk⟩ h.2
 have hget:∀ k,AH.get ((0,.vars b T (dy u bs.length i hh))::phs o) k=if k=0 then .vars b T (dy u bs.length i hh) else AH.get (phs o) k:=λk=>by rw [aU]
 refine ⟨rfl,by simp;omega,λq=>?_,⟨λ_ _=>False,λk=>?_,λk k' c hk hk'=>?_,λk c hk=>?_,λk c hc=>hc.elim,λk k' c hc=>hc.elim,λk c hc=>hc.elim⟩,BelowF.refl _ _,λc hc=>hc.elim (λh=>h.1) (λh=>h.1)⟩
 ·show VRel w _ (aN ((0,.p 0 b 0)::jo 1 args) q) _
  have e:∀ q,q<xs.size->(xs++Array.replicate (n - xs.size) undef).getD q undef=xs.getD q undef:=λq hq=>by
   simp only [Array.getD_eq_getD_getElem?];rw [Array.getElem?_append_left hq]
  unfold aN
  split
  ·rename_i h0
   subst h0;rw [e 0 (by omega),hx0];exact .p _ _ _
  ·rename_i h0
   rw [kj]
   split
   ·split
    ·rename_i v hv
     have hlt:q - 1<args.length:=(List.getElem?_eq_some_iff.1 hv).1;rw [e q (by omega)];have:=hx (q - 1) v hv;rw [show q - 1+1=q by omega] at this;exact lg.rel (this.map λc hc hm=>hM c hm hc)
    ·exact .any _
   ·exact .any _
 ·rw [hget]
  split
  ·refine ⟨_,hcell,rfl,λj av hj=>?_⟩
   match j,hj with
   |0,hj=>cases hj;exact .cv _ _ ⟨ua,uc,hlen⟩
   |1,hj=>cases hj;exact .v _ rfl
   |2,hj=>cases hj;exact .v _ rfl
   |j+3,hj=>cases hj
  ·exact B6 ho _ _ k
 ·rw [hget] at hk hk'
  by_cases h1:k=0<;>by_cases h2:k'=0
  ·rw [h1,h2]
  ·rw [if_pos h1] at hk;rw [if_neg h2] at hk'
   simp [AObj.blk] at hk;exact absurd hob ((hm b).1 ⟨k',hk ▸ hk'⟩)
  ·rw [if_neg h1] at hk;rw [if_pos h2] at hk'
   simp [AObj.blk] at hk';exact absurd hob ((hm b).1 ⟨k,hk' ▸ hk⟩)
  ·rw [if_neg h1] at hk;rw [if_neg h2] at hk'
   exact B7 ho.2 hk hk'
 ·have:=hM c ⟨k,hk⟩
  exact ⟨λh=>this h.2,λh=>this h.2⟩
theorem pU {w:World} {M E:Nat->Prop} {b:Nat} {T:TypeId} {u:Value} {n:Nat} {i hh:Int} (ho:dI w M E (.vars b T (dy u n i hh))):w.heap[b]? = some (.cells #[u,.int .i64 i,.int .i64 hh] T (0,0)):=by
 obtain ⟨cs,g1,g2,g3⟩:=ho;have c0:=g3 0 _ rfl;have c1:=g3 1 _ rfl;have c2:=g3 2 _ rfl;have hs3:cs.size=3:=g2;have e0:cs.getD 0 undef=u:=by generalize cs.getD 0 undef=y at c0;cases c0;rfl
 have e1:cs.getD 1 undef=.int .i64 i:=by generalize cs.getD 1 undef=y at c1;cases c1;rfl
 have e2:cs.getD 2 undef=.int .i64 hh:=by generalize cs.getD 2 undef=y at c2;cases c2;rfl
 have:cs = #[u,.int .i64 i,.int .i64 hh]:=by
  refine Array.ext (by simp [hs3]) (λj h1 h2'=>?_);simp only [Array.getD_eq_getD_getElem?] at e0 e1 e2;rcases j with _|_|_|j
  ·rw [Array.getElem?_eq_getElem h1] at e0;exact e0
  ·rw [Array.getElem?_eq_getElem h1] at e1;exact e1
  ·rw [Array.getElem?_eq_getElem h1] at e2;exact e2
  ·omega
 rw [g1,this]
theorem lh.intro {P : Program} {Ty : Nat → Option TI} (hT : ∀ t ti, Ty t = some ti → TIok P t ti) {f : Nat} {fn : Func} {c : Code} (hf : P.funcs[f]? = some fn) (hname : (fn.name == "runtime.NumGoroutine") = false) (hb : fn.body = some c)
 {n:Nat} {rs:List ResultVar} (hnt:fn.ntmps=n) (hrs:fn.results=⟨rs⟩) {T:TypeId} {bs:List (List CD)} {args:List VD} {R:RR->Prop} (hn:args.length+1<=n)
 (h:∀ w0 base o b u i h,0<=i->i<=(bs.length:Int)->Rd w0 false base u (.s bs)->eO ⟨P,Ty,w0,⟨base,base,false,λ_=>True⟩⟩ c (td ⟨P,Ty,w0,⟨base,base,false,λ_=>True⟩⟩ o T b u bs.length rs R)
  { n:=n,kb:=0,t:=(0,.p 0 b 0)::jo 1 args,h:=(0,.vars b T (dy u bs.length i h))::phs o }):lh P T bs f args R:=by
 subst hnt;have hrs':fn.results.toList=rs:=by rw [hrs]
 subst hrs';refine ⟨⟨fn,hf,hname,by rw [hb];rfl⟩,λw o b u i hh xs ho hob hi0 hi1 hcell hu hs hx0 hx=>calls_of_wp hf hb ?_⟩
 let F:Nat->Prop:=λc=>c<w.heap.size/\c≠b/\o.off c
 let bs0:Bs:=⟨F,F,false,λ_=>True⟩
 have hE:EOk ⟨P,Ty,w,bs0⟩:=⟨hT,λw' hb=>trivial⟩;have hR:=Js hn ho hob hcell hu hs hx0 hx;have hu0:Rd w false F u (.s bs):=hu.map (λ_ _ _=>rfl) (λc hc hl=>⟨hl,hc⟩);refine wp_mono (cC hE c _ _ _ w hR (h w F o b u i hh hi0 hi1 hu0)) ?_
 rintro e a' w' ⟨st',hq,hR'⟩
 have key:(dR ⟨P,Ty,w,bs0⟩ st' fn.results.toList λl => ∃ rr,R rr /\ nQ ⟨P,Ty,w,bs0⟩ st'.h l rr /\ gz st'.h o /\ sW T b u bs.length st'.h) -> a'.defers=[] /\ ∃ v,(results fn a'.tmps).run P w'=.ok v w' /\ ∃ (v':Value) (rr:RR) (i' h':Int),Ending.returned v=.returned v' /\ R rr /\ 0 <= i' /\ i' <= bs.length /\ w'.heap[b]? = some (.cells #[u,.int .i64 i',.int .i64 h'] T (0,0)) /\
  BelowF (λc=>c<w.heap.size/\c≠b) w w'/\ul w' (λc=>c≠b/\o.off c) v' rr:=by
  intro hq;obtain ⟨vs,l,h1,h2,h3,rr,hRR,h4,htl,i',h'',hg,k1,k2⟩:=eP hE hR' fn.results.toList hq;obtain ⟨Es,hH⟩:=hR'.heap;have hb0:(st'.h.get 0).blk=some b:=by rw [hg];rfl
  have hobj:=hH.obj 0;rw [hg] at hobj
  refine ⟨hR'.dfr,_,wg h1,_,rr,i',h'',rfl,hRR,k1,k2,pU hobj,⟨hR'.below.os,hR'.below.tape,hR'.below.output,hR'.below.size,λc hc=>?_⟩,
   yG (E:=⟨P,Ty,w,bs0⟩) hH (S:=λc=>c≠b/\o.off c) (λc hc=>⟨λhe=>hc (he ▸ ⟨0,hb0⟩),Classical.byContradiction λh=>?_⟩) (λk b' o' C sz rows own hgk=>⟨λhe=>?_,Classical.byContradiction λh=>?_⟩) (λv d hd=>?_) h2 h3 h4⟩
  ·by_cases h:o.off c
   ·exact hR'.below.block c ⟨hc.1,hc.2,h⟩
   ·exact (mL hH ho htl h).1
  ·obtain ⟨-,k,-,hk,-⟩:=mL hH ho htl h
   exact hc ⟨k,hk⟩
  ·have:=hH.inj k 0 b (by rw [hgk,<- he];rfl) hb0
   subst this;rw [hg] at hgk;cases hgk
  ·obtain ⟨-,k',-,hk,b,T,l,he⟩:=mL hH ho htl h
   have:=hH.inj k k' b' (by rw [hgk];rfl) hk;subst this;rw [hgk] at he;cases he
  ·exact Rd.map hd (λc hc _=>hR'.below.block c hc) (λc hc _=>hc.2)
 cases e with
 |normal=>exact key hq
 |ret=>exact key hq
 |_=>exact hq.elim
theorem bn {E:Env} {T:TypeId} {bs:List (List CD)} {f:Nat} {args:List VD} {R:RR->Prop} (hc:lh E.P T bs f args R) {kc b n:Nat} {u:Value} {i hh:Int} {avs:List AV} {st:ASt} {dst:Option Nat} {K:ASt->Prop}
 (hu:E.rd u (.s bs)) (hn:bs.length=n) (hget:st.h.get kc=.vars b T (dy u n i hh)) (hi0:0<=i) (hi1:i<=(n:Int)) (hin:iD E.rd [] avs args)
 (hout:∀ rr i' h',R rr->0<=i'->i'<=(n:Int)->bk { st with h:=(kc,.vars b T (dy u n i' h'))::st.h } dst (roR rr) K):aa E f (.p kc b 0::avs) st dst K:=by
 subst hn;refine ⟨hc.1,λa w hR xs hs hx=>?_⟩;obtain ⟨Es,hH⟩:=hR.heap;have hblk:(st.h.get kc).blk=some b:=by rw [hget];rfl
 have hMb:st.h.M b:=⟨kc,hblk⟩;obtain ⟨o,ho,hoff⟩:=xG hH (λc=>c≠b);have hob:o.off b:=(hoff b).2 (λh=>h.2 rfl);have hM0:∀ c,¬ st.h.M c->c≠b/\o.off c:=λc hc=>⟨λhe=>hc (he ▸ hMb),(hoff c).2 (λh=>hc h.1)⟩
 have hM1:∀ c,c≠b/\o.off c->¬ st.h.M c:=λc hc hm=>(hoff c).1 hc.2 ⟨hm,hc.1⟩
 have g1:w.heap[b]? = _:=pU (by have:=hH.obj kc;rw [hget] at this;exact this);have hur:Rd w false (λc=>c≠b/\o.off c) u (.s bs):=Rd.map hu (λb hb _=>hR.below.block b hb) (λc hc _=>hM0 c (λ⟨k,hk⟩=>(hH.low k c hk).1 hc));obtain ⟨hl,hr⟩:=yw hR hH hM0 avs args (us:=λj=>xs.getD (j+1) undef) (λj av hj=>hx (j+1) av (by simpa using hj)) hin
 have hx0:xs.getD 0 undef=.pointer (some ⟨b,0,none⟩):=by
  have:=hx 0 _ rfl;generalize xs.getD 0 undef=y at this
  cases this;rfl
 refine (hc.2 w o b u i hh xs ho hob hi0 hi1 g1 hur (by simp at hs;omega) hx0 hr).mono ?_
 rintro e w' ⟨v,rr,i',h',rfl,hRR,k1,k2,hcell,hb,hrr⟩
 have fr:∀ c,c<w.heap.size->c≠b->w'.heap[c]? = w.heap[c]?:=λc h1 h2=>hb.block c ⟨h1,h2⟩
 obtain ⟨ua,uc,hlen⟩:=Rd.slice_len hu
 have H':=hH.upd (k:=kc) (o':=.vars b T (dy u bs.length i' h')) (Ek:=λ_=>False) hb.size (λc hlt hc=>fr c hlt (λhe=>by
  subst he;rcases hc with hc|⟨j,hj,hjb⟩
  ·exact hc hMb
  ·exact hj (hH.inj _ _ _ hjb hblk))) (λc hc=>by
  simp [AObj.blk] at hc;subst hc;exact ⟨hH.low kc b hblk,.inr hblk⟩) ⟨_,hcell,rfl,λj av hj=>by
  match j,hj with
  |0,hj=>cases hj;exact .cv _ _ ⟨ua,uc,hlen⟩
  |1,hj=>cases hj;exact .v _ rfl
  |2,hj=>cases hj;exact .v _ rfl
  |j+3,hj=>cases hj⟩ (λ_ hc=>hc.elim)
 have t:Tr st.h.M w (AH.M ((kc,.vars b T (dy u bs.length i' h'))::st.h)) w':=
  Tr.upd hH hb.size (λc hlt hm=>fr c hlt (λhe=>hm (he ▸ hMb))) (λc hc=>by simp [AObj.blk] at hc;subst hc;exact .inr hblk)
 have hM':∀ c,AH.M ((kc,.vars b T (dy u bs.length i' h'))::st.h) c->st.h.M c:=by
  intro c hm;rcases hZ.1 hm with h1|⟨j,_,hj⟩
  ·simp [AObj.blk] at h1;exact h1 ▸ hMb
  ·exact ⟨j,hj⟩
 obtain ⟨av',h3,h1,h2,h4,h5⟩:=(hR.move H' t ⟨hb.os,hb.tape,hb.output⟩).put (ul.rel hrr (λc hc hm=>hM1 c hc (hM' c hm))) (hout rr i' h' hRR k1 k2);exact ⟨v,av',h3,rfl,h1,h2,h4,h5⟩
def HO (P:Program) (T:TypeId) (bs:List (List CD)) (f:Nat):Prop:=
 zS P f /\ ∀ (w:World) (u:Value) (xs:Array Value),Rd w false (λ_ => True) u (.s bs) -> xs.size=1 -> xs.getD 0 undef=u ->
  Calls P f xs w λe w'=>∃ (b:Nat) (h:Int),e=.returned (.pointer (some ⟨b,0,none⟩))/\w.heap.size<=b/\Below w.heap.size w w'/\w'.heap[b]? = some (.cells #[u,.int .i64 0,.int .i64 h] T (0,0))
def xn (E:Env) (T:TypeId) (u:Value) (n:Nat) (rs:List ResultVar):Exit->ASt->Prop
 | .normal,st=>dR E st rs λl=>∃ k b h,l=[.p k b 0]/\st.h.get k=.vars b T (dy u n 0 h)
 | .ret,st=>dR E st rs λl=>∃ k b h,l=[.p k b 0]/\st.h.get k=.vars b T (dy u n 0 h)
 |_,_=>False
theorem HO.intro {P : Program} {Ty : Nat → Option TI} (hT : ∀ t ti, Ty t = some ti → TIok P t ti) {f : Nat} {fn : Func} {c : Code} (hf : P.funcs[f]? = some fn) (hname : (fn.name == "runtime.NumGoroutine") = false) (hb : fn.body = some c)
 {n:Nat} {rs:List ResultVar} (hnt:fn.ntmps=n) (hrs:fn.results=⟨rs⟩) {T:TypeId} {bs:List (List CD)} (hn:1<=n)
 (h:∀ w0 base u,Rd w0 false base u (.s bs)->eO ⟨P,Ty,w0,⟨base,base,false,λ_=>True⟩⟩ c (xn ⟨P,Ty,w0,⟨base,base,false,λ_=>True⟩⟩ T u bs.length rs) { n:=n,kb:=0,t:=[(0,.cv u bs.length)],h:=[] }):HO P T bs f:=by
 subst hnt;have hrs':fn.results.toList=rs:=by rw [hrs]
 subst hrs';refine ⟨⟨fn,hf,hname,by rw [hb];rfl⟩,λw u xs hu hs hx0=>calls_of_wp hf hb ?_⟩
 let F:Nat->Prop:=λc=>c<w.heap.size
 let B:Bs:=⟨F,F,false,λ_=>True⟩
 have hE:EOk ⟨P,Ty,w,B⟩:=⟨hT,λw' hb=>trivial⟩;have hu0:Rd w false F u (.s bs):=hu.within.map (λ_ _ _=>rfl) (λc hc _=>hc.2);obtain ⟨ua,uc,hlen⟩:=hu.slice_len
 have hR:Rep w B { n:=fn.ntmps,kb:=0,t:=[(0,.cv u bs.length)],h:=[] } { tmps:=xs++Array.replicate (fn.ntmps - xs.size) undef,defers:=[] } w:=by
  refine ⟨rfl,by simp;omega,λq=>?_,⟨λ_ _=>False,λk=>trivial,λk k' b hk=>by simp [AH.get,AObj.blk] at hk,λk b hk=>by simp [AH.get,AObj.blk] at hk,λk c hc=>hc.elim,λk k' c hc=>hc.elim,λk c hc=>hc.elim⟩,BelowF.refl _ _,λb hb=>hb.elim id id⟩
  show VRel w (AH.M []) (aN [(0,.cv u bs.length)] q) _
  unfold aN
  split
  ·rename_i h0
   subst h0
   have:(xs++Array.replicate (fn.ntmps - xs.size) undef).getD 0 undef=xs.getD 0 undef:=by
    simp only [Array.getD_eq_getD_getElem?];rw [Array.getElem?_append_left (by omega)]
   rw [this,hx0];exact .cv _ _ ⟨ua,uc,hlen⟩
  ·exact .any _
 refine wp_mono (cC hE c _ _ _ w hR (h w F _ hu0)) ?_
 rintro e a' w' ⟨st',hq,hR'⟩
 have key:(dR ⟨P,Ty,w,B⟩ st' fn.results.toList λl=>∃ k b h,l=[.p k b 0]/\st'.h.get k=.vars b T (dy u bs.length 0 h))->a'.defers=[]/\∃ v,(results fn a'.tmps).run P w'=.ok v w'/\∃ (b:Nat) (h:Int),Ending.returned v=.returned (.pointer (some ⟨b,0,none⟩))/\w.heap.size<=b/\Below w.heap.size w w'/\w'.heap[b]? = some (.cells #[u,.int .i64 0,.int .i64 h] T (0,0)):=by
  intro hq;obtain ⟨vs,l,h1,h2,h3,k,b,h',rfl,hg⟩:=eP hE hR' fn.results.toList hq;obtain ⟨Es,hH⟩:=hR'.heap
  have hv0:vs.getD 0 undef=.pointer (some ⟨b,0,none⟩):=by
   have:=h3 0 _ rfl;generalize vs.getD 0 undef=y at this
   cases this;rfl
  have ho:=hH.obj k;rw [hg] at ho;refine ⟨hR'.dfr,_,wg h1,b,h',by rw [if_pos (by simpa using h2),hv0],Nat.le_of_not_lt (hH.low k b (by rw [hg];rfl)).1,⟨hR'.below.os,hR'.below.tape,hR'.below.output,hR'.below.size,hR'.below.block⟩,pU ho⟩
 cases e with
 |normal=>exact key hq
 |ret=>exact key hq
 |_=>exact hq.elim
theorem lj {E:Env} {T:TypeId} {bs:List (List CD)} {f:Nat} (hc:HO E.P T bs f) {n:Nat} {u:Value} {st:ASt} {dst:Option Nat} {K:ASt->Prop}
 (hu:E.rd u (.s bs)) (hn:bs.length=n) (hout:∀ b h,bk { st with h:=(st.key dst,.vars b T (dy u n 0 h))::st.h } dst (.p (st.key dst) b 0) K):aa E f [.cv u n] st dst K:=by
 subst hn;refine ⟨hc.1,λa w hR xs hs hx=>?_⟩;obtain ⟨Es,hH⟩:=hR.heap
 have hx0:xs.getD 0 undef=u:=by
  have:=hx 0 _ rfl;generalize xs.getD 0 undef=y at this
  cases this;rfl
 refine (hc.2 w u xs (hR.rd _ _ hu) (by simpa using hs) hx0).mono ?_
 rintro e w' ⟨b,h',rfl,hle,hb,hcell⟩
 obtain ⟨ua,uc,hlen⟩:=Rd.slice_len hu
 have H':=hH.upd (k:=st.key dst) (o':=.vars b T (dy u bs.length 0 h')) (Ek:=λ_=>False) hb.size (λc hlt _=>hb.block c hlt) (λc hc=>by
  simp [AObj.blk] at hc;subst hc;exact ⟨hR.newer hle,.inl hle⟩) ⟨_,hcell,rfl,λj av hj=>by
  match j,hj with
  |0,hj=>cases hj;exact .cv _ _ ⟨ua,uc,hlen⟩
  |1,hj=>cases hj;exact .v _ rfl
  |2,hj=>cases hj;exact .v _ rfl
  |j+3,hj=>cases hj⟩ (λ_ hc=>hc.elim)
 have t:Tr st.h.M w (AH.M ((st.key dst,.vars b T (dy u bs.length 0 h'))::st.h)) w':=
  Tr.upd hH hb.size (λc hlt _=>hb.block c hlt) (λc hc=>by simp [AObj.blk] at hc;subst hc;exact .inl hle)
 obtain ⟨av',h3,h1,h2,h4,h5⟩:=(hR.move H' t ⟨hb.os,hb.tape,hb.output⟩).put (.p (st.key dst) b 0) (hout b h');exact ⟨_,av',h3,rfl,h1,h2,h4,h5⟩
theorem HY {W:d4}:wkH (phs W) (phs W)=True:=by rw [<- rG];exact Ck
theorem HW {W:d4} {h:AH} {j:Nat} {o:AObj} (hj:j<1000000000):wkH ((j,o)::h) (phs W)=wkH h (phs W):=by rw [<- rG,<- rG];exact Cj hj
theorem MO {st:ASt}:st.ev (.const (.pointer none))=.any:=(rfl)
theorem Hh {E:Env} {o:d4} {rs:List ResultVar} {R:RR->Prop} {st:ASt}:xl E o rs R .normal st=dR E st rs λl=>∃ rr,R rr/\nQ E st.h l rr/\gz st.h o:=(rfl)
theorem Hg {E:Env} {o:d4} {rs:List ResultVar} {R:RR->Prop} {st:ASt}:xl E o rs R .ret st=dR E st rs λl=>∃ rr,R rr/\nQ E st.h l rr/\gz st.h o:=(rfl)
theorem Bp {E:Env} {o:d4} {T:TypeId} {b:Nat} {u:Value} {n:Nat} {rs:List ResultVar} {R:RR->Prop} {st:ASt}:td E o T b u n rs R .normal st=dR E st rs λl=>∃ rr,R rr/\nQ E st.h l rr/\gz st.h o/\sW T b u n st.h:=(rfl)
theorem Bo {E:Env} {o:d4} {T:TypeId} {b:Nat} {u:Value} {n:Nat} {rs:List ResultVar} {R:RR->Prop} {st:ASt}:td E o T b u n rs R .ret st=dR E st rs λl=>∃ rr,R rr/\nQ E st.h l rr/\gz st.h o/\sW T b u n st.h:=(rfl)
theorem Ed {E:Env} {T:TypeId} {u:Value} {n:Nat} {rs:List ResultVar} {st:ASt}:xn E T u n rs .normal st=dR E st rs λl=>∃ k b h,l=[.p k b 0]/\st.h.get k=.vars b T (dy u n 0 h):=(rfl)
theorem Ec {E:Env} {T:TypeId} {u:Value} {n:Nat} {rs:List ResultVar} {st:ASt}:xn E T u n rs .ret st=dR E st rs λl=>∃ k b h,l=[.p k b 0]/\st.h.get k=.vars b T (dy u n 0 h):=(rfl)
theorem Ma {E:Env} {h:AH} {x:AV} {r:RV}:nQ E h [x] (.one r)=qj E.rd h x r:=(rfl)
theorem L9 {E:Env} {h:AH} {l:List AV} {rs:List RV}:nQ E h l (.tup rs)=(l.length≠1/\nR E.rd h l rs):=(rfl)
theorem IN {R:Value->CD->Prop} {h:AH} {x:AV} {d:CD} {sz:Nat}:qj R h x (.c d sz)=aIn R h x d:=(rfl)
theorem Da {R:Value->CD->Prop} {h:AH} {l:List AV} {ts:List (CD×Nat)}:qj R h (.agg l) (.agg ts)=tv R h l (ts.map Prod.fst):=(rfl)
theorem AC {R:Value->CD->Prop} {h:AH}:nR R h [] []=True:=(rfl)
theorem yH {R:Value->CD->Prop} {h:AH} {x:AV} {l:List AV} {r:RV} {rs:List RV}:nR R h (x::l) (r::rs)=(qj R h x r/\nR R h l rs):=(rfl)
theorem OS {d:CD} {sz:Nat}:roV (.c d sz)=toAV d:=(rfl)
theorem Im {ts:List (CD×Nat)}:roV (.agg ts)=.agg (ts.map λt=>toAV t.1):=(rfl)
theorem Io {r:RV}:roR (.one r)=roV r:=(rfl)
theorem In {l:List RV}:roR (.tup l)=.tup (l.map roV):=(rfl)
attribute [simp ↓] MO Hh Hg Bp Bo Ed Ec
attribute [simp] Ma L9 IN Da AC yH OS Im Io In HY HW CH tail_cons Ck Cj Iz
end Go.AM
namespace Go.Proofs.YthckkpphnmmfdaaGreatDoor
open Go.AM
set_option maxRecDepth 20000
set_option maxHeartbeats 6400000
def bs (l:List UInt8):ByteArray:=⟨l.toArray⟩
theorem gQ (l:List UInt8):(⟨l.toArray⟩:ByteArray)=bs l:=rfl
theorem e8 (a b:List UInt8):bs a++bs b=bs (a++b):=by
 apply ByteArray.ext
 simp [bs]
theorem bL (l:List UInt8):(bs l).size=l.length:=by simp [bs,ByteArray.size]
theorem dh (l:List UInt8):(bs l).data.toList=l:=by simp [bs]
theorem mT (s:ByteArray):bs s.data.toList=s:=by cases s;simp [bs]
theorem eL {a b:List UInt8}:bs a=bs b ↔ a=b:=⟨λh=>by have:=congrArg (λs=>s.data.toList) h;simpa [bs] using this,λh=>by rw [h]⟩
theorem MW {l:List UInt8} {i:Nat} (h:i<(bs l).size):(bs l)[i]'h=l[i]'(by rw [bL] at h;exact h):=by
 simp [bs,ByteArray.getElem_eq_getElem_data]
theorem MX (l:List UInt8) (i j:Nat):(bs l).extract i j=bs ((l.take j).drop i):=by
 apply ByteArray.ext
 simp [bs,List.drop_take]
theorem Er {P:Program} {T:Nat->Option TI} {w0:World} {base:Bs} {t:Nat} {s:ByteArray} {k:IntKind} {F:AV->Prop} :
 ug ⟨P,T,w0,base⟩ t (.v (.string s)) (.v (.int k 0)) F=(Env.isStr ⟨P,T,w0,base⟩ t/\∃ h:0<s.size,F (.v (.int .u8 (s[0]'h).toNat))):=by
 simp [ug]
attribute [simp ↓] Er
abbrev vs (l:List UInt8):CD:=.v (.string (bs l))
def wR (l:List UInt8):List CD:=[vs l]
theorem eZ (l:List UInt8):(wR l).length=1:=rfl
def aJ (n:Int):List UInt8:=if 0<=n/\n<=1000000000 then Lib.decDigits n.toNat else []
theorem ik {m:Nat} (h:m<10):Lib.decDigits m=[UInt8.ofNat (48+m)]:=Lib.decDigits_one h
theorem kf {m:Nat} (h:¬ m<10):Lib.decDigits m=Lib.decDigits (m / 10)++[UInt8.ofNat (48+m % 10)]:=by rw [Lib.decDigits,dif_neg h]
def aK (c:UInt8):List UInt8->List (List UInt8)
 | []=>[[]]
 | x :: l => if x = c then [] :: aK c l else match aK c l with
   | []=>[[x]]
   |w::r=>(x::w)::r
theorem mI (c:UInt8):∀ l,aK c l≠[]
 | []=>by simp [aK]
 | x :: l => by
   unfold aK
   split
   ·simp
   ·split<;>simp
theorem nI (c:UInt8):∀ (a b:List UInt8),c ∉ a->aK c (a++c::b)=a::aK c b
 | [],b,_=>by simp [aK]
 | x :: a, b, h => by
   have hx:x≠c:=λe=>h (by simp [e])
   have ih:=nI c a b (λe=>h (by simp [e]));simp [aK,hx,ih]
theorem pr (c:UInt8):∀ (a:List UInt8),c ∉ a->aK c a=[a]
 | [],_=>by simp [aK]
 | x :: a, h => by
   have hx:x≠c:=λe=>h (by simp [e])
   have ih:=pr c a (λe=>h (by simp [e]));simp [aK,hx,ih]
theorem iq (c:UInt8):∀ (l:List (List UInt8)),l≠[]->(∀ w∈l,c ∉ w)->aK c (Lib.join l [c])=l
 | [],h,_=>absurd rfl h
 | [w],_,h=>by rw [Lib.join_one,pr c w (h w (by simp))]
 | w :: v :: r, _, h => by
   have e:Lib.join (w::v::r) [c]=w++c::Lib.join (v::r) [c]:=by
    rw [Lib.join_cons,Lib.join_cons];simp [Lib.joinTail]
   rw [e,nI c _ _ (h w (by simp)),iq c (v::r) (by simp) (λu hu=>h u (by simp [hu]))]
theorem dD (c:UInt8):∀ (l:List UInt8),(aK c l).length<=l.length+1/\∀ w∈aK c l,w.length<=l.length
 | []=>by simp [aK]
 | x :: l => by
   have ih:=dD c l;unfold aK
   split
   ·refine ⟨by simp;omega,λw hw=>?_⟩
    rcases List.mem_cons.1 hw with rfl|hw
    ·simp
    ·have:=ih.2 w hw;simp;omega
   ·split
    ·simp
    ·rename_i v r hs
     rw [hs] at ih;refine ⟨by have:=ih.1;simp at this ⊢;omega,λw hw=>?_⟩;rcases List.mem_cons.1 hw with rfl|hw
     ·have:=ih.2 v (by simp);simp;omega
     ·have:=ih.2 w (by simp [hw]);simp;omega
def yN (W:List (List UInt8)):Nat:=(W.map λw=>w.length+1).sum
theorem mO (w:List UInt8) (W:List (List UInt8)):yN (w::W)=w.length+1+yN W:=by simp [yN]
theorem sx (c:UInt8):∀ l:List UInt8,yN (aK c l)=l.length+1
 | []=>by simp [aK,yN]
 | x :: l => by
   have ih:=sx c l;unfold aK
   split
   ·rw [mO,ih];simp;omega
   ·split
    ·rename_i hs;exact absurd hs (mI c l)
    ·rename_i w r hs
     rw [hs,mO] at ih;rw [mO];simp;omega
theorem Dd {W:List (List UInt8)} {i:Nat} (h:i<W.length):yN (W.drop i)=W[i].length+1+yN (W.drop (i+1)):=by
 rw [List.drop_eq_getElem_cons h,mO]
attribute [local simp] gQ e8 bL eL
end Go.Proofs.YthckkpphnmmfdaaGreatDoor
