import Derived.Test.YtoldjebobgocpaaGreatPN
import Derived.Test.YtoldjebobgocpaaGreatME
import Derived.Test.YtoldjebobgocpaaGreatPL
import Derived.Test.YtoldjebobgocpaaGreatPJ
import Derived.Test.YtoldjebobgocpaaGreatPK
import Derived.Test.YtoldjebobgocpaaGreatPM
import Derived.Test.YtoldjebobgocpaaGreatPI
namespace Go.AM
open Go.RowKit
def zc (w:World) (S:Nat->Prop) (v:Value):RV->Prop
 | .c d _=>Rd w false S v d
 | .agg ts=>∃ xs:Array Value,v=.agg xs/\xs.size=ts.length/\∀ j t,ts[j]? = some t->Rd w false S (xs.getD j undef) t.1
def vU (w:World) (S:Nat->Prop) (v:Value):RR->Prop
 | .one r=>zc w S v r
 | .tup l=>∃ xs:Array Value,v=.tuple xs/\xs.size=l.length/\∀ j t,l[j]? = some t->zc w S (xs.getD j undef) t
theorem nE.toN {w:World} {S S':Nat->Prop} {v:Value} {r:RV} (h:nE w S v r) (hS:∀ c,S c->S' c):zc w S' v r:=by
 cases r with
 |c d sz=>exact (iz.rd h).weaken.map (λ_ _ _=>rfl) (λc hc _=>hS c hc)
 | agg ts =>
   obtain ⟨xs,F,h1,h2,h3,h4,h5⟩:=h;exact ⟨xs,h1,h2,λj t hj=>(iz.rd (h5 j t hj)).weaken.map (λ_ _ _=>rfl) (λc hc _=>hS c (h3 j c hc))⟩
theorem zb.toN {w:World} {S S':Nat->Prop} {v:Value} {r:RR} (h:zb w S v r) (hS:∀ c,S c->S' c):vU w S' v r:=by
 cases r with
 |one r=>exact nE.toN h hS
 | tup l =>
   obtain ⟨xs,F,h1,h2,h3,h4,h5⟩:=h;exact ⟨xs,h1,h2,λj t hj=>nE.toN (h5 j t hj) (λc hc=>hS c (h3 j c hc))⟩
theorem zc.rel {w:World} {M S:Nat->Prop} {v:Value} {r:RV} (h:zc w S v r) (hM:∀ c,S c->¬ M c):VRel w M (roV r) v:=by
 cases r with
 |c d sz=>exact gm (Rd.map h (λ_ _ _=>rfl) (λc hc _=>hM c hc))
 | agg ts =>
   obtain ⟨xs,rfl,h2,h5⟩:=h;refine .agg _ _ (by simp [h2]) (λi av hi=>?_);simp only [List.getElem?_map,Option.map_eq_some_iff] at hi;obtain ⟨t,ht,rfl⟩:=hi;exact gm ((h5 i t ht).map (λ_ _ _=>rfl) (λc hc _=>hM c hc))
theorem vU.rel {w:World} {M S:Nat->Prop} {v:Value} {r:RR} (h:vU w S v r) (hM:∀ c,S c->¬ M c):VRel w M (roR r) v:=by
 cases r with
 |one r=>exact zc.rel h hM
 | tup l =>
   obtain ⟨xs,rfl,h2,h5⟩:=h;refine .tup _ _ (by simp [h2]) (λi av hi=>?_);simp only [List.getElem?_map,Option.map_eq_some_iff] at hi;obtain ⟨t,ht,rfl⟩:=hi;exact zc.rel (h5 i t ht) hM
theorem aa.ro {E:Env} {f:Nat} {args:List VD} {rr:RR} (hc:ai E.P f args rr) {avs:List AV} {st:ASt} {dst:Option Nat} {K:ASt->Prop} (hin:kM E.rd st.h avs args)
 (hout:aW st dst (roR rr) K):aa E f avs st dst K:=by
 refine ⟨hc.1,λa w hR xs hs hx=>?_⟩;obtain ⟨Es,hH⟩:=hR.heap;obtain ⟨hl,hr⟩:=kL hH hR.rd avs args hx hin;refine (hc.2 w trivial xs (by omega) hr).mono ?_
 rintro e w' ⟨v,rfl,hb,hrr⟩
 have t:Tr st.h.M w st.h.M w':=⟨hb.size,λb hlt _=>hb.block b hlt,λb _ h=>h⟩;have H':HRel E.base st.h w' Es:=⟨λk=>(hH.obj k).tr t (λb hk=>hb.block b (hH.lt hk)) (λc hc _=>hc),hH.inj,hH.low,λk c hc=>⟨(hH.elow k c hc).1,Nat.lt_of_lt_of_le (hH.elow k c hc).2 hb.size⟩,hH.einj,hH.em⟩;have hv:VRel w' st.h.M (roR rr) v:=Dq hrr (λc hc ⟨k,hk⟩=>by have:=hH.lt hk;omega);obtain ⟨av',h3,h1,h2,h4,h5⟩:=(hR.move H' t ⟨hb.os,hb.tape,hb.output⟩).put hv hout;exact ⟨v,av',h3,rfl,h1,h2,h4,h5⟩
abbrev dY:=List (Nat×Array Value×TypeId)
def dY.at (W:dY) (w:World):Prop:=(∀ q∈W,w.heap[q.1]? = some (.cells q.2.1 q.2.2 (0,0)))/\(W.map (·.1)).Nodup
def dY.off (W:dY) (c:Nat):Prop:=∀ q∈W,c≠q.1
def phO (q:Nat×Array Value×TypeId):AObj:=.vars q.1 q.2.2 (q.2.1.toList.map .is)
def fA:Nat->dY->AH
 |_,[]=>[]
 |i,q::l=>(i,phO q)::fA (i+1) l
def phs (W:dY):AH:=fA 1000000000 W
theorem rQ:∀ (W:dY) (i k:Nat),AH.get (fA i W) k=if i<=k then (match W[k - i]? with|some q=>phO q|none=>.dead) else .dead
 | [],i,k=>by simp [fA,AH.get]
 | q :: l, i, k => by
   rw [fA,aK,rQ l];by_cases h:k=i
   ·subst h;simp
   ·rw [if_neg h]
    by_cases h1:i+1<=k
    ·rw [if_pos h1,if_pos (by omega),show k - i=(k - (i+1))+1 by omega];rfl
    ·rw [if_neg h1,if_neg (by omega)]
theorem sO (W:dY) (k:Nat):AH.get (phs W) k=if 1000000000<=k then (match W[k - 1000000000]? with|some q=>phO q|none=>.dead) else .dead:=rQ W _ k
theorem J6 {W:dY} {k:Nat} (h:k<1000000000):AH.get (phs W) k=.dead:=by rw [sO,if_neg (by omega)]
theorem xQ {W:dY} {k c:Nat} (h:(AH.get (phs W) k).blk=some c):1000000000<=k/\∃ q,W[k - 1000000000]? = some q/\q.1=c/\AH.get (phs W) k=phO q:=by
 rw [sO] at h ⊢
 split at h
 ·rename_i hk
  rw [if_pos hk]
  split at h
  ·rename_i q hq
   exact ⟨hk,q,hq,by simpa [phO,AObj.blk] using h,by simp⟩
  ·cases h
 ·cases h
theorem HJ {W:dY} {q:Nat×Array Value×TypeId} (h:q∈W):∃ k,1000000000<=k/\AH.get (phs W) k=phO q:=by
 obtain ⟨i,hi,rfl⟩:=List.getElem_of_mem h;exact ⟨1000000000+i,by omega,by rw [sO,if_pos (by omega)];simp [hi]⟩
theorem Dx {W:dY} (hn:(W.map (·.1)).Nodup) {k k' c:Nat} (h:(AH.get (phs W) k).blk=some c) (h':(AH.get (phs W) k').blk=some c):k=k':=by
 obtain ⟨h1,q,hq,rfl,-⟩:=xQ h;obtain ⟨h2,q',hq',e,-⟩:=xQ h';obtain ⟨hi,rfl⟩:=List.getElem?_eq_some_iff.1 hq;obtain ⟨hi',rfl⟩:=List.getElem?_eq_some_iff.1 hq';have:=(List.getElem_inj (xs:=W.map (·.1)) (i:=k' - 1000000000) (j:=k - 1000000000) (h₀:=by simpa using hi') (h₁:=by simpa using hi) hn).1 (by simpa using e);omega
def hI (h:AH) (W:dY):Prop:=∀ k,1000000000<=k->AH.get h k=AH.get (phs W) k
theorem D5 {W:dY}:hI (phs W) W=True:=eq_true λ_ _=>rfl
theorem tail_cons {W:dY} {h:AH} {j:Nat} {o:AObj} (hj:j<1000000000):hI ((j,o)::h) W=hI h W:=by
 have:∀ k,1000000000<=k->AH.get ((j,o)::h) k=AH.get h k:=λk hk=>by rw [aK,if_neg (by omega)]
 refine propext ⟨λht k hk=>by rw [<- this k hk];exact ht k hk,λht k hk=>by rw [this k hk];exact ht k hk⟩
theorem FG (a:AV):gW a a:=by cases a<;>simp [gW]
theorem Bd:∀ l:List AV,ALe l l
 | []=>trivial
 |a::l=>⟨FG a,Bd l⟩
theorem BT (o:AObj):eQ o o:=by
 cases o with
 |vars b T cells=>exact ⟨rfl,rfl,Bd cells⟩
 |dead=>trivial
 |rows=>exact .inl rfl
 |lent=>exact rfl
 |part=>exact rfl
theorem mT:∀ {W:dY} {i:Nat} {p:Nat×AObj},p∈fA i W->i<=p.1/\AH.get (fA i W) p.1=p.2
 | [],_,_,h=>by cases h
 | q :: l, i, p, h => by
   rcases List.mem_cons.1 h with rfl|h
   ·exact ⟨Nat.le_refl _,by rw [fA,aK,if_pos rfl]⟩
   ·obtain ⟨h1,h2⟩:=mT h
    exact ⟨by omega,by rw [fA,aK,if_neg (by omega)];exact h2⟩
theorem DJ {W:dY}:(∀ p∈phs W,eQ (AH.get (phs W) p.1) p.2)=True:=eq_true λp hp=>by
 have e:AH.get (phs W) p.1=p.2:=(mT hp).2;rw [e];exact BT _
theorem DI {W:dY} {h:AH} {j:Nat} {o:AObj} (hj:j<1000000000):(∀ p∈phs W,eQ (AH.get ((j,o)::h) p.1) p.2) = ∀ p∈phs W,eQ (AH.get h p.1) p.2:=by
 have:∀ p∈phs W,AH.get ((j,o)::h) p.1=AH.get h p.1:=λp hp=>by
  have:=(mT hp).1;rw [aK,if_neg (by omega)]
 refine propext ⟨λht p hp=>by rw [<- this p hp];exact ht p hp,λht p hp=>by rw [this p hp];exact ht p hp⟩
def dD (P:Program) (f:Nat) (args:List VD) (R:RR->Prop):Prop:=
 vV P f /\ ∀ (w:World) (o:dY) (xs:Array Value),o.at w -> xs.size=args.length -> (∀ i vd,args[i]? = some vd -> mp w o.off (xs.getD i undef) vd) ->
  Calls P f xs w λe w'=>∃ v rr,e=.returned v/\R rr/\Below w.heap.size w w'/\vU w' o.off v rr
theorem qG {o:dY} {w:World} (h:o.at w) {c:Nat} (hc:w.heap.size<=c):o.off c:=λq hq he=>by
 have:=db (h.1 q hq);omega
theorem mp.toV {w:World} {S:Nat->Prop} {v:Value} {d:VD} (h:mp w S v d):RdV w v d:=by
 cases d with
 |c d=>exact Rd.map h (λ_ _ _=>rfl) (λ_ _ _=>trivial)
 | agg ds =>
   obtain ⟨xs,h1,h2,h3⟩:=h;exact ⟨xs,h1,h2,λj d hd=>(h3 j d hd).map (λ_ _ _=>rfl) (λ_ _ _=>trivial)⟩
theorem ai.toN {P:Program} {f:Nat} {args:List VD} {rr:RR} (hc:ai P f args rr):dD P f args (λr=>r=rr):=by
 refine ⟨hc.1,λw o xs ho hs hx=>(hc.2 w trivial xs hs (λi vd hi=>(hx i vd hi).toV)).mono ?_⟩
 rintro e w' ⟨v,rfl,hb,hr⟩
 exact ⟨v,rr,rfl,rfl,hb,hr.toN λc hc=>qG ho hc.1⟩
theorem xu {P:Program} {f:Nat} {args:List VD} {u:Value} (hu:plain u=true) (hc:dD P f args (λr=>r=.one (.c (.v u) 1))):ai P f args (.one (.c (.v u) 1)):=by
 refine ⟨hc.1,λw _ xs hs hx=>(hc.2 w [] xs ⟨by simp,by simp⟩ hs (λi vd hi=>?_)).mono ?_⟩
 ·have:=hx i vd hi
  cases vd with
  |c d=>exact Rd.map this (λ_ _ _=>rfl) (λ_ _ _ q hq=>by cases hq)
  | agg ds =>
    obtain ⟨ys,g1,g2,g3⟩:=this;exact ⟨ys,g1,g2,λj d hd=>(g3 j d hd).map (λ_ _ _=>rfl) (λ_ _ _ q hq=>by cases hq)⟩
 ·rintro e w' ⟨v,rr,rfl,rfl,hb,hr⟩
  have h:Rd w' false _ v (.v u):=hr
  cases h with
  |plain h=>exact ⟨_,rfl,hb,rfl,hu⟩
theorem dD.mono {P:Program} {f:Nat} {args:List VD} {R R':RR->Prop} (hc:dD P f args R) (h:∀ r,R r->R' r):dD P f args R':=by
 refine ⟨hc.1,λw o xs ho hs hx=>(hc.2 w o xs ho hs hx).mono ?_⟩
 rintro e w' ⟨v,rr,rfl,h1,hb,hr⟩
 exact ⟨v,rr,rfl,h _ h1,hb,hr⟩
theorem H8 {w:World} {M E:Nat->Prop} {o:AObj} (h:dN w M E o) {b:Nat} (hb:o.blk=some b):∃ cs T,w.heap[b]? = some (.cells cs T (0,0)):=by
 cases o with
 |dead=>cases hb
 |vars b' T cells=>obtain ⟨cs,h1,-⟩:=h;cases hb;exact ⟨cs,T,h1⟩
 |lent H sz rows=>cases hb
 | rows H sz rows own =>
   cases H with
   |none=>cases hb
   |some q=>obtain ⟨b',o,C⟩:=q;obtain ⟨cs,T,F,h1,-⟩:=h;cases hb;exact ⟨cs,T,h1⟩
 | part H sz rows lo =>
   cases H with
   |none=>cases hb
   |some q=>obtain ⟨b',o,C⟩:=q;obtain ⟨cs,T,F,h1,-⟩:=h;cases hb;exact ⟨cs,T,h1⟩
theorem AF:∀ {h:AH} {k:Nat},(AH.get h k).blk≠none->k∈h.map (·.1)
 | [],_,hk=>absurd rfl hk
 | (j, o) :: h, k, hk => by
   rw [aK] at hk
   split at hk
   ·rename_i e;rw [e];exact List.mem_cons_self ..
   ·exact List.mem_cons_of_mem _ (AF hk)
def ddl:List Nat->List Nat
 | []=>[]
 |a::l=>if a∈l then ddl l else a::ddl l
theorem sS {c:Nat}:∀ l:List Nat,c∈ddl l ↔ c∈l
 | []=>Iff.rfl
 | a :: l => by
   unfold ddl
   split
   ·rename_i h
    rw [sS l];exact ⟨λhc=>List.mem_cons_of_mem _ hc,λhc=>(List.mem_cons.1 hc).elim (λe=>e ▸ h) id⟩
   ·rw [List.mem_cons,List.mem_cons,sS l]
theorem rz:∀ l:List Nat,(ddl l).Nodup
 | []=>List.nodup_nil
 | a :: l => by
   unfold ddl
   split
   ·exact rz l
   ·rename_i h
    rw [List.nodup_cons];exact ⟨λhc=>h ((sS l).1 hc),rz l⟩
theorem Dd {w:World}:∀ {B:List Nat},B.Nodup->(∀ b∈B,∃ cs T,w.heap[b]? = some (.cells cs T (0,0)))->∃ W:dY,W.at w/\W.map (·.1)=B
 | [],_,_=>⟨[],⟨by simp,by simp⟩,rfl⟩
 | b :: B, hn, hb => by
   rw [List.nodup_cons] at hn;obtain ⟨W,h1,h2⟩:=Dd hn.2 (λc hc=>hb c (List.mem_cons_of_mem _ hc));obtain ⟨cs,T,h3⟩:=hb b (List.mem_cons_self ..);refine ⟨(b,cs,T)::W,⟨λq hq=>?_,?_⟩,by simp [h2]⟩
   ·rcases List.mem_cons.1 hq with rfl|hq
    ·exact h3
    ·exact h1.1 q hq
   ·simp only [List.map_cons,List.nodup_cons]
    exact ⟨by rw [h2];exact hn.1,h1.2⟩
theorem zj {base:Bs} {h:AH} {w:World} {E:Nat->Nat->Prop} (H:HRel base h w E) (p:Nat->Prop):∃ W:dY,W.at w/\∀ c,W.off c ↔ ¬ (h.M c/\p c):=by
 classical
 let B:List Nat:=ddl (((h.map (·.1)).filterMap λk=>(h.get k).blk).filter (λc=>decide (p c)))
 have hB:∀ c,c∈B ↔ h.M c/\p c:=by
  intro c;simp only [B,sS,List.mem_filter,List.mem_filterMap,decide_eq_true_eq]
  constructor
  ·rintro ⟨⟨k,-,hk⟩,hp⟩;exact ⟨⟨k,hk⟩,hp⟩
  ·rintro ⟨⟨k,hk⟩,hp⟩;exact ⟨⟨k,AF (by rw [hk];simp),hk⟩,hp⟩
 obtain ⟨W,h1,h2⟩:=Dd (w:=w) (B:=B) (rz _) (λb hb=>by
  obtain ⟨⟨k,hk⟩,-⟩:=(hB b).1 hb;exact H8 (H.obj k) hk)
 refine ⟨W,h1,λc=>?_⟩;rw [<- hB,<- h2];unfold dY.off
 constructor
 ·intro h hm
  obtain ⟨q,hq,e⟩:=List.mem_map.1 hm;exact h q hq e.symm
 ·intro h q hq e
  exact h (List.mem_map.2 ⟨q,hq,e.symm⟩)
theorem zT {E:Env} {st:ASt} {a:Act} {w:World} (hR:Rep E.w0 E.base st a w) {Es:Nat->Nat->Prop} (hH:HRel E.base st.h w Es) {S:Nat->Prop} (hoff:∀ c,¬ st.h.M c->S c):∀ (avs:List AV) (args:List VD) {us:Nat->Value} (_:∀ i av,avs[i]? = some av->VRel w st.h.M av (us i)) (_:kM E.rd [] avs args),avs.length=args.length/\∀ i d,args[i]? = some d->mp w S (us i) d:=by
 have one:∀ {x:AV} {u:Value} {d:CD},VRel w st.h.M x u->aIn E.rd [] x d->Rd w false S u d:=by
  intro x u d hv hk;unfold aIn at hk
  split at hk
  ·cases hv
   exact Rd.map hk (λb hb _=>hR.below.block b hb) (λc hc _=>hoff c (λ⟨k,hk⟩=>(hH.low k c hk).1 hc))
  ·simp at hk
  ·subst hk;cases hv with|v u hp=>exact .plain hp
  ·subst hk;cases hv;exact .empty _ _ (by intro h;cases h)
  ·subst hk;cases hv with|ro rows x hr=>exact hr.map (λ_ _ _=>rfl) (λc hc _=>hoff c hc)
  ·simp at hk
  ·exact hk.elim
 have oneL:∀ (l:List AV) (ds:List CD) {us:Nat->Value} (_:∀ i av,l[i]? = some av->VRel w st.h.M av (us i)) (_:vg E.rd [] l ds),l.length=ds.length/\∀ i d,ds[i]? = some d->Rd w false S (us i) d:=by
  intro l
  induction l with
  | nil =>
    intro ds us hv hk
    cases ds with
    |nil=>exact ⟨rfl,λi d hd=>by simp at hd⟩
    |cons _ _=>exact hk.elim
  | cons a l ih =>
    intro ds us hv hk
    cases ds with
    |nil=>exact hk.elim
    | cons d ds =>
      obtain ⟨h1,h2⟩:=ih ds (us:=λi=>us (i+1)) (λi av hi=>hv (i+1) av (by simpa using hi)) hk.2;refine ⟨by simp [h1],λi d' hd=>?_⟩
      cases i with
      |zero=>simp at hd;subst hd;exact one (hv 0 a rfl) hk.1
      |succ i=>exact h2 i d' (by simpa using hd)
 intro avs
 induction avs with
 | nil =>
   intro args us hv hk
   cases args with
   |nil=>exact ⟨rfl,λi d hd=>by simp at hd⟩
   |cons _ _=>exact hk.elim
 | cons a l ih =>
   intro args us hv hk
   cases args with
   |nil=>exact hk.elim
   | cons d ds =>
     obtain ⟨h1,h2⟩:=ih ds (us:=λi=>us (i+1)) (λi av hi=>hv (i+1) av (by simpa using hi)) hk.2;refine ⟨by simp [h1],λi d' hd=>?_⟩
     cases i with
     | zero =>
       simp at hd;subst hd;have h0:=hv 0 a rfl;have hk0:=hk.1;generalize us 0=u0 at h0 ⊢;unfold y7 at hk0
       split at hk0
       ·exact one h0 hk0
       ·split at hk0
        ·rename_i ds _ l
         cases h0 with
         | agg _ xs hs hl =>
           obtain ⟨g1,g2⟩:=oneL l ds hl hk0;exact ⟨xs,rfl,by omega,g2⟩
        ·exact hk0.elim
     |succ i=>exact h2 i d' (by simpa using hd)
theorem dA {E:Env} {f:Nat} {args:List VD} {R:RR->Prop} (hc:dD E.P f args R) {avs:List AV} {st:ASt} {dst:Option Nat} {K:ASt->Prop} (hin:kM E.rd [] avs args)
 (hout:∀ rr,R rr->aW st dst (roR rr) K):aa E f avs st dst K:=by
 refine ⟨hc.1,λa w hR xs hs hx=>?_⟩;obtain ⟨Es,hH⟩:=hR.heap;obtain ⟨o,ho,hoff⟩:=zj hH (λ_=>True);obtain ⟨hl,hr⟩:=zT hR hH (S:=o.off) (λc hc=>(hoff c).2 (λh=>hc h.1)) avs args hx hin;refine (hc.2 w o xs ho (by omega) hr).mono ?_
 rintro e w' ⟨v,rr,rfl,hRR,hb,hrr⟩
 have t:Tr st.h.M w st.h.M w':=⟨hb.size,λb hlt _=>hb.block b hlt,λb _ h=>h⟩;have H':HRel E.base st.h w' Es:=⟨λk=>(hH.obj k).tr t (λb hk=>hb.block b (hH.lt hk)) (λc hc _=>hc),hH.inj,hH.low,λk c hc=>⟨(hH.elow k c hc).1,Nat.lt_of_lt_of_le (hH.elow k c hc).2 hb.size⟩,hH.einj,hH.em⟩;have hv:VRel w' st.h.M (roR rr) v:=vU.rel hrr (λc hc hm=>(hoff c).1 hc ⟨hm,trivial⟩);obtain ⟨av',h3,h1,h2,h4,h5⟩:=(hR.move H' t ⟨hb.os,hb.tape,hb.output⟩).put hv (hout rr hRR);exact ⟨v,av',h3,rfl,h1,h2,h4,h5⟩
def rV (R:Value->CD->Prop) (h:AH) (x:AV) (r:RV):Prop:=
 match r with
 | .c d _=>aIn R h x d
 | .agg ts => match x with
   | .agg l=>vg R h l (ts.map Prod.fst)
   |_=>False
def pe (R:Value->CD->Prop) (h:AH):List AV->List RV->Prop
 | [],[]=>True
 |a::l,r::rs=>rV R h a r/\pe R h l rs
 |_,_=>False
def nQ (E:Env) (h:AH) (l:List AV) (rr:RR):Prop:=
 match rr with
 | .one r => match l with
   | [x]=>rV E.rd h x r
   |_=>False
 | .tup rs=>l.length≠1/\pe E.rd h l rs
theorem rU {base:Bs} {h:AH} {w:World} {E:Nat->Nat->Prop} (H:HRel base h w E) {S:Nat->Prop} (hS:∀ c,¬ h.M c->S c) (hSr:∀ k b o C sz rows own,h.get k=.rows (some (b,o,C)) sz rows own->S b)
 {R:Value->CD->Prop} (hR:∀ u d,R u d->Rd w false S u d) {x:AV} {u:Value} (hv:VRel w h.M x u) {r:RV} (hk:rV R h x r):zc w S u r:=by
 unfold rV at hk
 split at hk
 ·exact pB H hS hSr hR hv hk
 ·split at hk
  ·rename_i ts _ l
   cases hv with
   | agg _ xs hs hl =>
     obtain ⟨h1,h2⟩:=nz H hS hSr hR l _ hl hk;refine ⟨xs,rfl,by simp at h1;omega,λj t hj=>h2 j t.1 (by simp [hj])⟩
  ·exact hk.elim
theorem pT {base:Bs} {h:AH} {w:World} {E:Nat->Nat->Prop} (H:HRel base h w E) {S:Nat->Prop} (hS:∀ c,¬ h.M c->S c) (hSr:∀ k b o C sz rows own,h.get k=.rows (some (b,o,C)) sz rows own->S b)
 {R:Value->CD->Prop} (hR:∀ u d,R u d->Rd w false S u d):∀ (l:List AV) (rs:List RV) {us:Nat->Value} (_:∀ i av,l[i]? = some av->VRel w h.M av (us i)) (_:pe R h l rs),
 l.length=rs.length/\∀ j t,rs[j]? = some t->zc w S (us j) t
 | [],[],us,hv,hk=>⟨rfl,λj t hj=>by simp at hj⟩
 | a :: l, r :: rs, us, hv, hk => by
   obtain ⟨h1,h2⟩:=pT H hS hSr hR l rs (us:=λi=>us (i+1)) (λi av hi=>hv (i+1) av (by simpa using hi)) hk.2;refine ⟨by simp [h1],λj t hj=>?_⟩
   cases j with
   |zero=>simp at hj;subst hj;exact rU H hS hSr hR (hv 0 a rfl) hk.1
   |succ j=>exact h2 j t (by simpa using hj)
 | [],_::_,us,hv,hk=>hk.elim
 |_::_,[],us,hv,hk=>hk.elim
theorem Aa {E:Env} {h:AH} {w:World} {Es:Nat->Nat->Prop} (H:HRel E.base h w Es) {S:Nat->Prop} (hS:∀ c,¬ h.M c->S c) (hSr:∀ k b o C sz rows own,h.get k=.rows (some (b,o,C)) sz rows own->S b)
 (hR:∀ u d,E.rd u d->Rd w false S u d) {vs:List Value} {l:List AV} (hl:vs.length=l.length) (hv:∀ i av,l[i]? = some av->VRel w h.M av (vs.getD i undef)) {rr:RR} (hq:nQ E h l rr) :
 vU w S (if vs.length=1 then vs.getD 0 undef else .tuple vs.toArray) rr:=by
 unfold nQ at hq
 split at hq
 ·split at hq
  ·rename_i r x
   rw [if_pos (by simpa using hl)];exact rU H hS hSr hR (hv 0 x rfl) hq
  ·exact hq.elim
 ·rename_i rs
  obtain ⟨hne,hq⟩:=hq;obtain ⟨h1,h2⟩:=pT H hS hSr hR l rs hv hq;rw [if_neg (by omega)];exact ⟨vs.toArray,rfl,by simp;omega,λj t hj=>by simpa using h2 j t hj⟩
theorem xN {P:Program} {fn:Func} {tmps:Array Value} {w:World} {vs:List Value} (h1:(fn.results.toList.mapM (gt tmps)).run P w=.ok vs w):(results fn tmps).run P w=.ok (if vs.length=1 then vs.getD 0 undef else .tuple vs.toArray) w:=by
 rw [fL,Array.mapM_eq_mapM_toList];simp only [Sem.run_bind,Sem.run_map,h1,Result.andThen_ok,Sem.run_pure]
 cases vs with
 |nil=>simp
 |cons v vs=>cases vs<;>simp
theorem Dw {w:World} {o:dY} (ho:o.at w) (M E:Nat->Prop) (k:Nat):dN w M E (AH.get (phs o) k):=by
 rw [sO]
 split
 ·split
  ·rename_i q hq
   refine ⟨q.2.1,ho.1 q (List.mem_of_getElem? hq),by simp,λj av hj=>?_⟩;simp only [List.getElem?_map,Array.getElem?_toList,Option.map_eq_some_iff] at hj;obtain ⟨u,hu,rfl⟩:=hj;have:q.2.1.getD j undef=u:=by simp [Array.getD_eq_getD_getElem?,hu]
   rw [this];exact .is u
  ·trivial
 ·trivial
theorem Dv {w:World} {o:dY} (ho:o.at w) (base:Bs) (hb:∀ c,¬ o.off c->¬ base.F c/\¬ base.G c):HRel base (phs o) w (λ_ _=>False)/\∀ c,(phs o).M c ↔ ¬ o.off c:=by
 have hm:∀ c,(phs o).M c ↔ ¬ o.off c:=by
  intro c
  constructor
  ·rintro ⟨k,hk⟩ h
   obtain ⟨-,q,hq,e,-⟩:=xQ hk;exact h q (List.mem_of_getElem? hq) e.symm
  ·intro h
   obtain ⟨q,hq,e⟩:∃ q∈o,c=q.1:=Classical.byContradiction λhn=>h (λq hq he=>hn ⟨q,hq,he⟩)
   obtain ⟨k,-,hk⟩:=HJ hq;exact ⟨k,by rw [hk,e];rfl⟩
 exact ⟨⟨λk=>Dw ho _ _ k,λk k' c h h'=>Dx ho.2 h h',λk c h=>hb c ((hm c).1 ⟨k,h⟩),λ_ _ h=>h.elim,λ_ _ _ h=>h.elim,λ_ _ h=>h.elim⟩,hm⟩
theorem BK {w:World} {o:dY} (ho:o.at w) {n:Nat} {xs:Array Value} {t:List (Nat×AV)} (hn:xs.size<=n) (ht:∀ q,VRel w (λc=>¬ o.off c) (aD t q) ((xs++Array.replicate (n - xs.size) undef).getD q undef)) :
 Rep w ⟨λc=>c<w.heap.size/\o.off c,λc=>c<w.heap.size/\o.off c,false,λ_=>True⟩ { n:=n,kb:=0,t:=t,h:=phs o } { tmps:=xs++Array.replicate (n - xs.size) undef,defers:=[] } w:=by
 obtain ⟨hrel,hm⟩:=Dv ho ⟨λc=>c<w.heap.size/\o.off c,λc=>c<w.heap.size/\o.off c,false,λ_=>True⟩ (λc hc=>⟨λh=>hc h.2,λh=>hc h.2⟩);exact ⟨rfl,by simp;omega,λq=>(ht q).tr ⟨Nat.le_refl _,λ_ _ _=>rfl,λc _ hc=>(hm c).1 hc⟩,⟨_,hrel⟩,BelowF.refl _ _,λc hc=>hc.elim (λh=>h.1) (λh=>h.1)⟩
theorem nN {base:Bs} {h:AH} {w w':World} {E:Nat->Nat->Prop} (hH:HRel base h w' E) {o:dY} (ho:o.at w) (hg:hI h o) {c:Nat} (hc:¬ o.off c):w'.heap[c]? = w.heap[c]?/\∃ k,1000000000<=k/\(h.get k).blk=some c/\∃ b T l,h.get k=.vars b T l:=by
 obtain ⟨q,hq,rfl⟩:∃ q∈o,c=q.1:=Classical.byContradiction λhn=>hc (λq hq he=>hn ⟨q,hq,he⟩)
 obtain ⟨k,hk,he⟩:=HJ hq;have e:h.get k=phO q:=by rw [hg k hk,he]
 refine ⟨?_,k,hk,by rw [e];rfl,_,_,_,e⟩;have ob:=hH.obj k;rw [e] at ob;obtain ⟨cs',g1,g2,g3⟩:=ob;have hs:cs'.size=q.2.1.size:=by simpa using g2
 have:cs'=q.2.1:=by
  refine Array.ext hs (λj hj hj'=>?_);have:=g3 j (.is q.2.1[j]) (by simp [hj']);have e:cs'.getD j undef=cs'[j]:=by simp [Array.getD_eq_getD_getElem?,hj]
  rw [e] at this;generalize cs'[j]=y at this
  cases this;rfl
 rw [g1,this];exact (ho.1 q hq).symm
theorem q4 {P:Program} {Ty:Nat->Option TI} (hT:∀ t ti,Ty t=some ti->TIok P t ti) {fn:Func} {w w':World} {o:dY} (ho:o.at w) {R:RR->Prop} {st':ASt} {a':Act}
 (hR':Rep w ⟨λc=>c<w.heap.size/\o.off c,λc=>c<w.heap.size/\o.off c,false,λ_=>True⟩ st' a' w')
 (hq:dR ⟨P,Ty,w,⟨λc=>c<w.heap.size/\o.off c,λc=>c<w.heap.size/\o.off c,false,λ_=>True⟩⟩ st' fn.results.toList λl=>∃ rr,R rr/\nQ ⟨P,Ty,w,⟨λc=>c<w.heap.size/\o.off c,λc=>c<w.heap.size/\o.off c,false,λ_=>True⟩⟩ st'.h l rr/\hI st'.h o) :
 a'.defers=[]/\∃ v,(results fn a'.tmps).run P w'=.ok v w'/\∃ v' rr,Ending.returned v=.returned v'/\R rr/\Below w.heap.size w w'/\vU w' o.off v' rr:=by
 let B:Bs:=⟨λc=>c<w.heap.size/\o.off c,λc=>c<w.heap.size/\o.off c,false,λ_=>True⟩
 have hE:EOk ⟨P,Ty,w,B⟩:=⟨hT,λw' hb=>trivial⟩;obtain ⟨vs,l,h1,h2,h3,rr,hRR,h4,hg⟩:=dH hE hR' fn.results.toList hq;obtain ⟨Es,hH⟩:=hR'.heap
 refine ⟨hR'.dfr,_,xN h1,_,rr,rfl,hRR,⟨hR'.below.os,hR'.below.tape,hR'.below.output,hR'.below.size,λc hc=>?_⟩,
  Aa (E:=⟨P,Ty,w,B⟩) hH (S:=o.off) (λc hc=>Classical.byContradiction λh=>?_) (λk b' o' C sz rows own hgk=>Classical.byContradiction λh=>?_) (λv d hd=>?_) h2 h3 h4⟩
 ·by_cases h:o.off c
  ·exact hR'.below.block c ⟨hc,h⟩
  ·exact (nN hH ho hg h).1
 ·obtain ⟨-,k,-,hk,-⟩:=nN hH ho hg h
  exact hc ⟨k,hk⟩
 ·obtain ⟨-,k',-,hk,b,T,l,he⟩:=nN hH ho hg h
  have:=hH.inj k k' b' (by rw [hgk];rfl) hk;subst this;rw [hgk] at he;cases he
 ·exact Rd.map hd (λc hc _=>hR'.below.block c hc) (λc hc _=>hc.2)
def uU (E:Env) (o:dY) (rs:List ResultVar) (R:RR->Prop):Exit->ASt->Prop
 | .normal,st=>dR E st rs λl=>∃ rr,R rr/\nQ E st.h l rr/\hI st.h o
 | .ret,st=>dR E st rs λl=>∃ rr,R rr/\nQ E st.h l rr/\hI st.h o
 |_,_=>False
theorem mp.ph {w:World} {o:dY} {v:Value} {d:VD} (h:mp w o.off v d):VRel w (λc=>¬ o.off c) d.toAV v:=
 mp.rel (M:=λc=>¬ o.off c) (by
  cases d with
  |c d=>exact Rd.map h (λ_ _ _=>rfl) (λc hc _ hn=>hn hc)
  | agg ds =>
    obtain ⟨xs,h1,h2,h3⟩:=h;exact ⟨xs,h1,h2,λj d hd=>(h3 j d hd).map (λ_ _ _=>rfl) (λc hc _ hn=>hn hc)⟩)
theorem dD.intro {P : Program} {Ty : Nat → Option TI} (hT : ∀ t ti, Ty t = some ti → TIok P t ti) {f : Nat} {fn : Func} {c : Code} (hf : P.funcs[f]? = some fn) (hname : (fn.name == "runtime.NumGoroutine") = false) (hb : fn.body = some c)
 {n:Nat} {rs:List ResultVar} (hnt:fn.ntmps=n) (hrs:fn.results=⟨rs⟩) {args:List VD} {R:RR->Prop} (hn:args.length<=n)
 (h:∀ w0 base o,eu ⟨P,Ty,w0,⟨base,base,false,λ_=>True⟩⟩ c (uU ⟨P,Ty,w0,⟨base,base,false,λ_=>True⟩⟩ o rs R) { n:=n,kb:=0,t:=kl 0 args,h:=phs o }):dD P f args R:=by
 subst hnt;have hrs':fn.results.toList=rs:=by rw [hrs]
 subst hrs';refine ⟨⟨fn,hf,hname,by rw [hb];rfl⟩,λw o xs ho hs hx=>calls_of_wp hf hb ?_⟩;have hE:EOk ⟨P,Ty,w,⟨λc=>c<w.heap.size/\o.off c,λc=>c<w.heap.size/\o.off c,false,λ_=>True⟩⟩:=⟨hT,λw' hb=>trivial⟩
 have hR:=BK ho (n:=fn.ntmps) (xs:=xs) (t:=kl 0 args) (by omega) (λq=>by
  rw [kj,if_pos (Nat.zero_le q),Nat.sub_zero]
  split
  ·rename_i v hv
   have hlt:q<xs.size:=by rw [hs];exact (List.getElem?_eq_some_iff.1 hv).1
   have e:(xs++Array.replicate (fn.ntmps - xs.size) undef).getD q undef=xs.getD q undef:=by
    simp only [Array.getD_eq_getD_getElem?];rw [Array.getElem?_append_left hlt]
   rw [e];exact (hx q v hv).ph
  ·exact .any _)
 refine wp_mono (bQ hE c _ _ _ w hR (h w _ o)) ?_
 rintro e a' w' ⟨st',hq,hR'⟩
 cases e with
 |normal=>exact q4 hT ho hR' hq
 |ret=>exact q4 hT ho hR' hq
 |_=>exact hq.elim
theorem qJ {P : Program} {Ty : Nat → Option TI} (hT : ∀ t ti, Ty t = some ti → TIok P t ti) {f : Nat} {fn : Func} {c : Code} (hf : P.funcs[f]? = some fn) (hname : (fn.name == "runtime.NumGoroutine") = false) (hb : fn.body = some c)
 {n:Nat} {rs:List ResultVar} (hnt:fn.ntmps=n) (hrs:fn.results=⟨rs⟩) {bs:List (List CD)} {args:List VD} {R:RR->Prop} (hn:args.length+1<=n)
 (h:∀ w0 base o u,Rd w0 false base u (.s bs)->eu ⟨P,Ty,w0,⟨base,base,false,λ_=>True⟩⟩ c (uU ⟨P,Ty,w0,⟨base,base,false,λ_=>True⟩⟩ o rs R) { n:=n,kb:=0,t:=(0,.cv u bs.length)::kl 1 args,h:=phs o }):dD P f (.c (.s bs)::args) R:=by
 subst hnt;have hrs':fn.results.toList=rs:=by rw [hrs]
 subst hrs';refine ⟨⟨fn,hf,hname,by rw [hb];rfl⟩,λw o xs ho hs hx=>calls_of_wp hf hb ?_⟩;have hE:EOk ⟨P,Ty,w,⟨λc=>c<w.heap.size/\o.off c,λc=>c<w.heap.size/\o.off c,false,λ_=>True⟩⟩:=⟨hT,λw' hb=>trivial⟩;have hu:Rd w false o.off (xs.getD 0 undef) (.s bs):=hx 0 _ rfl;have hu0:Rd w false (λc=>c<w.heap.size/\o.off c) (xs.getD 0 undef) (.s bs):=hu.map (λ_ _ _=>rfl) (λc hc hl=>⟨hl,hc⟩);obtain ⟨ua,uc,hlen⟩:=hu.slice_len;simp only [List.length_cons] at hs
 have e:∀ q,q<xs.size->(xs++Array.replicate (fn.ntmps - xs.size) undef).getD q undef=xs.getD q undef:=λq hq=>by
  simp only [Array.getD_eq_getD_getElem?];rw [Array.getElem?_append_left hq]
 have hR:=BK ho (n:=fn.ntmps) (xs:=xs) (t:=(0,.cv (xs.getD 0 undef) bs.length)::kl 1 args) (by omega) (λq=>by
  unfold aD
  split
  ·rename_i h0
   subst h0;rw [e 0 (by omega)];exact .cv _ _ ⟨ua,uc,hlen⟩
  ·rename_i h0
   rw [kj]
   split
   ·split
    ·rename_i v hv
     have hlt:q - 1<args.length:=(List.getElem?_eq_some_iff.1 hv).1;rw [e q (by omega)];exact (hx q v (by rw [show q=q - 1+1 by omega];simpa using hv)).ph
    ·exact .any _
   ·exact .any _)
 refine wp_mono (bQ hE c _ _ _ w hR (h w _ o _ hu0)) ?_
 rintro e a' w' ⟨st',hq,hR'⟩
 cases e with
 |normal=>exact q4 hT ho hR' hq
 |ret=>exact q4 hT ho hR' hq
 |_=>exact hq.elim
def pE (P:Program) (T:TypeId) (bs:List (List CD)) (f:Nat) (args:List VD) (R:RR->Prop):Prop:=
 vV P f /\ ∀ (w:World) (o:dY) (b:Nat) (u:Value) (i h:Int) (xs:Array Value),o.at w -> o.off b -> 0 <= i -> i <= bs.length ->
  w.heap[b]? = some (.cells #[u,.int .i64 i,.int .i64 h] T (0,0)) -> Rd w false (λc => c ≠ b /\ o.off c) u (.s bs) ->
  xs.size=args.length+1 -> xs.getD 0 undef=.pointer (some ⟨b,0,none⟩) -> (∀ j vd,args[j]? = some vd -> mp w (λc => c ≠ b /\ o.off c) (xs.getD (j+1) undef) vd) ->
  Calls P f xs w λe w' => ∃ (v:Value) (rr:RR) (i' h':Int),e=.returned v /\ R rr /\ 0 <= i' /\ i' <= bs.length /\ w'.heap[b]? = some (.cells #[u,.int .i64 i',.int .i64 h'] T (0,0)) /\
   BelowF (λc=>c<w.heap.size/\c≠b) w w'/\vU w' (λc=>c≠b/\o.off c) v rr
theorem mp.map {w:World} {S S':Nat->Prop} {v:Value} {d:VD} (h:mp w S v d) (hS:∀ c,S c->S' c):mp w S' v d:=by
 cases d with
 |c d=>exact Rd.map h (λ_ _ _=>rfl) (λc hc _=>hS c hc)
 | agg ds =>
   obtain ⟨xs,h1,h2,h3⟩:=h;exact ⟨xs,h1,h2,λj d hd=>(h3 j d hd).map (λ_ _ _=>rfl) (λc hc _=>hS c hc)⟩
theorem gI.toN {P:Program} {T:TypeId} {bs:List (List CD)} {f:Nat} {args:List VD} {R:RR->Prop} (hc:gI P T bs f args R):pE P T bs f args R:=by
 refine ⟨hc.1,λw o b u i h xs o1 o2 a1 a2 a3 a4 a5 a6 a7=>(hc.2 w b u i h xs a1 a2 a3 (a4.map (λ_ _ _=>rfl) (λc hc _=>hc.1)) a5 a6 (λj vd hj=>(a7 j vd hj).map λc hc=>hc.1)).mono ?_⟩
 rintro e w' ⟨v,rr,i',h',rfl,h1,h2,h3,h4,h5,h6⟩
 exact ⟨v,rr,i',h',rfl,h1,h2,h3,h4,h5,h6.toN λc hc=>⟨by have:=db a3;omega,qG o1 hc.1⟩⟩
theorem pE.mono {P:Program} {T:TypeId} {bs:List (List CD)} {f:Nat} {args:List VD} {R R':RR->Prop} (hc:pE P T bs f args R) (hr:∀ r,R r->R' r):pE P T bs f args R':=by
 refine ⟨hc.1,λw o b u i h xs o1 o2 a1 a2 a3 a4 a5 a6 a7=>(hc.2 w o b u i h xs o1 o2 a1 a2 a3 a4 a5 a6 a7).mono ?_⟩
 rintro e w' ⟨v,rr,i',h',rfl,h1,h2,h3,h4,h5,h6⟩
 exact ⟨v,rr,i',h',rfl,hr _ h1,h2,h3,h4,h5,h6⟩
def uV (E:Env) (o:dY) (T:TypeId) (b:Nat) (u:Value) (n:Nat) (rs:List ResultVar) (R:RR->Prop):Exit->ASt->Prop
 | .normal,st=>dR E st rs λl=>∃ rr,R rr/\nQ E st.h l rr/\hI st.h o/\uN T b u n st.h
 | .ret,st=>dR E st rs λl=>∃ rr,R rr/\nQ E st.h l rr/\hI st.h o/\uN T b u n st.h
 |_,_=>False
theorem Lc {args:List VD} {n:Nat} {T:TypeId} {bs:List (List CD)} (hn:args.length+1<=n) {w:World} {o:dY} (ho:o.at w) {b:Nat} (hob:o.off b) {u:Value} {i hh:Int} {xs:Array Value}
 (hcell:w.heap[b]? = some (.cells #[u,.int .i64 i,.int .i64 hh] T (0,0))) (hu:Rd w false (λc=>c≠b/\o.off c) u (.s bs)) (hs:xs.size=args.length+1) (hx0:xs.getD 0 undef=.pointer (some ⟨b,0,none⟩))
 (hx:∀ j vd,args[j]? = some vd->mp w (λc=>c≠b/\o.off c) (xs.getD (j+1) undef) vd) :
 Rep w ⟨λc=>c<w.heap.size/\c≠b/\o.off c,λc=>c<w.heap.size/\c≠b/\o.off c,false,λ_=>True⟩ { n:=n,kb:=0,t:=(0,.p 0 b 0)::kl 1 args,h:=(0,.vars b T (cV u bs.length i hh))::phs o } { tmps:=xs++Array.replicate (n - xs.size) undef,defers:=[] } w:=by
 obtain ⟨hrel,hm⟩:=Dv ho ⟨λc=>c<w.heap.size/\c≠b/\o.off c,λc=>c<w.heap.size/\c≠b/\o.off c,false,λ_=>True⟩ (λc hc=>⟨λh=>hc h.2.2,λh=>hc h.2.2⟩);obtain ⟨ua,uc,hlen⟩:=hu.slice_len
 have hM:∀ c,AH.M ((0,.vars b T (cV u bs.length i hh))::phs o) c->¬ (c≠b/\o.off c):=by
  intro c hc h;rcases gH.1 hc with h1|⟨k,-,hk⟩
  ·simp [AObj.blk] at h1;exact h.1 h1.symm
  ·exact (hm c).1 ⟨k,hk⟩ h.2
 have hget:∀ k,AH.get ((0,.vars b T (cV u bs.length i hh))::phs o) k=if k=0 then .vars b T (cV u bs.length i hh) else AH.get (phs o) k:=λk=>by rw [aK]
 refine ⟨rfl,by simp;omega,λq=>?_,⟨λ_ _=>False,λk=>?_,λk k' c hk hk'=>?_,λk c hk=>?_,λk c hc=>hc.elim,λk k' c hc=>hc.elim,λk c hc=>hc.elim⟩,BelowF.refl _ _,λc hc=>hc.elim (λh=>h.1) (λh=>h.1)⟩
 ·show VRel w _ (aD ((0,.p 0 b 0)::kl 1 args) q) _
  have e:∀ q,q<xs.size->(xs++Array.replicate (n - xs.size) undef).getD q undef=xs.getD q undef:=λq hq=>by
   simp only [Array.getD_eq_getD_getElem?];rw [Array.getElem?_append_left hq]
  unfold aD
  split
  ·rename_i h0
   subst h0;rw [e 0 (by omega),hx0];exact .p _ _ _
  ·rename_i h0
   rw [kj]
   split
   ·split
    ·rename_i v hv
     have hlt:q - 1<args.length:=(List.getElem?_eq_some_iff.1 hv).1;rw [e q (by omega)];have:=hx (q - 1) v hv;rw [show q - 1+1=q by omega] at this;exact mp.rel (this.map λc hc hm=>hM c hm hc)
    ·exact .any _
   ·exact .any _
 ·rw [hget]
  split
  ·refine ⟨_,hcell,rfl,λj av hj=>?_⟩
   match j,hj with
   |0,hj=>cases hj;exact .cv _ _ ⟨ua,uc,hlen⟩
   |1,hj=>cases hj;exact .v _ rfl
   |2,hj=>cases hj;exact .v _ rfl
   |j+3,hj=>cases hj
  ·exact Dw ho _ _ k
 ·rw [hget] at hk hk'
  by_cases h1:k=0<;>by_cases h2:k'=0
  ·rw [h1,h2]
  ·rw [if_pos h1] at hk;rw [if_neg h2] at hk'
   simp [AObj.blk] at hk;exact absurd hob ((hm b).1 ⟨k',hk ▸ hk'⟩)
  ·rw [if_neg h1] at hk;rw [if_pos h2] at hk'
   simp [AObj.blk] at hk';exact absurd hob ((hm b).1 ⟨k,hk' ▸ hk⟩)
  ·rw [if_neg h1] at hk;rw [if_neg h2] at hk'
   exact Dx ho.2 hk hk'
 ·have:=hM c ⟨k,hk⟩
  exact ⟨λh=>this h.2,λh=>this h.2⟩
theorem rB {w:World} {M E:Nat->Prop} {b:Nat} {T:TypeId} {u:Value} {n:Nat} {i hh:Int} (ho:dN w M E (.vars b T (cV u n i hh))):w.heap[b]? = some (.cells #[u,.int .i64 i,.int .i64 hh] T (0,0)):=by
 obtain ⟨cs,g1,g2,g3⟩:=ho;have c0:=g3 0 _ rfl;have c1:=g3 1 _ rfl;have c2:=g3 2 _ rfl;have hs3:cs.size=3:=g2;have e0:cs.getD 0 undef=u:=by generalize cs.getD 0 undef=y at c0;cases c0;rfl
 have e1:cs.getD 1 undef=.int .i64 i:=by generalize cs.getD 1 undef=y at c1;cases c1;rfl
 have e2:cs.getD 2 undef=.int .i64 hh:=by generalize cs.getD 2 undef=y at c2;cases c2;rfl
 have:cs = #[u,.int .i64 i,.int .i64 hh]:=by
  refine Array.ext (by simp [hs3]) (λj h1 h2'=>?_);simp only [Array.getD_eq_getD_getElem?] at e0 e1 e2;rcases j with _|_|_|j
  ·rw [Array.getElem?_eq_getElem h1] at e0;exact e0
  ·rw [Array.getElem?_eq_getElem h1] at e1;exact e1
  ·rw [Array.getElem?_eq_getElem h1] at e2;exact e2
  ·omega
 rw [g1,this]
theorem pE.intro {P : Program} {Ty : Nat → Option TI} (hT : ∀ t ti, Ty t = some ti → TIok P t ti) {f : Nat} {fn : Func} {c : Code} (hf : P.funcs[f]? = some fn) (hname : (fn.name == "runtime.NumGoroutine") = false) (hb : fn.body = some c)
 {n:Nat} {rs:List ResultVar} (hnt:fn.ntmps=n) (hrs:fn.results=⟨rs⟩) {T:TypeId} {bs:List (List CD)} {args:List VD} {R:RR->Prop} (hn:args.length+1<=n)
 (h:∀ w0 base o b u i h,0<=i->i<=(bs.length:Int)->Rd w0 false base u (.s bs)->eu ⟨P,Ty,w0,⟨base,base,false,λ_=>True⟩⟩ c (uV ⟨P,Ty,w0,⟨base,base,false,λ_=>True⟩⟩ o T b u bs.length rs R)
  { n:=n,kb:=0,t:=(0,.p 0 b 0)::kl 1 args,h:=(0,.vars b T (cV u bs.length i h))::phs o }):pE P T bs f args R:=by
 subst hnt;have hrs':fn.results.toList=rs:=by rw [hrs]
 subst hrs';refine ⟨⟨fn,hf,hname,by rw [hb];rfl⟩,λw o b u i hh xs ho hob hi0 hi1 hcell hu hs hx0 hx=>calls_of_wp hf hb ?_⟩
 let F:Nat->Prop:=λc=>c<w.heap.size/\c≠b/\o.off c
 let bs0:Bs:=⟨F,F,false,λ_=>True⟩
 have hE:EOk ⟨P,Ty,w,bs0⟩:=⟨hT,λw' hb=>trivial⟩;have hR:=Lc hn ho hob hcell hu hs hx0 hx;have hu0:Rd w false F u (.s bs):=hu.map (λ_ _ _=>rfl) (λc hc hl=>⟨hl,hc⟩);refine wp_mono (bQ hE c _ _ _ w hR (h w F o b u i hh hi0 hi1 hu0)) ?_
 rintro e a' w' ⟨st',hq,hR'⟩
 have key:(dR ⟨P,Ty,w,bs0⟩ st' fn.results.toList λl => ∃ rr,R rr /\ nQ ⟨P,Ty,w,bs0⟩ st'.h l rr /\ hI st'.h o /\ uN T b u bs.length st'.h) -> a'.defers=[] /\ ∃ v,(results fn a'.tmps).run P w'=.ok v w' /\ ∃ (v':Value) (rr:RR) (i' h':Int),Ending.returned v=.returned v' /\ R rr /\ 0 <= i' /\ i' <= bs.length /\ w'.heap[b]? = some (.cells #[u,.int .i64 i',.int .i64 h'] T (0,0)) /\
  BelowF (λc=>c<w.heap.size/\c≠b) w w'/\vU w' (λc=>c≠b/\o.off c) v' rr:=by
  intro hq;obtain ⟨vs,l,h1,h2,h3,rr,hRR,h4,htl,i',h'',hg,k1,k2⟩:=dH hE hR' fn.results.toList hq;obtain ⟨Es,hH⟩:=hR'.heap;have hb0:(st'.h.get 0).blk=some b:=by rw [hg];rfl
  have hobj:=hH.obj 0;rw [hg] at hobj
  refine ⟨hR'.dfr,_,xN h1,_,rr,i',h'',rfl,hRR,k1,k2,rB hobj,⟨hR'.below.os,hR'.below.tape,hR'.below.output,hR'.below.size,λc hc=>?_⟩,
   Aa (E:=⟨P,Ty,w,bs0⟩) hH (S:=λc=>c≠b/\o.off c) (λc hc=>⟨λhe=>hc (he ▸ ⟨0,hb0⟩),Classical.byContradiction λh=>?_⟩) (λk b' o' C sz rows own hgk=>⟨λhe=>?_,Classical.byContradiction λh=>?_⟩) (λv d hd=>?_) h2 h3 h4⟩
  ·by_cases h:o.off c
   ·exact hR'.below.block c ⟨hc.1,hc.2,h⟩
   ·exact (nN hH ho htl h).1
  ·obtain ⟨-,k,-,hk,-⟩:=nN hH ho htl h
   exact hc ⟨k,hk⟩
  ·have:=hH.inj k 0 b (by rw [hgk,<- he];rfl) hb0
   subst this;rw [hg] at hgk;cases hgk
  ·obtain ⟨-,k',-,hk,b,T,l,he⟩:=nN hH ho htl h
   have:=hH.inj k k' b' (by rw [hgk];rfl) hk;subst this;rw [hgk] at he;cases he
  ·exact Rd.map hd (λc hc _=>hR'.below.block c hc) (λc hc _=>hc.2)
 cases e with
 |normal=>exact key hq
 |ret=>exact key hq
 |_=>exact hq.elim
theorem bM {E:Env} {T:TypeId} {bs:List (List CD)} {f:Nat} {args:List VD} {R:RR->Prop} (hc:pE E.P T bs f args R) {kc b n:Nat} {u:Value} {i hh:Int} {avs:List AV} {st:ASt} {dst:Option Nat} {K:ASt->Prop}
 (hu:E.rd u (.s bs)) (hn:bs.length=n) (hget:st.h.get kc=.vars b T (cV u n i hh)) (hi0:0<=i) (hi1:i<=(n:Int)) (hin:kM E.rd [] avs args)
 (hout:∀ rr i' h',R rr->0<=i'->i'<=(n:Int)->aW { st with h:=(kc,.vars b T (cV u n i' h'))::st.h } dst (roR rr) K):aa E f (.p kc b 0::avs) st dst K:=by
 subst hn;refine ⟨hc.1,λa w hR xs hs hx=>?_⟩;obtain ⟨Es,hH⟩:=hR.heap;have hblk:(st.h.get kc).blk=some b:=by rw [hget];rfl
 have hMb:st.h.M b:=⟨kc,hblk⟩;obtain ⟨o,ho,hoff⟩:=zj hH (λc=>c≠b);have hob:o.off b:=(hoff b).2 (λh=>h.2 rfl);have hM0:∀ c,¬ st.h.M c->c≠b/\o.off c:=λc hc=>⟨λhe=>hc (he ▸ hMb),(hoff c).2 (λh=>hc h.1)⟩
 have hM1:∀ c,c≠b/\o.off c->¬ st.h.M c:=λc hc hm=>(hoff c).1 hc.2 ⟨hm,hc.1⟩
 have g1:w.heap[b]? = _:=rB (by have:=hH.obj kc;rw [hget] at this;exact this);have hur:Rd w false (λc=>c≠b/\o.off c) u (.s bs):=Rd.map hu (λb hb _=>hR.below.block b hb) (λc hc _=>hM0 c (λ⟨k,hk⟩=>(hH.low k c hk).1 hc));obtain ⟨hl,hr⟩:=zT hR hH hM0 avs args (us:=λj=>xs.getD (j+1) undef) (λj av hj=>hx (j+1) av (by simpa using hj)) hin
 have hx0:xs.getD 0 undef=.pointer (some ⟨b,0,none⟩):=by
  have:=hx 0 _ rfl;generalize xs.getD 0 undef=y at this
  cases this;rfl
 refine (hc.2 w o b u i hh xs ho hob hi0 hi1 g1 hur (by simp at hs;omega) hx0 hr).mono ?_
 rintro e w' ⟨v,rr,i',h',rfl,hRR,k1,k2,hcell,hb,hrr⟩
 have fr:∀ c,c<w.heap.size->c≠b->w'.heap[c]? = w.heap[c]?:=λc h1 h2=>hb.block c ⟨h1,h2⟩
 obtain ⟨ua,uc,hlen⟩:=Rd.slice_len hu
 have H':=hH.upd (k:=kc) (o':=.vars b T (cV u bs.length i' h')) (Ek:=λ_=>False) hb.size (λc hlt hc=>fr c hlt (λhe=>by
  subst he;rcases hc with hc|⟨j,hj,hjb⟩
  ·exact hc hMb
  ·exact hj (hH.inj _ _ _ hjb hblk))) (λc hc=>by
  simp [AObj.blk] at hc;subst hc;exact ⟨hH.low kc b hblk,.inr hblk⟩) ⟨_,hcell,rfl,λj av hj=>by
  match j,hj with
  |0,hj=>cases hj;exact .cv _ _ ⟨ua,uc,hlen⟩
  |1,hj=>cases hj;exact .v _ rfl
  |2,hj=>cases hj;exact .v _ rfl
  |j+3,hj=>cases hj⟩ (λ_ hc=>hc.elim)
 have t:Tr st.h.M w (AH.M ((kc,.vars b T (cV u bs.length i' h'))::st.h)) w':=
  Tr.upd hH hb.size (λc hlt hm=>fr c hlt (λhe=>hm (he ▸ hMb))) (λc hc=>by simp [AObj.blk] at hc;subst hc;exact .inr hblk)
 have hM':∀ c,AH.M ((kc,.vars b T (cV u bs.length i' h'))::st.h) c->st.h.M c:=by
  intro c hm;rcases gH.1 hm with h1|⟨j,_,hj⟩
  ·simp [AObj.blk] at h1;exact h1 ▸ hMb
  ·exact ⟨j,hj⟩
 obtain ⟨av',h3,h1,h2,h4,h5⟩:=(hR.move H' t ⟨hb.os,hb.tape,hb.output⟩).put (vU.rel hrr (λc hc hm=>hM1 c hc (hM' c hm))) (hout rr i' h' hRR k1 k2);exact ⟨v,av',h3,rfl,h1,h2,h4,h5⟩
def Jz (P:Program) (T:TypeId) (bs:List (List CD)) (f:Nat):Prop:=
 vV P f /\ ∀ (w:World) (u:Value) (xs:Array Value),Rd w false (λ_ => True) u (.s bs) -> xs.size=1 -> xs.getD 0 undef=u ->
  Calls P f xs w λe w'=>∃ (b:Nat) (h:Int),e=.returned (.pointer (some ⟨b,0,none⟩))/\w.heap.size<=b/\Below w.heap.size w w'/\w'.heap[b]? = some (.cells #[u,.int .i64 0,.int .i64 h] T (0,0))
def yS (E:Env) (T:TypeId) (u:Value) (n:Nat) (rs:List ResultVar):Exit->ASt->Prop
 | .normal,st=>dR E st rs λl=>∃ k b h,l=[.p k b 0]/\st.h.get k=.vars b T (cV u n 0 h)
 | .ret,st=>dR E st rs λl=>∃ k b h,l=[.p k b 0]/\st.h.get k=.vars b T (cV u n 0 h)
 |_,_=>False
theorem Jz.intro {P : Program} {Ty : Nat → Option TI} (hT : ∀ t ti, Ty t = some ti → TIok P t ti) {f : Nat} {fn : Func} {c : Code} (hf : P.funcs[f]? = some fn) (hname : (fn.name == "runtime.NumGoroutine") = false) (hb : fn.body = some c)
 {n:Nat} {rs:List ResultVar} (hnt:fn.ntmps=n) (hrs:fn.results=⟨rs⟩) {T:TypeId} {bs:List (List CD)} (hn:1<=n)
 (h:∀ w0 base u,Rd w0 false base u (.s bs)->eu ⟨P,Ty,w0,⟨base,base,false,λ_=>True⟩⟩ c (yS ⟨P,Ty,w0,⟨base,base,false,λ_=>True⟩⟩ T u bs.length rs) { n:=n,kb:=0,t:=[(0,.cv u bs.length)],h:=[] }):Jz P T bs f:=by
 subst hnt;have hrs':fn.results.toList=rs:=by rw [hrs]
 subst hrs';refine ⟨⟨fn,hf,hname,by rw [hb];rfl⟩,λw u xs hu hs hx0=>calls_of_wp hf hb ?_⟩
 let F:Nat->Prop:=λc=>c<w.heap.size
 let B:Bs:=⟨F,F,false,λ_=>True⟩
 have hE:EOk ⟨P,Ty,w,B⟩:=⟨hT,λw' hb=>trivial⟩;have hu0:Rd w false F u (.s bs):=hu.within.map (λ_ _ _=>rfl) (λc hc _=>hc.2);obtain ⟨ua,uc,hlen⟩:=hu.slice_len
 have hR:Rep w B { n:=fn.ntmps,kb:=0,t:=[(0,.cv u bs.length)],h:=[] } { tmps:=xs++Array.replicate (fn.ntmps - xs.size) undef,defers:=[] } w:=by
  refine ⟨rfl,by simp;omega,λq=>?_,⟨λ_ _=>False,λk=>trivial,λk k' b hk=>by simp [AH.get,AObj.blk] at hk,λk b hk=>by simp [AH.get,AObj.blk] at hk,λk c hc=>hc.elim,λk k' c hc=>hc.elim,λk c hc=>hc.elim⟩,BelowF.refl _ _,λb hb=>hb.elim id id⟩
  show VRel w (AH.M []) (aD [(0,.cv u bs.length)] q) _
  unfold aD
  split
  ·rename_i h0
   subst h0
   have:(xs++Array.replicate (fn.ntmps - xs.size) undef).getD 0 undef=xs.getD 0 undef:=by
    simp only [Array.getD_eq_getD_getElem?];rw [Array.getElem?_append_left (by omega)]
   rw [this,hx0];exact .cv _ _ ⟨ua,uc,hlen⟩
  ·exact .any _
 refine wp_mono (bQ hE c _ _ _ w hR (h w F _ hu0)) ?_
 rintro e a' w' ⟨st',hq,hR'⟩
 have key:(dR ⟨P,Ty,w,B⟩ st' fn.results.toList λl=>∃ k b h,l=[.p k b 0]/\st'.h.get k=.vars b T (cV u bs.length 0 h))->a'.defers=[]/\∃ v,(results fn a'.tmps).run P w'=.ok v w'/\∃ (b:Nat) (h:Int),Ending.returned v=.returned (.pointer (some ⟨b,0,none⟩))/\w.heap.size<=b/\Below w.heap.size w w'/\w'.heap[b]? = some (.cells #[u,.int .i64 0,.int .i64 h] T (0,0)):=by
  intro hq;obtain ⟨vs,l,h1,h2,h3,k,b,h',rfl,hg⟩:=dH hE hR' fn.results.toList hq;obtain ⟨Es,hH⟩:=hR'.heap
  have hv0:vs.getD 0 undef=.pointer (some ⟨b,0,none⟩):=by
   have:=h3 0 _ rfl;generalize vs.getD 0 undef=y at this
   cases this;rfl
  have ho:=hH.obj k;rw [hg] at ho;refine ⟨hR'.dfr,_,xN h1,b,h',by rw [if_pos (by simpa using h2),hv0],Nat.le_of_not_lt (hH.low k b (by rw [hg];rfl)).1,⟨hR'.below.os,hR'.below.tape,hR'.below.output,hR'.below.size,hR'.below.block⟩,rB ho⟩
 cases e with
 |normal=>exact key hq
 |ret=>exact key hq
 |_=>exact hq.elim
theorem vo {E:Env} {T:TypeId} {bs:List (List CD)} {f:Nat} (hc:Jz E.P T bs f) {n:Nat} {u:Value} {st:ASt} {dst:Option Nat} {K:ASt->Prop}
 (hu:E.rd u (.s bs)) (hn:bs.length=n) (hout:∀ b h,aW { st with h:=(st.key dst,.vars b T (cV u n 0 h))::st.h } dst (.p (st.key dst) b 0) K):aa E f [.cv u n] st dst K:=by
 subst hn;refine ⟨hc.1,λa w hR xs hs hx=>?_⟩;obtain ⟨Es,hH⟩:=hR.heap
 have hx0:xs.getD 0 undef=u:=by
  have:=hx 0 _ rfl;generalize xs.getD 0 undef=y at this
  cases this;rfl
 refine (hc.2 w u xs (hR.rd _ _ hu) (by simpa using hs) hx0).mono ?_
 rintro e w' ⟨b,h',rfl,hle,hb,hcell⟩
 obtain ⟨ua,uc,hlen⟩:=Rd.slice_len hu
 have H':=hH.upd (k:=st.key dst) (o':=.vars b T (cV u bs.length 0 h')) (Ek:=λ_=>False) hb.size (λc hlt _=>hb.block c hlt) (λc hc=>by
  simp [AObj.blk] at hc;subst hc;exact ⟨hR.newer hle,.inl hle⟩) ⟨_,hcell,rfl,λj av hj=>by
  match j,hj with
  |0,hj=>cases hj;exact .cv _ _ ⟨ua,uc,hlen⟩
  |1,hj=>cases hj;exact .v _ rfl
  |2,hj=>cases hj;exact .v _ rfl
  |j+3,hj=>cases hj⟩ (λ_ hc=>hc.elim)
 have t:Tr st.h.M w (AH.M ((st.key dst,.vars b T (cV u bs.length 0 h'))::st.h)) w':=
  Tr.upd hH hb.size (λc hlt _=>hb.block c hlt) (λc hc=>by simp [AObj.blk] at hc;subst hc;exact .inl hle)
 obtain ⟨av',h3,h1,h2,h4,h5⟩:=(hR.move H' t ⟨hb.os,hb.tape,hb.output⟩).put (.p (st.key dst) b 0) (hout b h');exact ⟨_,av',h3,rfl,h1,h2,h4,h5⟩
theorem JG {W:dY}:wkH (phs W) (phs W)=True:=by rw [<- sX];exact DJ
theorem JF {W:dY} {h:AH} {j:Nat} {o:AObj} (hj:j<1000000000):wkH ((j,o)::h) (phs W)=wkH h (phs W):=by rw [<- sX,<- sX];exact DI hj
theorem ON {st:ASt}:st.ev (.const (.pointer none))=.any:=(rfl)
theorem Jc {E:Env} {o:dY} {rs:List ResultVar} {R:RR->Prop} {st:ASt}:uU E o rs R .normal st=dR E st rs λl=>∃ rr,R rr/\nQ E st.h l rr/\hI st.h o:=(rfl)
theorem Jb {E:Env} {o:dY} {rs:List ResultVar} {R:RR->Prop} {st:ASt}:uU E o rs R .ret st=dR E st rs λl=>∃ rr,R rr/\nQ E st.h l rr/\hI st.h o:=(rfl)
theorem CV {E:Env} {o:dY} {T:TypeId} {b:Nat} {u:Value} {n:Nat} {rs:List ResultVar} {R:RR->Prop} {st:ASt}:uV E o T b u n rs R .normal st=dR E st rs λl=>∃ rr,R rr/\nQ E st.h l rr/\hI st.h o/\uN T b u n st.h:=(rfl)
theorem CU {E:Env} {o:dY} {T:TypeId} {b:Nat} {u:Value} {n:Nat} {rs:List ResultVar} {R:RR->Prop} {st:ASt}:uV E o T b u n rs R .ret st=dR E st rs λl=>∃ rr,R rr/\nQ E st.h l rr/\hI st.h o/\uN T b u n st.h:=(rfl)
theorem FD {E:Env} {T:TypeId} {u:Value} {n:Nat} {rs:List ResultVar} {st:ASt}:yS E T u n rs .normal st=dR E st rs λl=>∃ k b h,l=[.p k b 0]/\st.h.get k=.vars b T (cV u n 0 h):=(rfl)
theorem FC {E:Env} {T:TypeId} {u:Value} {n:Nat} {rs:List ResultVar} {st:ASt}:yS E T u n rs .ret st=dR E st rs λl=>∃ k b h,l=[.p k b 0]/\st.h.get k=.vars b T (cV u n 0 h):=(rfl)
theorem Oa {E:Env} {h:AH} {x:AV} {r:RV}:nQ E h [x] (.one r)=rV E.rd h x r:=(rfl)
theorem N9 {E:Env} {h:AH} {l:List AV} {rs:List RV}:nQ E h l (.tup rs)=(l.length≠1/\pe E.rd h l rs):=(rfl)
theorem Ki {R:Value->CD->Prop} {h:AH} {x:AV} {d:CD} {sz:Nat}:rV R h x (.c d sz)=aIn R h x d:=(rfl)
theorem EB {R:Value->CD->Prop} {h:AH} {l:List AV} {ts:List (CD×Nat)}:rV R h (.agg l) (.agg ts)=vg R h l (ts.map Prod.fst):=(rfl)
theorem BY {R:Value->CD->Prop} {h:AH}:pe R h [] []=True:=(rfl)
theorem Ab {R:Value->CD->Prop} {h:AH} {x:AV} {l:List AV} {r:RV} {rs:List RV}:pe R h (x::l) (r::rs)=(rV R h x r/\pe R h l rs):=(rfl)
theorem Q5 {d:CD} {sz:Nat}:roV (.c d sz)=toAV d:=(rfl)
theorem JV {ts:List (CD×Nat)}:roV (.agg ts)=.agg (ts.map λt=>toAV t.1):=(rfl)
theorem JX {r:RV}:roR (.one r)=roV r:=(rfl)
theorem JW {l:List RV}:roR (.tup l)=.tup (l.map roV):=(rfl)
attribute [simp ↓] ON Jc Jb CV CU FD FC
attribute [simp] Oa N9 Ki EB BY Ab Q5 JV JX JW JG JF D5 tail_cons DJ DI J6
end Go.AM
namespace Go.Proofs.YtoldjebobgocpaaGreat
open Go.AM
set_option maxRecDepth 20000
set_option maxHeartbeats 6400000
def zI (w:Wld):Prop:=∀ j,∀ hj:j<w.tasks.length,w.tasks[j].pc=4
theorem Ei {w:Wld}:zI w ↔ ∀ t∈w.tasks,t.pc=4:=by
 constructor
 ·intro h t ht
  obtain ⟨j,hj,rfl⟩:=List.getElem_of_mem ht;exact h j hj
 ·exact λh j hj=>h _ (List.getElem_mem hj)
theorem Cn (w:Wld) (hl:du w<=2 ^ 30):ai Tryz.prog 40 [.agg w.row] (.one (.c (vb (zI w)) 1)):=by
 refine pci ae Tryz.func40 (λw0 base=>?_);obtain ⟨nh,n2,n3,n4⟩:=a9 hl;have hle:=aB n4;simp [Wld.row];intro b1;refine inl ae Tryz.func128 20000 (λw1 F=>?_);simp;refine inl ae Tryz.func233 30000 (λw2 F2=>?_);simp
 refine aq.intro eok (λi:Nat=>i<=w.tasks.length/\∀ j,j<i->∀ hj:j<w.tasks.length,w.tasks[j].pc=4) (λi=>⟨19,30000,[(8,.v (.int .i64 i)),(7,.v (.int .i64 w.tasks.length)),(0,.ro (w.tasks.map Task.row)),(1,.v (.func (.func 129) #[] #[]))],
  [(16,.vars b1 39 [.v (.bool w.h.shut),.ro (w.h.docs.map Doc.row),.ro (w.h.subs.map Sub.row),.v (.int .i64 w.h.last),.ro (w.locks.map ak),.ro (w.queues.map Queue.row),.ro (w.tasks.map Task.row),.v (.int .i64 w.step)])]⟩) (λi=>w.tasks.length - i) 0 (by simp) (by simp) (λi hi=>?_)
 by_cases hlt:i<w.tasks.length
 rotate_left
 ·have e:zI w:=λj hj=>hi.2 j (by omega) hj
  simp [hlt,e]
 simp [hlt];refine inl ae Tryz.func129 40000 (λw2 F2=>?_);simp [Task.row];intro b;by_cases c:w.tasks[i].pc=4
 ·simp [c]
  exact ⟨i+1,⟨by omega,λj hj hjl=>by
   by_cases hji:j=i
   ·subst hji;exact c
   ·exact hi.2 j (by omega) hjl⟩,by omega,ah (by omega)⟩
 have e:¬ zI w:=λh=>c (h i hlt)
 simp [c,ab e]
theorem Ha {w:Wld} (hm:¬ fF w=0) {p:Nat} (hp:p<fF w):stepTo w (cN w p)/\∃ k,wD w (cN w p) k:=by
 obtain ⟨wok,hs1⟩:=pV hm;by_cases ha:p<(cH w).length
 ·obtain ⟨k,hk,hke,hky⟩:=qA ha
  have ey:cN w p=(cr w k).1:=by unfold cN;rw [List.getElem?_eq_getElem ha];simp only [hke]
  rw [ey];exact ⟨.pick hky,k,IQ hky⟩
 have hs:p - (cH w).length<(bU w).length:=by unfold fF at hp;omega
 have ey:cN w p=(cf w (bU w)[p - (cH w).length]).1:=by unfold cN;rw [List.getElem?_eq_none (by omega),List.getElem?_eq_getElem hs]
 obtain ⟨q,hq,hqe⟩:=qW hs;obtain ⟨k,hk,rest,hql,-⟩:=eB wok hq;have hy:(cf w (bU w)[p - (cH w).length]).2=true:=by rw [gb wok hs1 hq hqe hk hql]
 rw [ey];exact ⟨.serve hy,Fh hy⟩
theorem Ez {w w':Wld} {k:Nat} (h:wD w w' k):w'.tasks.length=w.tasks.length:=by
 obtain ⟨_,t,e,-⟩:=h;rw [e,List.length_set]
theorem DQ {h:Hub} (hh:ao h) (picks:List Int):∀ (f n i:Nat) (w:Wld),Reach h i w -> dg w<f ->
 ∃ (e:Wld) (m:Nat),mb picks f n w=(e,((n+m:Nat):Int))/\Reach h (i+m) e/\fF e=0/\dg e+m<=dg w/\e.tasks.length=w.tasks.length
 | 0, n, i, w, r, hf => by
   have:=nT w.tasks;unfold dg at hf
   split at hf<;>omega
 | f + 1, n, i, w, r, hf => by
   by_cases hm:fF w=0
   ·exact ⟨w,0,by rw [uq hm];rfl,r,hm,by omega,rfl⟩
   ·rw [w9 hm]
    have hp:=wv picks n (show 0<fF w by omega);obtain ⟨s,k,hon⟩:=Ha hm hp;have hl:=EI (pV hm).1 hon;obtain ⟨e,m,h1,h2,h3,h4,h5⟩:=DQ hh picks f (n+1) (i+1) _ (.step r s) (by omega);refine ⟨e,m+1,?_,?_,h3,by omega,by rw [h5,Ez hon]⟩
    ·rw [h1];congr 2;omega
    ·rw [show i+(m+1)=i+1+m by omega];exact h2
theorem CB {h:Hub} (hh:ao h) {i:Nat} (hi:i<=1024) {w:Wld} (r:Reach h i w) (picks:List Int) :
 ∃ (e:Wld) (m:Nat),qn w picks=(e,(m:Int))/\Reach h (i+m) e/\fF e=0/\(m:Int)<=dg w/\m<=40/\e.tasks.length=w.tasks.length/\ap e/\(∀ t∈e.tasks,t.pc=4)/\¬ e.step=1000000:=by
 obtain ⟨wok,ws,wt⟩:=jZ hh r;have hb:=nT w.tasks;have hlen:=wok.2.2.2.1
 have hl:dg w<=40:=by
  unfold dg
  split<;>omega
 obtain ⟨e,m,h1,h2,h3,h4,h5⟩:=DQ hh picks 1000001 0 i w r (by omega)
 have h0:0<=dg e:=by
  have:=nT e.tasks;unfold dg
  split<;>omega
 obtain ⟨eok,es,-⟩:=jZ hh h2;have hst:¬ e.step=1000000:=by omega
 refine ⟨e,m,?_,h2,h3,by omega,by omega,h5,eok,(G8 eok hst).1 h3,hst⟩;unfold qn;rw [h1,Nat.zero_add]
theorem JQ {h:Hub} (hh:ao h) {i:Nat} {e:Wld} (r:Reach h i e) (hp:∀ t∈e.tasks,t.pc=4) :
 iU h e/\((fe e).length:Int)+AU e=e.tasks.length/\(jH e.tasks).Pairwise (λa b=>a.lin<b.lin)/\cw h ((jH e.tasks).map Task.c)=(e.h,(jH e.tasks).map Task.a):=by
 have I:=zK r;have c:=(jZ hh r).1;have L:=Id hh c I;exact ⟨L,Ft c I hp,LT I,L.2.2⟩
theorem D7 {E:Env} {all:List Oper} {st:ASt} {KV:AV->Prop} {dd:Option Nat} {op:Op} {ty:TypeId} {p:String} {af:Array Edge} {j:Nat} {b:Bool}:dh E all ⟨dd,op,ty,p,af,some (j,b)⟩ st KV=uY (gQ all j) λs=>qx (aD st.t s) b (ph (fu E st op KV)) (ph (KV .un)):=by
 simp only [dh,uY,qx]
 cases gQ all j<;>rfl
attribute [simp ↓] D7
def Fw (a b:Int):Int:=if a<b then -1 else if b<a then 1 else 0
theorem I5 (a b:Int):ai Tryz.prog 138 [.c (vi a),.c (vi b)] (.one (.c (vi (Fw a b)) 1)):=by
 refine pci ae Tryz.func138 (λw0 base=>?_);simp;refine inl ae Tryz.func236 20000 (λw1 F=>?_);simp;refine inl ae Tryz.func236 30000 (λw1 F=>?_);simp;by_cases h1:a<b
 ·simp [h1,Fw]
 ·by_cases h2:b<a
  ·simp [h1,h2,Fw]
  ·simp [h1,h2,Fw]
theorem oL (w:Wld) (_hl:du w<=2 ^ 30) (h10:w.tasks.length<=10):ai Tryz.prog 48 [.agg w.row] (.one (.c (.s ((fe w).map ak)) 1)):=by
 refine pci ae Tryz.func48 (λw0 base=>?_);simp [Wld.row];intro b1
 refine ag eok (λx:Nat×Hd=>x.1<=w.tasks.length) (λx=>⟨26,0,[(9,.v (.int .i64 x.1)),(8,.v (.int .i64 w.tasks.length)),(7,.ro (w.tasks.map Task.row)),(3,.sl 5000 x.2 1 0 (fp w.tasks x.1).length),(1,.p 16 b1 0)],
  [(16, .vars b1 39 [.v (.bool w.h.shut), .ro (w.h.docs.map Doc.row), .ro (w.h.subs.map Sub.row), .v (.int .i64 w.h.last), .ro (w.locks.map ak), .ro (w.queues.map Queue.row), .ro (w.tasks.map Task.row), .v (.int .i64 w.step)]),
   (5000,.rows x.2 1 ((fp w.tasks x.1).map nR) true)]⟩) (λx=>w.tasks.length - x.1) (0,none) (by simp) (by simp [fp]) (λx hx=>Ent.refl ?_)
 obtain ⟨i,H⟩:=x;simp only at hx ⊢;have hol:=tR w.tasks i;have e1:Go.IntKind.i64.wrap ((i:Int)+1)=((i+1:Nat):Int):=ah (by omega);by_cases hlt:i<w.tasks.length
 ·obtain ⟨t,ht⟩:∃ t,w.tasks[i]=t:=⟨_,rfl⟩
  have hf:dZ w.tasks i=t.lin:=by unfold dZ;rw [List.getElem?_eq_getElem hlt,ht]
  simp [hlt,ht,Task.row];intro b5;by_cases c:t.lin = -1
  ·have ho:fp w.tasks (i+1)=fp w.tasks i:=by rw [fp,hf,if_pos c]
   simp [c];refine Ent.refl ⟨i+1,by omega,by omega,H,?_⟩;simp [ho,e1]
  ·have ho:fp w.tasks (i+1)=fp w.tasks i++[i]:=by rw [fp,hf,if_neg c]
   simp [c];intro b19;refine ⟨by omega,λH2=>Ent.refl ⟨i+1,by omega,by omega,H2,?_⟩⟩;simp [ho,e1,nR]
 have hie:i=w.tasks.length:=by omega
 subst hie;obtain ⟨O,hO⟩:∃ O,fp w.tasks w.tasks.length=O:=⟨_,rfl⟩;have hOm:∀ x∈O,x<w.tasks.length:=λx hx=>o8 (hO ▸ hx)
 have hfo:fe w=(dK (dZ w.tasks) [] O).map λk:Nat=>(k:Int):=by unfold fe;rw [mW,hO]
 rw [hO] at hol ⊢;simp;refine inl ae Tryz.func136 20000 (λw1 F=>?_);simp;refine inl ae Tryz.func235 30000 (λw2 F2=>?_);simp;have h20:¬ (20:Int)<=(O.length:Int):=by omega
 have h21:¬ (20:Int)<(O.length:Int):=by omega
 refine ag eok (λ_:Unit=>True) (λ_=>⟨63,30000,[(8,.v (.int .i64 20)),(7,.v (.int .i64 0)),(6,.v (.int .i64 20)),(0,.sl 5000 H 1 0 O.length),(1,.v (.int .i64 O.length)),(2,.clo 137 [.p 16 b1 0])],
  [(16, .vars b1 39 [.v (.bool w.h.shut), .ro (w.h.docs.map Doc.row), .ro (w.h.subs.map Sub.row), .v (.int .i64 w.h.last), .ro (w.locks.map ak), .ro (w.queues.map Queue.row), .ro (w.tasks.map Task.row), .v (.int .i64 w.step)]),
   (5000,.rows H 1 (O.map nR) true)]⟩) (λ_=>0) () trivial (by simp) (λ_ _=>Ent.refl ?_)
 simp [h20];refine inl ae Tryz.func314 40000 (λw3 F3=>?_);simp;obtain ⟨f,hf⟩:∃ f,dZ w.tasks=f:=⟨_,rfl⟩;rw [hf] at hfo;have hfl:∀ k,∀ hk:k<w.tasks.length,w.tasks[k].lin=f k:=λk hk=>by rw [<- hf];unfold dZ;rw [List.getElem?_eq_getElem hk]
 refine ag eok (λm:Nat=>1<=m/\m<=O.length+1) (λm=>⟨53,40000,[(8,.v (.int .i64 m)),(0,.sl 5000 H 1 0 O.length),(1,.v (.int .i64 0)),(2,.v (.int .i64 O.length)),(3,.clo 137 [.p 16 b1 0])],
  [(16, .vars b1 39 [.v (.bool w.h.shut), .ro (w.h.docs.map Doc.row), .ro (w.h.subs.map Sub.row), .v (.int .i64 w.h.last), .ro (w.locks.map ak), .ro (w.queues.map Queue.row), .ro (w.tasks.map Task.row), .v (.int .i64 w.step)]),
   (5000,.rows H 1 ((dK f [] (O.take m)++O.drop m).map nR) true)]⟩) (λm=>O.length+1 - m) 1 (by omega) (by rw [Cj];simp;exact Go.IntWalk.i64_in _ (by omega)) (λm hm=>Ent.refl ?_)
 by_cases hlt:m<O.length
 rotate_left
 ·have hd:dK f [] (O.take m)++O.drop m=dK f [] O:=by rw [List.take_of_length_le (by omega),List.drop_eq_nil_of_le (by omega),List.append_nil]
  have hln:(dK f [] O).length=O.length:=by rw [pl];simp
  have hnr:((dK f [] O).map λk:Nat=>(k:Int)).map ak=(dK f [] O).map nR:=by rw [List.map_map];rfl
  rw [hfo,hnr];simp only [hd];simp [hlt]
  refine ag eok (λ_:Unit=>True) (λ_=>⟨63,30000,[(6,.v (.int .i64 20)),(0,.sl 5000 H 1 0 O.length),(1,.v (.int .i64 O.length)),(2,.clo 137 [.p 16 b1 0])],
   [(16, .vars b1 39 [.v (.bool w.h.shut), .ro (w.h.docs.map Doc.row), .ro (w.h.subs.map Sub.row), .v (.int .i64 w.h.last), .ro (w.locks.map ak), .ro (w.queues.map Queue.row), .ro (w.tasks.map Task.row), .v (.int .i64 w.step)]),
    (5000,.rows H 1 ((dK f [] O).map nR) true)]⟩) (λ_=>0) () trivial (by simp) (λ_ _=>Ent.refl ?_)
  simp [h21,hln]
 obtain ⟨P,hP⟩:∃ P,dK f [] (O.take m)=P:=⟨_,rfl⟩;obtain ⟨x,hx⟩:∃ x,O[m]=x:=⟨_,rfl⟩;obtain ⟨R,hR⟩:∃ R,O.drop (m+1)=R:=⟨_,rfl⟩;have hPl:P.length=m:=by rw [<- hP,pl,List.length_take];simp;omega
 have hRl:R.length=O.length - (m+1):=by rw [<- hR,List.length_drop]
 have hst:dK f [] (O.take m)++O.drop m=ik x P m++R:=by
  rw [hP,List.drop_eq_getElem_cons hlt,hx,hR];have:=EZ x P R;rw [hPl] at this;exact this
 have hPm:∀ k,∀ h:k<P.length,P[k]<w.tasks.length:=λk h=>by
  have h1:=List.getElem_mem h;generalize P[k]=y at h1;rw [<- hP] at h1;rcases ug h1 with h2|h2
  ·cases h2
  ·exact hOm y (List.mem_of_mem_take h2)
 have hxm:x<w.tasks.length:=hOm x (hx ▸ List.getElem_mem hlt);simp only [hst];simp [hlt]
 refine ag eok (λj:Nat=>j<=m/\∀ k,j<=k->∀ h:k<P.length,f x<f P[k]) (λj=>⟨53,40000,[(9,.v (.int .i64 j)),(8,.v (.int .i64 m)),(0,.sl 5000 H 1 0 O.length),(1,.v (.int .i64 0)),(2,.v (.int .i64 O.length)),(3,.clo 137 [.p 16 b1 0])],
  [(16, .vars b1 39 [.v (.bool w.h.shut), .ro (w.h.docs.map Doc.row), .ro (w.h.subs.map Sub.row), .v (.int .i64 w.h.last), .ro (w.locks.map ak), .ro (w.queues.map Queue.row), .ro (w.tasks.map Task.row), .v (.int .i64 w.step)]),
   (5000,.rows H 1 ((ik x P j++R).map nR) true)]⟩) (λj=>j) m ⟨Nat.le_refl _,λk h1 h2=>by omega⟩ (by simp) (λj hj=>Ent.refl ?_)
 obtain ⟨hj1,hj2⟩:=hj;have hSl:(ik x P j++R).length=O.length:=by rw [List.length_append,EX (by omega)];omega
 have hend:(∀ h:0<j,∀ h':j - 1<P.length,¬ f x<f P[j - 1])->ik x P j++R=dK f [] (O.take (m+1))++O.drop (m+1):=λh=>by
  rw [Ci hlt,hP,hx,hR,Et (by omega) hj2 h]
 rcases j with _|j
 ·have he:=hend (λh=>by omega)
  refine am.quiet eok mix (by kernel_rfl) ?_;simp only [he];simp;refine Ent.refl ⟨m+1,by omega,by omega,?_⟩;simp;exact ah (by omega)
 have hjP:j<P.length:=by omega
 have hb:=hPm j hjP;obtain ⟨S,hS⟩:∃ S,ik x P (j+1)++R=S:=⟨_,rfl⟩;rw [hS] at hSl hend
 have g1:S[j+1]'(by omega)=x:=by
  have:=EY (x:=x) (P:=P) (R:=R) (j:=j+1) (by omega);rw [hS,List.getElem?_eq_getElem (by omega)] at this
  injection this
 have g2:S[j]'(by omega)=P[j]:=by
  have:=EW (x:=x) (P:=P) (R:=R) hjP;rw [hS,List.getElem?_eq_getElem (by omega)] at this
  injection this
 have g3:=Ch (x:=x) (R:=R) hjP;rw [hS] at g3;rw [hS];obtain ⟨y,hy⟩:∃ y,P[j]=y:=⟨_,rfl⟩;rw [hy] at g2 g3 hb;have k1:j+1<O.length:=by omega
 have k2:j<O.length:=by omega
 have k3:(0:Int)<=(j:Int)+1:=by omega
 have k4:(j:Int)+1<(O.length:Int):=by omega
 have k5:(0:Int)<(j:Int)+1:=by omega
 have wj:=Go.IntWalk.i64_in (((j:Int)+1) - 1) (by omega);have wj2:Go.IntKind.i64.wrap (j:Int)=j:=Go.IntWalk.i64_in _ (by omega)
 have hcm:dc (Fw (f x) (f y)<0)=dc (f x<f y):=by
  unfold Fw;by_cases h1:f x<f y
  ·simp [h1]
  ·by_cases h2:f y<f x<;>simp [h1,h2]
 obtain ⟨tx,htx⟩:∃ t,w.tasks[x]=t:=⟨_,rfl⟩;obtain ⟨ty,hty⟩:∃ t,w.tasks[y]=t:=⟨_,rfl⟩;have hfx:tx.lin=f x:=htx ▸ hfl x hxm;have hfy:ty.lin=f y:=hty ▸ hfl y hb;refine drw eok mix [0,1,2,3,4,5,6,7,8,9,10,11,12,13] [14,15,16] (.c 14 14 1569 14814 (.c 14 15 0 14814 (.c 14 16 0 14814 (.l 14 14814) .s) .s) .s) ?_;simp [hSl,g1,g2,k1,k2,k3,k4,k5,wj2,nR]
 try intros
 refine inl ae Tryz.func137 60000 (λw4 F4=>?_);simp;refine am.quiet eok mix (by kernel_rfl) ?_;simp [hxm,hb,htx,hty,Task.row,hfx,hfy];refine ⟨_,_,I5 (f x) (f y),by simp,?_⟩;simp [k2,k3,k4,k5,wj2]
 try intros
 rw [hcm];by_cases lt:f x<f y
 ·simp [lt]
  refine drw eok mix [0,1,2,3,4,5,6,7,8,9,10,11,12,13,14,16] [15,17] (.c 16 15 51142 14393 (.c 16 17 14393 0 (.l 16 0) .s) .s) ?_;simp [hSl,g1,g2,k1,k2,k3,k4,wj2,nR]
  try intros
  have g4:((S.map nR).set (j+1) [.v (.int .i64 (y:Int))]).set j [.v (.int .i64 (x:Int))]=(ik x P j).map nR++R.map nR:=by
   have:=congrArg (List.map nR) g3;rw [List.map_set,List.map_set,List.map_append] at this;exact this
  refine Ent.refl ⟨j,⟨by omega,λk h1 h2=>?_⟩,by omega,?_⟩
  ·by_cases hk:k=j
   ·subst hk;rw [hy];exact lt
   ·exact hj2 k (by omega) h2
  ·simp [g4]
 ·have he:=hend (λ_ h'=>by simp only [Nat.add_sub_cancel,hy];exact lt)
  simp [ab lt,he];refine Ent.refl ⟨m+1,by omega,by omega,?_⟩;simp;exact ah (by omega)
end Go.Proofs.YtoldjebobgocpaaGreat
