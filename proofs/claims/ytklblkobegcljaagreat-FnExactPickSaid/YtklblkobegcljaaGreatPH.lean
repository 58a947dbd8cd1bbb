import Derived.Test.YtklblkobegcljaaGreatPG
import Derived.Test.YtklblkobegcljaaGreatME
import Derived.Test.YtklblkobegcljaaGreatMF
namespace Go.AM
open Go.RowKit
def EW(w:World)(S:Nat->Prop)(v:Value):RV->Prop
 | .c d _=>Rd w false S v d
 | .agg ts=>∃xs:Array Value,v=.agg xs/\xs.size=ts.length/\∀j t,ts[j]? = some t->Rd w false S (xs.getD j undef) t.1
def AQ(w:World)(S:Nat->Prop)(v:Value):RR->Prop
 | .one r=>EW w S v r
 | .tup l=>∃xs:Array Value,v=.tuple xs/\xs.size=l.length/\∀j t,l[j]? = some t->EW w S (xs.getD j undef) t
theorem sj.toN{w:World}{S S':Nat->Prop}{v:Value}{r:RV}(h:sj w S v r)(hS:∀c,S c->S' c):EW w S' v r:=by
 cases r with
 |c d sz=>exact(kL.rd h).weaken.map (λ_ _ _=>rfl) (λc hc _=>hS c hc)
 | agg ts =>
   obtain⟨xs,F,h1,h2,h3,h4,h5⟩:=h;exact⟨xs,h1,h2,λj t hj=>(kL.rd (h5 j t hj)).weaken.map (λ_ _ _=>rfl) (λc hc _=>hS c (h3 j c hc))⟩
theorem EV.toN{w:World}{S S':Nat->Prop}{v:Value}{r:RR}(h:EV w S v r)(hS:∀c,S c->S' c):AQ w S' v r:=by
 cases r with
 |one r=>exact sj.toN h hS
 | tup l =>
   obtain⟨xs,F,h1,h2,h3,h4,h5⟩:=h;exact⟨xs,h1,h2,λj t hj=>sj.toN (h5 j t hj) (λc hc=>hS c (h3 j c hc))⟩
theorem EW.rel{w:World}{M S:Nat->Prop}{v:Value}{r:RV}(h:EW w S v r)(hM:∀c,S c->¬M c):VRel w M (roV r) v:=by
 cases r with
 |c d sz=>exact ji (Rd.map h (λ_ _ _=>rfl) (λc hc _=>hM c hc))
 | agg ts =>
   obtain⟨xs,rfl,h2,h5⟩:=h;refine .agg _ _ (by simp[h2]) (λi av hi=>?_);simp only[bW,aR]at hi;obtain⟨t,ht,rfl⟩:=hi;exact ji ((h5 i t ht).map (λ_ _ _=>rfl) (λc hc _=>hM c hc))
theorem AQ.rel{w:World}{M S:Nat->Prop}{v:Value}{r:RR}(h:AQ w S v r)(hM:∀c,S c->¬M c):VRel w M (roR r) v:=by
 cases r with
 |one r=>exact EW.rel h hM
 | tup l =>
   obtain⟨xs,rfl,h2,h5⟩:=h;refine .tup _ _ (by simp[h2]) (λi av hi=>?_);simp only[bW,aR]at hi;obtain⟨t,ht,rfl⟩:=hi;exact EW.rel (h5 i t ht) hM
theorem ag.ro{E:Env}{f:Nat}{args:List VD}{rr:RR}(hc:ar E.P f args rr){avs:List AV}{st:ASt}{dst:Option Nat}{K:ASt->Prop}(hin:qR E.rd st.h avs args)
 (hout:bM st dst (roR rr) K):ag E f avs st dst K:=by
 refine⟨hc.1,λa w hR xs hs hx=>?_⟩;obtain⟨Es,hH⟩:=hR.heap;obtain⟨hl,hr⟩:=jW hH hR.rd avs args hx hin;refine(hc.2 w trivial xs aa hr).mono ?_
 rintro e w' ⟨v,rfl,hb,hrr⟩
 have t:Tr st.h.M w st.h.M w':=⟨hb.size,λb hlt _=>hb.block b hlt,λb _ h=>h⟩;have H':HRel E.base st.h w' Es:=⟨λk=>(hH.obj k).tr t (λb hk=>hb.block b (hH.lt hk)) (λc hc _=>hc),hH.inj,hH.low,λk c hc=>⟨(hH.elow k c hc).1,bV (hH.elow k c hc).2 hb.size⟩,hH.einj,hH.em⟩;have hv:VRel w' st.h.M (roR rr) v:=DK hrr (λc hc ⟨k,hk⟩=>xF);obtain⟨av',h3,h1,h2,h4,h5⟩:=(hR.move H' t ⟨hb.os,hb.tape,hb.output⟩).put hv hout;exact⟨v,av',h3,rfl,h1,h2,h4,h5⟩
abbrev gv:=List (Nat×Array Value×TypeId)
def gv.at(W:gv)(w:World):Prop:=(∀q∈W,w.heap[q.1]? = some (.cells q.2.1 q.2.2 (0,0)))/\(W.map (·.1)).Nodup
def gv.off(W:gv)(c:Nat):Prop:=∀q∈W,c≠q.1
def phO(q:Nat×Array Value×TypeId):AObj:=.vars q.1 q.2.2 (q.2.1.toList.map .is)
def iG:Nat->gv->AH
 |_,[]=>[]
 |i,q::l=>(i,phO q)::iG (i+1) l
def phs(W:gv):AH:=iG 1000000000 W
theorem v7:∀(W:gv) (i k:Nat),AH.get (iG i W) k=if i<=k then(match W[k-i]? with|some q=>phO q|none=>.dead)else .dead
 | [],i,k=>by simp[iG,AH.get]
 | q :: l, i, k => by
   rw[iG,br,v7 l];by_cases h:k=i
   ·subst h;simp
   ·rw[au h]
    by_cases h1:i+1<=k
    ·rw[ao h1,ao aa,show k-i=(k-(i+1))+1 from aa];rfl
    ·rw[au h1,au aa]
theorem yi(W:gv)(k:Nat):AH.get (phs W) k=if 1000000000<=k then(match W[k-1000000000]? with|some q=>phO q|none=>.dead)else .dead:=v7 W _ k
theorem Ub{W:gv}{k:Nat}(h:k<1000000000):AH.get (phs W) k=.dead:=by rw[yi,au aa]
theorem DO{W:gv}{k c:Nat}(h:(AH.get (phs W) k).blk=some c):1000000000<=k/\∃q,W[k-1000000000]? = some q/\q.1=c/\AH.get (phs W) k=phO q:=by
 rw[yi]at h⊢
 split at h
 ·rename_i hk
  rw[ao hk]
  split at h
  ·rename_i q hq
   exact⟨hk,q,hq,by simpa[phO,AObj.blk]using h,ab⟩
  ·cases h
 ·cases h
theorem QV{W:gv}{q:Nat×Array Value×TypeId}(h:q∈W):∃k,1000000000<=k/\AH.get (phs W) k=phO q:=by
 obtain⟨i,hi,rfl⟩:=fb h;exact⟨1000000000+i,aa,by rw[yi,ao aa];simp[hi]⟩
theorem Uc{W:gv}(hn:(W.map (·.1)).Nodup){k k' c:Nat}(h:(AH.get (phs W) k).blk=some c)(h':(AH.get (phs W) k').blk=some c):k=k':=by
 obtain⟨h1,q,hq,rfl,-⟩:=DO h;obtain⟨h2,q',hq',e,-⟩:=DO h';obtain⟨hi,rfl⟩:=an.1 hq;obtain⟨hi',rfl⟩:=an.1 hq';have:=(List.getElem_inj (xs:=W.map (·.1)) (i:=k'-1000000000) (j:=k-1000000000) (h₀:=by simpa using hi') (h₁:=by simpa using hi) hn).1 (by simpa using e);omega
def nN(h:AH)(W:gv):Prop:=∀k,1000000000<=k->AH.get h k=AH.get (phs W) k
theorem Nr{W:gv}:nN (phs W) W=True:=GQ λ_ _=>rfl
theorem tail_cons{W:gv}{h:AH}{j:Nat}{o:AObj}(hj:j<1000000000):nN ((j,o)::h) W=nN h W:=by
 have:∀k,1000000000<=k->AH.get ((j,o)::h) k=AH.get h k:=λk hk=>by rw[br,au aa]
 refine propext ⟨λht k hk=>by rw[<-this k hk];exact ht k hk,λht k hk=>by rw[this k hk];exact ht k hk⟩
theorem O6(a:AV):jZ a a:=by cases a<;>simp[jZ]
theorem GH:∀l:List AV,ALe l l
 | []=>trivial
 |a::l=>⟨O6 a,GH l⟩
theorem HF(o:AObj):fj o o:=by
 cases o with
 |vars b T cells=>exact⟨rfl,rfl,GH cells⟩
 |dead=>trivial
 |rows=>exact .inl rfl
 |lent=>exact rfl
 |part=>exact rfl
theorem qb:∀{W:gv}{i:Nat}{p:Nat×AObj},p∈iG i W->i<=p.1/\AH.get (iG i W) p.1=p.2
 | [],_,_,h=>j8
 | q :: l, i, p, h => by
   rcases aV.1 h with rfl|h
   ·exact⟨aF _,by rw[iG,br,ao rfl]⟩
   ·obtain⟨h1,h2⟩:=qb h
    exact⟨aa,by rw[iG,br,au aa];exact h2⟩
theorem MQ{W:gv}:(∀p∈phs W,fj (AH.get (phs W) p.1) p.2)=True:=GQ λp hp=>by
 have e:AH.get (phs W) p.1=p.2:=(qb hp).2;rw[e];exact HF _
theorem MP{W:gv}{h:AH}{j:Nat}{o:AObj}(hj:j<1000000000):(∀p∈phs W,fj (AH.get ((j,o)::h) p.1) p.2)=∀p∈phs W,fj (AH.get h p.1) p.2:=by
 have:∀p∈phs W,AH.get ((j,o)::h) p.1=AH.get h p.1:=λp hp=>by
  have:=(qb hp).1;rw[br,au aa]
 refine propext ⟨λht p hp=>by rw[<-this p hp];exact ht p hp,λht p hp=>by rw[this p hp];exact ht p hp⟩
def lK(P:Program)(f:Nat)(args:List VD)(R:RR->Prop):Prop:=
 xe P f/\∀(w:World) (o:gv) (xs:Array Value),o.at w->xs.size=args.length->(∀i vd,args[i]? = some vd->tB w o.off (xs.getD i undef) vd) ->
  Calls P f xs w λe w'=>∃v rr,e=.returned v/\R rr/\Below w.heap.size w w'/\AQ w' o.off v rr
theorem uW{o:gv}{w:World}(h:o.at w){c:Nat}(hc:w.heap.size<=c):o.off c:=λq hq he=>by
 have:=fo (h.1 q hq);omega
theorem tB.toV{w:World}{S:Nat->Prop}{v:Value}{d:VD}(h:tB w S v d):RdV w v d:=by
 cases d with
 |c d=>exact Rd.map h (λ_ _ _=>rfl) (λ_ _ _=>trivial)
 | agg ds =>
   obtain⟨xs,h1,h2,h3⟩:=h;exact⟨xs,h1,h2,λj d hd=>(h3 j d hd).map (λ_ _ _=>rfl) (λ_ _ _=>trivial)⟩
theorem ar.toN{P:Program}{f:Nat}{args:List VD}{rr:RR}(hc:ar P f args rr):lK P f args (λr=>r=rr):=by
 refine⟨hc.1,λw o xs ho hs hx=>(hc.2 w trivial xs hs (λi vd hi=>(hx i vd hi).toV)).mono ?_⟩
 rintro e w' ⟨v,rfl,hb,hr⟩
 exact⟨v,rr,rfl,rfl,hb,hr.toN λc hc=>uW ho hc.1⟩
theorem lK.mono{P:Program}{f:Nat}{args:List VD}{R R':RR->Prop}(hc:lK P f args R)(h:∀r,R r->R' r):lK P f args R':=by
 refine⟨hc.1,λw o xs ho hs hx=>(hc.2 w o xs ho hs hx).mono ?_⟩;exact JG
theorem Q8{w:World}{M E:Nat->Prop}{o:AObj}(h:eY w M E o){b:Nat}(hb:o.blk=some b):∃cs T,w.heap[b]? = some (.cells cs T (0,0)):=by
 cases o with
 |dead=>cases hb
 |vars b' T cells=>obtain⟨cs,h1,-⟩:=h;cases hb;exact⟨cs,T,h1⟩
 |lent H sz rows=>cases hb
 | rows H sz rows own =>
   exact KY
 | part H sz rows lo =>
   exact KY
theorem Gc:∀{h:AH}{k:Nat},(AH.get h k).blk≠none->k∈h.map (·.1)
 | [],_,hk=>absurd rfl hk
 | (j, o) :: h, k, hk => by
   rw[br]at hk
   split at hk
   ·rename_i e;rw[e];exact aK ..
   ·exact aD _ (Gc hk)
def ddl:List Nat->List Nat
 | []=>[]
 |a::l=>if a∈l then ddl l else a::ddl l
theorem yp{c:Nat}:∀l:List Nat,c∈ddl l↔c∈l
 | []=>Iff.rfl
 | a :: l => by
   unfold ddl
   split
   ·rename_i h
    rw[yp l];exact⟨λhc=>aD _ hc,λhc=>(aV.1 hc).elim (λe=>e ▸ h) id⟩
   ·rw[aV,aV,yp l]
theorem vI:∀l:List Nat,(ddl l).Nodup
 | []=>List.nodup_nil
 | a :: l => by
   unfold ddl
   split
   ·exact vI l
   ·rename_i h
    rw[xg];exact⟨λhc=>h ((yp l).1 hc),vI l⟩
theorem I5{w:World}:∀{B:List Nat},B.Nodup->(∀b∈B,∃cs T,w.heap[b]? = some (.cells cs T (0,0)))->∃W:gv,W.at w/\W.map (·.1)=B
 | [],_,_=>⟨[],⟨ab,ab⟩,rfl⟩
 | b :: B, hn, hb => by
   rw[xg]at hn;obtain⟨W,h1,h2⟩:=I5 hn.2 (λc hc=>hb c (aD _ hc));obtain⟨cs,T,h3⟩:=hb b (aK ..);refine⟨(b,cs,T)::W,⟨λq hq=>?_,?_⟩,by simp[h2]⟩
   ·rcases aV.1 hq with rfl|hq
    ·exact h3
    ·exact h1.1 q hq
   ·simp only[bK,xg]
    exact⟨by rw[h2];exact hn.1,h1.2⟩
theorem PD{base:Bs}{h:AH}{w:World}{E:Nat->Nat->Prop}(H:HRel base h w E)(p:Nat->Prop):∃W:gv,W.at w/\∀c,W.off c↔¬(h.M c/\p c):=by
 classical
 let B:List Nat:=ddl (((h.map (·.1)).filterMap λk=>(h.get k).blk).filter (λc=>decide (p c)))
 have hB:∀c,c∈B↔h.M c/\p c:=by
  intro c;simp only[B,yp,cj,fQ,bU]
  constructor
  ·rintro⟨⟨k,-,hk⟩,hp⟩;exact⟨⟨k,hk⟩,hp⟩
  ·rintro⟨⟨k,hk⟩,hp⟩;exact⟨⟨k,Gc (by rw[hk];simp),hk⟩,hp⟩
 obtain⟨W,h1,h2⟩:=I5 (w:=w) (B:=B) (vI _) (λb hb=>by
  obtain⟨⟨k,hk⟩,-⟩:=(hB b).1 hb;exact Q8 (H.obj k) hk)
 refine⟨W,h1,λc=>?_⟩;rw[<-hB,<-h2];unfold gv.off
 constructor
 ·intro h hm
  obtain⟨q,hq,e⟩:=cF.1 hm;exact h q hq e.symm
 ·intro h q hq e
  exact h (cF.2 ⟨q,hq,e.symm⟩)
theorem QX{E:Env}{st:ASt}{a:Act}{w:World}(hR:Rep E.w0 E.base st a w){Es:Nat->Nat->Prop}(hH:HRel E.base st.h w Es){S:Nat->Prop}(hoff:∀c,¬st.h.M c->S c):∀(avs:List AV) (args:List VD) {us:Nat->Value}(_:∀i av,avs[i]? = some av->VRel w st.h.M av (us i)) (_:qR E.rd [] avs args),avs.length=args.length/\∀i d,args[i]? = some d->tB w S (us i) d:=by
 have one:∀{x:AV}{u:Value}{d:CD},VRel w st.h.M x u->aIn E.rd [] x d->Rd w false S u d:=by
  intro x u d hv hk;unfold aIn at hk
  split at hk
  ·cases hv
   exact Rd.map hk (λb hb _=>hR.below.block b hb) (λc hc _=>hoff c (λ⟨k,hk⟩=>(hH.low k c hk).1 hc))
  ·simp at hk
  ·subst hk;cases hv with|v u hp=>exact .plain hp
  ·subst hk;cases hv;exact .empty _ _ eC
  ·subst hk;cases hv with|ro rows x hr=>exact hr.map (λ_ _ _=>rfl) (λc hc _=>hoff c hc)
  ·simp at hk
  ·exact hk.elim
 have oneL:∀(l:List AV) (ds:List CD) {us:Nat->Value}(_:∀i av,l[i]? = some av->VRel w st.h.M av (us i)) (_:zV E.rd [] l ds),l.length=ds.length/\∀i d,ds[i]? = some d->Rd w false S (us i) d:=by
  intro l
  induction l with
  | nil =>
    intro ds us hv hk
    cases ds with
    |nil=>exact⟨rfl,λi d hd=>nf⟩
    |cons _ _=>exact hk.elim
  | cons a l ih =>
    intro ds us hv hk
    cases ds with
    |nil=>exact hk.elim
    | cons d ds =>
      obtain⟨h1,h2⟩:=ih ds (us:=λi=>us (i+1)) (λi av hi=>hv (i+1) av dN) hk.2;refine⟨j9,λi d' hd=>?_⟩
      cases i with
      |zero=>simp at hd;subst hd;exact one (hv 0 a rfl) hk.1
      |succ i=>exact h2 i d' l0
 intro avs
 induction avs with
 | nil =>
   intro args us hv hk
   cases args with
   |nil=>exact⟨rfl,λi d hd=>nf⟩
   |cons _ _=>exact hk.elim
 | cons a l ih =>
   intro args us hv hk
   cases args with
   |nil=>exact hk.elim
   | cons d ds =>
     obtain⟨h1,h2⟩:=ih ds (us:=λi=>us (i+1)) (λi av hi=>hv (i+1) av dN) hk.2;refine⟨j9,λi d' hd=>?_⟩
     cases i with
     | zero =>
       simp at hd;subst hd;have h0:=hv 0 a rfl;have hk0:=hk.1;generalize us 0=u0 at h0⊢;unfold IR at hk0
       split at hk0
       ·exact one h0 hk0
       ·split at hk0
        ·rename_i ds _ l
         cases h0 with
         | agg _ xs hs hl =>
           obtain⟨g1,g2⟩:=oneL l ds hl hk0;exact⟨xs,rfl,aa,g2⟩
        ·exact hk0.elim
     |succ i=>exact h2 i d' l0
theorem lL{E:Env}{f:Nat}{args:List VD}{R:RR->Prop}(hc:lK E.P f args R){avs:List AV}{st:ASt}{dst:Option Nat}{K:ASt->Prop}(hin:qR E.rd [] avs args)
 (hout:∀rr,R rr->bM st dst (roR rr) K):ag E f avs st dst K:=by
 refine⟨hc.1,λa w hR xs hs hx=>?_⟩;obtain⟨Es,hH⟩:=hR.heap;obtain⟨o,ho,hoff⟩:=PD hH (λ_=>True);obtain⟨hl,hr⟩:=QX hR hH (S:=o.off) (λc hc=>(hoff c).2 (λh=>hc h.1)) avs args hx hin;refine(hc.2 w o xs ho aa hr).mono ?_
 rintro e w' ⟨v,rr,rfl,hRR,hb,hrr⟩
 have t:Tr st.h.M w st.h.M w':=⟨hb.size,λb hlt _=>hb.block b hlt,λb _ h=>h⟩;have H':HRel E.base st.h w' Es:=⟨λk=>(hH.obj k).tr t (λb hk=>hb.block b (hH.lt hk)) (λc hc _=>hc),hH.inj,hH.low,λk c hc=>⟨(hH.elow k c hc).1,bV (hH.elow k c hc).2 hb.size⟩,hH.einj,hH.em⟩;have hv:VRel w' st.h.M (roR rr) v:=AQ.rel hrr (λc hc hm=>(hoff c).1 hc ⟨hm,trivial⟩);obtain⟨av',h3,h1,h2,h4,h5⟩:=(hR.move H' t ⟨hb.os,hb.tape,hb.output⟩).put hv (hout rr hRR);exact⟨v,av',h3,rfl,h1,h2,h4,h5⟩
def wc(R:Value->CD->Prop)(h:AH)(x:AV)(r:RV):Prop:=
 match r with
 | .c d _=>aIn R h x d
 | .agg ts => match x with
   | .agg l=>zV R h l (ts.map Prod.fst)
   |_=>False
def s8(R:Value->CD->Prop)(h:AH):List AV->List RV->Prop
 | [],[]=>True
 |a::l,r::rs=>wc R h a r/\s8 R h l rs
 |_,_=>False
def nQ(E:Env)(h:AH)(l:List AV)(rr:RR):Prop:=
 match rr with
 | .one r => match l with
   | [x]=>wc E.rd h x r
   |_=>False
 | .tup rs=>l.length≠1/\s8 E.rd h l rs
theorem wb{base:Bs}{h:AH}{w:World}{E:Nat->Nat->Prop}(H:HRel base h w E){S:Nat->Prop}(hS:∀c,¬h.M c->S c)(hSr:∀k b o C sz rows own,h.get k=.rows (some (b,o,C)) sz rows own->S b)
 {R:Value->CD->Prop}(hR:∀u d,R u d->Rd w false S u d) {x:AV}{u:Value}(hv:VRel w h.M x u) {r:RV}(hk:wc R h x r):EW w S u r:=by
 unfold wc at hk
 split at hk
 ·exact zT H hS hSr hR hv hk
 ·split at hk
  ·rename_i ts _ l
   cases hv with
   | agg _ xs hs hl =>
     obtain⟨h1,h2⟩:=wK H hS hSr hR l _ hl hk;refine⟨xs,rfl,by simp at h1;omega,λj t hj=>h2 j t.1 (by simp[hj])⟩
  ·exact hk.elim
theorem uj{base:Bs}{h:AH}{w:World}{E:Nat->Nat->Prop}(H:HRel base h w E){S:Nat->Prop}(hS:∀c,¬h.M c->S c)(hSr:∀k b o C sz rows own,h.get k=.rows (some (b,o,C)) sz rows own->S b)
 {R:Value->CD->Prop}(hR:∀u d,R u d->Rd w false S u d):∀(l:List AV) (rs:List RV) {us:Nat->Value}(_:∀i av,l[i]? = some av->VRel w h.M av (us i)) (_:s8 R h l rs),
 l.length=rs.length/\∀j t,rs[j]? = some t->EW w S (us j) t
 | [],[],us,hv,hk=>⟨rfl,λj t hj=>oO⟩
 | a :: l, r :: rs, us, hv, hk => by
   obtain⟨h1,h2⟩:=uj H hS hSr hR l rs (us:=λi=>us (i+1)) (λi av hi=>hv (i+1) av dN) hk.2;refine⟨j9,λj t hj=>?_⟩
   cases j with
   |zero=>simp at hj;subst hj;exact wb H hS hSr hR (hv 0 a rfl) hk.1
   |succ j=>exact h2 j t iZ
 | [],_::_,us,hv,hk=>hk.elim
 |_::_,[],us,hv,hk=>hk.elim
theorem FD{E:Env}{h:AH}{w:World}{Es:Nat->Nat->Prop}(H:HRel E.base h w Es){S:Nat->Prop}(hS:∀c,¬h.M c->S c)(hSr:∀k b o C sz rows own,h.get k=.rows (some (b,o,C)) sz rows own->S b)
 (hR:∀u d,E.rd u d->Rd w false S u d) {vs:List Value}{l:List AV}(hl:vs.length=l.length) (hv:∀i av,l[i]? = some av->VRel w h.M av (vs.getD i undef)) {rr:RR}(hq:nQ E h l rr) :
 AQ w S (if vs.length=1 then vs.getD 0 undef else .tuple vs.toArray) rr:=by
 unfold nQ at hq
 split at hq
 ·split at hq
  ·rename_i r x
   rw[ao (by simpa using hl)];exact wb H hS hSr hR (hv 0 x rfl) hq
  ·exact hq.elim
 ·rename_i rs
  obtain⟨hne,hq⟩:=hq;obtain⟨h1,h2⟩:=uj H hS hSr hR l rs hv hq;rw[au aa];exact⟨vs.toArray,rfl,aM,λj t hj=>by simpa using h2 j t hj⟩
theorem MB{P:Program}{fn:Func}{tmps:Array Value}{w:World}{vs:List Value}(h1:(fn.results.toList.mapM (jy tmps)).run P w=.ok vs w):(results fn tmps).run P w=.ok (if vs.length=1 then vs.getD 0 undef else .tuple vs.toArray) w:=by
 rw[mH,sR];simp only[eM,Sem.run_map,h1,cM,fp]
 cases vs with
 |nil=>simp
 |cons v vs=>cases vs<;>simp
theorem Ua{w:World}{o:gv}(ho:o.at w)(M E:Nat->Prop)(k:Nat):eY w M E (AH.get (phs o) k):=by
 rw[yi]
 split
 ·split
  ·rename_i q hq
   refine⟨q.2.1,ho.1 q (aP hq),ab,λj av hj=>?_⟩;simp only[bW,od,aR]at hj;obtain⟨u,hu,rfl⟩:=hj;have:q.2.1.getD j undef=u:=by simp[hu]
   rw[this];exact .is u
  ·trivial
 ·trivial
theorem T9{w:World}{o:gv}(ho:o.at w)(base:Bs)(hb:∀c,¬o.off c->¬base.F c/\¬base.G c):HRel base (phs o) w (λ_ _=>False)/\∀c,(phs o).M c↔¬o.off c:=by
 have hm:∀c,(phs o).M c↔¬o.off c:=by
  intro c
  constructor
  ·rintro⟨k,hk⟩ h
   obtain⟨-,q,hq,e,-⟩:=DO hk;exact h q (aP hq) e.symm
  ·intro h
   obtain⟨q,hq,e⟩:∃q∈o,c=q.1:=aW λhn=>h (λq hq he=>hn ⟨q,hq,he⟩)
   obtain⟨k,-,hk⟩:=QV hq;exact⟨k,by rw[hk,e];rfl⟩
 exact⟨⟨λk=>Ua ho _ _ k,λk k' c h h'=>Uc ho.2 h h',λk c h=>hb c ((hm c).1 ⟨k,h⟩),λ_ _ h=>h.elim,λ_ _ _ h=>h.elim,λ_ _ h=>h.elim⟩,hm⟩
theorem Hy{w:World}{o:gv}(ho:o.at w){n:Nat}{xs:Array Value}{t:List (Nat×AV)}(hn:xs.size<=n)(ht:∀q,VRel w (λc=>¬o.off c) (bB t q) ((xs++Array.replicate (n-xs.size) undef).getD q undef)) :
 Rep w ⟨λc=>c<w.heap.size/\o.off c,λc=>c<w.heap.size/\o.off c,false,λ_=>True⟩ { n:=n,kb:=0,t:=t,h:=phs o } { tmps:=xs++Array.replicate (n-xs.size) undef,defers:=[] } w:=by
 obtain⟨hrel,hm⟩:=T9 ho ⟨λc=>c<w.heap.size/\o.off c,λc=>c<w.heap.size/\o.off c,false,λ_=>True⟩ (λc hc=>⟨λh=>hc h.2,λh=>hc h.2⟩);exact⟨rfl,aM,λq=>(ht q).tr ⟨aF _,λ_ _ _=>rfl,λc _ hc=>(hm c).1 hc⟩,⟨_,hrel⟩,BelowF.refl _ _,λc hc=>hc.elim (λh=>h.1) (λh=>h.1)⟩
theorem rL{base:Bs}{h:AH}{w w':World}{E:Nat->Nat->Prop}(hH:HRel base h w' E){o:gv}(ho:o.at w)(hg:nN h o){c:Nat}(hc:¬o.off c):w'.heap[c]? = w.heap[c]?/\∃k,1000000000<=k/\(h.get k).blk=some c/\∃b T l,h.get k=.vars b T l:=by
 obtain⟨q,hq,rfl⟩:∃q∈o,c=q.1:=aW λhn=>hc (λq hq he=>hn ⟨q,hq,he⟩)
 obtain⟨k,hk,he⟩:=QV hq;have e:h.get k=phO q:=by rw[hg k hk,he]
 refine⟨?_,k,hk,by rw[e];rfl,_,_,_,e⟩;have ob:=hH.obj k;rw[e]at ob;obtain⟨cs',g1,g2,g3⟩:=ob;have hs:cs'.size=q.2.1.size:=by simpa using g2
 have:cs'=q.2.1:=by
  refine Array.ext hs (λj hj hj'=>?_);have:=g3 j (.is q.2.1[j]) (by simp[hj']);have e:cs'.getD j undef=cs'[j]:=by simp[hj]
  rw[e]at this;generalize cs'[j]=y at this
  cases this;rfl
 rw[g1,this];exact(ho.1 q hq).symm
theorem DP{P:Program}{Ty:Nat->Option TI}(hT:∀t ti,Ty t=some ti->TIok P t ti){fn:Func}{w w':World}{o:gv}(ho:o.at w){R:RR->Prop}{st':ASt}{a':Act}
 (hR':Rep w ⟨λc=>c<w.heap.size/\o.off c,λc=>c<w.heap.size/\o.off c,false,λ_=>True⟩ st' a' w')
 (hq:gu ⟨P,Ty,w,⟨λc=>c<w.heap.size/\o.off c,λc=>c<w.heap.size/\o.off c,false,λ_=>True⟩⟩ st' fn.results.toList λl=>∃rr,R rr/\nQ ⟨P,Ty,w,⟨λc=>c<w.heap.size/\o.off c,λc=>c<w.heap.size/\o.off c,false,λ_=>True⟩⟩ st'.h l rr/\nN st'.h o) :
 a'.defers=[]/\∃v,(results fn a'.tmps).run P w'=.ok v w'/\∃v' rr,Ending.returned v=.returned v'/\R rr/\Below w.heap.size w w'/\AQ w' o.off v' rr:=by
 let B:Bs:=⟨λc=>c<w.heap.size/\o.off c,λc=>c<w.heap.size/\o.off c,false,λ_=>True⟩
 have hE:EOk ⟨P,Ty,w,B⟩:=⟨hT,λw' hb=>trivial⟩;obtain⟨vs,l,h1,h2,h3,rr,hRR,h4,hg⟩:=fT hE hR' fn.results.toList hq;obtain⟨Es,hH⟩:=hR'.heap
 refine⟨hR'.dfr,_,MB h1,_,rr,rfl,hRR,⟨hR'.below.os,hR'.below.tape,hR'.below.output,hR'.below.size,λc hc=>?_⟩,
  FD (E:=⟨P,Ty,w,B⟩) hH (S:=o.off) (λc hc=>aW λh=>?_) (λk b' o' C sz rows own hgk=>aW λh=>?_) (λv d hd=>?_) h2 h3 h4⟩
 ·by_cases h:o.off c
  ·exact hR'.below.block c ⟨hc,h⟩
  ·exact(rL hH ho hg h).1
 ·obtain⟨-,k,-,hk,-⟩:=rL hH ho hg h
  exact hc ⟨k,hk⟩
 ·obtain⟨-,k',-,hk,b,T,l,he⟩:=rL hH ho hg h
  have:=hH.inj k k' b' (by rw[hgk];rfl) hk;subst this;rw[hgk]at he;cases he
 ·exact Rd.map hd (λc hc _=>hR'.below.block c hc) (λc hc _=>hc.2)
def zK(E:Env)(o:gv)(rs:List ResultVar)(R:RR->Prop):Exit->ASt->Prop
 | .normal,st=>gu E st rs λl=>∃rr,R rr/\nQ E st.h l rr/\nN st.h o
 | .ret,st=>gu E st rs λl=>∃rr,R rr/\nQ E st.h l rr/\nN st.h o
 |_,_=>False
theorem tB.ph{w:World}{o:gv}{v:Value}{d:VD}(h:tB w o.off v d):VRel w (λc=>¬o.off c) d.toAV v:=
 tB.rel (M:=λc=>¬o.off c) (by
  cases d with
  |c d=>exact Rd.map h (λ_ _ _=>rfl) (λc hc _ hn=>hn hc)
  | agg ds =>
    obtain⟨xs,h1,h2,h3⟩:=h;exact⟨xs,h1,h2,λj d hd=>(h3 j d hd).map (λ_ _ _=>rfl) (λc hc _ hn=>hn hc)⟩)
theorem lK.intro {P : Program} {Ty : Nat → Option TI} (hT : ∀ t ti, Ty t = some ti → TIok P t ti) {f : Nat} {fn : Func} {c : Code} (hf : P.funcs[f]? = some fn) (hname : (fn.name == "runtime.NumGoroutine") = false) (hb : fn.body = some c)
 {n:Nat}{rs:List ResultVar}(hnt:fn.ntmps=n) (hrs:fn.results=⟨rs⟩) {args:List VD}{R:RR->Prop}(hn:args.length<=n)
 (h:∀w0 base o,gM ⟨P,Ty,w0,⟨base,base,false,λ_=>True⟩⟩ c (zK ⟨P,Ty,w0,⟨base,base,false,λ_=>True⟩⟩ o rs R) { n:=n,kb:=0,t:=mZ 0 args,h:=phs o }):lK P f args R:=by
 subst hnt;have hrs':fn.results.toList=rs:=kY;subst hrs';refine⟨⟨fn,hf,hname,ka⟩,λw o xs ho hs hx=>iJ hf hb ?_⟩;have hE:EOk ⟨P,Ty,w,⟨λc=>c<w.heap.size/\o.off c,λc=>c<w.heap.size/\o.off c,false,λ_=>True⟩⟩:=⟨hT,λw' hb=>trivial⟩
 have hR:=Hy ho (n:=fn.ntmps) (xs:=xs) (t:=mZ 0 args) aa (λq=>by
  rw[qJ,ao (iu q),jf]
  split
  ·exact Cw
  ·exact .any _)
 refine gz (dq hE c _ _ _ w hR (h w _ o)) ?_
 rintro e a' w' ⟨st',hq,hR'⟩
 cases e with
 |normal=>exact DP hT ho hR' hq
 |ret=>exact DP hT ho hR' hq
 |_=>exact hq.elim
def VF(P:Program)(T:TypeId)(bs:List (List CD))(f:Nat)(args:List VD)(R:RR->Prop):Prop:=
 xe P f/\∀(w:World) (o:gv) (b:Nat) (u:Value) (i h:Int) (xs:Array Value),o.at w->o.off b->0<=i->i<=bs.length ->
  w.heap[b]? = some (.cells #[u,.int .i64 i,.int .i64 h] T (0,0))->Rd w false (λc=>c≠b/\o.off c) u (.s bs) ->
  xs.size=args.length+1->xs.getD 0 undef=.pointer (some ⟨b,0,none⟩)->(∀j vd,args[j]? = some vd->tB w (λc=>c≠b/\o.off c) (xs.getD (j+1) undef) vd) ->
  Calls P f xs w λe w'=>∃(v:Value) (rr:RR) (i' h':Int),e=.returned v/\R rr/\0<=i'/\i'<=bs.length/\w'.heap[b]? = some (.cells #[u,.int .i64 i',.int .i64 h'] T (0,0)) /\
   BelowF (λc=>c<w.heap.size/\c≠b) w w'/\AQ w' (λc=>c≠b/\o.off c) v rr
theorem tB.map{w:World}{S S':Nat->Prop}{v:Value}{d:VD}(h:tB w S v d)(hS:∀c,S c->S' c):tB w S' v d:=by
 cases d with
 |c d=>exact Rd.map h (λ_ _ _=>rfl) (λc hc _=>hS c hc)
 | agg ds =>
   obtain⟨xs,h1,h2,h3⟩:=h;exact⟨xs,h1,h2,λj d hd=>(h3 j d hd).map (λ_ _ _=>rfl) (λc hc _=>hS c hc)⟩
theorem acD.toN{P:Program}{T:TypeId}{bs:List (List CD)}{f:Nat}{args:List VD}{R:RR->Prop}(hc:acD P T bs f args R):VF P T bs f args R:=by
 refine⟨hc.1,λw o b u i h xs o1 o2 a1 a2 a3 a4 a5 a6 a7=>(hc.2 w b u i h xs a1 a2 a3 (a4.map (λ_ _ _=>rfl) (λc hc _=>hc.1)) a5 a6 (λj vd hj=>(a7 j vd hj).map λc hc=>hc.1)).mono ?_⟩
 rintro e w' ⟨v,rr,i',h',rfl,h1,h2,h3,h4,h5,h6⟩
 exact⟨v,rr,i',h',rfl,h1,h2,h3,h4,h5,h6.toN λc hc=>⟨by have:=fo a3;omega,uW o1 hc.1⟩⟩
theorem VF.mono{P:Program}{T:TypeId}{bs:List (List CD)}{f:Nat}{args:List VD}{R R':RR->Prop}(hc:VF P T bs f args R)(hr:∀r,R r->R' r):VF P T bs f args R':=by
 refine⟨hc.1,λw o b u i h xs o1 o2 a1 a2 a3 a4 a5 a6 a7=>(hc.2 w o b u i h xs o1 o2 a1 a2 a3 a4 a5 a6 a7).mono ?_⟩
 rintro e w' ⟨v,rr,i',h',rfl,h1,h2,h3,h4,h5,h6⟩
 exact⟨v,rr,i',h',rfl,hr _ h1,h2,h3,h4,h5,h6⟩
theorem Tm{W:gv}:wkH (phs W) (phs W)=True:=by rw[<-pU];exact MQ
theorem Tl{W:gv}{h:AH}{j:Nat}{o:AObj}(hj:j<1000000000):wkH ((j,o)::h) (phs W)=wkH h (phs W):=by rw[<-pU,<-pU];exact MP hj
theorem YN{st:ASt}:st.ev (.const (.pointer none))=.any:=(rfl)
theorem SI{E:Env}{o:gv}{rs:List ResultVar}{R:RR->Prop}{st:ASt}:zK E o rs R .normal st=gu E st rs λl=>∃rr,R rr/\nQ E st.h l rr/\nN st.h o:=(rfl)
theorem SH{E:Env}{o:gv}{rs:List ResultVar}{R:RR->Prop}{st:ASt}:zK E o rs R .ret st=gu E st rs λl=>∃rr,R rr/\nQ E st.h l rr/\nN st.h o:=(rfl)
theorem X8{E:Env}{h:AH}{x:AV}{r:RV}:nQ E h [x] (.one r)=wc E.rd h x r:=(rfl)
theorem X7{E:Env}{h:AH}{l:List AV}{rs:List RV}:nQ E h l (.tup rs)=(l.length≠1/\s8 E.rd h l rs):=(rfl)
theorem Ul{R:Value->CD->Prop}{h:AH}{x:AV}{d:CD}{sz:Nat}:wc R h x (.c d sz)=aIn R h x d:=(rfl)
theorem NW{R:Value->CD->Prop}{h:AH}{l:List AV}{ts:List (CD×Nat)}:wc R h (.agg l) (.agg ts)=zV R h l (ts.map Prod.fst):=(rfl)
theorem HL{R:Value->CD->Prop}{h:AH}:s8 R h [] []=True:=(rfl)
theorem FE{R:Value->CD->Prop}{h:AH}{x:AV}{l:List AV}{r:RV}{rs:List RV}:s8 R h (x::l) (r::rs)=(wc R h x r/\s8 R h l rs):=(rfl)
theorem aa5{d:CD}{sz:Nat}:roV (.c d sz)=toAV d:=(rfl)
theorem TR{ts:List (CD×Nat)}:roV (.agg ts)=.agg (ts.map λt=>toAV t.1):=(rfl)
theorem TT{r:RV}:roR (.one r)=roV r:=(rfl)
theorem TS{l:List RV}:roR (.tup l)=.tup (l.map roV):=(rfl)
attribute [simp ↓] YN SI SH
attribute [simp] X8 X7 Ul NW HL FE aa5 TR TT TS Tm Tl Nr tail_cons MQ MP Ub
end Go.AM
namespace Go.Proofs.YtklblkobegcljaaGreat
open Go.AM
set_option maxRecDepth 20000
set_option maxHeartbeats 6400000
theorem ze(r:Ring)(hl:cV r<=2^30)(n:Int):lK Tryz.prog 204 [.agg r.row,.c (vi n)] (λrr=>rr=.tup [.agg (cm r n).1.res,.c (.s ((cm r n).2.1.map Entry.row)) 3,.c (vi (cm r n).2.2) 1]):=by
 refine lK.intro aw Tryz.func204 al rfl rfl rfl (ai rfl) (λw0 base o=>?_);have hno:=@uF r n;have hout:=@nZ r n;have hyes:=@lr r n;have hnl:nL aX r.list<=2^30:=tK;have hle:=aY hnl;simp[Ring.row];intro b2 b4;refine ag.ro (mQ r hl) dH ?_;simp[Ring.res];intro b7;refine ag.ro (fH r aa) dH ?_;by_cases c1:cl r
 rotate_left
 ·exact xP
 simp[c1];by_cases c2:1<=n
 rotate_left
 ·have c2':n<1:=by omega
  simp[c2',hno (λh=>c2 h.2)]
 have c2':¬n<1:=aa;simp[c2'];have hnx:=c1.2.2.1
 cases c3:r.out with
 |true=>simp[hout ⟨c1,c2⟩ c3,c3]
 |false=>
 simp;obtain⟨m,rfl⟩:∃m:Nat,n=m:=⟨n.toNat,aa⟩;obtain⟨k,hk0⟩:∃k:Nat,min m r.list.length=k:=⟨_,rfl⟩;have hk:k<=r.list.length:=aa;have e1:=hyes ⟨c1,c2⟩ c3 (k:=k) aM;have ew:Go.IntKind.i64.wrap (r.next+(k:Int))=r.next+k:=ae _ aa;have cd:=kT (l:=r.list) (k:=k) hk;have ct:=vK (l:=r.list) (k:=k) hk;rw[IP,hk0];simp[hk,ew,cd,ct];rw[e1];simp[c3]
theorem sD(h:Hub)(hl:dh h<=2^28)(id n:Int):lK Tryz.prog 144 [.agg h.row,.c (vi id),.c (vi n)]
 (λrr=>rr=.tup [.agg (df h id n).1.res,.c (.s ((df h id n).2.1.map Entry.row)) 3,.c (vi (df h id n).2.2) 1]):=by
 refine lK.intro aw Tryz.func144 al rfl rfl rfl (ai rfl) (λw0 base o=>?_);have hls:=aY (ic hl).2;simp[Hub.row];intro b3 b6;refine ag.ro (mj h aa id) bj ?_;simp;refine ag.ro (dZ h aa) bj ?_;by_cases c1:bC h
 rotate_left
 ·simp[az c1,lJ (λh=>c1 h.1),Hub.res,Hub.zero]
 simp[c1];by_cases c2:1<=n
 rotate_left
 ·have c2':n<1:=by omega
  simp[c2',lJ (λh=>c2 h.2),Hub.res,Hub.zero]
 have c2':¬n<1:=aa;simp[c2'];rcases kc h.subs id with⟨k,hk,e,-⟩|e;rotate_left
 ·simp[e,n7 ⟨c1,c2⟩ e,Hub.res,Hub.zero]
 have hk0:¬(k:Int)<0:=aa;have hat:=nG ⟨c1,c2⟩ hk e;have hm:=cH (f:=dp) (ic hl).2 hk;unfold dp at hm;have hmod:=rN hk;obtain⟨s,hs⟩:∃s,h.subs[k]=s:=⟨_,rfl⟩;rw[hs]at hat hm hmod;have hc:=ze s.r aa n;generalize cm s.r n=R at hc hat;obtain⟨r,list,code⟩:=R;simp only at hat hc;simp[e,hk0,hk,hs,Sub.row];refine lL hc dH ?_
 rintro _ rfl
 simp[Ring.res];intro b10;by_cases c3:code=0
 rotate_left
 ·rw[au c3]at hat
  simp[c3,hat,Hub.res,Hub.zero]
 rw[ao c3]at hat;simp[c3];refine ag.pure (eE h aa) bj ?_;simp[Hub.res,hk]
 try intros
 rw[hat];simp[hmod r]
theorem Rz(h:Hub)(hl:dh h<=2^28)(c:Call)(hc:dP c<=2^28):lK Tryz.prog 85 [.agg h.row,.agg c.row] (λrr=>rr=.tup [.agg (fDo h c).1.res,.agg (fDo h c).2.res]):=by
 by_cases n6:c.kind=6
 rotate_left
 ·exact(Bz h hl c hc n6).toN
 refine lK.intro aw Tryz.func85 al rfl rfl rfl (ai rfl) (λw0 base o=>?_);have hcn:c.doc.size<=2^28/\nL a9 c.o<=2^28/\c.text.length<=2^28:=xw;simp[Hub.row,Call.row];intro b2 b3 b4 b5;refine ag.ro (dZ h aa) bj ?_;by_cases c1:bC h
 rotate_left
 ·simp[az c1]
  refine ag.ro (eE h aa) bj ?_;exact CV
 simp[c1];refine ag.ro (kD c aa) jq ?_;by_cases c2:dA c
 rotate_left
 ·simp[az c2]
  refine ag.ro (eE h aa) bj ?_;exact CU
 simp[c2];intro b6 b7;have hat:=M0 ⟨c1,c2⟩ n6;have hd:=sD h aa c.client c.n;generalize df h c.client c.n=R at hd hat;obtain⟨X,list,code⟩:=R;simp only at hd hat;simp[n6];refine lL hd bj ?_
 rintro _ rfl
 simp[Hub.res]
 try intros
 by_cases z:code=0
 ·rw[ao z]at hat
  simp[z];exact Do
 ·rw[au z]at hat
  simp[z];refine drw eok mix [0,2,3,4] [1,5,6] (.c 4 1 8 7 (.c 4 5 0 7 (.c 4 6 7 0 (.l 4 0) .s) .s) .s) ?_;simp
  try intros
  refine ag.ro (eE h aa) bj ?_;simp[Hub.res];exact LR
end Go.Proofs.YtklblkobegcljaaGreat
namespace Go.AM
open Go.RowKit
mutual
def fz(k:Nat)(H:Hd)(sz:Nat)(rs:List (List CD)):AV->AV
 | .sl k' H' sz' off len=>if k'=k then(if H'=H/\sz'=sz/\off+len<=rs.length then .ro (cut rs off len)else .any)else .sl k' H' sz' off len
 | .agg l=>.agg (fzL k H sz rs l)
 | .tup l=>.tup (fzL k H sz rs l)
 | .clo f l=>.clo f (fzL k H sz rs l)
 | .any=>.any
 | .un=>.un
 | .nil=>.nil
 | .v u=>.v u
 | .ro r=>.ro r
 | .p a b c=>.p a b c
 | .e a b c d e=>.e a b c d e
 | .rp r=>.rp r
 | .cv u n=>.cv u n
 | .ml a b c d=>.ml a b c d
 | .is u=>.is u
def fzL(k:Nat)(H:Hd)(sz:Nat)(rs:List (List CD)):List AV->List AV
 | []=>[]
 |a::l=>fz k H sz rs a::fzL k H sz rs l
end
theorem ym(k:Nat)(H:Hd)(sz:Nat)(rs:List (List CD)):∀(l:List AV) (i:Nat),(fzL k H sz rs l)[i]? = l[i]?.map (fz k H sz rs)
 | [],i=>by simp[fzL]
 |a::l,0=>by simp[fzL]
 |a::l,i+1=>by simp[fzL,ym k H sz rs l i]
theorem rR(k:Nat)(H:Hd)(sz:Nat)(rs:List (List CD)):∀l:List AV,(fzL k H sz rs l).length=l.length
 | []=>rfl
 |a::l=>by simp[fzL,rR k H sz rs l]
def fzO(k:Nat)(H:Hd)(sz:Nat)(rs:List (List CD)):AObj->AObj
 | .vars b T cells=>.vars b T (fzL k H sz rs cells)
 |o=>o
def fzT(k:Nat)(H:Hd)(sz:Nat)(rs:List (List CD))(t:List (Nat×AV)):List (Nat×AV):=t.map λp=>(p.1,fz k H sz rs p.2)
def fzH(k:Nat)(H:Hd)(sz:Nat)(rs:List (List CD)):AH->AH
 | []=>[]
 |(i,o)::h=>(i,fzO k H sz rs o)::fzH k H sz rs h
theorem MT(k:Nat)(H:Hd)(sz:Nat)(rs:List (List CD)):∀(t:List (Nat×AV)) (i:Nat),bB (fzT k H sz rs t) i=fz k H sz rs (bB t i)
 | [],i=>rfl
 | (j, v) :: t, i => by
   simp only[fzT,bK,bB]
   split
   ·rfl
   ·exact MT k H sz rs t i
theorem MU(k:Nat)(H:Hd)(sz:Nat)(rs:List (List CD)):∀(h:AH) (i:Nat),AH.get (fzH k H sz rs h) i=fzO k H sz rs (AH.get h i)
 | [],i=>rfl
 | (j, o) :: h, i => by
   rw[fzH,br,br]
   split
   ·rfl
   ·exact MU k H sz rs h i
theorem Ej(k:Nat)(H:Hd)(sz:Nat)(rs:List (List CD))(o:AObj):(fzO k H sz rs o).blk=o.blk:=by cases o<;>rfl
theorem Ip{base:Bs}{h:AH}{w:World}{E:Nat->Nat->Prop}(HH:HRel base h w E){k:Nat}{H:Hd}{sz:Nat}{rs:List (List CD)}{own:Bool}(hget:h.get k=.rows H sz rs own){M':Nat->Prop}(hM:∀c,M' c->h.M c/\(h.get k).blk≠some c)
 {av:AV}{u:Value}(hv:VRel w h.M av u):VRel w M' (fz k H sz rs av) u:=by
 have t:Tr h.M w M' w:=⟨aF _,λ_ _ _=>rfl,λc _ hc=>(hM c hc).1⟩
 induction hv with
 | agg l xs hs _ ih =>
   refine .agg _ _ (by rw[hs,rR]) (λi av hi=>?_);exact CY
 | tup l xs hs _ ih =>
   refine .tup _ _ (by rw[hs,rR]) (λi av hi=>?_);exact CY
 | clo f l xs hs _ ih =>
   refine .clo f _ _ (by rw[hs,rR]) (λi av hi=>?_);exact CY
 | sl k' H' sz' off len x hx =>
   simp only[fz]
   split
   ·split
    ·rename_i hk hc
     obtain⟨rfl,rfl,hlen⟩:=hc;subst hk;have ho:=HH.obj k';rw[hget]at ho;refine .ro _ _ ?_
     cases H' with
     | none =>
       obtain⟨⟨a,rfl⟩,rfl⟩:=hx;rw[show rs=[]from ho,show cut ([]:List (List CD)) off 0=[]from rq];exact xY
     | some q =>
       obtain⟨b,o,C⟩:=q;obtain⟨S0,hrd,hS0⟩:=im ho ⟨k',iC⟩ hx hlen;refine hrd.weaken.map (λ_ _ _=>rfl) (λc hc _ hm=>?_);rcases hS0 c hc with e|e
       ·exact(hM c hm).2 (by rw[hget,e];rfl)
       ·exact e.2 (hM c hm).1
    ·exact .any _
   ·exact .sl _ _ _ _ _ _ hx
 |any x=>exact .any x
 |un=>exact .un
 |nil=>exact .nil
 |v u h=>exact .v u h
 |ro rows x h=>exact(VRel.ro rows x h).tr t
 |cv u len h=>exact .cv u len h
 |ml k H sz len x h=>exact .ml k H sz len x h
 |is u=>exact .is u
 |p k b c=>exact .p k b c
 |e k b o C sz r c=>exact .e k b o C sz r c
 |rp row b o cs T fr h1 h2 h3 h4=>exact(VRel.rp row b o cs T fr h1 h2 h3 h4).tr t
theorem Rep.freeze{w0:World}{base:Bs}{st:ASt}{a:Act}{w:World}(hR:Rep w0 base st a w){k:Nat}{H:Hd}{sz:Nat}{rs:List (List CD)}{own:Bool}(hget:st.h.get k=.rows H sz rs own) :
 Rep w0 base { st with t:=fzT k H sz rs st.t,h:=(k,.dead)::fzH k H sz rs st.h } a w:=by
 obtain⟨E,HH⟩:=hR.heap;have hg:∀i,AH.get ((k,.dead)::fzH k H sz rs st.h) i=if i=k then .dead else fzO k H sz rs (st.h.get i):=λi=>by rw[br,MU]
 have hM:∀c,AH.M ((k,.dead)::fzH k H sz rs st.h) c->st.h.M c/\(st.h.get k).blk≠some c:=by
  rintro c ⟨i,hi⟩
  rw[hg]at hi
  split at hi
  ·cases hi
  ·rename_i hne
   rw[Ej]at hi;exact⟨⟨i,hi⟩,λhk=>hne (HH.inj _ _ c hi hk)⟩
 have t:Tr st.h.M w (AH.M ((k,.dead)::fzH k H sz rs st.h)) w:=⟨aF _,λ_ _ _=>rfl,λc _ hc=>(hM c hc).1⟩;refine⟨hR.dfr,hR.size,λi=>?_,⟨λj=>if j=k then(λ_=>False)else E j,λi=>?_,λi j c hi hj=>?_,λi c hi=>?_,λi c hc=>?_,λi j c hi hj=>?_,λi c hc=>?_⟩,hR.below,hR.base_le⟩
 ·show VRel w _ (bB (fzT k H sz rs st.t) i) _
  rw[MT];exact Ip HH hget hM (hR.tmp i)
 ·rw[hg]
  by_cases hik:i=k
  ·rw[ao hik,ao hik];trivial
  ·rw[au hik,au hik]
   have ho:=HH.obj i
   cases hoi:st.h.get i with
   | vars b T cells =>
     rw[hoi]at ho;obtain⟨cs,h1,h2,h3⟩:=ho;refine⟨cs,h1,by rw[h2,rR],λj av hj=>?_⟩;rw[ym]at hj;obtain⟨x,hx,rfl⟩:=aR.1 hj;exact Ip HH hget hM (h3 j x hx)
   |dead=>trivial
   |rows H2 sz2 rows2 own2=>rw[hoi]at ho;exact ho.tr t (λ_ _=>rfl) (λc hc _=>hc)
   |lent H2 sz2 rows2=>rw[hoi]at ho;exact ho.tr t (λ_ _=>rfl) (λc hc _=>hc)
   |part H2 sz2 rows2 lo=>rw[hoi]at ho;exact ho.tr t (λ_ _=>rfl) (λc hc _=>hc)
 ·rw[hg]at hi hj
  split at hi
  ·cases hi
  ·split at hj
   ·cases hj
   ·rw[Ej]at hi hj;exact HH.inj _ _ c hi hj
 ·rw[hg]at hi
  split at hi
  ·cases hi
  ·rw[Ej]at hi;exact HH.low i c hi
 ·split at hc
  ·exact hc.elim
  ·exact HH.elow i c hc
 ·split at hi
  ·exact hi.elim
  ·split at hj
   ·exact hj.elim
   ·exact HH.einj _ _ c hi hj
 ·split at hc
  ·exact hc.elim
  ·exact λhm=>HH.em i c hc (hM c hm).1
theorem aZ.freeze{E:Env}{id:Nat}{ops:List Oper}{Q:Exit->ASt->Prop}{n kb:Nat}{t:List (Nat×AV)}{h:AH}(k:Nat){H:Hd}{sz:Nat}{rs:List (List CD)}{own:Bool}(hget:h.get k=.rows H sz rs own)
 (h2:aZ E id ops Q ⟨n,kb,fzT k H sz rs t,(k,.dead)::fzH k H sz rs h⟩):aZ E id ops Q ⟨n,kb,t,h⟩:=λa w hR=>h2 a w (hR.freeze (st:=⟨n,kb,t,h⟩) hget)
section rules
variable {k:Nat}{H:Hd}{sz:Nat}{rs:List (List CD)}
theorem UL:fzT k H sz rs []=[]:=(rfl)
theorem RP{i:Nat}{v:AV}{t:List (Nat×AV)}:fzT k H sz rs ((i,v)::t)=(i,fz k H sz rs v)::fzT k H sz rs t:=(rfl)
theorem RX{i:Nat}{o:AObj}{h:AH}:fzH k H sz rs ((i,o)::h)=(i,fzO k H sz rs o)::fzH k H sz rs h:=(rfl)
theorem UO:fzH k H sz rs []=[]:=(rfl)
theorem Ge:∀(W:gv) (i:Nat),fzH k H sz rs (iG i W)=iG i W
 | [],i=>rfl
 | q :: l, i => by
   have e:∀xs:List Value,fzL k H sz rs (xs.map .is)=xs.map .is:=by
    intro xs
    induction xs with
    |nil=>rfl
    |cons x xs ih=>simp[fzL,fz,ih]
   simp[iG,fzH,phO,fzO,e,Ge l]
theorem UN{W:gv}:fzH k H sz rs (phs W)=phs W:=Ge W _
theorem RQ{b:Nat}{T:TypeId}{l:List AV}:fzO k H sz rs (.vars b T l)=.vars b T (fzL k H sz rs l):=(rfl)
theorem RT{H':Hd}{sz':Nat}{r:List (List CD)}{own:Bool}:fzO k H sz rs (.rows H' sz' r own)=.rows H' sz' r own:=(rfl)
theorem RU:fzO k H sz rs .dead=.dead:=(rfl)
theorem UM:fzL k H sz rs []=[]:=by simp[fzL]
theorem RW{a:AV}{l:List AV}:fzL k H sz rs (a::l)=fz k H sz rs a::fzL k H sz rs l:=by rw[fzL]
theorem ad8{u:Value}:fz k H sz rs (.v u)=.v u:=iA
theorem YF:fz k H sz rs .any=.any:=iA
theorem abH:fz k H sz rs .un=.un:=iA
theorem YD:fz k H sz rs .nil=.nil:=iA
theorem abK{r:List (List CD)}:fz k H sz rs (.ro r)=.ro r:=iA
theorem abJ{r:List CD}:fz k H sz rs (.rp r)=.rp r:=iA
theorem abM{u:Value}{n:Nat}:fz k H sz rs (.cv u n)=.cv u n:=iA
theorem abL{a c d:Nat}{b:Hd}:fz k H sz rs (.ml a b c d)=.ml a b c d:=iA
theorem ad9{a b c:Nat}:fz k H sz rs (.p a b c)=.p a b c:=iA
theorem aea{a c d e:Nat}{b:Hd}:fz k H sz rs (.e a b c d e)=.e a b c d e:=iA
theorem YG{l:List AV}:fz k H sz rs (.agg l)=.agg (fzL k H sz rs l):=iA
theorem YC{l:List AV}:fz k H sz rs (.tup l)=.tup (fzL k H sz rs l):=iA
theorem YE{f:Nat}{l:List AV}:fz k H sz rs (.clo f l)=.clo f (fzL k H sz rs l):=iA
theorem abI{k' sz' off len:Nat}{H':Hd}:fz k H sz rs (.sl k' H' sz' off len)=if k'=k then(if H'=H/\sz'=sz/\off+len<=rs.length then .ro (cut rs off len)else .any)else .sl k' H' sz' off len:=iA
end rules
attribute [simp] UL RP RX UO UN RQ RT RU UM RW ad8 YF abH YD abK abJ abM abL ad9 aea YG YC YE abI
open Go.RowKit
theorem aU.ent{E:Env}{body:Code}{Q:Exit->ASt->Prop}{st:ASt}(h:Ent E st (aU E body Q)):aU E body Q st:=λa w hR=>by
 obtain⟨st',h1,h2⟩:=h a w hR;exact h1 a w h2
def Ab(P:Program)(L:World->Prop)(f:Nat)(args:List VD)(R:RR->Prop):Prop:=
 xe P f/\∀(w:World) (o:gv) (xs:Array Value),o.at w->(∀w',BelowF (λc=>c<w.heap.size/\o.off c) w w'->L w')->xs.size=args.length->(∀i vd,args[i]? = some vd->tB w o.off (xs.getD i undef) vd) ->
  Calls P f xs w λe w'=>∃v rr,e=.returned v/\R rr/\Below w.heap.size w w'/\AQ w' o.off v rr
theorem Ab.mono{P:Program}{L:World->Prop}{f:Nat}{args:List VD}{R R':RR->Prop}(hc:Ab P L f args R)(h:∀r,R r->R' r):Ab P L f args R':=by
 refine⟨hc.1,λw o xs ho hL hs hx=>(hc.2 w o xs ho hL hs hx).mono ?_⟩;exact JG
theorem MD{P:Program}{Ty:Nat->Option TI}{L:World->Prop}{fn:Func}{w w':World}{o:gv}(hE:EOk ⟨P,Ty,w,⟨λc=>c<w.heap.size/\o.off c,λc=>c<w.heap.size/\o.off c,false,L⟩⟩)(ho:o.at w){R:RR->Prop}{st':ASt}{a':Act}
 (hR':Rep w ⟨λc=>c<w.heap.size/\o.off c,λc=>c<w.heap.size/\o.off c,false,L⟩ st' a' w')
 (hq:gu ⟨P,Ty,w,⟨λc=>c<w.heap.size/\o.off c,λc=>c<w.heap.size/\o.off c,false,L⟩⟩ st' fn.results.toList λl=>∃rr,R rr/\nQ ⟨P,Ty,w,⟨λc=>c<w.heap.size/\o.off c,λc=>c<w.heap.size/\o.off c,false,L⟩⟩ st'.h l rr/\nN st'.h o) :
 a'.defers=[]/\∃v,(results fn a'.tmps).run P w'=.ok v w'/\∃v' rr,Ending.returned v=.returned v'/\R rr/\Below w.heap.size w w'/\AQ w' o.off v' rr:=by
 let B:Bs:=⟨λc=>c<w.heap.size/\o.off c,λc=>c<w.heap.size/\o.off c,false,L⟩
 obtain⟨vs,l,h1,h2,h3,rr,hRR,h4,hg⟩:=fT hE hR' fn.results.toList hq;obtain⟨Es,hH⟩:=hR'.heap
 refine⟨hR'.dfr,_,MB h1,_,rr,rfl,hRR,⟨hR'.below.os,hR'.below.tape,hR'.below.output,hR'.below.size,λc hc=>?_⟩,
  FD (E:=⟨P,Ty,w,B⟩) hH (S:=o.off) (λc hc=>aW λh=>?_) (λk b' o' C sz rows own hgk=>aW λh=>?_) (λv d hd=>?_) h2 h3 h4⟩
 ·by_cases h:o.off c
  ·exact hR'.below.block c ⟨hc,h⟩
  ·exact(rL hH ho hg h).1
 ·obtain⟨-,k,-,hk,-⟩:=rL hH ho hg h
  exact hc ⟨k,hk⟩
 ·obtain⟨-,k',-,hk,b,T,l,he⟩:=rL hH ho hg h
  have:=hH.inj k k' b' (by rw[hgk];rfl) hk;subst this;rw[hgk]at he;cases he
 ·exact Rd.map hd (λc hc _=>hR'.below.block c hc) (λc hc _=>hc.2)
theorem Ab.intro {P : Program} {Ty : Nat → Option TI} (hT : ∀ t ti, Ty t = some ti → TIok P t ti) {L : World → Prop} {f : Nat} {fn : Func} {c : Code} (hf : P.funcs[f]? = some fn) (hname : (fn.name == "runtime.NumGoroutine") = false) (hb : fn.body = some c)
 {n:Nat}{rs:List ResultVar}(hnt:fn.ntmps=n) (hrs:fn.results=⟨rs⟩) {args:List VD}{R:RR->Prop}(hn:args.length<=n)
 (h:∀w0 base o,EOk ⟨P,Ty,w0,⟨base,base,false,L⟩⟩->gM ⟨P,Ty,w0,⟨base,base,false,L⟩⟩ c (zK ⟨P,Ty,w0,⟨base,base,false,L⟩⟩ o rs R) { n:=n,kb:=0,t:=mZ 0 args,h:=phs o }):Ab P L f args R:=by
 subst hnt;have hrs':fn.results.toList=rs:=kY;subst hrs';refine⟨⟨fn,hf,hname,ka⟩,λw o xs ho hL hs hx=>iJ hf hb ?_⟩;have hE:EOk ⟨P,Ty,w,⟨λc=>c<w.heap.size/\o.off c,λc=>c<w.heap.size/\o.off c,false,L⟩⟩:=⟨hT,hL⟩
 obtain⟨r1,r2,r3,⟨Er,r4⟩,r5,r6⟩:=Hy ho (n:=fn.ntmps) (xs:=xs) (t:=mZ 0 args) aa (λq=>by
  rw[qJ,ao (iu q),jf]
  split
  ·exact Cw
  ·exact .any _)
 have hR:Rep w ⟨λc=>c<w.heap.size/\o.off c,λc=>c<w.heap.size/\o.off c,false,L⟩ { n:=fn.ntmps,kb:=0,t:=mZ 0 args,h:=phs o } { tmps:=xs++Array.replicate (fn.ntmps-xs.size) undef,defers:=[] } w:=
  ⟨r1,r2,r3,⟨Er,r4.obj,r4.inj,r4.low,r4.elow,r4.einj,r4.em⟩,r5,r6⟩
 refine gz (dq hE c _ _ _ w hR (h w _ o hE)) ?_
 rintro e a' w' ⟨st',hq,hR'⟩
 cases e with
 |normal=>exact MD hE ho hR' hq
 |ret=>exact MD hE ho hR' hq
 |_=>exact hq.elim
def nJ(P:Program)(f:Nat)(args:List VD)(post:AV->AH->Prop):Prop:=
 xe P f/\∀(w:World) (xs:Array Value),xs.size=args.length->(∀i vd,args[i]? = some vd->RdV w (xs.getD i undef) vd) ->
  Calls P f xs w λe w'=>∃v av h E,e=.returned v/\post av h/\av.q=true/\(∀k,(h.get k).q=true)/\Below w.heap.size w w'/\VRel w' h.M av v /\
   HRel ⟨λc=>c<w.heap.size,λc=>c<w.heap.size,false,λ_=>True⟩ h w' E
theorem nJ.mono{P:Program}{f:Nat}{args:List VD}{R R':AV->AH->Prop}(hc:nJ P f args R)(h:∀av hp,R av hp->R' av hp):nJ P f args R':=by
 refine⟨hc.1,λw xs hs hx=>(hc.2 w xs hs hx).mono ?_⟩
 rintro e w' ⟨v,av,hp,E,rfl,h1,h2⟩
 exact⟨v,av,hp,E,rfl,h _ _ h1,h2⟩
theorem qt:∀(hN h:AH) (k:Nat),AH.get (hN++h) k=if k∈hN.map (·.1)then hN.get k else h.get k
 | [],h,k=>ab
 | (j, o) :: hN, h, k => by
   rw[da,br,br,qt hN h k];by_cases e:k=j
   ·simp[e]
   ·simp only[bK,aV,e,false_or,dm]
theorem yk:∀(h:AH) {k:Nat},k∉h.map (·.1)->h.get k=.dead
 | [],_,_=>rfl
 | (j, o) :: l, k, hk => by
   simp only[bK,aV,not_or]at hk;rw[br,au hk.1];exact yk l hk.2
theorem nM{E:Env}{f:Nat}{args:List VD}{post:AV->AH->Prop}(hc:nJ E.P f args post){avs:List AV}{st:ASt}{dst:Option Nat}{K:ASt->Prop}(hin:qR E.rd st.h avs args)
 (hout:∀av hN,post av hN->bM { st with h:=hN++st.h } dst av K):ag E f avs st dst K:=by
 refine⟨hc.1,λa w hR xs hs hx=>?_⟩;obtain⟨Es,hH⟩:=hR.heap;obtain⟨hl,hr⟩:=jW hH hR.rd avs args hx hin;refine(hc.2 w xs aa hr).mono ?_
 rintro e w' ⟨v,av,hN,EN,rfl,hp,hq,hqo,hb,hv,HN⟩
 have hlow:∀k b,(hN.get k).blk=some b->w.heap.size<=b:=λk b h=>oe (HN.low k b h).1
 have hMo:∀c,(AH.M (hN++st.h)) c->hN.M c\/st.h.M c:=by
  rintro c ⟨k,hk⟩
  rw[qt]at hk
  split at hk
  ·exact .inl ⟨k,hk⟩
  ·exact .inr ⟨k,hk⟩
 have t:Tr st.h.M w (AH.M (hN++st.h)) w':=⟨hb.size,λb hlt _=>hb.block b hlt,λb hlt hM=>(hMo b hM).elim (λ⟨k,hk⟩=>by have:=hlow k b hk;omega) id⟩
 have HX:HRel E.base (hN++st.h) w' (λk c=>if k∈hN.map (·.1)then EN k c else Es k c):=by
  refine⟨λk=>?_,λk k' b h1 h2=>?_,λk b h1=>?_,λk c hc=>?_,λk k' c h1 h2=>?_,λk c hc hM=>?_⟩
  ·rw[qt]
   split
   ·refine(HN.obj k).quiet (hqo k) (λc hc hn hM=>?_)
    rcases hMo c hM with h|⟨j,hj⟩
    ·exact hn h
    ·have:=(HN.elow k c hc).1
     have:=hH.lt hj;omega
   ·exact(hH.obj k).tr t (λb hk=>hb.block b (hH.lt hk)) (λc hc _=>hc)
  ·rw[qt]at h1 h2
   split at h1<;>split at h2
   ·exact HN.inj _ _ _ h1 h2
   ·have:=hlow _ _ h1;have:=hH.lt h2;omega
   ·have:=hlow _ _ h2;have:=hH.lt h1;omega
   ·exact hH.inj _ _ _ h1 h2
  ·rw[qt]at h1
   split at h1
   ·exact hR.newer (hlow _ _ h1)
   ·exact hH.low _ _ h1
  ·split at hc
   ·exact⟨(hR.newer (oe (HN.elow k c hc).1)).2,(HN.elow k c hc).2⟩
   ·exact⟨(hH.elow k c hc).1,bV (hH.elow k c hc).2 hb.size⟩
  ·split at h1<;>split at h2
   ·exact HN.einj _ _ _ h1 h2
   ·have:=(HN.elow k c h1).1;have:=(hH.elow k' c h2).2;omega
   ·have:=(HN.elow k' c h2).1;have:=(hH.elow k c h1).2;omega
   ·exact hH.einj _ _ _ h1 h2
  ·split at hc
   ·rcases hMo c hM with h|⟨j,hj⟩
    ·exact HN.em k c hc h
    ·have:=(HN.elow k c hc).1
     have:=hH.lt hj;omega
   ·rcases hMo c hM with⟨j,hj⟩|h
    ·have:=(hH.elow k c hc).2
     have:=hlow _ _ hj;omega
    ·exact hH.em k c hc h
 have hv':VRel w' (AH.M (hN++st.h)) av v:=hv.quiet hq;obtain⟨av',h3,h1,h2,h4,h5⟩:=(hR.move HX t ⟨hb.os,hb.tape,hb.output⟩).put hv' (hout av hN hp);exact⟨v,av',h3,rfl,h1,h2,h4,h5⟩
theorem HRel.some{base:Bs}{h hN:AH}{w:World}{E:Nat->Nat->Prop}(H:HRel base h w E)(hg:∀k∈hN.map (·.1),hN.get k=h.get k)(hq:∀k,(hN.get k).q=true) :
 HRel base hN w (λk c=>k∈hN.map (·.1)/\E k c):=by
 have hb:∀k b,(hN.get k).blk=Option.some b->k∈hN.map (·.1)/\(h.get k).blk=Option.some b:=by
  intro k b hk;by_cases hm:k∈hN.map (·.1)
  ·exact⟨hm,by rw[<-hg k hm];exact hk⟩
  ·rw[yk hN hm]at hk;cases hk
 have hM:∀c,hN.M c->h.M c:=λc ⟨k,hk⟩=>⟨k,(hb k c hk).2⟩
 refine⟨λk=>?_,λk k' b h1 h2=>H.inj _ _ _ (hb _ _ h1).2 (hb _ _ h2).2,λk b h1=>H.low _ _ (hb _ _ h1).2,λk c hc=>H.elow k c hc.2,λk k' c h1 h2=>H.einj _ _ _ h1.2 h2.2,λk c hc hm=>H.em k c hc.2 (hM c hm)⟩;by_cases hm:k∈hN.map (·.1)
 ·rw[hg k hm]
  exact(H.obj k).mono (λc _ hc=>hM c hc) (λc hc=>⟨hm,hc⟩)
 ·rw[yk hN hm]
  trivial
def Ar(x:AV)(K:AV->Prop):Prop:=
 match x with
 | .sl k (some (b,o,C)) sz off len=>if 70000<=k then ∀H',(H'=some (b,o+off*sz,C-off)\/len=0/\H'=none)->K (.ml k H' sz len)else K x
 |x=>K x
def Ft(l:List AV)(K:List AV->Prop):Prop:=
 match l with
 | []=>K []
 |a::l=>Ar a λa'=>Ft l λl'=>K (a'::l')
def Hr(x:AV)(K:AV->Prop):Prop:=
 match x with
 | .agg l=>Ft l λl'=>K (.agg l')
 |x=>Ar x K
def p7(l:List AV)(K:List AV->Prop):Prop:=
 match l with
 | []=>K []
 |a::l=>Hr a λa'=>p7 l λl'=>K (a'::l')
theorem yT{w:World}{M:Nat->Prop}{x:AV}{u:Value}(h:VRel w M x u){K:AV->Prop}(hk:Ar x K):∃x',VRel w M x' u/\K x':=by
 unfold Ar at hk
 split at hk
 ·rename_i k b o C sz off len
  split at hk
  ·rename_i h7
   have hm:MlS k sz len:=.free h7
   cases h with
   | sl _ _ _ _ _ _ hs =>
     rcases hs with⟨rfl,hC⟩|⟨rfl,hp,a,rfl⟩
     ·refine⟨_,.ml _ _ _ _ _ (.inl ⟨hm,?_⟩),hk (Option.some (b,o+off*sz,C-off)) (.inl rfl)⟩
      exact xM
     ·have hs:SlV none sz 0 0 (.slice a 0 0):=⟨⟨a,rfl⟩,rfl⟩
      exact⟨_,.ml _ _ _ _ _ (.inl ⟨hm,hs⟩),hk none (.inr ⟨rfl,rfl⟩)⟩
  ·exact⟨_,h,hk⟩
 ·exact⟨_,h,hk⟩
theorem yU{w:World}{M:Nat->Prop}:∀(l:List AV) {us:Nat->Value}(_:∀i av,l[i]? = some av->VRel w M av (us i)) {K:List AV->Prop}(_:Ft l K),
 ∃l',l'.length=l.length/\(∀i av,l'[i]? = some av->VRel w M av (us i))/\K l'
 | [],us,h,K,hk=>⟨[],rfl,h,hk⟩
 | a :: l, us, h, K, hk => by
   unfold Ft at hk;obtain⟨a',h1,hk⟩:=yT (h 0 a rfl) hk;obtain⟨l',h2,h3,hk⟩:=yU l (us:=λi=>us (i+1)) (λi av hi=>h (i+1) av dN) hk;exact Lf
theorem Ho{w:World}{M:Nat->Prop}{x:AV}{u:Value}(h:VRel w M x u){K:AV->Prop}(hk:Hr x K):∃x',VRel w M x' u/\K x':=by
 unfold Hr at hk
 split at hk
 ·rename_i l
  cases h with
  | agg _ xs hs hl =>
    obtain⟨l',h1,h2,h3⟩:=yU l (us:=λi=>xs.getD i undef) hl hk;exact⟨_,.agg l' xs aa h2,h3⟩
 ·exact yT h hk
theorem v5{w:World}{M:Nat->Prop}:∀(l:List AV) {us:Nat->Value}(_:∀i av,l[i]? = some av->VRel w M av (us i)) {K:List AV->Prop}(_:p7 l K),
 ∃l',l'.length=l.length/\(∀i av,l'[i]? = some av->VRel w M av (us i))/\K l'
 | [],us,h,K,hk=>⟨[],rfl,h,hk⟩
 | a :: l, us, h, K, hk => by
   unfold p7 at hk;obtain⟨a',h1,hk⟩:=Ho (h 0 a rfl) hk;obtain⟨l',h2,h3,hk⟩:=v5 l (us:=λi=>us (i+1)) (λi av hi=>h (i+1) av dN) hk;exact Lf
def pF:List AV->AV
 | [x]=>x
 |l=>.tup l
def SJ(E:Env)(rs:List ResultVar)(post:AV->AH->Prop):Exit->ASt->Prop
 | .normal,st=>gu E st rs λl=>p7 l λl=>∃hN:AH,post (pF l) hN/\AV.qL l=true/\qH hN=true/\∀p∈hN,st.h.get p.1=p.2
 | .ret,st=>gu E st rs λl=>p7 l λl=>∃hN:AH,post (pF l) hN/\AV.qL l=true/\qH hN=true/\∀p∈hN,st.h.get p.1=p.2
 |_,_=>False
theorem RN:∀(h:AH) {k:Nat},k∈h.map (·.1)->(k,h.get k)∈h
 | (j, o) :: l, k, hk => by
   rw[br]
   split
   ·rename_i e;subst e;exact aK ..
   ·rename_i e
    simp only[bK,aV]at hk;exact aD _ (RN l (hk.resolve_left e))
theorem nJ.intro {P : Program} {T : Nat → Option TI} (hT : ∀ t ti, T t = some ti → TIok P t ti) {f : Nat} {fn : Func} {c : Code} (hf : P.funcs[f]? = some fn) (hname : (fn.name == "runtime.NumGoroutine") = false) (hb : fn.body = some c)
 {n:Nat}{rs:List ResultVar}(hnt:fn.ntmps=n) (hrs:fn.results=⟨rs⟩) {args:List VD}{post:AV->AH->Prop}(hn:args.length<=n) (kb:Nat)
 (h:∀w0 b,gM ⟨P,T,w0,⟨b,b,false,λ_=>True⟩⟩ c (SJ ⟨P,T,w0,⟨b,b,false,λ_=>True⟩⟩ rs post) { n:=n,kb:=kb,t:=mZ 0 args,h:=[] }):nJ P f args post:=by
 subst hnt;have hrs':fn.results.toList=rs:=kY;subst hrs';refine⟨⟨fn,hf,hname,ka⟩,λw xs hs hx=>iJ hf hb ?_⟩
 let bs:Bs:=⟨λc=>c<w.heap.size,λc=>c<w.heap.size,false,λ_=>True⟩
 have hE:EOk ⟨P,T,w,bs⟩:=⟨hT,λw' hb=>trivial⟩;have hM:∀b,¬AH.M [] b:=Cm
 have hR:Rep w bs { n:=fn.ntmps,kb:=kb,t:=mZ 0 args,h:=[] } { tmps:=xs++Array.replicate (fn.ntmps-xs.size) undef,defers:=[] } w:=by
  exact Dv
 refine gz (dq hE c _ _ _ w hR (h w (λc=>c<w.heap.size))) ?_
 rintro e a' w' ⟨st',hq,hR'⟩
 have key:(gu ⟨P,T,w,bs⟩ st' fn.results.toList λl=>p7 l λl=>∃hN:AH,post (pF l) hN/\AV.qL l=true/\qH hN=true/\∀p∈hN,st'.h.get p.1=p.2)->a'.defers=[]/\∃v,(results fn a'.tmps).run P w'=.ok v w' /\
  ∃v' av h E,Ending.returned v=.returned v'/\post av h/\av.q=true/\(∀k,(h.get k).q=true)/\Below w.heap.size w w'/\VRel w' h.M av v'/\HRel bs h w' E:=by
  intro hq;obtain⟨vs,l,h1,h2,h3,h4⟩:=fT hE hR' fn.results.toList hq;obtain⟨l',hl',h3',hN,hp,hql,hqh,hg⟩:=v5 l h3 h4;obtain⟨Es,hH⟩:=hR'.heap
  have hqa:(pF l').q=true:=by
   unfold pF
   split
   ·simpa[AV.qL]using hql
   ·simpa[AV.q]using hql
  refine⟨hR'.dfr,if vs.length=1 then vs.getD 0 undef else .tuple vs.toArray,?_,_,pF l',hN,_,rfl,hp,hqa,vl hN hqh,⟨hR'.below.os,hR'.below.tape,hR'.below.output,hR'.below.size,hR'.below.block⟩,?_,
   hH.some (λk hk=>(hg _ (RN hN hk)).symm) (vl hN hqh)⟩
  ·have h1':(fn.results.toList.mapM (jy a'.tmps)).run P w'=.ok vs w':=h1
   rw[mH,sR];simp only[eM,Sem.run_map,h1',cM,fp]
   cases vs with
   |nil=>simp
   |cons v vs=>cases vs<;>simp
  ·by_cases h:vs.length=1
   ·rw[ao h]
    obtain⟨x,rfl⟩:∃x,l'=[x]:=List.length_eq_one_iff.1 aa;exact(h3' 0 x rfl).quiet (by simpa[AV.qL]using hql)
   ·rw[au h]
    have e:pF l'=.tup l':=by
     unfold pF
     split
     ·simp at hl';omega
     ·rfl
    rw[e];refine .tup _ _ aM (λi av hi=>?_);have:=(h3' i av hi).quiet (w':=w') (M':=hN.M) (jY l' hql i av hi)
    simpa using this
 cases e with
 |normal=>exact key hq
 |ret=>exact key hq
 |_=>exact hq.elim
theorem Ve{E:Env}{rs:List ResultVar}{post:AV->AH->Prop}{st:ASt}:SJ E rs post .normal st=gu E st rs λl=>p7 l λl=>∃hN:AH,post (pF l) hN/\AV.qL l=true/\qH hN=true/\∀p∈hN,st.h.get p.1=p.2:=(rfl)
theorem Vd{E:Env}{rs:List ResultVar}{post:AV->AH->Prop}{st:ASt}:SJ E rs post .ret st=gu E st rs λl=>p7 l λl=>∃hN:AH,post (pF l) hN/\AV.qL l=true/\qH hN=true/\∀p∈hN,st.h.get p.1=p.2:=(rfl)
def TY(h:AH)(d d':CD):Prop:=
 d=d'\/∃(k:Nat) (H':Hd) (sz len b o C off C':Nat) (rows:List (List CD)) (own:Bool),d=.h k H' sz len/\70000<=k/\h.get k=.rows (some (b,o,C)) sz rows own/\(H'=some (b,o+off*sz,C')\/len=0/\H'=none)/\C'+off<=C/\off+len<=rows.length/\d'=.s (cut rows off len)
def XD(h:AH)(d d':CD):Prop:=
 TY h d d'\/∃rows rows':List (List CD),d=.s rows/\d'=.s rows'/\rows.length=rows'.length/\(∀(i:Nat) (row row':List CD),rows[i]? = some row->rows'[i]? = some row'->row.length=row'.length/\∀(j:Nat) (d d':CD),row[j]? = some d->row'[j]? = some d'->TY h d d')
theorem s5{base:Bs}{h:AH}{w:World}{E:Nat->Nat->Prop}(H:HRel base h w E){u:Value}{S:Nat->Prop}{d d':CD}(hr:Rd w false S u d)(hc:TY h d d'):Rd w false (λ_=>True) u d':=by
 rcases hc with rfl|⟨k,H',sz,len,b,o,C,off,C',rows,own,rfl,h7,hk,hH,hC,hln,rfl⟩
 ·exact hr.map (λ_ _ _=>rfl) (λ_ _ _=>trivial)
 ·cases hr with
  | h _ _ _ _ _ h1 h2 =>
    have hs:=h1 (.free h7);rcases hH with rfl|⟨rfl,rfl⟩
    ·rcases hs with⟨rfl,h3⟩|⟨-,h3,-⟩
     ·have ho:=H.obj k
      rw[hk]at ho;obtain⟨S1,hr1,-⟩:=im ho ⟨k,by rw[hk];rfl⟩ (u:=.slice (some ⟨b,o+off*sz,none⟩) len (C-off)) (.inl ⟨rfl,aa⟩) hln;have:=(hr1.weaken.map (λ_ _ _=>rfl) (S':=λ_=>True) (λ_ _ _=>trivial)).shrink (cap':=C') aa aa;exact i4
     ·omega
    ·obtain⟨⟨a',rfl⟩,-⟩:=hs
     rw[show cut rows off 0=[]from aA (jI _ _ _ hln)];exact xY
theorem Hj{base:Bs}{h:AH}{w:World}{E:Nat->Nat->Prop}(H:HRel base h w E){u:Value}{S:Nat->Prop}{d d':CD}(hr:Rd w false S u d)(hc:XD h d d'):Rd w false (λ_=>True) u d':=by
 rcases hc with hc|⟨rows,rows',rfl,rfl,hl,hrr⟩
 ·exact s5 H hr hc
 ·cases hr with
  | empty a cap hc =>
    have:rows'=[]:=aA (by rw[<-hl];rfl);subst this;exact xY
  | slice b off cap sz cs T fr _ F hcap hmax hsz hS hb hfit hown hF hd hlen hr =>
    rw[hl];refine .slice b off cap sz cs T fr rows' (λ_ _ _=>True) aa hmax hsz trivial hb (by rw[<-hl];exact hfit) eC (λ_ _ _ _=>⟨trivial,eC⟩) eC (λrow' hm=>?_) (λi j row' d' h1 h2=>?_)
    ·obtain⟨i,hi⟩:=dQ hm
     have hlt:i<rows.length:=by rw[hl];exact(an.1 hi).1
     have:=(hrr i _ _ (ak hlt) hi).1;rw[<-this];exact hlen _ (aj hlt)
    ·have hlt:i<rows.length:=by rw[hl];exact(an.1 h1).1
     obtain⟨h3,h4⟩:=hrr i _ _ (ak hlt) h1;have hj:j<(rows[i]).length:=by rw[h3];exact(an.1 h2).1
     have h5:=ak hj;exact s5 H (hr i j _ _ (ak hlt) h5) (h4 j _ _ h5 h2)
def SS(R:Value->CD->Prop)(h:AH)(x:AV)(d:CD):Prop:=
 (∃d0,aIn R h x d0/\XD h d0 d)\/∃k H sz len,x=.ml k H sz len/\70000<=k/\TY h (.h k H sz len) d
def SR(R:Value->CD->Prop)(h:AH):List AV->List CD->Prop
 | [],[]=>True
 |a::l,d::ds=>SS R h a d/\SR R h l ds
 |_,_=>False
def Nh(R:Value->CD->Prop)(h:AH)(x:AV)(v:VD):Prop:=
 match v with
 | .c d=>SS R h x d
 | .agg ds => match x with
   | .agg l=>SR R h l ds
   |_=>False
def Ng(R:Value->CD->Prop)(h:AH):List AV->List VD->Prop
 | [],[]=>True
 |a::l,d::ds=>Nh R h a d/\Ng R h l ds
 |_,_=>False
theorem NJ{h:AH}{d:CD}:XD h d d:=.inl (.inl rfl)
theorem di{R:Value->CD->Prop}{h:AH}{x:AV}{d:CD}(hi:aIn R h x d):SS R h x d:=.inl ⟨d,hi,NJ⟩
theorem Ry{R:Value->CD->Prop}{h:AH}{k0 sz0 n:Nat}{H0:Hd}{rows0:List (List CD)}{own0:Bool}{i j:Nat}{row:List CD}{k b o C off C' sz len:Nat}{H:Hd}{rows:List (List CD)}{own:Bool}(hk0:h.get k0=.rows H0 sz0 ((rows0).set i (row.set j (.h k H sz len))) own0)(hn:n=rows0.length)
 (hi:rows0[i]? = some row) (hj:row[j]? = some (.s (cut rows off len)))
 (h7:70000<=k) (hk:h.get k=.rows (some (b,o,C)) sz rows own) (hH:H=some (b,o+off*sz,C')\/len=0/\H=none)
 (hC:C'+off<=C) (hl:off+len<=rows.length):SS R h (.sl k0 H0 sz0 0 n) (.s rows0):=by
 refine .inl ⟨.s (rows0.set i (row.set j (.h k H sz len))),?_,.inr ⟨_,_,rfl,rfl,ab,λi' r r' h1 h2=>?_⟩⟩
 ·unfold aIn
  simp only[hk0];refine⟨trivial,trivial,by simp[hn],?_⟩;rw[hn];simp[cut]
 ·rw[eA]at h1
  split at h1
  ·rename_i e
   subst e
   split at h1
   ·cases h1
    rw[hi]at h2
    cases h2
    refine⟨ab,λj' d d' h3 h4=>?_⟩;rw[eA]at h3
    split at h3
    ·rename_i e
     subst e
     split at h3
     ·cases h3
      rw[hj]at h4
      cases h4
      exact .inr ⟨k,H,sz,len,b,o,C,off,C',rows,own,rfl,h7,hk,hH,hC,hl,rfl⟩
     ·cases h3
    ·rw[h3]at h4;cases h4;exact .inl rfl
   ·cases h1
  ·rw[h1]at h2
   cases h2
   exact⟨rfl,λj' d d' h3 h4=>by rw[h3]at h4;cases h4;exact .inl rfl⟩
theorem zW{base:Bs}{h:AH}{w:World}{E:Nat->Nat->Prop}(H:HRel base h w E){R:Value->CD->Prop}(hR:∀u d,R u d->Rd w false (λ_=>True) u d){x:AV}{u:Value}(hv:VRel w h.M x u){d:CD}(hi:SS R h x d):Rd w false (λ_=>True) u d:=by
 rcases hi with⟨d0,h1,h2⟩|⟨k,Hk,sz,len,rfl,h7,hc⟩
 ·have:=(jW H hR [x] [.c d0] (us:=λ_=>u) (λi av hi=>by
   rcases i with _|i
   ·simp at hi;subst hi;exact hv
   ·simp at hi) ⟨h1,trivial⟩).2 0 (.c d0) rfl
  exact Hj H this h2
 ·cases hv with
  | ml _ _ _ _ _ hx =>
    have hs:SlV Hk sz 0 len u:=hx.elim (λh=>h.2) (λh=>absurd (.free h7) h.2.1);exact s5 H (S:=λ_=>True) (.h k Hk sz len u (λ_=>hs) (λ_ hn=>absurd (.free h7) hn)) hc
theorem wM{base:Bs}{h:AH}{w:World}{E:Nat->Nat->Prop}(H:HRel base h w E){R:Value->CD->Prop}(hR:∀u d,R u d->Rd w false (λ_=>True) u d):∀(l:List AV) (ds:List CD) {us:Nat->Value}(_:∀(i:Nat) (av:AV),l[i]? = some av->VRel w h.M av (us i)) (_:SR R h l ds),
 l.length=ds.length/\∀(i:Nat) (d:CD),ds[i]? = some d->Rd w false (λ_=>True) (us i) d
 | [],[],_,_,_=>⟨rfl,λi d hi=>na⟩
 | a :: l, d :: ds, us, hv, hi => by
   obtain⟨h1,h2⟩:=wM H hR l ds (us:=λi=>us (i+1)) (λi av h=>hv (i+1) av kZ) hi.2;refine⟨j9,λi x hx=>?_⟩
   cases i with
   |zero=>simp at hx;subst hx;exact zW H hR (hv 0 a rfl) hi.1
   |succ i=>exact h2 i x m9
 | [],_::_,_,_,hi=>hi.elim
 |_::_,[],_,_,hi=>hi.elim
theorem wL{base:Bs}{h:AH}{w:World}{E:Nat->Nat->Prop}(H:HRel base h w E){R:Value->CD->Prop}(hR:∀u d,R u d->Rd w false (λ_=>True) u d):∀(l:List AV) (vs:List VD) {us:Nat->Value}(_:∀(i:Nat) (av:AV),l[i]? = some av->VRel w h.M av (us i)) (_:Ng R h l vs),
 l.length=vs.length/\∀(i:Nat) (v:VD),vs[i]? = some v->RdV w (us i) v
 | [],[],_,_,_=>⟨rfl,λi d hi=>na⟩
 | a :: l, v :: vs, us, hv, hi => by
   obtain⟨h1,h2⟩:=wL H hR l vs (us:=λi=>us (i+1)) (λi av h=>hv (i+1) av kZ) hi.2;refine⟨j9,λi x hx=>?_⟩
   cases i with
   | zero =>
     simp at hx;subst hx;have ha:=hv 0 a rfl;have hd:=hi.1
     cases v with
     |c d=>exact zW H hR ha hd
     | agg ds =>
       unfold Nh at hd;simp only at hd
       split at hd
       ·rename_i l'
        generalize us 0=u0 at ha
        cases ha with
        | agg _ xs hs hl =>
          obtain⟨g1,g2⟩:=wM H hR l' ds (us:=λi=>xs.getD i undef) hl hd;exact⟨xs,rfl,aa,g2⟩
       ·exact hd.elim
   |succ i=>exact h2 i x m9
 | [],_::_,_,_,hi=>hi.elim
 |_::_,[],_,_,hi=>hi.elim
theorem I2{E:Env}(hE:EOk E){f:Nat}{args:List VD}{rr:RR}(hc:mV E.P E.base.L f args rr){avs:List AV}{st:ASt}{dst:Option Nat}{K:ASt->Prop}(hin:Ng E.rd st.h avs args)
 (hout:bM st dst (roR rr) K):ag E f avs st dst K:=by
 refine⟨hc.1,λa w hR xs hs hx=>?_⟩;obtain⟨Es,hH⟩:=hR.heap;obtain⟨hl,hr⟩:=wL hH hR.rd avs args hx hin;refine(hc.2 w (hE.2 w hR.below) xs aa hr).mono ?_
 rintro e w' ⟨v,rfl,hb,hrr⟩
 have t:Tr st.h.M w st.h.M w':=⟨hb.size,λb hlt _=>hb.block b hlt,λb _ h=>h⟩;have H':HRel E.base st.h w' Es:=⟨λk=>(hH.obj k).tr t (λb hk=>hb.block b (hH.lt hk)) (λc hc _=>hc),hH.inj,hH.low,λk c hc=>⟨(hH.elow k c hc).1,bV (hH.elow k c hc).2 hb.size⟩,hH.einj,hH.em⟩;have hv:VRel w' st.h.M (roR rr) v:=DK hrr (λc hc ⟨k,hk⟩=>xF);obtain⟨av',h3,h1,h2,h4,h5⟩:=(hR.move H' t ⟨hb.os,hb.tape,hb.output⟩).put hv hout;exact⟨v,av',h3,rfl,h1,h2,h4,h5⟩
theorem oH{E:Env}(hE:EOk E){f:Nat}{args:List VD}{rr:RR}(hc:ar E.P f args rr){avs:List AV}{st:ASt}{dst:Option Nat}{K:ASt->Prop}(hin:Ng E.rd st.h avs args)
 (hout:bM st dst (roR rr) K):ag E f avs st dst K:=I2 hE hc.up hin hout
end Go.AM
