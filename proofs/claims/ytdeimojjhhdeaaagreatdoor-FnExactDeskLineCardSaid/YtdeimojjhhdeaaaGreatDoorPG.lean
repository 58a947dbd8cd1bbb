import Derived.Test.YtdeimojjhhdeaaaGreatDoorPF
import Derived.Test.YtdeimojjhhdeaaaGreatDoorME
import Derived.Test.YtdeimojjhhdeaaaGreatDoorNA
import Derived.Lib.SplitLaws
import Derived.Lib.Join
import Derived.Lib.ItoaNum
import Derived.Shelf.Strconv.Itoa3
import Derived.Shelf.Strconv.AtoiAll
import Derived.Shelf.Strings.Split
import Derived.Shelf.Strings.Replace
import Derived.Shelf.Strings.OnBuilder
import Derived.Test.YtdeimojjhhdeaaaGreatDoorMH
import Derived.Test.YtdeimojjhhdeaaaGreatDoorPE
import Derived.Lib.AtoiAllCases
namespace Go.AM
open Go.RowKit
def Oi(w:World)(S:Nat->Prop)(v:Value):RV->Prop
 | .c d _=>Rd w false S v d
 | .agg ts=>∃xs:Array Value,v=.agg xs/\xs.size=ts.length/\∀j t,ts[j]? = some t->Rd w false S (xs.getD j undef) t.1
def Oj(w:World)(S:Nat->Prop)(v:Value):RR->Prop
 | .one r=>Oi w S v r
 | .tup l=>∃xs:Array Value,v=.tuple xs/\xs.size=l.length/\∀j t,l[j]? = some t->Oi w S (xs.getD j undef) t
theorem Oi.rel{w:World}{M S:Nat->Prop}{v:Value}{r:RV}(h:Oi w S v r)(hM:∀c,S c->¬M c):VRel w M (roV r) v:=by
 cases r with
 |c d sz=>exact lV (Rd.map h (λ_ _ _=>rfl) (λc hc _=>hM c hc))
 | agg ts =>
   obtain⟨xs,rfl,h2,h5⟩:=h;refine .agg _ _ (by simp[h2]) (λi av hi=>?_);simp only[bP,a7]at hi;obtain⟨t,ht,rfl⟩:=hi;exact lV ((h5 i t ht).map (λ_ _ _=>rfl) (λc hc _=>hM c hc))
theorem Oj.rel{w:World}{M S:Nat->Prop}{v:Value}{r:RR}(h:Oj w S v r)(hM:∀c,S c->¬M c):VRel w M (roR r) v:=by
 cases r with
 |one r=>exact Oi.rel h hM
 | tup l =>
   obtain⟨xs,rfl,h2,h5⟩:=h;refine .tup _ _ (by simp[h2]) (λi av hi=>?_);simp only[bP,a7]at hi;obtain⟨t,ht,rfl⟩:=hi;exact Oi.rel (h5 i t ht) hM
theorem ae.ro{E:Env}{f:Nat}{args:List VD}{rr:RR}(hc:ar E.P f args rr){avs:List AV}{st:ASt}{dst:Option Nat}{K:ASt->Prop}(hin:rn E.rd st.h avs args)
 (hout:cG st dst (roR rr) K):ae E f avs st dst K:=by
 refine⟨hc.1,λa w hR xs hs hx=>?_⟩;obtain⟨Es,hH⟩:=hR.heap;obtain⟨hl,hr⟩:=jR hH hR.rd avs args hx hin;refine(hc.2 w trivial xs aa hr).mono ?_
 rintro e w' ⟨v,rfl,hb,hrr⟩
 have t:Tr st.h.M w st.h.M w':=⟨hb.size,λb hlt _=>hb.block b hlt,λb _ h=>h⟩;have H':HRel E.base st.h w' Es:=⟨λk=>(hH.obj k).tr t (λb hk=>hb.block b (hH.lt hk)) (λc hc _=>hc),hH.inj,hH.low,λk c hc=>⟨(hH.elow k c hc).1,cH (hH.elow k c hc).2 hb.size⟩,hH.einj,hH.em⟩;have hv:VRel w' st.h.M (roR rr) v:=D4 hrr (λc hc ⟨k,hk⟩=>Du);obtain⟨av',h3,h1,h2,h4,h5⟩:=(hR.move H' t ⟨hb.os,hb.tape,hb.output⟩).put hv hout;exact⟨v,av',h3,rfl,h1,h2,h4,h5⟩
abbrev ld:=List (Nat×Array Value×TypeId)
def ld.at(W:ld)(w:World):Prop:=(∀q∈W,w.heap[q.1]? = some (.cells q.2.1 q.2.2 (0,0)))/\(W.map (·.1)).Nodup
def ld.off(W:ld)(c:Nat):Prop:=∀q∈W,c≠q.1
def phO(q:Nat×Array Value×TypeId):AObj:=.vars q.1 q.2.2 (q.2.1.toList.map .is)
def pF:Nat->ld->AH
 |_,[]=>[]
 |i,q::l=>(i,phO q)::pF (i+1) l
def phs(W:ld):AH:=pF 1000000000 W
theorem BX:∀(W:ld) (i k:Nat),AH.get (pF i W) k=if i<=k then(match W[k-i]? with|some q=>phO q|none=>.dead)else .dead
 | [],i,k=>by simp[pF,AH.get]
 | q :: l, i, k => by
   rw[pF,bU,BX l];by_cases h:k=i
   ·subst h;simp
   ·rw[ak h]
    by_cases h1:i+1<=k
    ·rw[al h1,al aa,show k-i=(k-(i+1))+1 from aa];rfl
    ·rw[ak h1,ak aa]
theorem D6(W:ld)(k:Nat):AH.get (phs W) k=if 1000000000<=k then(match W[k-1000000000]? with|some q=>phO q|none=>.dead)else .dead:=BX W _ k
theorem ac6{W:ld}{k:Nat}(h:k<1000000000):AH.get (phs W) k=.dead:=by rw[D6,ak aa]
theorem KQ{W:ld}{k c:Nat}(h:(AH.get (phs W) k).blk=some c):1000000000<=k/\∃q,W[k-1000000000]? = some q/\q.1=c/\AH.get (phs W) k=phO q:=by
 rw[D6]at h⊢
 split at h
 ·rename_i hk
  rw[al hk]
  split at h
  ·rename_i q hq
   exact⟨hk,q,hq,by simpa[phO,AObj.blk]using h,ab⟩
  ·cases h
 ·cases h
theorem aah{W:ld}{q:Nat×Array Value×TypeId}(h:q∈W):∃k,1000000000<=k/\AH.get (phs W) k=phO q:=by
 obtain⟨i,hi,rfl⟩:=fF h;exact⟨1000000000+i,aa,by rw[D6,al aa];simp[hi]⟩
theorem ac7{W:ld}(hn:(W.map (·.1)).Nodup){k k' c:Nat}(h:(AH.get (phs W) k).blk=some c)(h':(AH.get (phs W) k').blk=some c):k=k':=by
 obtain⟨h1,q,hq,rfl,-⟩:=KQ h;obtain⟨h2,q',hq',e,-⟩:=KQ h';obtain⟨hi,rfl⟩:=aw.1 hq;obtain⟨hi',rfl⟩:=aw.1 hq';have:=(List.getElem_inj (xs:=W.map (·.1)) (i:=k'-1000000000) (j:=k-1000000000) (h₀:=by simpa using hi') (h₁:=by simpa using hi) hn).1 (by simpa using e);omega
def rq(h:AH)(W:ld):Prop:=∀k,1000000000<=k->AH.get h k=AH.get (phs W) k
theorem Ws{W:ld}:rq (phs W) W=True:=eq_true λ_ _=>rfl
theorem tail_cons{W:ld}{h:AH}{j:Nat}{o:AObj}(hj:j<1000000000):rq ((j,o)::h) W=rq h W:=by
 have:∀k,1000000000<=k->AH.get ((j,o)::h) k=AH.get h k:=λk hk=>by rw[bU,ak aa]
 refine propext ⟨λht k hk=>by rw[<-this k hk];exact ht k hk,λht k hk=>by rw[this k hk];exact ht k hk⟩
theorem Yb(a:AV):mP a a:=by cases a<;>simp[mP]
theorem Oc:∀l:List AV,ALe l l
 | []=>trivial
 |a::l=>⟨Yb a,Oc l⟩
theorem OY(o:AObj):kj o o:=by
 cases o with
 |vars b T cells=>exact⟨rfl,rfl,Oc cells⟩
 |dead=>trivial
 |rows=>exact .inl rfl
 |lent=>exact rfl
 |part=>exact rfl
theorem vj:∀{W:ld}{i:Nat}{p:Nat×AObj},p∈pF i W->i<=p.1/\AH.get (pF i W) p.1=p.2
 | [],_,_,h=>kI
 | q :: l, i, p, h => by
   rcases aR.1 h with rfl|h
   ·exact⟨aC _,by rw[pF,bU,al rfl]⟩
   ·obtain⟨h1,h2⟩:=vj h
    exact⟨aa,by rw[pF,bU,ak aa];exact h2⟩
theorem VJ{W:ld}:(∀p∈phs W,kj (AH.get (phs W) p.1) p.2)=True:=eq_true λp hp=>by
 have e:AH.get (phs W) p.1=p.2:=(vj hp).2;rw[e];exact OY _
theorem VI{W:ld}{h:AH}{j:Nat}{o:AObj}(hj:j<1000000000):(∀p∈phs W,kj (AH.get ((j,o)::h) p.1) p.2)=∀p∈phs W,kj (AH.get h p.1) p.2:=by
 have:∀p∈phs W,AH.get ((j,o)::h) p.1=AH.get h p.1:=λp hp=>by
  have:=(vj hp).1;rw[bU,ak aa]
 refine propext ⟨λht p hp=>by rw[<-this p hp];exact ht p hp,λht p hp=>by rw[this p hp];exact ht p hp⟩
def jm(P:Program)(f:Nat)(args:List VD)(R:RR->Prop):Prop:=
 Mb P f/\∀(w:World) (o:ld) (xs:Array Value),o.at w->xs.size=args.length->(∀i vd,args[i]? = some vd->Oh w o.off (xs.getD i undef) vd) ->
  Calls P f xs w λe w'=>∃v rr,e=.returned v/\R rr/\Below w.heap.size w w'/\Oj w' o.off v rr
theorem Jt{P:Program}{f:Nat}{args:List VD}{u:Value}(hu:plain u=true)(hc:jm P f args (λr=>r=.one (.c (.v u) 1))):ar P f args (.one (.c (.v u) 1)):=by
 refine⟨hc.1,λw _ xs hs hx=>(hc.2 w [] xs ⟨ab,ab⟩ hs (λi vd hi=>?_)).mono ?_⟩
 ·exact Ux
 ·exact Te
theorem aav{w:World}{M E:Nat->Prop}{o:AObj}(h:gN w M E o){b:Nat}(hb:o.blk=some b):∃cs T,w.heap[b]? = some (.cells cs T (0,0)):=by
 cases o with
 |dead=>cases hb
 |vars b' T cells=>obtain⟨cs,h1,-⟩:=h;cases hb;exact⟨cs,T,h1⟩
 |lent H sz rows=>cases hb
 | rows H sz rows own =>
   exact Th
 | part H sz rows lo =>
   exact Th
theorem Nw:∀{h:AH}{k:Nat},(AH.get h k).blk≠none->k∈h.map (·.1)
 | [],_,hk=>absurd rfl hk
 | (j, o) :: h, k, hk => by
   rw[bU]at hk
   split at hk
   ·rename_i e;rw[e];exact aP ..
   ·exact aG _ (Nw hk)
def ddl:List Nat->List Nat
 | []=>[]
 |a::l=>if a∈l then ddl l else a::ddl l
theorem Eb{c:Nat}:∀l:List Nat,c∈ddl l↔c∈l
 | []=>Iff.rfl
 | a :: l => by
   unfold ddl
   split
   ·rename_i h
    rw[Eb l];exact⟨λhc=>aG _ hc,λhc=>(aR.1 hc).elim (λe=>e ▸ h) id⟩
   ·rw[aR,aR,Eb l]
theorem Bm:∀l:List Nat,(ddl l).Nodup
 | []=>List.nodup_nil
 | a :: l => by
   unfold ddl
   split
   ·exact Bm l
   ·rename_i h
    rw[YG];exact⟨λhc=>h ((Eb l).1 hc),Bm l⟩
theorem Qs{w:World}:∀{B:List Nat},B.Nodup->(∀b∈B,∃cs T,w.heap[b]? = some (.cells cs T (0,0)))->∃W:ld,W.at w/\W.map (·.1)=B
 | [],_,_=>⟨[],⟨ab,ab⟩,rfl⟩
 | b :: B, hn, hb => by
   rw[YG]at hn;obtain⟨W,h1,h2⟩:=Qs hn.2 (λc hc=>hb c (aG _ hc));obtain⟨cs,T,h3⟩:=hb b (aP ..);refine⟨(b,cs,T)::W,⟨λq hq=>?_,?_⟩,by simp[h2]⟩
   ·rcases aR.1 hq with rfl|hq
    ·exact h3
    ·exact h1.1 q hq
   ·simp only[bK,YG]
    exact⟨by rw[h2];exact hn.1,h1.2⟩
theorem YQ{base:Bs}{h:AH}{w:World}{E:Nat->Nat->Prop}(H:HRel base h w E)(p:Nat->Prop):∃W:ld,W.at w/\∀c,W.off c↔¬(h.M c/\p c):=by
 classical
 let B:List Nat:=ddl (((h.map (·.1)).filterMap λk=>(h.get k).blk).filter (λc=>decide (p c)))
 have hB:∀c,c∈B↔h.M c/\p c:=by
  intro c;simp only[B,Eb,du,iH,dj]
  constructor
  ·rintro⟨⟨k,-,hk⟩,hp⟩;exact⟨⟨k,hk⟩,hp⟩
  ·rintro⟨⟨k,hk⟩,hp⟩;exact⟨⟨k,Nw (by rw[hk];simp),hk⟩,hp⟩
 obtain⟨W,h1,h2⟩:=Qs (w:=w) (B:=B) (Bm _) (λb hb=>by
  obtain⟨⟨k,hk⟩,-⟩:=(hB b).1 hb;exact aav (H.obj k) hk)
 refine⟨W,h1,λc=>?_⟩;rw[<-hB,<-h2];unfold ld.off
 constructor
 ·intro h hm
  obtain⟨q,hq,e⟩:=cM.1 hm;exact h q hq e.symm
 ·intro h q hq e
  exact h (cM.2 ⟨q,hq,e.symm⟩)
theorem aal{E:Env}{st:ASt}{a:Act}{w:World}(hR:Rep E.w0 E.base st a w){Es:Nat->Nat->Prop}(hH:HRel E.base st.h w Es){S:Nat->Prop}(hoff:∀c,¬st.h.M c->S c):∀(avs:List AV) (args:List VD) {us:Nat->Value}(_:∀i av,avs[i]? = some av->VRel w st.h.M av (us i)) (_:rn E.rd [] avs args),avs.length=args.length/\∀i d,args[i]? = some d->Oh w S (us i) d:=by
 have one:∀{x:AV}{u:Value}{d:CD},VRel w st.h.M x u->aIn E.rd [] x d->Rd w false S u d:=by
  intro x u d hv hk;unfold aIn at hk
  split at hk
  ·cases hv
   exact Rd.map hk (λb hb _=>hR.below.block b hb) (λc hc _=>hoff c (λ⟨k,hk⟩=>(hH.low k c hk).1 hc))
  ·simp at hk
  ·subst hk;cases hv with|v u hp=>exact .plain hp
  ·subst hk;cases hv;exact .empty _ _ fI
  ·subst hk;cases hv with|ro rows x hr=>exact hr.map (λ_ _ _=>rfl) (λc hc _=>hoff c hc)
  ·simp at hk
  ·exact hk.elim
 have oneL:∀(l:List AV) (ds:List CD) {us:Nat->Value}(_:∀i av,l[i]? = some av->VRel w st.h.M av (us i)) (_:GK E.rd [] l ds),l.length=ds.length/\∀i d,ds[i]? = some d->Rd w false S (us i) d:=by
  intro l
  induction l with
  | nil =>
    intro ds us hv hk
    cases ds with
    |nil=>exact⟨rfl,λi d hd=>qS⟩
    |cons _ _=>exact hk.elim
  | cons a l ih =>
    intro ds us hv hk
    cases ds with
    |nil=>exact hk.elim
    | cons d ds =>
      obtain⟨h1,h2⟩:=ih ds (us:=λi=>us (i+1)) (λi av hi=>hv (i+1) av eT) hk.2;refine⟨lj,λi d' hd=>?_⟩
      cases i with
      |zero=>simp at hd;subst hd;exact one (hv 0 a rfl) hk.1
      |succ i=>exact h2 i d' pn
 intro avs
 induction avs with
 | nil =>
   intro args us hv hk
   cases args with
   |nil=>exact⟨rfl,λi d hd=>qS⟩
   |cons _ _=>exact hk.elim
 | cons a l ih =>
   intro args us hv hk
   cases args with
   |nil=>exact hk.elim
   | cons d ds =>
     obtain⟨h1,h2⟩:=ih ds (us:=λi=>us (i+1)) (λi av hi=>hv (i+1) av eT) hk.2;refine⟨lj,λi d' hd=>?_⟩
     cases i with
     | zero =>
       simp at hd;subst hd;have h0:=hv 0 a rfl;have hk0:=hk.1;generalize us 0=u0 at h0⊢;unfold Qb at hk0
       split at hk0
       ·exact one h0 hk0
       ·split at hk0
        ·rename_i ds _ l
         cases h0 with
         | agg _ xs hs hl =>
           obtain⟨g1,g2⟩:=oneL l ds hl hk0;exact⟨xs,rfl,aa,g2⟩
        ·exact hk0.elim
     |succ i=>exact h2 i d' pn
theorem iF{E:Env}{f:Nat}{args:List VD}{R:RR->Prop}(hc:jm E.P f args R){avs:List AV}{st:ASt}{dst:Option Nat}{K:ASt->Prop}(hin:rn E.rd [] avs args)
 (hout:∀rr,R rr->cG st dst (roR rr) K):ae E f avs st dst K:=by
 refine⟨hc.1,λa w hR xs hs hx=>?_⟩;obtain⟨Es,hH⟩:=hR.heap;obtain⟨o,ho,hoff⟩:=YQ hH (λ_=>True);obtain⟨hl,hr⟩:=aal hR hH (S:=o.off) (λc hc=>(hoff c).2 (λh=>hc h.1)) avs args hx hin;refine(hc.2 w o xs ho aa hr).mono ?_
 rintro e w' ⟨v,rr,rfl,hRR,hb,hrr⟩
 have t:Tr st.h.M w st.h.M w':=⟨hb.size,λb hlt _=>hb.block b hlt,λb _ h=>h⟩;have H':HRel E.base st.h w' Es:=⟨λk=>(hH.obj k).tr t (λb hk=>hb.block b (hH.lt hk)) (λc hc _=>hc),hH.inj,hH.low,λk c hc=>⟨(hH.elow k c hc).1,cH (hH.elow k c hc).2 hb.size⟩,hH.einj,hH.em⟩;have hv:VRel w' st.h.M (roR rr) v:=Oj.rel hrr (λc hc hm=>(hoff c).1 hc ⟨hm,trivial⟩);obtain⟨av',h3,h1,h2,h4,h5⟩:=(hR.move H' t ⟨hb.os,hb.tape,hb.output⟩).put hv (hout rr hRR);exact⟨v,av',h3,rfl,h1,h2,h4,h5⟩
def B6(R:Value->CD->Prop)(h:AH)(x:AV)(r:RV):Prop:=
 match r with
 | .c d _=>aIn R h x d
 | .agg ts => match x with
   | .agg l=>GK R h l (ts.map Prod.fst)
   |_=>False
def yw(R:Value->CD->Prop)(h:AH):List AV->List RV->Prop
 | [],[]=>True
 |a::l,r::rs=>B6 R h a r/\yw R h l rs
 |_,_=>False
def nQ(E:Env)(h:AH)(l:List AV)(rr:RR):Prop:=
 match rr with
 | .one r => match l with
   | [x]=>B6 E.rd h x r
   |_=>False
 | .tup rs=>l.length≠1/\yw E.rd h l rs
theorem B5{base:Bs}{h:AH}{w:World}{E:Nat->Nat->Prop}(H:HRel base h w E){S:Nat->Prop}(hS:∀c,¬h.M c->S c)(hSr:∀k b o C sz rows own,h.get k=.rows (some (b,o,C)) sz rows own->S b)
 {R:Value->CD->Prop}(hR:∀u d,R u d->Rd w false S u d) {x:AV}{u:Value}(hv:VRel w h.M x u) {r:RV}(hk:B6 R h x r):Oi w S u r:=by
 unfold B6 at hk
 split at hk
 ·exact GI H hS hSr hR hv hk
 ·split at hk
  ·rename_i ts _ l
   cases hv with
   | agg _ xs hs hl =>
     obtain⟨h1,h2⟩:=CC H hS hSr hR l _ hl hk;refine⟨xs,rfl,by simp at h1;omega,λj t hj=>h2 j t.1 (by simp[hj])⟩
  ·exact hk.elim
theorem zJ{base:Bs}{h:AH}{w:World}{E:Nat->Nat->Prop}(H:HRel base h w E){S:Nat->Prop}(hS:∀c,¬h.M c->S c)(hSr:∀k b o C sz rows own,h.get k=.rows (some (b,o,C)) sz rows own->S b)
 {R:Value->CD->Prop}(hR:∀u d,R u d->Rd w false S u d):∀(l:List AV) (rs:List RV) {us:Nat->Value}(_:∀i av,l[i]? = some av->VRel w h.M av (us i)) (_:yw R h l rs),
 l.length=rs.length/\∀j t,rs[j]? = some t->Oi w S (us j) t
 | [],[],us,hv,hk=>⟨rfl,λj t hj=>sR⟩
 | a :: l, r :: rs, us, hv, hk => by
   obtain⟨h1,h2⟩:=zJ H hS hSr hR l rs (us:=λi=>us (i+1)) (λi av hi=>hv (i+1) av eT) hk.2;refine⟨lj,λj t hj=>?_⟩
   cases j with
   |zero=>simp at hj;subst hj;exact B5 H hS hSr hR (hv 0 a rfl) hk.1
   |succ j=>exact h2 j t ln
 | [],_::_,us,hv,hk=>hk.elim
 |_::_,[],us,hv,hk=>hk.elim
theorem M3{E:Env}{h:AH}{w:World}{Es:Nat->Nat->Prop}(H:HRel E.base h w Es){S:Nat->Prop}(hS:∀c,¬h.M c->S c)(hSr:∀k b o C sz rows own,h.get k=.rows (some (b,o,C)) sz rows own->S b)
 (hR:∀u d,E.rd u d->Rd w false S u d) {vs:List Value}{l:List AV}(hl:vs.length=l.length) (hv:∀i av,l[i]? = some av->VRel w h.M av (vs.getD i undef)) {rr:RR}(hq:nQ E h l rr) :
 Oj w S (if vs.length=1 then vs.getD 0 undef else .tuple vs.toArray) rr:=by
 unfold nQ at hq
 split at hq
 ·split at hq
  ·rename_i r x
   rw[al sU];exact B5 H hS hSr hR (hv 0 x rfl) hq
  ·exact hq.elim
 ·rename_i rs
  obtain⟨hne,hq⟩:=hq;obtain⟨h1,h2⟩:=zJ H hS hSr hR l rs hv hq;rw[ak aa];exact⟨vs.toArray,rfl,aI,λj t hj=>by simpa using h2 j t hj⟩
theorem Vq{P:Program}{fn:Func}{tmps:Array Value}{w:World}{vs:List Value}(h1:(fn.results.toList.mapM (nc tmps)).run P w=.ok vs w):(results fn tmps).run P w=.ok (if vs.length=1 then vs.getD 0 undef else .tuple vs.toArray) w:=by
 rw[p8,yc];simp only[gj,Sem.run_map,h1,dT,ic]
 cases vs with
 |nil=>simp
 |cons v vs=>cases vs<;>simp
theorem ac5{w:World}{o:ld}(ho:o.at w)(M E:Nat->Prop)(k:Nat):gN w M E (AH.get (phs o) k):=by
 rw[D6]
 split
 ·split
  ·rename_i q hq
   refine⟨q.2.1,ho.1 q (aQ hq),ab,λj av hj=>?_⟩;simp only[bP,rS,a7]at hj;obtain⟨u,hu,rfl⟩:=hj;have:q.2.1.getD j undef=u:=by simp[hu]
   rw[this];exact .is u
  ·trivial
 ·trivial
theorem ac4{w:World}{o:ld}(ho:o.at w)(base:Bs)(hb:∀c,¬o.off c->¬base.F c/\¬base.G c):HRel base (phs o) w (λ_ _=>False)/\∀c,(phs o).M c↔¬o.off c:=by
 have hm:∀c,(phs o).M c↔¬o.off c:=by
  intro c
  constructor
  ·rintro⟨k,hk⟩ h
   obtain⟨-,q,hq,e,-⟩:=KQ hk;exact h q (aQ hq) e.symm
  ·intro h
   obtain⟨q,hq,e⟩:∃q∈o,c=q.1:=bR λhn=>h (λq hq he=>hn ⟨q,hq,he⟩)
   obtain⟨k,-,hk⟩:=aah hq;exact⟨k,by rw[hk,e];rfl⟩
 exact⟨⟨λk=>ac5 ho _ _ k,λk k' c h h'=>ac7 ho.2 h h',λk c h=>hb c ((hm c).1 ⟨k,h⟩),λ_ _ h=>h.elim,λ_ _ _ h=>h.elim,λ_ _ h=>h.elim⟩,hm⟩
theorem aai{w:World}{o:ld}(ho:o.at w){n:Nat}{xs:Array Value}{t:List (Nat×AV)}(hn:xs.size<=n)(ht:∀q,VRel w (λc=>¬o.off c) (cm t q) ((xs++Array.replicate (n-xs.size) undef).getD q undef)) :
 Rep w ⟨λc=>c<w.heap.size/\o.off c,λc=>c<w.heap.size/\o.off c,false,λ_=>True⟩ { n:=n,kb:=0,t:=t,h:=phs o } { tmps:=xs++Array.replicate (n-xs.size) undef,defers:=[] } w:=by
 obtain⟨hrel,hm⟩:=ac4 ho ⟨λc=>c<w.heap.size/\o.off c,λc=>c<w.heap.size/\o.off c,false,λ_=>True⟩ (λc hc=>⟨λh=>hc h.2,λh=>hc h.2⟩);exact⟨rfl,aI,λq=>(ht q).tr ⟨aC _,λ_ _ _=>rfl,λc _ hc=>(hm c).1 hc⟩,⟨_,hrel⟩,BelowF.refl _ _,λc hc=>hc.elim (λh=>h.1) (λh=>h.1)⟩
theorem wP{base:Bs}{h:AH}{w w':World}{E:Nat->Nat->Prop}(hH:HRel base h w' E){o:ld}(ho:o.at w)(hg:rq h o){c:Nat}(hc:¬o.off c):w'.heap[c]? = w.heap[c]?/\∃k,1000000000<=k/\(h.get k).blk=some c/\∃b T l,h.get k=.vars b T l:=by
 obtain⟨q,hq,rfl⟩:∃q∈o,c=q.1:=bR λhn=>hc (λq hq he=>hn ⟨q,hq,he⟩)
 obtain⟨k,hk,he⟩:=aah hq;have e:h.get k=phO q:=by rw[hg k hk,he]
 refine⟨?_,k,hk,by rw[e];rfl,_,_,_,e⟩;have ob:=hH.obj k;rw[e]at ob;obtain⟨cs',g1,g2,g3⟩:=ob;have hs:cs'.size=q.2.1.size:=by simpa using g2
 have:cs'=q.2.1:=by
  refine Array.ext hs (λj hj hj'=>?_);have:=g3 j (.is q.2.1[j]) (by simp[hj']);have e:cs'.getD j undef=cs'[j]:=by simp[hj]
  rw[e]at this;generalize cs'[j]=y at this
  cases this;rfl
 rw[g1,this];exact(ho.1 q hq).symm
theorem aaj{P:Program}{Ty:Nat->Option TI}(hT:∀t ti,Ty t=some ti->TIok P t ti){fn:Func}{w w':World}{o:ld}(ho:o.at w){R:RR->Prop}{st':ASt}{a':Act}
 (hR':Rep w ⟨λc=>c<w.heap.size/\o.off c,λc=>c<w.heap.size/\o.off c,false,λ_=>True⟩ st' a' w')
 (hq:jw ⟨P,Ty,w,⟨λc=>c<w.heap.size/\o.off c,λc=>c<w.heap.size/\o.off c,false,λ_=>True⟩⟩ st' fn.results.toList λl=>∃rr,R rr/\nQ ⟨P,Ty,w,⟨λc=>c<w.heap.size/\o.off c,λc=>c<w.heap.size/\o.off c,false,λ_=>True⟩⟩ st'.h l rr/\rq st'.h o) :
 a'.defers=[]/\∃v,(results fn a'.tmps).run P w'=.ok v w'/\∃v' rr,Ending.returned v=.returned v'/\R rr/\Below w.heap.size w w'/\Oj w' o.off v' rr:=by
 let B:Bs:=⟨λc=>c<w.heap.size/\o.off c,λc=>c<w.heap.size/\o.off c,false,λ_=>True⟩
 have hE:EOk ⟨P,Ty,w,B⟩:=⟨hT,λw' hb=>trivial⟩;obtain⟨vs,l,h1,h2,h3,rr,hRR,h4,hg⟩:=jv hE hR' fn.results.toList hq;obtain⟨Es,hH⟩:=hR'.heap
 refine⟨hR'.dfr,_,Vq h1,_,rr,rfl,hRR,⟨hR'.below.os,hR'.below.tape,hR'.below.output,hR'.below.size,λc hc=>?_⟩,
  M3 (E:=⟨P,Ty,w,B⟩) hH (S:=o.off) (λc hc=>bR λh=>?_) (λk b' o' C sz rows own hgk=>bR λh=>?_) (λv d hd=>?_) h2 h3 h4⟩
 ·by_cases h:o.off c
  ·exact hR'.below.block c ⟨hc,h⟩
  ·exact(wP hH ho hg h).1
 ·obtain⟨-,k,-,hk,-⟩:=wP hH ho hg h
  exact hc ⟨k,hk⟩
 ·obtain⟨-,k',-,hk,b,T,l,he⟩:=wP hH ho hg h
  have:=hH.inj k k' b' (by rw[hgk];rfl) hk;subst this;rw[hgk]at he;cases he
 ·exact Rd.map hd (λc hc _=>hR'.below.block c hc) (λc hc _=>hc.2)
def LO(E:Env)(o:ld)(rs:List ResultVar)(R:RR->Prop):Exit->ASt->Prop
 | .normal,st=>jw E st rs λl=>∃rr,R rr/\nQ E st.h l rr/\rq st.h o
 | .ret,st=>jw E st rs λl=>∃rr,R rr/\nQ E st.h l rr/\rq st.h o
 |_,_=>False
theorem Oh.ph{w:World}{o:ld}{v:Value}{d:VD}(h:Oh w o.off v d):VRel w (λc=>¬o.off c) d.toAV v:=
 Oh.rel (M:=λc=>¬o.off c) (by
  cases d with
  |c d=>exact Rd.map h (λ_ _ _=>rfl) (λc hc _ hn=>hn hc)
  | agg ds =>
    obtain⟨xs,h1,h2,h3⟩:=h;exact⟨xs,h1,h2,λj d hd=>(h3 j d hd).map (λ_ _ _=>rfl) (λc hc _ hn=>hn hc)⟩)
theorem jm.intro {P : Program} {Ty : Nat → Option TI} (hT : ∀ t ti, Ty t = some ti → TIok P t ti) {f : Nat} {fn : Func} {c : Code} (hf : P.funcs[f]? = some fn) (hname : (fn.name == "runtime.NumGoroutine") = false) (hb : fn.body = some c)
 {n:Nat}{rs:List ResultVar}(hnt:fn.ntmps=n) (hrs:fn.results=⟨rs⟩) {args:List VD}{R:RR->Prop}(hn:args.length<=n)
 (h:∀w0 base o,jA ⟨P,Ty,w0,⟨base,base,false,λ_=>True⟩⟩ c (LO ⟨P,Ty,w0,⟨base,base,false,λ_=>True⟩⟩ o rs R) { n:=n,kb:=0,t:=rL 0 args,h:=phs o }):jm P f args R:=by
 subst hnt;have hrs':fn.results.toList=rs:=qO;subst hrs';refine⟨⟨fn,hf,hname,pj⟩,λw o xs ho hs hx=>oc hf hb ?_⟩;have hE:EOk ⟨P,Ty,w,⟨λc=>c<w.heap.size/\o.off c,λc=>c<w.heap.size/\o.off c,false,λ_=>True⟩⟩:=⟨hT,λw' hb=>trivial⟩
 have hR:=aai ho (n:=fn.ntmps) (xs:=xs) (t:=rL 0 args) aa (λq=>by
  rw[Au,al (dz q),nE]
  split
  ·exact QX
  ·exact .any _)
 refine kL (eW hE c _ _ _ w hR (h w _ o)) ?_
 rintro e a' w' ⟨st',hq,hR'⟩
 cases e with
 |normal=>exact aaj hT ho hR' hq
 |ret=>exact aaj hT ho hR' hq
 |_=>exact hq.elim
theorem acp{W:ld}:wkH (phs W) (phs W)=True:=by rw[<-Eo];exact VJ
theorem aco{W:ld}{h:AH}{j:Nat}{o:AObj}(hj:j<1000000000):wkH ((j,o)::h) (phs W)=wkH h (phs W):=by rw[<-Eo,<-Eo];exact VI hj
theorem ahE{st:ASt}:st.ev (.const (.pointer none))=.any:=(rfl)
theorem abQ{E:Env}{o:ld}{rs:List ResultVar}{R:RR->Prop}{st:ASt}:LO E o rs R .normal st=jw E st rs λl=>∃rr,R rr/\nQ E st.h l rr/\rq st.h o:=(rfl)
theorem abP{E:Env}{o:ld}{rs:List ResultVar}{R:RR->Prop}{st:ASt}:LO E o rs R .ret st=jw E st rs λl=>∃rr,R rr/\nQ E st.h l rr/\rq st.h o:=(rfl)
theorem ag7{E:Env}{h:AH}{x:AV}{r:RV}:nQ E h [x] (.one r)=B6 E.rd h x r:=(rfl)
theorem ag6{E:Env}{h:AH}{l:List AV}{rs:List RV}:nQ E h l (.tup rs)=(l.length≠1/\yw E.rd h l rs):=(rfl)
theorem adj{R:Value->CD->Prop}{h:AH}{x:AV}{d:CD}{sz:Nat}:B6 R h x (.c d sz)=aIn R h x d:=(rfl)
theorem W6{R:Value->CD->Prop}{h:AH}{l:List AV}{ts:List (CD×Nat)}:B6 R h (.agg l) (.agg ts)=GK R h l (ts.map Prod.fst):=(rfl)
theorem Pa{R:Value->CD->Prop}{h:AH}:yw R h [] []=True:=(rfl)
theorem M4{R:Value->CD->Prop}{h:AH}{x:AV}{l:List AV}{r:RV}{rs:List RV}:yw R h (x::l) (r::rs)=(B6 R h x r/\yw R h l rs):=(rfl)
theorem ajQ{d:CD}{sz:Nat}:roV (.c d sz)=toAV d:=(rfl)
theorem acN{ts:List (CD×Nat)}:roV (.agg ts)=.agg (ts.map λt=>toAV t.1):=(rfl)
theorem acP{r:RV}:roR (.one r)=roV r:=(rfl)
theorem acO{l:List RV}:roR (.tup l)=.tup (l.map roV):=(rfl)
attribute [simp ↓] ahE abQ abP
attribute [simp] ag7 ag6 adj W6 Pa M4 ajQ acN acP acO acp aco Ws tail_cons VJ VI ac6
end Go.AM
namespace Go.Proofs.YtdeimojjhhdeaaaGreatDoor
open Go.AM
set_option maxRecDepth 20000
set_option maxHeartbeats 6400000
def bs(l:List UInt8):ByteArray:=⟨l.toArray⟩
theorem kf(l:List UInt8):(⟨l.toArray⟩:ByteArray)=bs l:=rfl
theorem ia(a b:List UInt8):bs a++bs b=bs (a++b):=by
 apply ByteArray.ext
 simp[bs]
theorem cP(l:List UInt8):(bs l).size=l.length:=by simp[bs,ByteArray.size]
theorem fo(l:List UInt8):(bs l).data.toList=l:=by simp[bs]
theorem oA(s:ByteArray):bs s.data.toList=s:=by cases s;simp[bs]
theorem gM{a b:List UInt8}:bs a=bs b↔a=b:=⟨λh=>by have:=aK (λs=>s.data.toList) h;simpa[bs]using this,λh=>fH⟩
theorem LN{l:List UInt8}{i:Nat}(h:i<(bs l).size):(bs l)[i]'h=l[i]'(by rw[cP]at h;exact h):=by
 simp[bs,Om]
theorem Gz(l:List UInt8)(i j:Nat):(bs l).extract i j=bs ((l.take j).drop i):=by
 apply ByteArray.ext
 simp[bs,List.drop_take]
theorem Yo{P:Program}{T:Nat->Option TI}{w0:World}{base:Bs}{t:Nat}{s:ByteArray}{k:IntKind}{F:AV->Prop} :
 H8 ⟨P,T,w0,base⟩ t (.v (.string s)) (.v (.int k 0)) F=(Env.isStr ⟨P,T,w0,base⟩ t/\∃h:0<s.size,F (.v (.int .u8 (s[0]'h).toNat))):=by
 simp[H8]
attribute [simp ↓] Yo
abbrev vs(l:List UInt8):CD:=.v (.string (bs l))
def wR(l:List UInt8):List CD:=[vs l]
theorem gH(l:List UInt8):(wR l).length=1:=rfl
def aV(n:Int):List UInt8:=if 0<=n/\n<=1000000000 then Lib.decDigits n.toNat else []
theorem ua{m:Nat}(h:m<10):Lib.decDigits m=[UInt8.ofNat (48+m)]:=Lib.decDigits_one h
theorem sy{m:Nat}(h:¬m<10):Lib.decDigits m=Lib.decDigits (m / 10)++[UInt8.ofNat (48+m % 10)]:=by rw[Lib.decDigits,On h]
theorem NT{m:Nat}(h:m<10):Lib.decDigits m=[UInt8.ofNat (48+m % 10)]:=by rw[ua h,Wi h]
theorem ad1:∀m:Nat,(Lib.decDigits m).length<=m+1:=by
 intro m
 induction m using Nat.strongRecOn with
 | ind m ih =>
   by_cases h:m<10
   ·rw[ua h];simp
   ·rw[sy h]
    have:=ih (m / 10) aa;simp;omega
theorem NU(m:Nat):fR (UInt8.ofNat (48+m % 10))=[.v (.int .u8 (IntKind.u8.wrap (48+((m % 10:Nat):Int))))]:=by
 have h:m % 10<10:=CK _ aa;generalize m % 10=k at h
 have:∀k,k<10->fR (UInt8.ofNat (48+k))=[.v (.int .u8 (IntKind.u8.wrap (48+(k:Int))))]:=by
  intro k hk;rcases(by omega:k=0\/k=1\/k=2\/k=3\/k=4\/k=5\/k=6\/k=7\/k=8\/k=9)with rfl|rfl|rfl|rfl|rfl|rfl|rfl|rfl|rfl|rfl<;>rfl
 exact this k h
def bf(c:UInt8):List UInt8->List (List UInt8)
 | []=>[[]]
 | x :: l => if x = c then [] :: bf c l else match bf c l with
   | []=>[[x]]
   |w::r=>(x::w)::r
theorem lz(c:UInt8):∀l,bf c l≠[]
 | []=>by simp[bf]
 | x :: l => by
   unfold bf
   split
   ·simp
   ·split<;>simp
theorem s5(c:UInt8):∀(a b:List UInt8),c∉a->bf c (a++c::b)=a::bf c b
 | [],b,_=>by simp[bf]
 | x :: a, b, h => by
   have hx:x≠c:=λe=>h (by simp[e])
   have ih:=s5 c a b (λe=>h (by simp[e]));simp[bf,hx,ih]
theorem wH(c:UInt8):∀(a:List UInt8),c∉a->bf c a=[a]
 | [],_=>by simp[bf]
 | x :: a, h => by
   have hx:x≠c:=λe=>h (by simp[e])
   have ih:=wH c a (λe=>h (by simp[e]));simp[bf,hx,ih]
theorem oF(c:UInt8):∀(l:List (List UInt8)),l≠[]->(∀w∈l,c∉w)->bf c (Lib.join l [c])=l
 | [],h,_=>absurd rfl h
 | [w],_,h=>by rw[jK,wH c w (h w ab)]
 | w :: v :: r, _, h => by
   have e:Lib.join (w::v::r) [c]=w++c::Lib.join (v::r) [c]:=by
    exact JZ
   rw[e,s5 c _ _ (h w ab),oF c (v::r) ab (λu hu=>h u (by simp[hu]))]
theorem FF(c:UInt8):∀l:List UInt8,Lib.join (bf c l) [c]=l
 | []=>by simp[bf,jK]
 | x :: l => by
   have ih:=FF c l;unfold bf
   split
   ·rename_i h
    subst h
    cases hs:bf x l with
    |nil=>exact absurd hs (lz x l)
    | cons w r =>
      rw[hs]at ih;rw[BC]at ih⊢;simp only[Lib.joinTail,bK,List.flatten_cons,ig,dE];rw[<-ih];simp[Lib.joinTail]
   ·split
    ·rename_i hs;exact absurd hs (lz c l)
    ·rename_i w r hs
     rw[hs,BC]at ih;rw[BC,dE,ih]
theorem dO(c:UInt8):∀(l:List UInt8),(bf c l).length<=l.length+1/\∀w∈bf c l,w.length<=l.length
 | []=>by simp[bf]
 | x :: l => by
   have ih:=dO c l;unfold bf
   split
   ·refine⟨aI,λw hw=>?_⟩
    rcases aR.1 hw with rfl|hw
    ·simp
    ·have:=ih.2 w hw;simp;omega
   ·split
    ·simp
    ·rename_i v r hs
     rw[hs]at ih;refine⟨by have:=ih.1;simp at this⊢;omega,λw hw=>?_⟩;rcases aR.1 hw with rfl|hw
     ·have:=ih.2 v ab;simp;omega
     ·have:=ih.2 w (by simp[hw]);simp;omega
def KW(W:List (List UInt8)):Nat:=(W.map λw=>w.length+1).sum
theorem wX(w:List UInt8)(W:List (List UInt8)):KW (w::W)=w.length+1+KW W:=by simp[KW]
theorem yx(c:UInt8):∀l:List UInt8,KW (bf c l)=l.length+1
 | []=>by simp[bf,KW]
 | x :: l => by
   have ih:=yx c l;unfold bf
   split
   ·rw[wX,ih];simp;omega
   ·split
    ·rename_i hs;exact absurd hs (lz c l)
    ·rename_i w r hs
     rw[hs,wX]at ih;rw[wX];simp;omega
theorem IS{W:List (List UInt8)}{i:Nat}(h:i<W.length):KW (W.drop i)=W[i].length+1+KW (W.drop (i+1)):=by
 rw[bk h,wX]
theorem Xr(c:UInt8)(w:List UInt8):∀W:List (List UInt8),Lib.join (W++[w]) [c]=if W=[]then w else Lib.join W [c]++c::w
 | []=>by simp[jK]
 | x :: W => by
   rw[dE,BC,BC,ak ab];simp[Lib.joinTail]
attribute [local simp] kf ia cP gM
theorem bQ(n:Int):ar Tryz.prog 72 [.c (vi n)] (.one (.c (vs (aV n)) 1)):=by
 refine pci aq Tryz.func72 (λw0 base=>?_);simp;refine ae.pure (dH n 0 1000000000) ab ?_;by_cases h:0<=n/\n<=1000000000
 rotate_left
 ·simp[h,aV]
 simp[h];obtain⟨m,rfl⟩:∃m:Nat,n=m:=⟨n.toNat,aa⟩;have hm:m<=1000000000:=aa;have hL:=ad1 m;refine aE eok (λx:Nat×List UInt8=>x.1<=m/\Lib.decDigits x.1++x.2=Lib.decDigits m) (λx=>⟨26,0,[(3,.v (.string (bs x.2))),(0,.v (.int .i64 x.1))],[]⟩) (λx=>x.1) (m,[]) ⟨ab,ab⟩ ab (λx hi=>Ent.refl ?_);obtain⟨k,s⟩:=x;obtain⟨h1,h2⟩:=hi;simp only at h1 h2⊢;have hs:s.length<=m+1:=by have:=aK List.length h2;simp at this;omega
 by_cases h9:(9:Int)<k
 ·have e10:(k:Int).tmod 10=((k % 10:Nat):Int):=(Int.ofNat_tmod k 10).symm
  have e11:IntKind.i64.wrap (48+((k % 10:Nat):Int))=48+((k % 10:Nat):Int):=sM;have e12:IntKind.i64.wrap ((k:Int) / 10)=((k / 10:Nat):Int):=sM;simp[h9];intro b;refine⟨[UInt8.ofNat (48+k % 10)],?_,aI,Ent.refl ⟨k / 10,UInt8.ofNat (48+k % 10)::s,⟨aa,?_⟩,aa,?_⟩⟩
  ·rw[e10,e11];simp only[bK,jz,NU]
  ·rw[<-h2,sy (by omega:¬k<10)];simp
  ·rw[e12];simp
 ·have hk:k<10:=by omega
  have e11:IntKind.i64.wrap (48+(k:Int))=48+((k % 10:Nat):Int):=sM;simp[h9];refine⟨[UInt8.ofNat (48+k % 10)],?_,aI,?_⟩
  ·rw[e11];simp only[bK,jz,NU]
  ·unfold aV
   rw[al aa,<-NT hk,bm,h2]
theorem BQ(l:List UInt8)(c:UInt8)(hl:l.length<=2^40):ar Tryz.prog 87 [.c (vs l),.c (.v (.int .u8 c.toNat))] (.one (.c (.s ((bf c l).map wR)) 1)):=by
 refine pci aq Tryz.func87 (λw0 base=>?_);simp;intro b
 refine aE eok (λx:Nat×Nat×List (List UInt8)×Hd=>x.2.2.1.length<=x.1/\((x.1<=l.length/\x.2.1<=x.1/\c∉(l.take x.1).drop x.2.1/\x.2.2.1++bf c (l.drop x.2.1)=bf c l)\/(x.1=l.length+1/\x.2.2.1=bf c l)))
  (λx=>⟨36,0,[(7,.v (.int .i64 x.1)),(6,.v (.int .i64 x.2.1)),(5,.sl 128 x.2.2.2 1 0 x.2.2.1.length),(1,.v (.int .u8 c.toNat)),(0,.v (.string (bs l)))],[(128,.rows x.2.2.2 1 (x.2.2.1.map wR) true)]⟩)
  (λx=>l.length+1-x.1) (0,0,[],some (b,0,0)) ⟨ab,.inl ⟨ab,ab,ab,ab⟩⟩ ab (λx hi=>Ent.refl ?_)
 obtain⟨i,f,R,H⟩:=x;obtain⟨hR,hi⟩:=hi;simp only at hR hi⊢;rcases hi with⟨h1,h2,h3,h4⟩|⟨rfl,rfl⟩;rotate_left
 ·have h9:¬((l.length:Int)+1<=l.length):=by omega
  simp[h9,gH]
 have h9:(i:Int)<=l.length:=aa;have w1:IntKind.i64.wrap ((i:Int)+1)=((i+1:Nat):Int):=aZ aa;have he:((l.take i).drop f).length=i-f:=aI;have hex:(bs l).extract f i=bs ((l.take i).drop f):=Gz _ _ _;have hbi:∀x:List UInt8,((R++[x]).map wR)=R.map wR++[[vs x]]:=λx=>by simp[wR]
 by_cases hlt:i<l.length
 ·have hne:¬((i:Int)=l.length):=by omega
  have hdrop:l.drop f=(l.take i).drop f++l[i]::l.drop (i+1):=by
   have e:=iw i l;have e2:=bk hlt;rw[<-e2]
   conv=>lhs;rw[<-e]
   rw[YC aI]
  have hget:∀h,(bs l)[i]'h=l[i]'hlt:=λh=>LN h
  by_cases hc:l[i]=c
  ·have hc':(l[i].toNat:Int)=(c.toNat:Int):=by rw[hc]
   simp[h9,hne,hlt,hget];simp[hc',hex];refine⟨aa,aa,λb1=>⟨aa,λH1=>Ent.refl ⟨i+1,i+1,R++[(l.take i).drop f],⟨aI,.inl ⟨aa,aa,ab,?_⟩⟩,aa,H1,?_⟩⟩⟩
   ·rw[<-h4,hdrop,hc,s5 c _ _ h3]
    simp
   ·simp[w1,wR]
  ·have hc':¬(l[i].toNat:Int)=(c.toNat:Int):=λh=>hc (jc.1 aa)
   simp[h9,hne,hlt,hget];simp[hc'];refine Ent.refl ⟨i+1,f,R,⟨aa,.inl ⟨aa,aa,?_,h4⟩⟩,aa,H,?_⟩
   ·rw[gO hlt,YC aI]
    intro h;rcases aO.1 h with h|h
    ·exact h3 h
    ·exact hc (gf.1 h).symm
   ·simp[w1]
 ·have hei:i=l.length:=by omega
  have e1:(bs l).extract f l.length=bs (l.drop f):=by rw[Gz,dn]
  simp[hei,e1];refine⟨aa,λb1=>⟨aa,λH1=>Ent.refl ⟨l.length+1,l.length+1,R++[l.drop f],⟨aI,.inr ⟨rfl,?_⟩⟩,aa,H1,?_⟩⟩⟩
  ·rw[hei,dn]at h3
   rw[<-h4,wH c _ h3]
  ·rw[hei]at w1
   simp[w1,wR]
end Go.Proofs.YtdeimojjhhdeaaaGreatDoor
namespace Go.Proofs
open Go.Shelf
def Tryz.laysM171_ren:Go.Shelf.Ren:=⟨λ| 171=>233|243=>319|246=>359|283=>379|284=>380|285=>381|286=>382|129=>394|317=>393|318=>395|319=>396|320=>397|337=>402|338=>403|n=>n,λ| 3=>3|9=>9|2=>2|4=>4|171=>340|0=>0|53=>341|37=>203|5=>5|173=>344|212=>362|51=>305|20=>20|213=>363|46=>335|232=>372|233=>373|n=>n,λ| 17=>5|18=>6|19=>7|n=>n⟩
theorem Ib:Go.Proofs.LaysM.n171 Tryz.prog Tryz.laysM171_ren:={
 mixed:=ai
 f129:=Tryz.func394.trans (aK some ai)
 f171:=Tryz.func233.trans (aK some ai)
 f243:=Tryz.func319.trans (aK some ai)
 f246:=Tryz.func359.trans (aK some ai)
 f283:=Tryz.func379.trans (aK some ai)
 f284:=Tryz.func380.trans (aK some ai)
 f285:=Tryz.func381.trans (aK some ai)
 f286:=Tryz.func382.trans (aK some ai)
 f317:=Tryz.func393.trans (aK some ai)
 f318:=Tryz.func395.trans (aK some ai)
 f319:=Tryz.func396.trans (aK some ai)
 f320:=Tryz.func397.trans (aK some ai)
 f337:=Tryz.func402.trans (aK some ai)
 f338:=Tryz.func403.trans (aK some ai)
 t0:=Tryz.underlying0
 a0:=Tryz.isAgg0
 z0:=Tryz.sizeOf0
 v0:=Tryz.zeroValue0
 t2:=Tryz.underlying2
 a2:=Tryz.isAgg2
 z2:=Tryz.sizeOf2
 v2:=Tryz.zeroValue2
 t3:=Tryz.underlying3
 a3:=Tryz.isAgg3
 z3:=Tryz.sizeOf3
 v3:=Tryz.zeroValue3
 t4:=Tryz.underlying4
 a4:=Tryz.isAgg4
 z4:=Tryz.sizeOf4
 v4:=Tryz.zeroValue4
 t5:=Tryz.underlying5
 a5:=Tryz.isAgg5
 z5:=Tryz.sizeOf5
 v5:=Tryz.zeroValue5
 t9:=Tryz.underlying9
 a9:=Tryz.isAgg9
 z9:=Tryz.sizeOf9
 v9:=Tryz.zeroValue9
 t20:=Tryz.underlying20
 a20:=Tryz.isAgg20
 z20:=Tryz.sizeOf20
 v20:=Tryz.zeroValue20
 t37:=Tryz.underlying203
 a37:=Tryz.isAgg203
 z37:=Tryz.sizeOf203
 v37:=Tryz.zeroValue203
 t46:=Tryz.underlying335
 a46:=Tryz.isAgg335
 z46:=Tryz.sizeOf335
 v46:=Tryz.zeroValue335
 t51:=Tryz.underlying305
 a51:=Tryz.isAgg305
 z51:=Tryz.sizeOf305
 v51:=Tryz.zeroValue305
 t53:=Tryz.underlying341
 a53:=Tryz.isAgg341
 z53:=Tryz.sizeOf341
 v53:=Tryz.zeroValue341
 t171:=Tryz.underlying340
 a171:=Tryz.isAgg340
 z171:=Tryz.sizeOf340
 v171:=Tryz.zeroValue340
 t173:=Tryz.underlying344
 a173:=Tryz.isAgg344
 z173:=Tryz.sizeOf344
 v173:=Tryz.zeroValue344
 t212:=Tryz.underlying362
 a212:=Tryz.isAgg362
 z212:=Tryz.sizeOf362
 v212:=Tryz.zeroValue362
 t213:=Tryz.underlying363
 a213:=Tryz.isAgg363
 z213:=Tryz.sizeOf363
 t232:=Tryz.underlying372
 a232:=Tryz.isAgg372
 z232:=Tryz.sizeOf372
 v232:=Tryz.zeroValue372
 t233:=Tryz.underlying373
 a233:=Tryz.isAgg373
 z233:=Tryz.sizeOf373
 v233:=Tryz.zeroValue373
 g17:=ai
 g18:=ai
 g19:=ai
 i0:=ai
 i2:=ai
 i3:=ai
 i4:=ai
 i5:=ai
 i9:=ai
 i20:=ai
 i37:=ai
 i46:=ai
 i51:=ai
 i53:=ai
 i171:=ai
 i173:=ai
 i212:=ai
 i232:=ai
 i233:=ai
 m17:=ai
 m18:=ai
 m19:=ai}
def Tryz.laysC172_ren:Go.Shelf.Ren:=⟨λ| 172=>243|244=>333|245=>334|247=>366|279=>367|280=>368|281=>369|282=>370|287=>387|316=>388|171=>233|205=>389|321=>400|322=>401|243=>319|246=>359|283=>379|284=>380|285=>381|286=>382|129=>394|317=>393|318=>395|319=>396|320=>397|337=>402|338=>403|n=>n,λ| 9=>9|3=>3|75=>236|76=>237|4=>4|5=>5|167=>329|37=>203|0=>0|85=>330|2=>2|168=>332|53=>341|175=>347|46=>335|210=>351|127=>338|145=>370|143=>368|21=>21|171=>340|173=>344|212=>362|51=>305|20=>20|213=>363|232=>372|233=>373|80=>322|n=>n,λ| 15=>1|16=>2|17=>5|18=>6|19=>7|n=>n⟩
theorem rP:Go.Proofs.LaysC.n172 Tryz.prog Tryz.laysC172_ren:={
 mixed:=ai
 f129:=Tryz.func394.trans (aK some ai)
 f171:=Tryz.func233.trans (aK some ai)
 f172:=Tryz.func243.trans (aK some ai)
 f205:=Tryz.func389.trans (aK some ai)
 f243:=Tryz.func319.trans (aK some ai)
 f244:=Tryz.func333.trans (aK some ai)
 f245:=Tryz.func334.trans (aK some ai)
 f246:=Tryz.func359.trans (aK some ai)
 f247:=Tryz.func366.trans (aK some ai)
 f279:=Tryz.func367.trans (aK some ai)
 f280:=Tryz.func368.trans (aK some ai)
 f281:=Tryz.func369.trans (aK some ai)
 f282:=Tryz.func370.trans (aK some ai)
 f283:=Tryz.func379.trans (aK some ai)
 f284:=Tryz.func380.trans (aK some ai)
 f285:=Tryz.func381.trans (aK some ai)
 f286:=Tryz.func382.trans (aK some ai)
 f287:=Tryz.func387.trans (aK some ai)
 f316:=Tryz.func388.trans (aK some ai)
 f317:=Tryz.func393.trans (aK some ai)
 f318:=Tryz.func395.trans (aK some ai)
 f319:=Tryz.func396.trans (aK some ai)
 f320:=Tryz.func397.trans (aK some ai)
 f321:=Tryz.func400.trans (aK some ai)
 f322:=Tryz.func401.trans (aK some ai)
 f337:=Tryz.func402.trans (aK some ai)
 f338:=Tryz.func403.trans (aK some ai)
 t0:=Tryz.underlying0
 a0:=Tryz.isAgg0
 z0:=Tryz.sizeOf0
 v0:=Tryz.zeroValue0
 t2:=Tryz.underlying2
 a2:=Tryz.isAgg2
 z2:=Tryz.sizeOf2
 v2:=Tryz.zeroValue2
 t3:=Tryz.underlying3
 a3:=Tryz.isAgg3
 z3:=Tryz.sizeOf3
 v3:=Tryz.zeroValue3
 t4:=Tryz.underlying4
 a4:=Tryz.isAgg4
 z4:=Tryz.sizeOf4
 v4:=Tryz.zeroValue4
 t5:=Tryz.underlying5
 a5:=Tryz.isAgg5
 z5:=Tryz.sizeOf5
 v5:=Tryz.zeroValue5
 t9:=Tryz.underlying9
 a9:=Tryz.isAgg9
 z9:=Tryz.sizeOf9
 v9:=Tryz.zeroValue9
 t20:=Tryz.underlying20
 a20:=Tryz.isAgg20
 z20:=Tryz.sizeOf20
 v20:=Tryz.zeroValue20
 t21:=Tryz.underlying21
 a21:=Tryz.isAgg21
 z21:=Tryz.sizeOf21
 v21:=Tryz.zeroValue21
 t37:=Tryz.underlying203
 a37:=Tryz.isAgg203
 z37:=Tryz.sizeOf203
 v37:=Tryz.zeroValue203
 t46:=Tryz.underlying335
 a46:=Tryz.isAgg335
 z46:=Tryz.sizeOf335
 v46:=Tryz.zeroValue335
 t51:=Tryz.underlying305
 a51:=Tryz.isAgg305
 z51:=Tryz.sizeOf305
 v51:=Tryz.zeroValue305
 t53:=Tryz.underlying341
 a53:=Tryz.isAgg341
 z53:=Tryz.sizeOf341
 v53:=Tryz.zeroValue341
 t75:=Tryz.underlying236
 a75:=Tryz.isAgg236
 z75:=Tryz.sizeOf236
 v75:=Tryz.zeroValue236
 t76:=Tryz.underlying237
 a76:=Tryz.isAgg237
 z76:=Tryz.sizeOf237
 v76:=Tryz.zeroValue237
 t85:=Tryz.underlying330
 a85:=Tryz.isAgg330
 z85:=Tryz.sizeOf330
 v85:=Tryz.zeroValue330
 t127:=Tryz.underlying338
 a127:=Tryz.isAgg338
 z127:=Tryz.sizeOf338
 v127:=Tryz.zeroValue338
 t143:=Tryz.underlying368
 a143:=Tryz.isAgg368
 z143:=Tryz.sizeOf368
 v143:=Tryz.zeroValue368
 t145:=Tryz.underlying370
 a145:=Tryz.isAgg370
 z145:=Tryz.sizeOf370
 v145:=Tryz.zeroValue370
 t167:=Tryz.underlying329
 a167:=Tryz.isAgg329
 z167:=Tryz.sizeOf329
 v167:=Tryz.zeroValue329
 t168:=Tryz.underlying332
 a168:=Tryz.isAgg332
 z168:=Tryz.sizeOf332
 v168:=Tryz.zeroValue332
 t171:=Tryz.underlying340
 a171:=Tryz.isAgg340
 z171:=Tryz.sizeOf340
 v171:=Tryz.zeroValue340
 t173:=Tryz.underlying344
 a173:=Tryz.isAgg344
 z173:=Tryz.sizeOf344
 v173:=Tryz.zeroValue344
 t175:=Tryz.underlying347
 a175:=Tryz.isAgg347
 z175:=Tryz.sizeOf347
 v175:=Tryz.zeroValue347
 t210:=Tryz.underlying351
 a210:=Tryz.isAgg351
 z210:=Tryz.sizeOf351
 v210:=Tryz.zeroValue351
 t212:=Tryz.underlying362
 a212:=Tryz.isAgg362
 z212:=Tryz.sizeOf362
 v212:=Tryz.zeroValue362
 t213:=Tryz.underlying363
 a213:=Tryz.isAgg363
 z213:=Tryz.sizeOf363
 t232:=Tryz.underlying372
 a232:=Tryz.isAgg372
 z232:=Tryz.sizeOf372
 v232:=Tryz.zeroValue372
 t233:=Tryz.underlying373
 a233:=Tryz.isAgg373
 z233:=Tryz.sizeOf373
 v233:=Tryz.zeroValue373
 g15:=ai
 g16:=ai
 g17:=ai
 g18:=ai
 g19:=ai
 t80:=Tryz.underlying322
 a80:=Tryz.isAgg322
 z80:=Tryz.sizeOf322
 v80:=Tryz.zeroValue322
 i0:=ai
 i2:=ai
 i3:=ai
 i4:=ai
 i5:=ai
 i9:=ai
 i20:=ai
 i21:=ai
 i37:=ai
 i46:=ai
 i51:=ai
 i53:=ai
 i75:=ai
 i76:=ai
 i80:=ai
 i85:=ai
 i127:=ai
 i143:=ai
 i145:=ai
 i167:=ai
 i168:=ai
 i171:=ai
 i173:=ai
 i175:=ai
 i210:=ai
 i212:=ai
 i232:=ai
 i233:=ai
 m15:=ai
 m16:=ai
 m17:=ai
 m18:=ai
 m19:=ai
 c0:=ai
 c2:=ai
 c3:=ai
 c4:=ai
 c5:=ai
 c9:=ai
 c20:=ai
 c21:=ai
 c37:=ai
 c46:=ai
 c51:=ai
 c53:=ai
 c75:=ai
 c76:=ai
 c80:=ai
 c85:=ai
 c127:=ai
 c143:=ai
 c145:=ai
 c167:=ai
 c168:=ai
 c171:=ai
 c173:=ai
 c175:=ai
 c210:=ai
 c212:=ai
 c213:=ai
 c232:=ai
 c233:=ai}
def Tryz.lays146_ren:Go.Shelf.Ren:=⟨λ| 146=>132|221=>242|268=>330|138=>331|143=>332|195=>363|197=>351|218=>364|219=>365|260=>375|217=>383|225=>384|224=>385|267=>386|266=>398|314=>399|n=>n,λ| 9=>9|31=>77|3=>3|4=>4|0=>0|105=>320|21=>21|5=>5|46=>335|119=>356|139=>359|138=>358|146=>365|51=>305|n=>n,λ| 1=>0|3=>3|4=>4|n=>n⟩
theorem L3:Go.Proofs.Lays.n146 Tryz.prog Tryz.lays146_ren:={
 mixed:=ai
 f138:=Tryz.func331.trans (aK some ai)
 f143:=Tryz.func332.trans (aK some ai)
 f146:=Tryz.func132.trans (aK some ai)
 f195:=Tryz.func363.trans (aK some ai)
 f197:=Tryz.func351.trans (aK some ai)
 f217:=Tryz.func383.trans (aK some ai)
 f218:=Tryz.func364.trans (aK some ai)
 f219:=Tryz.func365.trans (aK some ai)
 f221:=Tryz.func242.trans (aK some ai)
 f224:=Tryz.func385.trans (aK some ai)
 f225:=Tryz.func384.trans (aK some ai)
 f260:=Tryz.func375.trans (aK some ai)
 f266:=Tryz.func398.trans (aK some ai)
 f267:=Tryz.func386.trans (aK some ai)
 f268:=Tryz.func330.trans (aK some ai)
 f314:=Tryz.func399.trans (aK some ai)
 t0:=Tryz.underlying0
 a0:=Tryz.isAgg0
 z0:=Tryz.sizeOf0
 v0:=Tryz.zeroValue0
 t3:=Tryz.underlying3
 a3:=Tryz.isAgg3
 z3:=Tryz.sizeOf3
 v3:=Tryz.zeroValue3
 t4:=Tryz.underlying4
 a4:=Tryz.isAgg4
 z4:=Tryz.sizeOf4
 v4:=Tryz.zeroValue4
 t5:=Tryz.underlying5
 a5:=Tryz.isAgg5
 z5:=Tryz.sizeOf5
 v5:=Tryz.zeroValue5
 t9:=Tryz.underlying9
 a9:=Tryz.isAgg9
 z9:=Tryz.sizeOf9
 v9:=Tryz.zeroValue9
 t21:=Tryz.underlying21
 a21:=Tryz.isAgg21
 z21:=Tryz.sizeOf21
 v21:=Tryz.zeroValue21
 t31:=Tryz.underlying77
 a31:=Tryz.isAgg77
 z31:=Tryz.sizeOf77
 v31:=Tryz.zeroValue77
 t46:=Tryz.underlying335
 a46:=Tryz.isAgg335
 z46:=Tryz.sizeOf335
 v46:=Tryz.zeroValue335
 t51:=Tryz.underlying305
 a51:=Tryz.isAgg305
 z51:=Tryz.sizeOf305
 v51:=Tryz.zeroValue305
 t105:=Tryz.underlying320
 a105:=Tryz.isAgg320
 z105:=Tryz.sizeOf320
 v105:=Tryz.zeroValue320
 t119:=Tryz.underlying356
 a119:=Tryz.isAgg356
 z119:=Tryz.sizeOf356
 t138:=Tryz.underlying358
 a138:=Tryz.isAgg358
 z138:=Tryz.sizeOf358
 v138:=Tryz.zeroValue358
 t139:=Tryz.underlying359
 a139:=Tryz.isAgg359
 z139:=Tryz.sizeOf359
 v139:=Tryz.zeroValue359
 t146:=Tryz.underlying365
 a146:=Tryz.isAgg365
 z146:=Tryz.sizeOf365
 v146:=Tryz.zeroValue365
 g1:=ai
 g3:=ai
 g4:=ai}
def Tryz.lays155_ren:Go.Shelf.Ren:=⟨λ| 155=>218|154=>309|138=>331|165=>349|143=>332|166=>350|197=>351|169=>352|195=>363|218=>364|240=>373|241=>374|219=>365|260=>375|276=>390|277=>391|217=>383|225=>384|224=>385|267=>386|266=>398|314=>399|n=>n,λ| 9=>9|3=>3|4=>4|72=>318|0=>0|76=>237|105=>320|21=>21|5=>5|70=>316|20=>20|37=>203|75=>236|127=>338|164=>353|46=>335|119=>356|139=>359|138=>358|146=>365|51=>305|80=>322|n=>n,λ| 1=>0|3=>3|4=>4|n=>n⟩
theorem L1:Go.Proofs.Lays.n155 Tryz.prog Tryz.lays155_ren:={
 mixed:=ai
 f138:=Tryz.func331.trans (aK some ai)
 f143:=Tryz.func332.trans (aK some ai)
 f154:=Tryz.func309.trans (aK some ai)
 f155:=Tryz.func218.trans (aK some ai)
 f165:=Tryz.func349.trans (aK some ai)
 f166:=Tryz.func350.trans (aK some ai)
 f169:=Tryz.func352.trans (aK some ai)
 f195:=Tryz.func363.trans (aK some ai)
 f197:=Tryz.func351.trans (aK some ai)
 f217:=Tryz.func383.trans (aK some ai)
 f218:=Tryz.func364.trans (aK some ai)
 f219:=Tryz.func365.trans (aK some ai)
 f224:=Tryz.func385.trans (aK some ai)
 f225:=Tryz.func384.trans (aK some ai)
 f240:=Tryz.func373.trans (aK some ai)
 f241:=Tryz.func374.trans (aK some ai)
 f260:=Tryz.func375.trans (aK some ai)
 f266:=Tryz.func398.trans (aK some ai)
 f267:=Tryz.func386.trans (aK some ai)
 f276:=Tryz.func390.trans (aK some ai)
 f277:=Tryz.func391.trans (aK some ai)
 f314:=Tryz.func399.trans (aK some ai)
 t0:=Tryz.underlying0
 a0:=Tryz.isAgg0
 z0:=Tryz.sizeOf0
 v0:=Tryz.zeroValue0
 t3:=Tryz.underlying3
 a3:=Tryz.isAgg3
 z3:=Tryz.sizeOf3
 v3:=Tryz.zeroValue3
 t4:=Tryz.underlying4
 a4:=Tryz.isAgg4
 z4:=Tryz.sizeOf4
 v4:=Tryz.zeroValue4
 t5:=Tryz.underlying5
 a5:=Tryz.isAgg5
 z5:=Tryz.sizeOf5
 v5:=Tryz.zeroValue5
 t9:=Tryz.underlying9
 a9:=Tryz.isAgg9
 z9:=Tryz.sizeOf9
 v9:=Tryz.zeroValue9
 t20:=Tryz.underlying20
 a20:=Tryz.isAgg20
 z20:=Tryz.sizeOf20
 v20:=Tryz.zeroValue20
 t21:=Tryz.underlying21
 a21:=Tryz.isAgg21
 z21:=Tryz.sizeOf21
 v21:=Tryz.zeroValue21
 t37:=Tryz.underlying203
 a37:=Tryz.isAgg203
 z37:=Tryz.sizeOf203
 v37:=Tryz.zeroValue203
 t46:=Tryz.underlying335
 a46:=Tryz.isAgg335
 z46:=Tryz.sizeOf335
 v46:=Tryz.zeroValue335
 t51:=Tryz.underlying305
 a51:=Tryz.isAgg305
 z51:=Tryz.sizeOf305
 v51:=Tryz.zeroValue305
 t70:=Tryz.underlying316
 a70:=Tryz.isAgg316
 z70:=Tryz.sizeOf316
 v70:=Tryz.zeroValue316
 t72:=Tryz.underlying318
 a72:=Tryz.isAgg318
 z72:=Tryz.sizeOf318
 v72:=Tryz.zeroValue318
 t75:=Tryz.underlying236
 a75:=Tryz.isAgg236
 z75:=Tryz.sizeOf236
 v75:=Tryz.zeroValue236
 t76:=Tryz.underlying237
 a76:=Tryz.isAgg237
 z76:=Tryz.sizeOf237
 v76:=Tryz.zeroValue237
 t105:=Tryz.underlying320
 a105:=Tryz.isAgg320
 z105:=Tryz.sizeOf320
 v105:=Tryz.zeroValue320
 t119:=Tryz.underlying356
 a119:=Tryz.isAgg356
 z119:=Tryz.sizeOf356
 t127:=Tryz.underlying338
 a127:=Tryz.isAgg338
 z127:=Tryz.sizeOf338
 v127:=Tryz.zeroValue338
 t138:=Tryz.underlying358
 a138:=Tryz.isAgg358
 z138:=Tryz.sizeOf358
 v138:=Tryz.zeroValue358
 t139:=Tryz.underlying359
 a139:=Tryz.isAgg359
 z139:=Tryz.sizeOf359
 v139:=Tryz.zeroValue359
 t146:=Tryz.underlying365
 a146:=Tryz.isAgg365
 z146:=Tryz.sizeOf365
 v146:=Tryz.zeroValue365
 t164:=Tryz.underlying353
 a164:=Tryz.isAgg353
 z164:=Tryz.sizeOf353
 v164:=Tryz.zeroValue353
 g1:=ai
 g3:=ai
 g4:=ai}
theorem ui:Builder.Extra Tryz.prog Tryz.lays155_ren:={
 sizeBuilder:=ai
 liesBuilder:=ai
 t5:=Tryz.underlying5
 a5:=Tryz.isAgg5
 z5:=Tryz.sizeOf5
 v5:=Tryz.zeroValue5
 infoByte:=ai
 cellsByte:=ai
 sizeByte:=ai
 neB5:=ag}
def Tryz.lays156_ren:Go.Shelf.Ren:=⟨λ| 156=>320|165=>349|166=>350|169=>352|240=>373|241=>374|276=>390|277=>391|n=>n,λ| 31=>77|9=>9|3=>3|4=>4|0=>0|20=>20|72=>318|76=>237|70=>316|37=>203|75=>236|127=>338|164=>353|5=>5|80=>322|n=>n,λ| n=>n⟩
theorem Az:Go.Proofs.Lays.n156 Tryz.prog Tryz.lays156_ren:={
 mixed:=ai
 f156:=Tryz.func320.trans (aK some ai)
 f165:=Tryz.func349.trans (aK some ai)
 f166:=Tryz.func350.trans (aK some ai)
 f169:=Tryz.func352.trans (aK some ai)
 f240:=Tryz.func373.trans (aK some ai)
 f241:=Tryz.func374.trans (aK some ai)
 f276:=Tryz.func390.trans (aK some ai)
 f277:=Tryz.func391.trans (aK some ai)
 t0:=Tryz.underlying0
 a0:=Tryz.isAgg0
 z0:=Tryz.sizeOf0
 v0:=Tryz.zeroValue0
 t3:=Tryz.underlying3
 a3:=Tryz.isAgg3
 z3:=Tryz.sizeOf3
 v3:=Tryz.zeroValue3
 t4:=Tryz.underlying4
 a4:=Tryz.isAgg4
 z4:=Tryz.sizeOf4
 v4:=Tryz.zeroValue4
 t9:=Tryz.underlying9
 a9:=Tryz.isAgg9
 z9:=Tryz.sizeOf9
 v9:=Tryz.zeroValue9
 t20:=Tryz.underlying20
 a20:=Tryz.isAgg20
 z20:=Tryz.sizeOf20
 v20:=Tryz.zeroValue20
 t31:=Tryz.underlying77
 a31:=Tryz.isAgg77
 z31:=Tryz.sizeOf77
 v31:=Tryz.zeroValue77
 t37:=Tryz.underlying203
 a37:=Tryz.isAgg203
 z37:=Tryz.sizeOf203
 v37:=Tryz.zeroValue203
 t70:=Tryz.underlying316
 a70:=Tryz.isAgg316
 z70:=Tryz.sizeOf316
 v70:=Tryz.zeroValue316
 t72:=Tryz.underlying318
 a72:=Tryz.isAgg318
 z72:=Tryz.sizeOf318
 v72:=Tryz.zeroValue318
 t75:=Tryz.underlying236
 a75:=Tryz.isAgg236
 z75:=Tryz.sizeOf236
 v75:=Tryz.zeroValue236
 t76:=Tryz.underlying237
 a76:=Tryz.isAgg237
 z76:=Tryz.sizeOf237
 v76:=Tryz.zeroValue237
 t127:=Tryz.underlying338
 a127:=Tryz.isAgg338
 z127:=Tryz.sizeOf338
 v127:=Tryz.zeroValue338
 t164:=Tryz.underlying353
 a164:=Tryz.isAgg353
 z164:=Tryz.sizeOf353
 v164:=Tryz.zeroValue353 }
theorem ns:Builder.Extra Tryz.prog Tryz.lays156_ren:={
 sizeBuilder:=ai
 liesBuilder:=ai
 t5:=Tryz.underlying5
 a5:=Tryz.isAgg5
 z5:=Tryz.sizeOf5
 v5:=Tryz.zeroValue5
 infoByte:=ai
 cellsByte:=ai
 sizeByte:=ai
 neB5:=ag}
end Go.Proofs
namespace Go.Proofs.YtdeimojjhhdeaaaGreatDoor
open Go.AM
set_option maxRecDepth 20000
def chn(L:List Part):Prop:=∀i,∀h:i+1<L.length,L[i].kind≠L[i+1].kind
theorem VX:chn []:=λi h=>iy
theorem abB{p:Part}{L:List Part}(h:chn (p::L)):chn L/\∀h0:0<L.length,p.kind≠L[0].kind:=by
 refine⟨λi hi=>?_,λh0=>?_⟩
 ·have:=h (i+1) aI
  exact lr
 ·have:=h 0 aI
  exact lr
theorem vV{L:List Part}{p:Part}(h:chn L)(hp:∀h:0<L.length,(L[L.length-1]' aa).kind≠p.kind):chn (L++[p]):=by
 intro i hi;simp at hi;by_cases c:i+1<L.length
 ·rw[yO aa,yO c];exact h i c
 ·have h0:0<L.length:=by omega
  have:=hp h0;rw[yO aa,aeI aa];have e:i=L.length-1:=aa;subst e;exact lr
theorem ad4{L:List Part}{i:Nat}{p:Part}(h:chn L)(hi:i<L.length)(hk:p.kind=L[i].kind):chn (L.set i p):=by
 intro j hj;simp at hj;have h1:=h j hj;rw[AE,AE]
 split
 ·rename_i e;subst e
  rw[ak aa,hk];exact h1
 ·split
  ·rename_i e;subst e;rw[hk];exact h1
  ·exact h1
def aaH(L:List Part):Prop:=∀h:0<L.length,(L[L.length-1]' aa).kind=1
theorem FB{L:List Part}{p:Part}:(((L++[p])[(L++[p]).length-1]' ab)).kind=p.kind:=ab
theorem I3{L:List Part}{P:List Int}{D:Int}(h:chn L)(hl:aaH L):chn (bq L P D):=by
 unfold bq
 split
 ·split
  ·rw[ig]
   exact vV h λh0=>by rw[hl h0];simp
  ·simpa using h
 ·have h1:chn (L++[⟨2,0,P⟩]):=vV h λh0=>by rw[hl h0];simp
  split
  ·rw[<-cU]
   exact vV h1 λh0=>by rw[FB];simp
  ·simpa using h1
theorem aaM{L:List Part}{n:Int}(h:chn L):chn (dX L n)/\aaH (dX L n):=by
 unfold dX
 split
 ·rename_i h0
  split
  ·rename_i hk
   refine⟨ad4 h aa hk.symm,λh1=>?_⟩;simp
  ·rename_i hk
   refine⟨vV h λ_=>hk,λh1=>?_⟩;rw[FB]
 ·exact⟨vV (L:=[]) VX (λh=>iy),λ_=>rfl⟩
theorem IP(o:List Part):∀(i:Nat),i<=o.length->chn (bT (o.take i)).1/\aaH (bT (o.take i)).1
 | 0, _ => by
   simp only[bT,List.take_zero,List.foldl_nil];exact⟨VX,λh=>iy⟩
 | i + 1, hi => by
   obtain⟨h1,h2⟩:=IP o i aa;rw[mC (show i<o.length from aa)];generalize bT (o.take i)=s at h1 h2;unfold fb
   split
   ·exact⟨h1,h2⟩
   ·split
    ·exact⟨h1,h2⟩
    ·split
     ·exact aaM (I3 h1 h2)
     ·exact⟨h1,h2⟩
theorem O8(o:List Part):chn (normal o):=by
 obtain⟨h1,h2⟩:=IP o o.length (aC _);rw[dn]at h1 h2;exact I3 h1 h2
def Nv:At->List Part->List Part
 | .k,[]=>[⟨1,1,[]⟩]
 | .k,p::l=>if p.kind=1 then⟨1,p.n+1,[]⟩::l else⟨1,1,[]⟩::p::l
 | .d,[]=>[⟨3,1,[]⟩]
 | .d,p::l=>if p.kind=3 then⟨3,p.n+1,[]⟩::l else⟨3,1,[]⟩::p::l
 | .p c,[]=>[⟨2,0,[c]⟩]
 | .p c,p::l=>if p.kind=2 then⟨2,0,c::p.signs⟩::l else⟨2,0,[c]⟩::p::l
def grp(l:List At):List Part:=l.foldr Nv []
theorem aa3{L:List Part}(h:∀h0:0<L.length,L[0].kind≠1):∀n:Nat,(List.replicate (n+1) At.k).foldr Nv L=⟨1,(n:Int)+1,[]⟩::L
 | 0 => by
   exact Kc
 | n + 1 => by
   rw[cw,YH,aa3 h n];simp[Nv]
theorem aa4{L:List Part}(h:∀h0:0<L.length,L[0].kind≠3):∀n:Nat,(List.replicate (n+1) At.d).foldr Nv L=⟨3,(n:Int)+1,[]⟩::L
 | 0 => by
   exact Kc
 | n + 1 => by
   rw[cw,YH,aa4 h n];simp[Nv]
theorem aa2{L:List Part}(h:∀h0:0<L.length,L[0].kind≠2):∀(Q:List Int) (c:Int),((c::Q).map At.p).foldr Nv L=⟨2,0,c::Q⟩::L
 | [], c => by
   exact Kc
 | d :: Q, c => by
   rw[bK,YH,aa2 h Q d];simp[Nv]
theorem I2:∀{L:List Part},(∀q∈L,Shp q)->chn L->grp (cK L)=L
 | [],_,_=>rfl
 | p :: L, hs, hc => by
   obtain⟨h1,h2⟩:=abB hc;have ih:=I2 (λq hq=>hs q (aG _ hq)) h1;have hp:=hs p (aP ..);unfold grp at ih⊢;rw[cK,List.foldr_append,ih];have hpos:=hp.pos;have hn:=hp.n;unfold ats;obtain⟨kd,n,sg⟩:=p;by_cases k2:kd=2
   ·subst k2
    obtain⟨e1,-⟩:=hp.put rfl;simp only at e1;subst e1;simp only[dA]
    cases sg with
    |nil=>simp[psz]at hpos
    |cons c Q=>exact aa2 (λh0=>JL) Q c
   ·have e1:=hp.run k2
    simp only at e1 hn;subst e1;have hz:psz ⟨kd,n,[]⟩=n.toNat:=by simp[psz]
    rw[hz]at hpos;obtain⟨m,hm⟩:∃m,n.toNat=m+1:=⟨n.toNat-1,aa⟩;have hnm:n=(m:Int)+1:=aa;rw[hz,hm,ak k2];by_cases k3:kd=3
    ·subst k3
     simp only[dA];rw[aa4 (λh0=>JL),hnm]
    ·have k1:kd=1:=by rcases hp.k with h|h|h<;>simp only at h<;>omega
     subst k1;rw[ak ab,aa3 (λh0=>JL),hnm]
theorem M6:∀(l:List At) (P:List Int) (n:Nat),nA [] 0 (nA P n l)=nA P n l
 | [], P, n => by
   have h2:=VC n P 0 [];rw[cu,dN]at h2;rw[nA,VA,ig,h2,nA]
 | .k :: l, P, n => by
   rw[nA,VA,VC,ig,dN,nA,M6 l]
 | .p c::l,P,n=>by rw[nA,M6 l]
 | .d::l,P,n=>by rw[nA,M6 l]
theorem tv{o:List Part}(h:∀p∈o,aY p):normal o=grp (ux (cK o)):=by
 rw[<-nN h,I2 (yv h) (O8 o)]
theorem Hr{o:List Part}(h:cz o):normal (normal o)=normal o:=by
 have h2:=(sa h).1;rw[tv h2.1.1,nN h.1.1,tv h.1.1];unfold ux;rw[M6]
theorem Hw{o:List Part}(h:cz o):cr (normal o):=by
 have h2:=(sa h).1;refine⟨h2,?_⟩;unfold cN;rw[al h2,Hr h]
theorem iD{o:List Part}(h:cz o):cr (cN o):=by
 have e:cN o=normal o:=by unfold cN;rw[al h]
 rw[e];exact Hw h
theorem Fj:∀(l:List (List Part)) (v v':List Part),cr v->o8 l v=some v'->cr v'
 | [],v,v',h,e=>by simp only[o8,dP]at e;exact e ▸ h
 | a :: l, v, v', h, e => by
   rw[o8]at e
   split at e
   ·rename_i ht
    refine Fj l _ v' ?_ e;unfold aX at ht⊢
    split at ht
    ·rename_i h1
     split at ht
     ·rename_i h2
      rw[al h1,al h2];have hi:=C6 h1.1 h1.2.1 h1.2.2;have hk:=aeL hi;simp only;refine⟨h2.2,?_⟩;unfold cN;rw[al h2.2,tv h2.2.1.1,nN hk.2];unfold ux;rw[M6];exact(tv hk.2).symm
     ·simp at ht
    ·simp at ht
   ·cases e
theorem PK{l:List (List Part)}{b:List Part}(h:(mG l b).2=true):cr (mG l b).1:=by
 unfold mG at h⊢
 split at h
 ·rename_i hb
  rw[al hb]
  cases e:o8 l (cN b)with
  |none=>rw[e]at h;simp at h
  |some v=>exact Fj l _ v (iD hb) e
 ·simp at h
def l0(x:UInt8):Prop:=48<=x.toNat/\x.toNat<=57
def pa(a:Nat)(l:List UInt8):Nat:=l.foldl (λa x=>a*10+(x.toNat-48)) a
def rJ(l:List UInt8):Nat:=pa 0 l
theorem Jd(l:List UInt8)(x:UInt8):rJ (l++[x])=rJ l*10+(x.toNat-48):=by simp[rJ,pa]
theorem Ea{m:Nat}(h:m<10):(UInt8.ofNat (48+m)).toNat=48+m:=aI
theorem LG:∀m:Nat,∀x∈Lib.decDigits m,l0 x:=by
 intro m
 induction m using Nat.strongRecOn with
 | ind m ih =>
   intro x hx;by_cases h:m<10
   ·rw[ua h]at hx
    rw[gf.1 hx];unfold l0;rw[Ea h];omega
   ·rw[sy h]at hx
    rcases aO.1 hx with hx|hx
    ·exact ih (m / 10) aa x hx
    ·rw[gf.1 hx]
     have h2:m % 10<10:=CK _ aa;unfold l0;rw[Ea h2];omega
theorem vN:∀m:Nat,rJ (Lib.decDigits m)=m:=by
 intro m
 induction m using Nat.strongRecOn with
 | ind m ih =>
   by_cases h:m<10
   ·rw[ua h]
    show 0*10+((UInt8.ofNat (48+m)).toNat-48)=m
    rw[Ea h];omega
   ·rw[sy h,Jd,ih (m / 10) aa,Ea (CK _ aa)]
    omega
theorem Gi:∀(k m:Nat),m<10^(k+1)->(Lib.decDigits m).length<=k+1:=by
 intro k
 induction k with
 |zero=>intro m h;rw[ua aa];simp
 | succ k ih =>
   intro m h;by_cases h9:m<10
   ·rw[ua h9];simp
   ·rw[sy h9]
    have:=ih (m / 10) (by rw[Nat.pow_succ]at h;omega);simp;omega
theorem LF(m:Nat):Lib.decDigits m≠[]:=by
 by_cases h:m<10
 ·rw[ua h];simp
 ·rw[sy h];simp
theorem oN{n:Int}(h:0<=n/\n<=1000000000):aV n=Lib.decDigits n.toNat:=by unfold aV;rw[al h]
theorem B3(n:Int):∀x∈aV n,l0 x:=by
 unfold aV
 split
 ·exact LG _
 ·simp
theorem p9(n:Int){c:UInt8}(hc:¬l0 c):c∉aV n:=λh=>hc (B3 n c h)
open Classical in
noncomputable def bc(l:List UInt8):Int×Bool:=if ∃m:Nat,m<=1000000000/\Lib.decDigits m=l then((rJ l:Int),true)else(0,false)
theorem dQ{n:Int}(h:0<=n/\n<=1000000000):bc (aV n)=(n,true):=by
 rw[oN h];unfold bc;rw[al ⟨n.toNat,aa,rfl⟩,vN]
 congr 1
 omega
theorem BJ{l:List UInt8}(h:(bc l).2=true):(0<=(bc l).1/\(bc l).1<=1000000000)/\aV (bc l).1=l:=by
 unfold bc at h⊢;by_cases hm:∃m:Nat,m<=1000000000/\Lib.decDigits m=l
 ·rw[al hm]
  obtain⟨m,h1,rfl⟩:=hm;rw[vN];refine⟨aa,?_⟩;rw[oN aa,bm]
 ·rw[ak hm]at h
  cases h
theorem pZ{l:List UInt8}(h:∀m:Nat,m<=1000000000->Lib.decDigits m≠l):bc l=(0,false):=by
 unfold bc;rw[ak]
 rintro⟨m,h1,h2⟩
 exact h m h1 h2
theorem Ms{l:List UInt8}{x:UInt8}(hx:x∈l)(hd:¬l0 x):bc l=(0,false):=pZ λm _ e=>hd (LG m x (by rw[e];exact hx))
theorem BK{l:List UInt8}(h:l.length=0\/10<l.length):bc l=(0,false):=pZ λm hm e=>by
 subst e;rcases h with h|h
 ·exact LF m (List.length_eq_zero_iff.1 h)
 ·have:=Gi 9 m aa;omega
theorem EC{l:List UInt8}{v:Int}(h:aV v=l)(hl:l≠[]):bc l=(v,true):=by
 by_cases hv:0<=v/\v<=1000000000
 ·rw[<-h,dQ hv]
 ·unfold aV at h;rw[ak hv]at h;exact absurd h.symm hl
theorem GZ{l:List UInt8}(hl:l≠[]):(aV (rJ l)=l->bc l=((rJ l:Int),true))/\(¬aV (rJ l)=l->bc l=(0,false)):=
 ⟨λh=>EC h hl,λh=>pZ λm hm e=>h (by subst e;rw[vN,oN aa,bm])⟩
theorem II:∀(l:List UInt8) (a:Nat),(∀x∈l,l0 x)->pa a l<=100000000000->Lib.parseUint10 a l=.ok (pa a l)
 | [],a,_,_=>by simp[Lib.parseUint10,pa]
 | x :: l, a, h, hb => by
   have hx:48<=x.toNat/\x.toNat<=57:=h x ab;have e:pa a (x::l)=pa (a*10+(x.toNat-48)) l:=by simp[pa]
   rw[e]at hb⊢
   have hge:∀(l:List UInt8) (a:Nat),a<=pa a l:=by
    intro l
    induction l with
    |nil=>intro a;simp[pa]
    |cons y l ih=>intro a;have:=ih (a*10+(y.toNat-48));simp only[pa,o5]at this⊢;omega
   have:=hge l (a*10+(x.toNat-48));unfold Lib.parseUint10;rw[al hx,ak aa,ak aa];exact II l _ (λy hy=>h y (by simp[hy])) hb
theorem N3{m:Nat}(h:m<=1000000000):Lib.atoiAll (Lib.decDigits m)=.ok (m:Int):=by
 have hd:=LG m
 have hp:Lib.parseMag (Lib.decDigits m)=.ok m:=by
  unfold Lib.parseMag;rw[ak (LF m)];have e:=vN m;unfold rJ at e;rw[II _ 0 hd (by rw[e];omega),e]
 cases hl:Lib.decDigits m with
 |nil=>exact absurd hl (LF m)
 | cons c r =>
   rw[hl]at hp hd;have hc:=hd c ab;unfold l0 at hc;rw[Lib.atoiAll_plain c r aa aa,hp];unfold Lib.signless;simp;omega
theorem JB{l:List UInt8}{v:Int}(h:Lib.atoiAll l=.ok v):(aV v=l->bc l=(v,true))/\(¬aV v=l->bc l=(0,false)):=by
 refine⟨λe=>EC e (λe=>by subst e;cases h),λe=>pZ λm hm h2=>?_⟩;subst h2;rw[N3 hm]at h
 cases h
 exact e (by rw[oN aa,bm])
theorem yT{l:List UInt8}(h:∀v,Lib.atoiAll l≠.ok v):bc l=(0,false):=pZ λm hm e=>h m (by rw[<-e,N3 hm])
def fg{α β:Type}(f:α->Option β):List α->Option (List β)
 | []=>some []
 | x :: l => match f x with
   |none=>none
   |some y=>(fg f l).map (y :: ·)
theorem wW{α β:Type}{f:α->Option β}{W:List α}{i:Nat}(h:i<W.length):fg f (W.drop i)=(f W[i]).bind λy=>(fg f (W.drop (i+1))).map (y :: ·):=by
 rw[bk h,fg]
 cases f W[i]<;>rfl
theorem sb{α β:Type}{f:α->Option β}:∀{W:List α}{l:List β},fg f W=some l->W.length=l.length/\∀i,∀h:i<W.length,∀h':i<l.length,f W[i]=some l[i]
 | [],l,h=>by simp[fg]at h;subst h;simp
 | x :: W, l, h => by
   unfold fg at h
   cases hx:f x with
   |none=>rw[hx]at h;cases h
   | some y =>
     rw[hx]at h
     cases hW:fg f W with
     |none=>rw[hW]at h;cases h
     | some r =>
       rw[hW]at h
       cases h
       obtain⟨h1,h2⟩:=sb hW;refine⟨lj,λi hi hi'=>?_⟩
       cases i with
       |zero=>simpa using hx
       |succ i=>simpa using h2 i eT (by simpa using hi')
theorem vo{α β:Type}{f:α->Option β}{g:β->α}:∀{l:List β},(∀y∈l,f (g y)=some y)->fg f (l.map g)=some l
 | [],_=>rfl
 | y :: l, h => by
   rw[bK,fg,h y ab,vo (λz hz=>h z (by simp[hz]))];rfl
def kV(l:List Int):List UInt8:=Lib.join (l.map aV) [46]
open Classical in
noncomputable def dq(l:List Int):List UInt8:=if dK l then(if l=[]then [45]else kV l)else []
open Classical in
noncomputable def jM(x:List UInt8):Option Int:=if(bc x).2=true then some (bc x).1 else none
open Classical in
noncomputable def iV(x:List UInt8):Option Int:=if(bc x).2=true/\mX (bc x).1 then some (bc x).1 else none
noncomputable def gU(s:List UInt8):Option (List Int):=fg jM (bf 46 s)
noncomputable def eh(s:List UInt8):Option (List Int):=if s=[45]then some []else fg iV (bf 46 s)
def th{α:Type}:Option (List α)->List α×Bool
 |some l=>(l,true)
 |none=>([],false)
noncomputable def dI(s:List UInt8):List Int×Bool:=th (eh s)
theorem amt(n:Int):(46:UInt8)∉aV n:=p9 n yX
theorem ag3(n:Int):(32:UInt8)∉aV n:=p9 n yX
theorem oE{l:List Int}(h:l≠[]):bf 46 (kV l)=l.map aV:=oF 46 _ l8 (λw hw=>by
 obtain⟨n,-,rfl⟩:=cM.1 hw;exact amt n)
theorem ta{n:Int}(h:mX n):0<=n/\n<=1000000000:=by unfold mX at h;omega
theorem zE{l:List Int}(h:∀n∈l,0<=n/\n<=1000000000)(hl:l≠[]):gU (kV l)=some l:=by
 unfold gU;rw[oE hl,vo λn hn=>by unfold jM;rw[dQ (h n hn)];simp]
theorem MF{l:List Int}(hl:l≠[]):kV l≠[45]:=λe=>by
 have h:=oE hl;rw[e]at h
 cases l with
 |nil=>exact hl rfl
 | cons n l =>
   have h1:bf 46 [45]=[[45]]:=ag;rw[h1]at h;simp at h;have:=B3 n 45 (by rw[<-h.1];simp);unfold l0 at this;exact absurd this ag
theorem xy{l:List Int}(h:dK l):dI (dq l)=(l,true):=by
 unfold dI dq eh;rw[al h];by_cases hl:l=[]
 ·rw[al hl,al rfl,hl]
  rfl
 ·rw[ak hl,ak (MF hl),oE hl,vo λn hn=>by
   unfold iV;rw[dQ (ta (h n hn)),al ⟨rfl,h n hn⟩]]
  rfl
theorem aaA{W:List (List UInt8)}{l:List Int}{f:List UInt8->Option Int}(hf:∀x y,f x=some y->(bc x).2=true/\y=(bc x).1)(h:fg f W=some l):l.map aV=W:=by
 obtain⟨h1,h2⟩:=sb h
 apply rV
 ·simp[h1]
 ·intro i hi hi'
  have:=hf _ _ (h2 i hi' eT);simp only[nG];rw[this.2];exact(BJ this.1).2
theorem uY{x:List UInt8}{y:Int}(h:iV x=some y):(bc x).2=true/\y=(bc x).1/\mX y:=by
 unfold iV at h
 split at h
 ·rename_i hc;have e:=ie h;rw[<-e];exact⟨hc.1,rfl,hc.2⟩
 ·exact absurd h ab
theorem Ez{s:List UInt8}{l:List Int}(h:eh s=some l):dK l/\dq l=s:=by
 unfold eh at h;by_cases hs:s=[45]
 ·rw[al hs]at h
  cases h
  have h0:dK []:=λn hn=>absurd hn rU
  refine⟨h0,?_⟩;unfold dq;rw[al h0,al rfl,hs]
 ·rw[ak hs]at h
  have hW:=aaA (λx y hxy=>⟨(uY hxy).1,(uY hxy).2.1⟩) h
  have hok:dK l:=λn hn=>by
   obtain⟨h1,h2⟩:=sb h;obtain⟨i,hi,rfl⟩:=fF hn;exact(uY (h2 i aa hi)).2.2
  have hl:l≠[]:=λe=>lz 46 s (by rw[<-hW,e];rfl)
  refine⟨hok,?_⟩;unfold dq;rw[al hok,ak hl];unfold kV;rw[hW,FF]
end Go.Proofs.YtdeimojjhhdeaaaGreatDoor
