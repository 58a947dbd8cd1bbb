import Derived.Test.YtklblkobegcljaaGreatPI
import Derived.Test.YtklblkobegcljaaGreatME
import Derived.Test.YtklblkobegcljaaGreatPH
import Derived.Test.YtklblkobegcljaaGreatPD
import Derived.Test.YtklblkobegcljaaGreatMH
import Derived.Shelf.RegionOpenPlain
namespace Go.AM
open Go.RowKit
def GL(w:World)(S:Nat->Prop)(v:Value):RV->Prop
 | .c d _=>Rd w false S v d
 | .agg ts=>∃xs:Array Value,v=.agg xs/\xs.size=ts.length/\∀j t,ts[j]? = some t->Rd w false S (xs.getD j undef) t.1
def Cd(w:World)(S:Nat->Prop)(v:Value):RR->Prop
 | .one r=>GL w S v r
 | .tup l=>∃xs:Array Value,v=.tuple xs/\xs.size=l.length/\∀j t,l[j]? = some t->GL w S (xs.getD j undef) t
theorem tI.toN{w:World}{S S':Nat->Prop}{v:Value}{r:RV}(h:tI w S v r)(hS:∀c,S c->S' c):GL w S' v r:=by
 cases r with
 |c d sz=>exact(lG.rd h).weaken.map (λ_ _ _=>rfl) (λc hc _=>hS c hc)
 | agg ts =>
   obtain⟨xs,F,h1,h2,h3,h4,h5⟩:=h;exact⟨xs,h1,h2,λj t hj=>(lG.rd (h5 j t hj)).weaken.map (λ_ _ _=>rfl) (λc hc _=>hS c (h3 j c hc))⟩
theorem GK.toN{w:World}{S S':Nat->Prop}{v:Value}{r:RR}(h:GK w S v r)(hS:∀c,S c->S' c):Cd w S' v r:=by
 cases r with
 |one r=>exact tI.toN h hS
 | tup l =>
   obtain⟨xs,F,h1,h2,h3,h4,h5⟩:=h;exact⟨xs,h1,h2,λj t hj=>tI.toN (h5 j t hj) (λc hc=>hS c (h3 j c hc))⟩
theorem GL.rel{w:World}{M S:Nat->Prop}{v:Value}{r:RV}(h:GL w S v r)(hM:∀c,S c->¬M c):VRel w M (roV r) v:=by
 cases r with
 |c d sz=>exact jR (Rd.map h (λ_ _ _=>rfl) (λc hc _=>hM c hc))
 | agg ts =>
   obtain⟨xs,rfl,h2,h5⟩:=h;refine .agg _ _ (by simp[h2]) (λi av hi=>?_);simp only[ch,aU]at hi;obtain⟨t,ht,rfl⟩:=hi;exact jR ((h5 i t ht).map (λ_ _ _=>rfl) (λc hc _=>hM c hc))
theorem Cd.rel{w:World}{M S:Nat->Prop}{v:Value}{r:RR}(h:Cd w S v r)(hM:∀c,S c->¬M c):VRel w M (roR r) v:=by
 cases r with
 |one r=>exact GL.rel h hM
 | tup l =>
   obtain⟨xs,rfl,h2,h5⟩:=h;refine .tup _ _ (by simp[h2]) (λi av hi=>?_);simp only[ch,aU]at hi;obtain⟨t,ht,rfl⟩:=hi;exact GL.rel (h5 i t ht) hM
theorem ag.ro{E:Env}{f:Nat}{args:List VD}{rr:RR}(hc:ar E.P f args rr){avs:List AV}{st:ASt}{dst:Option Nat}{K:ASt->Prop}(hin:sb E.rd st.h avs args)
 (hout:bQ st dst (roR rr) K):ag E f avs st dst K:=by
 refine⟨hc.1,λa w hR xs hs hx=>?_⟩;obtain⟨Es,hH⟩:=hR.heap;obtain⟨hl,hr⟩:=kO hH hR.rd avs args hx hin;refine(hc.2 w trivial xs aa hr).mono ?_
 rintro e w' ⟨v,rfl,hb,hrr⟩
 have t:Tr st.h.M w st.h.M w':=⟨hb.size,λb hlt _=>hb.block b hlt,λb _ h=>h⟩;have H':HRel E.base st.h w' Es:=⟨λk=>(hH.obj k).tr t (λb hk=>hb.block b (hH.lt hk)) (λc hc _=>hc),hH.inj,hH.low,λk c hc=>⟨(hH.elow k c hc).1,cg (hH.elow k c hc).2 hb.size⟩,hH.einj,hH.em⟩;have hv:VRel w' st.h.M (roR rr) v:=Fs hrr (λc hc ⟨k,hk⟩=>yW);obtain⟨av',h3,h1,h2,h4,h5⟩:=(hR.move H' t ⟨hb.os,hb.tape,hb.output⟩).put hv hout;exact⟨v,av',h3,rfl,h1,h2,h4,h5⟩
abbrev gQ:=List (Nat×Array Value×TypeId)
def gQ.at(W:gQ)(w:World):Prop:=(∀q∈W,w.heap[q.1]? = some (.cells q.2.1 q.2.2 (0,0)))/\(W.map (·.1)).Nodup
def gQ.off(W:gQ)(c:Nat):Prop:=∀q∈W,c≠q.1
def phO(q:Nat×Array Value×TypeId):AObj:=.vars q.1 q.2.2 (q.2.1.toList.map .is)
def jc:Nat->gQ->AH
 |_,[]=>[]
 |i,q::l=>(i,phO q)::jc (i+1) l
def phs(W:gQ):AH:=jc 1000000000 W
theorem xA:∀(W:gQ) (i k:Nat),AH.get (jc i W) k=if i<=k then(match W[k-i]? with|some q=>phO q|none=>.dead)else .dead
 | [],i,k=>by simp[jc,AH.get]
 | q :: l, i, k => by
   rw[jc,bH,xA l];by_cases h:k=i
   ·subst h;simp
   ·rw[aq h]
    by_cases h1:i+1<=k
    ·rw[an h1,an aa,show k-i=(k-(i+1))+1 from aa];rfl
    ·rw[aq h1,aq aa]
theorem zt(W:gQ)(k:Nat):AH.get (phs W) k=if 1000000000<=k then(match W[k-1000000000]? with|some q=>phO q|none=>.dead)else .dead:=xA W _ k
theorem Wq{W:gQ}{k:Nat}(h:k<1000000000):AH.get (phs W) k=.dead:=by rw[zt,aq aa]
theorem Fy{W:gQ}{k c:Nat}(h:(AH.get (phs W) k).blk=some c):1000000000<=k/\∃q,W[k-1000000000]? = some q/\q.1=c/\AH.get (phs W) k=phO q:=by
 rw[zt]at h⊢
 split at h
 ·rename_i hk
  rw[an hk]
  split at h
  ·rename_i q hq
   exact⟨hk,q,hq,by simpa[phO,AObj.blk]using h,ab⟩
  ·cases h
 ·cases h
theorem Tb{W:gQ}{q:Nat×Array Value×TypeId}(h:q∈W):∃k,1000000000<=k/\AH.get (phs W) k=phO q:=by
 obtain⟨i,hi,rfl⟩:=eO h;exact⟨1000000000+i,aa,by rw[zt,an aa];simp[hi]⟩
theorem Wr{W:gQ}(hn:(W.map (·.1)).Nodup){k k' c:Nat}(h:(AH.get (phs W) k).blk=some c)(h':(AH.get (phs W) k').blk=some c):k=k':=by
 obtain⟨h1,q,hq,rfl,-⟩:=Fy h;obtain⟨h2,q',hq',e,-⟩:=Fy h';obtain⟨hi,rfl⟩:=au.1 hq;obtain⟨hi',rfl⟩:=au.1 hq';have:=(List.getElem_inj (xs:=W.map (·.1)) (i:=k'-1000000000) (j:=k-1000000000) (h₀:=by simpa using hi') (h₁:=by simpa using hi) hn).1 (by simpa using e);omega
def oO(h:AH)(W:gQ):Prop:=∀k,1000000000<=k->AH.get h k=AH.get (phs W) k
theorem PI{W:gQ}:oO (phs W) W=True:=Jb λ_ _=>rfl
theorem tail_cons{W:gQ}{h:AH}{j:Nat}{o:AObj}(hj:j<1000000000):oO ((j,o)::h) W=oO h W:=by
 have:∀k,1000000000<=k->AH.get ((j,o)::h) k=AH.get h k:=λk hk=>by rw[bH,aq aa]
 refine propext ⟨λht k hk=>by rw[<-this k hk];exact ht k hk,λht k hk=>by rw[this k hk];exact ht k hk⟩
theorem Rk(a:AV):kR a a:=by cases a<;>simp[kR]
theorem I2:∀l:List AV,ALe l l
 | []=>trivial
 |a::l=>⟨Rk a,I2 l⟩
theorem JK(o:AObj):fH o o:=by
 cases o with
 |vars b T cells=>exact⟨rfl,rfl,I2 cells⟩
 |dead=>trivial
 |rows=>exact .inl rfl
 |lent=>exact rfl
 |part=>exact rfl
theorem rz:∀{W:gQ}{i:Nat}{p:Nat×AObj},p∈jc i W->i<=p.1/\AH.get (jc i W) p.1=p.2
 | [],_,_,h=>lY
 | q :: l, i, p, h => by
   rcases aX.1 h with rfl|h
   ·exact⟨aH _,by rw[jc,bH,an rfl]⟩
   ·obtain⟨h1,h2⟩:=rz h
    exact⟨aa,by rw[jc,bH,aq aa];exact h2⟩
theorem O8{W:gQ}:(∀p∈phs W,fH (AH.get (phs W) p.1) p.2)=True:=Jb λp hp=>by
 have e:AH.get (phs W) p.1=p.2:=(rz hp).2;rw[e];exact JK _
theorem O7{W:gQ}{h:AH}{j:Nat}{o:AObj}(hj:j<1000000000):(∀p∈phs W,fH (AH.get ((j,o)::h) p.1) p.2)=∀p∈phs W,fH (AH.get h p.1) p.2:=by
 have:∀p∈phs W,AH.get ((j,o)::h) p.1=AH.get h p.1:=λp hp=>by
  have:=(rz hp).1;rw[bH,aq aa]
 refine propext ⟨λht p hp=>by rw[<-this p hp];exact ht p hp,λht p hp=>by rw[this p hp];exact ht p hp⟩
def lC(P:Program)(f:Nat)(args:List VD)(R:RR->Prop):Prop:=
 xj P f/\∀(w:World) (o:gQ) (xs:Array Value),o.at w->xs.size=args.length->(∀i vd,args[i]? = some vd->uQ w o.off (xs.getD i undef) vd) ->
  Calls P f xs w λe w'=>∃v rr,e=.returned v/\R rr/\Below w.heap.size w w'/\Cd w' o.off v rr
theorem wg{o:gQ}{w:World}(h:o.at w){c:Nat}(hc:w.heap.size<=c):o.off c:=λq hq he=>by
 have:=fM (h.1 q hq);omega
theorem uQ.toV{w:World}{S:Nat->Prop}{v:Value}{d:VD}(h:uQ w S v d):RdV w v d:=by
 cases d with
 |c d=>exact Rd.map h (λ_ _ _=>rfl) (λ_ _ _=>trivial)
 | agg ds =>
   obtain⟨xs,h1,h2,h3⟩:=h;exact⟨xs,h1,h2,λj d hd=>(h3 j d hd).map (λ_ _ _=>rfl) (λ_ _ _=>trivial)⟩
theorem ar.toN{P:Program}{f:Nat}{args:List VD}{rr:RR}(hc:ar P f args rr):lC P f args (λr=>r=rr):=by
 refine⟨hc.1,λw o xs ho hs hx=>(hc.2 w trivial xs hs (λi vd hi=>(hx i vd hi).toV)).mono ?_⟩
 rintro e w' ⟨v,rfl,hb,hr⟩
 exact⟨v,rr,rfl,rfl,hb,hr.toN λc hc=>wg ho hc.1⟩
theorem lC.mono{P:Program}{f:Nat}{args:List VD}{R R':RR->Prop}(hc:lC P f args R)(h:∀r,R r->R' r):lC P f args R':=by
 refine⟨hc.1,λw o xs ho hs hx=>(hc.2 w o xs ho hs hx).mono ?_⟩;exact LM
theorem To{w:World}{M E:Nat->Prop}{o:AObj}(h:fv w M E o){b:Nat}(hb:o.blk=some b):∃cs T,w.heap[b]? = some (.cells cs T (0,0)):=by
 cases o with
 |dead=>cases hb
 |vars b' T cells=>obtain⟨cs,h1,-⟩:=h;cases hb;exact⟨cs,T,h1⟩
 |lent H sz rows=>cases hb
 | rows H sz rows own =>
   exact Nb
 | part H sz rows lo =>
   exact Nb
theorem Iu:∀{h:AH}{k:Nat},(AH.get h k).blk≠none->k∈h.map (·.1)
 | [],_,hk=>absurd rfl hk
 | (j, o) :: h, k, hk => by
   rw[bH]at hk
   split at hk
   ·rename_i e;rw[e];exact aJ ..
   ·exact aC _ (Iu hk)
def ddl:List Nat->List Nat
 | []=>[]
 |a::l=>if a∈l then ddl l else a::ddl l
theorem zz{c:Nat}:∀l:List Nat,c∈ddl l↔c∈l
 | []=>Iff.rfl
 | a :: l => by
   unfold ddl
   split
   ·rename_i h
    rw[zz l];exact⟨λhc=>aC _ hc,λhc=>(aX.1 hc).elim (λe=>e ▸ h) id⟩
   ·rw[aX,aX,zz l]
theorem w8:∀l:List Nat,(ddl l).Nodup
 | []=>List.nodup_nil
 | a :: l => by
   unfold ddl
   split
   ·exact w8 l
   ·rename_i h
    rw[qW];exact⟨λhc=>h ((zz l).1 hc),w8 l⟩
theorem KY{w:World}:∀{B:List Nat},B.Nodup->(∀b∈B,∃cs T,w.heap[b]? = some (.cells cs T (0,0)))->∃W:gQ,W.at w/\W.map (·.1)=B
 | [],_,_=>⟨[],⟨ab,ab⟩,rfl⟩
 | b :: B, hn, hb => by
   rw[qW]at hn;obtain⟨W,h1,h2⟩:=KY hn.2 (λc hc=>hb c (aC _ hc));obtain⟨cs,T,h3⟩:=hb b (aJ ..);refine⟨(b,cs,T)::W,⟨λq hq=>?_,?_⟩,by simp[h2]⟩
   ·rcases aX.1 hq with rfl|hq
    ·exact h3
    ·exact h1.1 q hq
   ·simp only[bL,qW]
    exact⟨by rw[h2];exact hn.1,h1.2⟩
theorem RN{base:Bs}{h:AH}{w:World}{E:Nat->Nat->Prop}(H:HRel base h w E)(p:Nat->Prop):∃W:gQ,W.at w/\∀c,W.off c↔¬(h.M c/\p c):=by
 classical
 let B:List Nat:=ddl (((h.map (·.1)).filterMap λk=>(h.get k).blk).filter (λc=>decide (p c)))
 have hB:∀c,c∈B↔h.M c/\p c:=by
  intro c;simp only[B,zz,cl,gj,cf]
  constructor
  ·rintro⟨⟨k,-,hk⟩,hp⟩;exact⟨⟨k,hk⟩,hp⟩
  ·rintro⟨⟨k,hk⟩,hp⟩;exact⟨⟨k,Iu (by rw[hk];simp),hk⟩,hp⟩
 obtain⟨W,h1,h2⟩:=KY (w:=w) (B:=B) (w8 _) (λb hb=>by
  obtain⟨⟨k,hk⟩,-⟩:=(hB b).1 hb;exact To (H.obj k) hk)
 refine⟨W,h1,λc=>?_⟩;rw[<-hB,<-h2];unfold gQ.off
 constructor
 ·intro h hm
  obtain⟨q,hq,e⟩:=cE.1 hm;exact h q hq e.symm
 ·intro h q hq e
  exact h (cE.2 ⟨q,hq,e.symm⟩)
theorem Td{E:Env}{st:ASt}{a:Act}{w:World}(hR:Rep E.w0 E.base st a w){Es:Nat->Nat->Prop}(hH:HRel E.base st.h w Es){S:Nat->Prop}(hoff:∀c,¬st.h.M c->S c):∀(avs:List AV) (args:List VD) {us:Nat->Value}(_:∀i av,avs[i]? = some av->VRel w st.h.M av (us i)) (_:sb E.rd [] avs args),avs.length=args.length/\∀i d,args[i]? = some d->uQ w S (us i) d:=by
 have one:∀{x:AV}{u:Value}{d:CD},VRel w st.h.M x u->aIn E.rd [] x d->Rd w false S u d:=by
  intro x u d hv hk;unfold aIn at hk
  split at hk
  ·cases hv
   exact Rd.map hk (λb hb _=>hR.below.block b hb) (λc hc _=>hoff c (λ⟨k,hk⟩=>(hH.low k c hk).1 hc))
  ·simp at hk
  ·subst hk;cases hv with|v u hp=>exact .plain hp
  ·subst hk;cases hv;exact .empty _ _ eS
  ·subst hk;cases hv with|ro rows x hr=>exact hr.map (λ_ _ _=>rfl) (λc hc _=>hoff c hc)
  ·simp at hk
  ·exact hk.elim
 have oneL:∀(l:List AV) (ds:List CD) {us:Nat->Value}(_:∀i av,l[i]? = some av->VRel w st.h.M av (us i)) (_:Bq E.rd [] l ds),l.length=ds.length/\∀i d,ds[i]? = some d->Rd w false S (us i) d:=by
  intro l
  induction l with
  | nil =>
    intro ds us hv hk
    cases ds with
    |nil=>exact⟨rfl,λi d hd=>oe⟩
    |cons _ _=>exact hk.elim
  | cons a l ih =>
    intro ds us hv hk
    cases ds with
    |nil=>exact hk.elim
    | cons d ds =>
      obtain⟨h1,h2⟩:=ih ds (us:=λi=>us (i+1)) (λi av hi=>hv (i+1) av ee) hk.2;refine⟨kW,λi d' hd=>?_⟩
      cases i with
      |zero=>simp at hd;subst hd;exact one (hv 0 a rfl) hk.1
      |succ i=>exact h2 i d' mO
 intro avs
 induction avs with
 | nil =>
   intro args us hv hk
   cases args with
   |nil=>exact⟨rfl,λi d hd=>oe⟩
   |cons _ _=>exact hk.elim
 | cons a l ih =>
   intro args us hv hk
   cases args with
   |nil=>exact hk.elim
   | cons d ds =>
     obtain⟨h1,h2⟩:=ih ds (us:=λi=>us (i+1)) (λi av hi=>hv (i+1) av ee) hk.2;refine⟨kW,λi d' hd=>?_⟩
     cases i with
     | zero =>
       simp at hd;subst hd;have h0:=hv 0 a rfl;have hk0:=hk.1;generalize us 0=u0 at h0⊢;unfold KG at hk0
       split at hk0
       ·exact one h0 hk0
       ·split at hk0
        ·rename_i ds _ l
         cases h0 with
         | agg _ xs hs hl =>
           obtain⟨g1,g2⟩:=oneL l ds hl hk0;exact⟨xs,rfl,aa,g2⟩
        ·exact hk0.elim
     |succ i=>exact h2 i d' mO
theorem gR{E:Env}{f:Nat}{args:List VD}{R:RR->Prop}(hc:lC E.P f args R){avs:List AV}{st:ASt}{dst:Option Nat}{K:ASt->Prop}(hin:sb E.rd [] avs args)
 (hout:∀rr,R rr->bQ st dst (roR rr) K):ag E f avs st dst K:=by
 refine⟨hc.1,λa w hR xs hs hx=>?_⟩;obtain⟨Es,hH⟩:=hR.heap;obtain⟨o,ho,hoff⟩:=RN hH (λ_=>True);obtain⟨hl,hr⟩:=Td hR hH (S:=o.off) (λc hc=>(hoff c).2 (λh=>hc h.1)) avs args hx hin;refine(hc.2 w o xs ho aa hr).mono ?_
 rintro e w' ⟨v,rr,rfl,hRR,hb,hrr⟩
 have t:Tr st.h.M w st.h.M w':=⟨hb.size,λb hlt _=>hb.block b hlt,λb _ h=>h⟩;have H':HRel E.base st.h w' Es:=⟨λk=>(hH.obj k).tr t (λb hk=>hb.block b (hH.lt hk)) (λc hc _=>hc),hH.inj,hH.low,λk c hc=>⟨(hH.elow k c hc).1,cg (hH.elow k c hc).2 hb.size⟩,hH.einj,hH.em⟩;have hv:VRel w' st.h.M (roR rr) v:=Cd.rel hrr (λc hc hm=>(hoff c).1 hc ⟨hm,trivial⟩);obtain⟨av',h3,h1,h2,h4,h5⟩:=(hR.move H' t ⟨hb.os,hb.tape,hb.output⟩).put hv (hout rr hRR);exact⟨v,av',h3,rfl,h1,h2,h4,h5⟩
def xF(R:Value->CD->Prop)(h:AH)(x:AV)(r:RV):Prop:=
 match r with
 | .c d _=>aIn R h x d
 | .agg ts => match x with
   | .agg l=>Bq R h l (ts.map Prod.fst)
   |_=>False
def uC(R:Value->CD->Prop)(h:AH):List AV->List RV->Prop
 | [],[]=>True
 |a::l,r::rs=>xF R h a r/\uC R h l rs
 |_,_=>False
def nQ(E:Env)(h:AH)(l:List AV)(rr:RR):Prop:=
 match rr with
 | .one r => match l with
   | [x]=>xF E.rd h x r
   |_=>False
 | .tup rs=>l.length≠1/\uC E.rd h l rs
theorem xE{base:Bs}{h:AH}{w:World}{E:Nat->Nat->Prop}(H:HRel base h w E){S:Nat->Prop}(hS:∀c,¬h.M c->S c)(hSr:∀k b o C sz rows own,h.get k=.rows (some (b,o,C)) sz rows own->S b)
 {R:Value->CD->Prop}(hR:∀u d,R u d->Rd w false S u d) {x:AV}{u:Value}(hv:VRel w h.M x u) {r:RV}(hk:xF R h x r):GL w S u r:=by
 unfold xF at hk
 split at hk
 ·exact Bo H hS hSr hR hv hk
 ·split at hk
  ·rename_i ts _ l
   cases hv with
   | agg _ xs hs hl =>
     obtain⟨h1,h2⟩:=yd H hS hSr hR l _ hl hk;refine⟨xs,rfl,by simp at h1;omega,λj t hj=>h2 j t.1 (by simp[hj])⟩
  ·exact hk.elim
theorem vA{base:Bs}{h:AH}{w:World}{E:Nat->Nat->Prop}(H:HRel base h w E){S:Nat->Prop}(hS:∀c,¬h.M c->S c)(hSr:∀k b o C sz rows own,h.get k=.rows (some (b,o,C)) sz rows own->S b)
 {R:Value->CD->Prop}(hR:∀u d,R u d->Rd w false S u d):∀(l:List AV) (rs:List RV) {us:Nat->Value}(_:∀i av,l[i]? = some av->VRel w h.M av (us i)) (_:uC R h l rs),
 l.length=rs.length/\∀j t,rs[j]? = some t->GL w S (us j) t
 | [],[],us,hv,hk=>⟨rfl,λj t hj=>pT⟩
 | a :: l, r :: rs, us, hv, hk => by
   obtain⟨h1,h2⟩:=vA H hS hSr hR l rs (us:=λi=>us (i+1)) (λi av hi=>hv (i+1) av ee) hk.2;refine⟨kW,λj t hj=>?_⟩
   cases j with
   |zero=>simp at hj;subst hj;exact xE H hS hSr hR (hv 0 a rfl) hk.1
   |succ j=>exact h2 j t jC
 | [],_::_,us,hv,hk=>hk.elim
 |_::_,[],us,hv,hk=>hk.elim
theorem HG{E:Env}{h:AH}{w:World}{Es:Nat->Nat->Prop}(H:HRel E.base h w Es){S:Nat->Prop}(hS:∀c,¬h.M c->S c)(hSr:∀k b o C sz rows own,h.get k=.rows (some (b,o,C)) sz rows own->S b)
 (hR:∀u d,E.rd u d->Rd w false S u d) {vs:List Value}{l:List AV}(hl:vs.length=l.length) (hv:∀i av,l[i]? = some av->VRel w h.M av (vs.getD i undef)) {rr:RR}(hq:nQ E h l rr) :
 Cd w S (if vs.length=1 then vs.getD 0 undef else .tuple vs.toArray) rr:=by
 unfold nQ at hq
 split at hq
 ·split at hq
  ·rename_i r x
   rw[an (by simpa using hl)];exact xE H hS hSr hR (hv 0 x rfl) hq
  ·exact hq.elim
 ·rename_i rs
  obtain⟨hne,hq⟩:=hq;obtain⟨h1,h2⟩:=vA H hS hSr hR l rs hv hq;rw[aq aa];exact⟨vs.toArray,rfl,aN,λj t hj=>by simpa using h2 j t hj⟩
theorem OQ{P:Program}{fn:Func}{tmps:Array Value}{w:World}{vs:List Value}(h1:(fn.results.toList.mapM (j8 tmps)).run P w=.ok vs w):(results fn tmps).run P w=.ok (if vs.length=1 then vs.getD 0 undef else .tuple vs.toArray) w:=by
 rw[ny,uk];simp only[ff,Sem.run_map,h1,cZ,fN]
 cases vs with
 |nil=>simp
 |cons v vs=>cases vs<;>simp
theorem Wp{w:World}{o:gQ}(ho:o.at w)(M E:Nat->Prop)(k:Nat):fv w M E (AH.get (phs o) k):=by
 rw[zt]
 split
 ·split
  ·rename_i q hq
   refine⟨q.2.1,ho.1 q (aO hq),ab,λj av hj=>?_⟩;simp only[ch,pd,aU]at hj;obtain⟨u,hu,rfl⟩:=hj;have:q.2.1.getD j undef=u:=by simp[hu]
   rw[this];exact .is u
  ·trivial
 ·trivial
theorem Wo{w:World}{o:gQ}(ho:o.at w)(base:Bs)(hb:∀c,¬o.off c->¬base.F c/\¬base.G c):HRel base (phs o) w (λ_ _=>False)/\∀c,(phs o).M c↔¬o.off c:=by
 have hm:∀c,(phs o).M c↔¬o.off c:=by
  intro c
  constructor
  ·rintro⟨k,hk⟩ h
   obtain⟨-,q,hq,e,-⟩:=Fy hk;exact h q (aO hq) e.symm
  ·intro h
   obtain⟨q,hq,e⟩:∃q∈o,c=q.1:=aT λhn=>h (λq hq he=>hn ⟨q,hq,he⟩)
   obtain⟨k,-,hk⟩:=Tb hq;exact⟨k,by rw[hk,e];rfl⟩
 exact⟨⟨λk=>Wp ho _ _ k,λk k' c h h'=>Wr ho.2 h h',λk c h=>hb c ((hm c).1 ⟨k,h⟩),λ_ _ h=>h.elim,λ_ _ _ h=>h.elim,λ_ _ h=>h.elim⟩,hm⟩
theorem JF{w:World}{o:gQ}(ho:o.at w){n:Nat}{xs:Array Value}{t:List (Nat×AV)}(hn:xs.size<=n)(ht:∀q,VRel w (λc=>¬o.off c) (bM t q) ((xs++Array.replicate (n-xs.size) undef).getD q undef)) :
 Rep w ⟨λc=>c<w.heap.size/\o.off c,λc=>c<w.heap.size/\o.off c,false,λ_=>True⟩ { n:=n,kb:=0,t:=t,h:=phs o } { tmps:=xs++Array.replicate (n-xs.size) undef,defers:=[] } w:=by
 obtain⟨hrel,hm⟩:=Wo ho ⟨λc=>c<w.heap.size/\o.off c,λc=>c<w.heap.size/\o.off c,false,λ_=>True⟩ (λc hc=>⟨λh=>hc h.2,λh=>hc h.2⟩);exact⟨rfl,aN,λq=>(ht q).tr ⟨aH _,λ_ _ _=>rfl,λc _ hc=>(hm c).1 hc⟩,⟨_,hrel⟩,BelowF.refl _ _,λc hc=>hc.elim (λh=>h.1) (λh=>h.1)⟩
theorem s7{base:Bs}{h:AH}{w w':World}{E:Nat->Nat->Prop}(hH:HRel base h w' E){o:gQ}(ho:o.at w)(hg:oO h o){c:Nat}(hc:¬o.off c):w'.heap[c]? = w.heap[c]?/\∃k,1000000000<=k/\(h.get k).blk=some c/\∃b T l,h.get k=.vars b T l:=by
 obtain⟨q,hq,rfl⟩:∃q∈o,c=q.1:=aT λhn=>hc (λq hq he=>hn ⟨q,hq,he⟩)
 obtain⟨k,hk,he⟩:=Tb hq;have e:h.get k=phO q:=by rw[hg k hk,he]
 refine⟨?_,k,hk,by rw[e];rfl,_,_,_,e⟩;have ob:=hH.obj k;rw[e]at ob;obtain⟨cs',g1,g2,g3⟩:=ob;have hs:cs'.size=q.2.1.size:=by simpa using g2
 have:cs'=q.2.1:=by
  refine Array.ext hs (λj hj hj'=>?_);have:=g3 j (.is q.2.1[j]) (by simp[hj']);have e:cs'.getD j undef=cs'[j]:=by simp[hj]
  rw[e]at this;generalize cs'[j]=y at this
  cases this;rfl
 rw[g1,this];exact(ho.1 q hq).symm
theorem Fz{P:Program}{Ty:Nat->Option TI}(hT:∀t ti,Ty t=some ti->TIok P t ti){fn:Func}{w w':World}{o:gQ}(ho:o.at w){R:RR->Prop}{st':ASt}{a':Act}
 (hR':Rep w ⟨λc=>c<w.heap.size/\o.off c,λc=>c<w.heap.size/\o.off c,false,λ_=>True⟩ st' a' w')
 (hq:gP ⟨P,Ty,w,⟨λc=>c<w.heap.size/\o.off c,λc=>c<w.heap.size/\o.off c,false,λ_=>True⟩⟩ st' fn.results.toList λl=>∃rr,R rr/\nQ ⟨P,Ty,w,⟨λc=>c<w.heap.size/\o.off c,λc=>c<w.heap.size/\o.off c,false,λ_=>True⟩⟩ st'.h l rr/\oO st'.h o) :
 a'.defers=[]/\∃v,(results fn a'.tmps).run P w'=.ok v w'/\∃v' rr,Ending.returned v=.returned v'/\R rr/\Below w.heap.size w w'/\Cd w' o.off v' rr:=by
 let B:Bs:=⟨λc=>c<w.heap.size/\o.off c,λc=>c<w.heap.size/\o.off c,false,λ_=>True⟩
 have hE:EOk ⟨P,Ty,w,B⟩:=⟨hT,λw' hb=>trivial⟩;obtain⟨vs,l,h1,h2,h3,rr,hRR,h4,hg⟩:=gq hE hR' fn.results.toList hq;obtain⟨Es,hH⟩:=hR'.heap
 refine⟨hR'.dfr,_,OQ h1,_,rr,rfl,hRR,⟨hR'.below.os,hR'.below.tape,hR'.below.output,hR'.below.size,λc hc=>?_⟩,
  HG (E:=⟨P,Ty,w,B⟩) hH (S:=o.off) (λc hc=>aT λh=>?_) (λk b' o' C sz rows own hgk=>aT λh=>?_) (λv d hd=>?_) h2 h3 h4⟩
 ·by_cases h:o.off c
  ·exact hR'.below.block c ⟨hc,h⟩
  ·exact(s7 hH ho hg h).1
 ·obtain⟨-,k,-,hk,-⟩:=s7 hH ho hg h
  exact hc ⟨k,hk⟩
 ·obtain⟨-,k',-,hk,b,T,l,he⟩:=s7 hH ho hg h
  have:=hH.inj k k' b' (by rw[hgk];rfl) hk;subst this;rw[hgk]at he;cases he
 ·exact Rd.map hd (λc hc _=>hR'.below.block c hc) (λc hc _=>hc.2)
def Bf(E:Env)(o:gQ)(rs:List ResultVar)(R:RR->Prop):Exit->ASt->Prop
 | .normal,st=>gP E st rs λl=>∃rr,R rr/\nQ E st.h l rr/\oO st.h o
 | .ret,st=>gP E st rs λl=>∃rr,R rr/\nQ E st.h l rr/\oO st.h o
 |_,_=>False
theorem uQ.ph{w:World}{o:gQ}{v:Value}{d:VD}(h:uQ w o.off v d):VRel w (λc=>¬o.off c) d.toAV v:=
 uQ.rel (M:=λc=>¬o.off c) (by
  cases d with
  |c d=>exact Rd.map h (λ_ _ _=>rfl) (λc hc _ hn=>hn hc)
  | agg ds =>
    obtain⟨xs,h1,h2,h3⟩:=h;exact⟨xs,h1,h2,λj d hd=>(h3 j d hd).map (λ_ _ _=>rfl) (λc hc _ hn=>hn hc)⟩)
theorem lC.intro {P : Program} {Ty : Nat → Option TI} (hT : ∀ t ti, Ty t = some ti → TIok P t ti) {f : Nat} {fn : Func} {c : Code} (hf : P.funcs[f]? = some fn) (hname : (fn.name == "runtime.NumGoroutine") = false) (hb : fn.body = some c)
 {n:Nat}{rs:List ResultVar}(hnt:fn.ntmps=n) (hrs:fn.results=⟨rs⟩) {args:List VD}{R:RR->Prop}(hn:args.length<=n)
 (h:∀w0 base o,ic ⟨P,Ty,w0,⟨base,base,false,λ_=>True⟩⟩ c (Bf ⟨P,Ty,w0,⟨base,base,false,λ_=>True⟩⟩ o rs R) { n:=n,kb:=0,t:=nW 0 args,h:=phs o }):lC P f args R:=by
 subst hnt;have hrs':fn.results.toList=rs:=lX;subst hrs';refine⟨⟨fn,hf,hname,kX⟩,λw o xs ho hs hx=>jg hf hb ?_⟩;have hE:EOk ⟨P,Ty,w,⟨λc=>c<w.heap.size/\o.off c,λc=>c<w.heap.size/\o.off c,false,λ_=>True⟩⟩:=⟨hT,λw' hb=>trivial⟩
 have hR:=JF ho (n:=fn.ntmps) (xs:=xs) (t:=nW 0 args) aa (λq=>by
  rw[rX,an (iU q),jO]
  split
  ·exact D0
  ·exact .any _)
 refine gT (dD hE c _ _ _ w hR (h w _ o)) ?_
 rintro e a' w' ⟨st',hq,hR'⟩
 cases e with
 |normal=>exact Fz hT ho hR' hq
 |ret=>exact Fz hT ho hR' hq
 |_=>exact hq.elim
def X7(P:Program)(T:TypeId)(bs:List (List CD))(f:Nat)(args:List VD)(R:RR->Prop):Prop:=
 xj P f/\∀(w:World) (o:gQ) (b:Nat) (u:Value) (i h:Int) (xs:Array Value),o.at w->o.off b->0<=i->i<=bs.length ->
  w.heap[b]? = some (.cells #[u,.int .i64 i,.int .i64 h] T (0,0))->Rd w false (λc=>c≠b/\o.off c) u (.s bs) ->
  xs.size=args.length+1->xs.getD 0 undef=.pointer (some ⟨b,0,none⟩)->(∀j vd,args[j]? = some vd->uQ w (λc=>c≠b/\o.off c) (xs.getD (j+1) undef) vd) ->
  Calls P f xs w λe w'=>∃(v:Value) (rr:RR) (i' h':Int),e=.returned v/\R rr/\0<=i'/\i'<=bs.length/\w'.heap[b]? = some (.cells #[u,.int .i64 i',.int .i64 h'] T (0,0)) /\
   BelowF (λc=>c<w.heap.size/\c≠b) w w'/\Cd w' (λc=>c≠b/\o.off c) v rr
theorem uQ.map{w:World}{S S':Nat->Prop}{v:Value}{d:VD}(h:uQ w S v d)(hS:∀c,S c->S' c):uQ w S' v d:=by
 cases d with
 |c d=>exact Rd.map h (λ_ _ _=>rfl) (λc hc _=>hS c hc)
 | agg ds =>
   obtain⟨xs,h1,h2,h3⟩:=h;exact⟨xs,h1,h2,λj d hd=>(h3 j d hd).map (λ_ _ _=>rfl) (λc hc _=>hS c hc)⟩
theorem aeV.toN{P:Program}{T:TypeId}{bs:List (List CD)}{f:Nat}{args:List VD}{R:RR->Prop}(hc:aeV P T bs f args R):X7 P T bs f args R:=by
 refine⟨hc.1,λw o b u i h xs o1 o2 a1 a2 a3 a4 a5 a6 a7=>(hc.2 w b u i h xs a1 a2 a3 (a4.map (λ_ _ _=>rfl) (λc hc _=>hc.1)) a5 a6 (λj vd hj=>(a7 j vd hj).map λc hc=>hc.1)).mono ?_⟩
 rintro e w' ⟨v,rr,i',h',rfl,h1,h2,h3,h4,h5,h6⟩
 exact⟨v,rr,i',h',rfl,h1,h2,h3,h4,h5,h6.toN λc hc=>⟨by have:=fM a3;omega,wg o1 hc.1⟩⟩
theorem X7.mono{P:Program}{T:TypeId}{bs:List (List CD)}{f:Nat}{args:List VD}{R R':RR->Prop}(hc:X7 P T bs f args R)(hr:∀r,R r->R' r):X7 P T bs f args R':=by
 refine⟨hc.1,λw o b u i h xs o1 o2 a1 a2 a3 a4 a5 a6 a7=>(hc.2 w o b u i h xs o1 o2 a1 a2 a3 a4 a5 a6 a7).mono ?_⟩
 rintro e w' ⟨v,rr,i',h',rfl,h1,h2,h3,h4,h5,h6⟩
 exact⟨v,rr,i',h',rfl,hr _ h1,h2,h3,h4,h5,h6⟩
theorem VI{W:gQ}:wkH (phs W) (phs W)=True:=by rw[<-rb];exact O8
theorem VH{W:gQ}{h:AH}{j:Nat}{o:AObj}(hj:j<1000000000):wkH ((j,o)::h) (phs W)=wkH h (phs W):=by rw[<-rb,<-rb];exact O7 hj
theorem abe{st:ASt}:st.ev (.const (.pointer none))=.any:=(rfl)
theorem U6{E:Env}{o:gQ}{rs:List ResultVar}{R:RR->Prop}{st:ASt}:Bf E o rs R .normal st=gP E st rs λl=>∃rr,R rr/\nQ E st.h l rr/\oO st.h o:=(rfl)
theorem U5{E:Env}{o:gQ}{rs:List ResultVar}{R:RR->Prop}{st:ASt}:Bf E o rs R .ret st=gP E st rs λl=>∃rr,R rr/\nQ E st.h l rr/\oO st.h o:=(rfl)
theorem aaD{E:Env}{h:AH}{x:AV}{r:RV}:nQ E h [x] (.one r)=xF E.rd h x r:=(rfl)
theorem aaC{E:Env}{h:AH}{l:List AV}{rs:List RV}:nQ E h l (.tup rs)=(l.length≠1/\uC E.rd h l rs):=(rfl)
theorem WB{R:Value->CD->Prop}{h:AH}{x:AV}{d:CD}{sz:Nat}:xF R h x (.c d sz)=aIn R h x d:=(rfl)
theorem Qj{R:Value->CD->Prop}{h:AH}{l:List AV}{ts:List (CD×Nat)}:xF R h (.agg l) (.agg ts)=Bq R h l (ts.map Prod.fst):=(rfl)
theorem JP{R:Value->CD->Prop}{h:AH}:uC R h [] []=True:=(rfl)
theorem HI{R:Value->CD->Prop}{h:AH}{x:AV}{l:List AV}{r:RV}{rs:List RV}:uC R h (x::l) (r::rs)=(xF R h x r/\uC R h l rs):=(rfl)
theorem adm{d:CD}{sz:Nat}:roV (.c d sz)=toAV d:=(rfl)
theorem V9{ts:List (CD×Nat)}:roV (.agg ts)=.agg (ts.map λt=>toAV t.1):=(rfl)
theorem Wb{r:RV}:roR (.one r)=roV r:=(rfl)
theorem Wa{l:List RV}:roR (.tup l)=.tup (l.map roV):=(rfl)
attribute [simp ↓] abe U6 U5
attribute [simp] aaD aaC WB Qj JP HI adm V9 Wb Wa VI VH PI tail_cons O8 O7 Wq
end Go.AM
namespace Go.Proofs.YtklblkobegcljaaGreat
open Go.AM
set_option maxRecDepth 20000
set_option maxHeartbeats 6400000
theorem AE(r:Ring)(hl:dh r<=2^30)(n:Int):lC Tryz.prog 204 [.agg r.row,.c (vi n)] (λrr=>rr=.tup [.agg (cG r n).1.res,.c (.s ((cG r n).2.1.map Entry.row)) 3,.c (vi (cG r n).2.2) 1]):=by
 refine lC.intro aw Tryz.func204 al rfl rfl rfl (ai rfl) (λw0 base o=>?_);have hno:=@vR r n;have hout:=@o7 r n;have hyes:=@l9 r n;have hnl:nL aZ r.list<=2^30:=uX;have hle:=aS hnl;simp[Ring.row];intro b2 b4;refine ag.ro (nI r hl) dQ ?_;simp[Ring.res];intro b7;refine ag.ro (gb r aa) dQ ?_;by_cases c1:cF r
 rotate_left
 ·exact sK
 simp[c1];by_cases c2:1<=n
 rotate_left
 ·have c2':n<1:=by omega
  simp[c2',hno (λh=>c2 h.2)]
 have c2':¬n<1:=aa;simp[c2'];have hnx:=c1.2.2.1
 cases c3:r.out with
 |true=>simp[hout ⟨c1,c2⟩ c3,c3]
 |false=>
 simp;obtain⟨m,rfl⟩:∃m:Nat,n=m:=⟨n.toNat,aa⟩;obtain⟨k,hk0⟩:∃k:Nat,min m r.list.length=k:=⟨_,rfl⟩;have hk:k<=r.list.length:=aa;have e1:=hyes ⟨c1,c2⟩ c3 (k:=k) aN;have ew:Go.IntKind.i64.wrap (r.next+(k:Int))=r.next+k:=ae _ aa;have cd:=lR (l:=r.list) (k:=k) hk;have ct:=xa (l:=r.list) (k:=k) hk;rw[KE,hk0];simp[hk,ew,cd,ct];rw[e1];simp[c3]
theorem tV(h:Hub)(hl:dk h<=2^28)(id n:Int):lC Tryz.prog 144 [.agg h.row,.c (vi id),.c (vi n)]
 (λrr=>rr=.tup [.agg (dr h id n).1.res,.c (.s ((dr h id n).2.1.map Entry.row)) 3,.c (vi (dr h id n).2.2) 1]):=by
 refine lC.intro aw Tryz.func144 al rfl rfl rfl (ai rfl) (λw0 base o=>?_);have hls:=aS (iJ hl).2;simp[Hub.row];intro b3 b6;refine ag.ro (m7 h aa id) bp ?_;simp;refine ag.ro (el h aa) bp ?_;by_cases c1:bJ h
 rotate_left
 ·simp[az c1,mr (λh=>c1 h.1),Hub.res,Hub.zero]
 simp[c1];by_cases c2:1<=n
 rotate_left
 ·have c2':n<1:=by omega
  simp[c2',mr (λh=>c2 h.2),Hub.res,Hub.zero]
 have c2':¬n<1:=aa;simp[c2'];rcases kY h.subs id with⟨k,hk,e,-⟩|e;rotate_left
 ·simp[e,o8 ⟨c1,c2⟩ e,Hub.res,Hub.zero]
 have hk0:¬(k:Int)<0:=aa;have hat:=oJ ⟨c1,c2⟩ hk e;have hm:=cT (f:=dC) (iJ hl).2 hk;unfold dC at hm;have hmod:=ta hk;obtain⟨s,hs⟩:∃s,h.subs[k]=s:=⟨_,rfl⟩;rw[hs]at hat hm hmod;have hc:=AE s.r aa n;generalize cG s.r n=R at hc hat;obtain⟨r,list,code⟩:=R;simp only at hat hc;simp[e,hk0,hk,hs,Sub.row];refine gR hc dQ ?_
 rintro _ rfl
 simp[Ring.res];intro b10;by_cases c3:code=0
 rotate_left
 ·rw[aq c3]at hat
  simp[c3,hat,Hub.res,Hub.zero]
 rw[an c3]at hat;simp[c3];refine ag.pure (eI h aa) bp ?_;simp[Hub.res,hk]
 try intros
 rw[hat];simp[hmod r]
theorem TX(h:Hub)(hl:dk h<=2^28)(c:Call)(hc:dX c<=2^28):lC Tryz.prog 85 [.agg h.row,.agg c.row] (λrr=>rr=.tup [.agg (fDo h c).1.res,.agg (fDo h c).2.res]):=by
 by_cases n6:c.kind=6
 rotate_left
 ·exact(C3 h hl c hc n6).toN
 refine lC.intro aw Tryz.func85 al rfl rfl rfl (ai rfl) (λw0 base o=>?_);have hcn:c.doc.size<=2^28/\nL bc c.o<=2^28/\c.text.length<=2^28:=sr;simp[Hub.row,Call.row];intro b2 b3 b4 b5;refine ag.ro (el h aa) bp ?_;by_cases c1:bJ h
 rotate_left
 ·simp[az c1]
  refine ag.ro (eI h aa) bp ?_;exact NW
 simp[c1];refine ag.ro (jJ c aa) i4 ?_;by_cases c2:dx c
 rotate_left
 ·simp[az c2]
  refine ag.ro (eI h aa) bp ?_;exact NV
 simp[c2];intro b6 b7;have hat:=Pi ⟨c1,c2⟩ n6;have hd:=tV h aa c.client c.n;generalize dr h c.client c.n=R at hd hat;obtain⟨X,list,code⟩:=R;simp only at hd hat;simp[n6];refine gR hd bp ?_
 rintro _ rfl
 simp[Hub.res]
 try intros
 by_cases z:code=0
 ·rw[an z]at hat
  simp[z];exact Oo
 ·rw[aq z]at hat
  simp[z];refine drw eok mix [0,2,3,4] [1,5,6] (.c 4 1 8 7 (.c 4 5 0 7 (.c 4 6 7 0 (.l 4 0) .s) .s) .s) ?_;simp
  try intros
  refine ag.ro (eI h aa) bp ?_;simp[Hub.res];exact N5
end Go.Proofs.YtklblkobegcljaaGreat
namespace Go.AM
open Go.RowKit
mutual
def fz(k:Nat)(H:Hd)(sz:Nat)(rs:List (List CD)):AV->AV
 | .sl k' H' sz' off len=>if k'=k then(if H'=H/\sz'=sz/\off+len<=rs.length then .ro (cut rs off len)else .any)else .sl k' H' sz' off len
 | .agg l=>.agg (fzL k H sz rs l)
 | .tup l=>.tup (fzL k H sz rs l)
 | .clo f l=>.clo f (fzL k H sz rs l)
 | .any=>.any
 | .un=>.un
 | .nil=>.nil
 | .v u=>.v u
 | .ro r=>.ro r
 | .p a b c=>.p a b c
 | .e a b c d e=>.e a b c d e
 | .rp r=>.rp r
 | .cv u n=>.cv u n
 | .ml a b c d=>.ml a b c d
 | .is u=>.is u
def fzL(k:Nat)(H:Hd)(sz:Nat)(rs:List (List CD)):List AV->List AV
 | []=>[]
 |a::l=>fz k H sz rs a::fzL k H sz rs l
end
theorem zx(k:Nat)(H:Hd)(sz:Nat)(rs:List (List CD)):∀(l:List AV) (i:Nat),(fzL k H sz rs l)[i]? = l[i]?.map (fz k H sz rs)
 | [],i=>by simp[fzL]
 |a::l,0=>by simp[fzL]
 |a::l,i+1=>by simp[fzL,zx k H sz rs l i]
theorem th(k:Nat)(H:Hd)(sz:Nat)(rs:List (List CD)):∀l:List AV,(fzL k H sz rs l).length=l.length
 | []=>rfl
 |a::l=>by simp[fzL,th k H sz rs l]
def fzO(k:Nat)(H:Hd)(sz:Nat)(rs:List (List CD)):AObj->AObj
 | .vars b T cells=>.vars b T (fzL k H sz rs cells)
 |o=>o
def fzT(k:Nat)(H:Hd)(sz:Nat)(rs:List (List CD))(t:List (Nat×AV)):List (Nat×AV):=t.map λp=>(p.1,fz k H sz rs p.2)
def fzH(k:Nat)(H:Hd)(sz:Nat)(rs:List (List CD)):AH->AH
 | []=>[]
 |(i,o)::h=>(i,fzO k H sz rs o)::fzH k H sz rs h
theorem Pb(k:Nat)(H:Hd)(sz:Nat)(rs:List (List CD)):∀(t:List (Nat×AV)) (i:Nat),bM (fzT k H sz rs t) i=fz k H sz rs (bM t i)
 | [],i=>rfl
 | (j, v) :: t, i => by
   simp only[fzT,bL,bM]
   split
   ·rfl
   ·exact Pb k H sz rs t i
theorem Pc(k:Nat)(H:Hd)(sz:Nat)(rs:List (List CD)):∀(h:AH) (i:Nat),AH.get (fzH k H sz rs h) i=fzO k H sz rs (AH.get h i)
 | [],i=>rfl
 | (j, o) :: h, i => by
   rw[fzH,bH,bH]
   split
   ·rfl
   ·exact Pc k H sz rs h i
theorem Ga(k:Nat)(H:Hd)(sz:Nat)(rs:List (List CD))(o:AObj):(fzO k H sz rs o).blk=o.blk:=by cases o<;>rfl
theorem Kb{base:Bs}{h:AH}{w:World}{E:Nat->Nat->Prop}(HH:HRel base h w E){k:Nat}{H:Hd}{sz:Nat}{rs:List (List CD)}{own:Bool}(hget:h.get k=.rows H sz rs own){M':Nat->Prop}(hM:∀c,M' c->h.M c/\(h.get k).blk≠some c)
 {av:AV}{u:Value}(hv:VRel w h.M av u):VRel w M' (fz k H sz rs av) u:=by
 have t:Tr h.M w M' w:=⟨aH _,λ_ _ _=>rfl,λc _ hc=>(hM c hc).1⟩
 induction hv with
 | agg l xs hs _ ih =>
   refine .agg _ _ (by rw[hs,th]) (λi av hi=>?_);exact Ep
 | tup l xs hs _ ih =>
   refine .tup _ _ (by rw[hs,th]) (λi av hi=>?_);exact Ep
 | clo f l xs hs _ ih =>
   refine .clo f _ _ (by rw[hs,th]) (λi av hi=>?_);exact Ep
 | sl k' H' sz' off len x hx =>
   simp only[fz]
   split
   ·split
    ·rename_i hk hc
     obtain⟨rfl,rfl,hlen⟩:=hc;subst hk;have ho:=HH.obj k';rw[hget]at ho;refine .ro _ _ ?_
     cases H' with
     | none =>
       obtain⟨⟨a,rfl⟩,rfl⟩:=hx;rw[show rs=[]from ho,show cut ([]:List (List CD)) off 0=[]from sH];exact zh
     | some q =>
       obtain⟨b,o,C⟩:=q;obtain⟨S0,hrd,hS0⟩:=iP ho ⟨k',i7⟩ hx hlen;refine hrd.weaken.map (λ_ _ _=>rfl) (λc hc _ hm=>?_);rcases hS0 c hc with e|e
       ·exact(hM c hm).2 (by rw[hget,e];rfl)
       ·exact e.2 (hM c hm).1
    ·exact .any _
   ·exact .sl _ _ _ _ _ _ hx
 |any x=>exact .any x
 |un=>exact .un
 |nil=>exact .nil
 |v u h=>exact .v u h
 |ro rows x h=>exact(VRel.ro rows x h).tr t
 |cv u len h=>exact .cv u len h
 |ml k H sz len x h=>exact .ml k H sz len x h
 |is u=>exact .is u
 |p k b c=>exact .p k b c
 |e k b o C sz r c=>exact .e k b o C sz r c
 |rp row b o cs T fr h1 h2 h3 h4=>exact(VRel.rp row b o cs T fr h1 h2 h3 h4).tr t
theorem Rep.freeze{w0:World}{base:Bs}{st:ASt}{a:Act}{w:World}(hR:Rep w0 base st a w){k:Nat}{H:Hd}{sz:Nat}{rs:List (List CD)}{own:Bool}(hget:st.h.get k=.rows H sz rs own) :
 Rep w0 base { st with t:=fzT k H sz rs st.t,h:=(k,.dead)::fzH k H sz rs st.h } a w:=by
 obtain⟨E,HH⟩:=hR.heap;have hg:∀i,AH.get ((k,.dead)::fzH k H sz rs st.h) i=if i=k then .dead else fzO k H sz rs (st.h.get i):=λi=>by rw[bH,Pc]
 have hM:∀c,AH.M ((k,.dead)::fzH k H sz rs st.h) c->st.h.M c/\(st.h.get k).blk≠some c:=by
  rintro c ⟨i,hi⟩
  rw[hg]at hi
  split at hi
  ·cases hi
  ·rename_i hne
   rw[Ga]at hi;exact⟨⟨i,hi⟩,λhk=>hne (HH.inj _ _ c hi hk)⟩
 have t:Tr st.h.M w (AH.M ((k,.dead)::fzH k H sz rs st.h)) w:=⟨aH _,λ_ _ _=>rfl,λc _ hc=>(hM c hc).1⟩;refine⟨hR.dfr,hR.size,λi=>?_,⟨λj=>if j=k then(λ_=>False)else E j,λi=>?_,λi j c hi hj=>?_,λi c hi=>?_,λi c hc=>?_,λi j c hi hj=>?_,λi c hc=>?_⟩,hR.below,hR.base_le⟩
 ·show VRel w _ (bM (fzT k H sz rs st.t) i) _
  rw[Pb];exact Kb HH hget hM (hR.tmp i)
 ·rw[hg]
  by_cases hik:i=k
  ·rw[an hik,an hik];trivial
  ·rw[aq hik,aq hik]
   have ho:=HH.obj i
   cases hoi:st.h.get i with
   | vars b T cells =>
     rw[hoi]at ho;obtain⟨cs,h1,h2,h3⟩:=ho;refine⟨cs,h1,by rw[h2,th],λj av hj=>?_⟩;rw[zx]at hj;obtain⟨x,hx,rfl⟩:=aU.1 hj;exact Kb HH hget hM (h3 j x hx)
   |dead=>trivial
   |rows H2 sz2 rows2 own2=>rw[hoi]at ho;exact ho.tr t (λ_ _=>rfl) (λc hc _=>hc)
   |lent H2 sz2 rows2=>rw[hoi]at ho;exact ho.tr t (λ_ _=>rfl) (λc hc _=>hc)
   |part H2 sz2 rows2 lo=>rw[hoi]at ho;exact ho.tr t (λ_ _=>rfl) (λc hc _=>hc)
 ·rw[hg]at hi hj
  split at hi
  ·cases hi
  ·split at hj
   ·cases hj
   ·rw[Ga]at hi hj;exact HH.inj _ _ c hi hj
 ·rw[hg]at hi
  split at hi
  ·cases hi
  ·rw[Ga]at hi;exact HH.low i c hi
 ·split at hc
  ·exact hc.elim
  ·exact HH.elow i c hc
 ·split at hi
  ·exact hi.elim
  ·split at hj
   ·exact hj.elim
   ·exact HH.einj _ _ c hi hj
 ·split at hc
  ·exact hc.elim
  ·exact λhm=>HH.em i c hc (hM c hm).1
theorem aY.freeze{E:Env}{id:Nat}{ops:List Oper}{Q:Exit->ASt->Prop}{n kb:Nat}{t:List (Nat×AV)}{h:AH}(k:Nat){H:Hd}{sz:Nat}{rs:List (List CD)}{own:Bool}(hget:h.get k=.rows H sz rs own)
 (h2:aY E id ops Q ⟨n,kb,fzT k H sz rs t,(k,.dead)::fzH k H sz rs h⟩):aY E id ops Q ⟨n,kb,t,h⟩:=λa w hR=>h2 a w (hR.freeze (st:=⟨n,kb,t,h⟩) hget)
section rules
variable {k:Nat}{H:Hd}{sz:Nat}{rs:List (List CD)}
theorem W8:fzT k H sz rs []=[]:=(rfl)
theorem Ug{i:Nat}{v:AV}{t:List (Nat×AV)}:fzT k H sz rs ((i,v)::t)=(i,fz k H sz rs v)::fzT k H sz rs t:=(rfl)
theorem Ul{i:Nat}{o:AObj}{h:AH}:fzH k H sz rs ((i,o)::h)=(i,fzO k H sz rs o)::fzH k H sz rs h:=(rfl)
theorem Xb:fzH k H sz rs []=[]:=(rfl)
theorem Iw:∀(W:gQ) (i:Nat),fzH k H sz rs (jc i W)=jc i W
 | [],i=>rfl
 | q :: l, i => by
   have e:∀xs:List Value,fzL k H sz rs (xs.map .is)=xs.map .is:=by
    intro xs
    induction xs with
    |nil=>rfl
    |cons x xs ih=>simp[fzL,fz,ih]
   simp[jc,fzH,phO,fzO,e,Iw l]
theorem Xa{W:gQ}:fzH k H sz rs (phs W)=phs W:=Iw W _
theorem Uh{b:Nat}{T:TypeId}{l:List AV}:fzO k H sz rs (.vars b T l)=.vars b T (fzL k H sz rs l):=(rfl)
theorem Ui{H':Hd}{sz':Nat}{r:List (List CD)}{own:Bool}:fzO k H sz rs (.rows H' sz' r own)=.rows H' sz' r own:=(rfl)
theorem Uj:fzO k H sz rs .dead=.dead:=(rfl)
theorem W9:fzL k H sz rs []=[]:=by simp[fzL]
theorem Uk{a:AV}{l:List AV}:fzL k H sz rs (a::l)=fz k H sz rs a::fzL k H sz rs l:=by rw[fzL]
theorem agt{u:Value}:fz k H sz rs (.v u)=.v u:=iZ
theorem aa6:fz k H sz rs .any=.any:=iZ
theorem adY:fz k H sz rs .un=.un:=iZ
theorem aa4:fz k H sz rs .nil=.nil:=iZ
theorem ad2{r:List (List CD)}:fz k H sz rs (.ro r)=.ro r:=iZ
theorem ad1{r:List CD}:fz k H sz rs (.rp r)=.rp r:=iZ
theorem ad4{u:Value}{n:Nat}:fz k H sz rs (.cv u n)=.cv u n:=iZ
theorem ad3{a c d:Nat}{b:Hd}:fz k H sz rs (.ml a b c d)=.ml a b c d:=iZ
theorem agu{a b c:Nat}:fz k H sz rs (.p a b c)=.p a b c:=iZ
theorem agv{a c d e:Nat}{b:Hd}:fz k H sz rs (.e a b c d e)=.e a b c d e:=iZ
theorem aa7{l:List AV}:fz k H sz rs (.agg l)=.agg (fzL k H sz rs l):=iZ
theorem aa3{l:List AV}:fz k H sz rs (.tup l)=.tup (fzL k H sz rs l):=iZ
theorem aa5{f:Nat}{l:List AV}:fz k H sz rs (.clo f l)=.clo f (fzL k H sz rs l):=iZ
theorem adZ{k' sz' off len:Nat}{H':Hd}:fz k H sz rs (.sl k' H' sz' off len)=if k'=k then(if H'=H/\sz'=sz/\off+len<=rs.length then .ro (cut rs off len)else .any)else .sl k' H' sz' off len:=iZ
end rules
attribute [simp] W8 Ug Ul Xb Xa Uh Ui Uj W9 Uk agt aa6 adY aa4 ad2 ad1 ad4 ad3 agu agv aa7 aa3 aa5 adZ
open Go.RowKit
theorem Yk:∀(l:List Value),AV.qL (l.map .is)=true
 | []=>rfl
 |_::l=>by simp[AV.q,Yk l]
theorem Ai:∀(o:gQ) (i:Nat),qH (jc i o)=true
 | [],_=>rfl
 |q::l,i=>by simp[jc,phO,AObj.q,Yk,Ai l]
@[simp] theorem agh (o:gQ):qH (phs o)=true:=Ai o _
theorem GN {P : Program} {Ty : Nat → Option TI} (hT : ∀ t ti, Ty t = some ti → TIok P t ti) {f : Nat} {fn : Func} {c : Code} (hf : P.funcs[f]? = some fn) (hname : (fn.name == "runtime.NumGoroutine") = false) (hb : fn.body = some c)
 {n:Nat}{rs:List ResultVar}(hnt:fn.ntmps=n) (hrs:fn.results=⟨rs⟩) {args:List VD}{R:RR->Prop}(hn:args.length<=n)
 (h:∀w0 base o,ic ⟨P,Ty,w0,⟨base,base,true,λ_=>True⟩⟩ c (Bf ⟨P,Ty,w0,⟨base,base,false,λ_=>True⟩⟩ o rs R) { n:=n,kb:=0,t:=nW 0 args,h:=phs o }):lC P f args R:=by
 subst hnt;have hrs':fn.results.toList=rs:=lX;subst hrs';refine⟨⟨fn,hf,hname,kX⟩,λw o xs ho hs hx=>jg hf hb ?_⟩;have hE:EOk ⟨P,Ty,w,⟨λc=>c<w.heap.size/\o.off c,λc=>c<w.heap.size/\o.off c,true,λ_=>True⟩⟩:=⟨hT,λw' hb=>trivial⟩
 have hR:=JF ho (n:=fn.ntmps) (xs:=xs) (t:=nW 0 args) aa (λq=>by
  rw[rX,an (iU q),jO]
  split
  ·exact D0
  ·exact .any _)
 refine gT (dD hE c _ _ _ w hR.loose (h w _ o)) ?_
 rintro e a' w' ⟨st',hq,hR'⟩
 cases e with
 |normal=>exact Fz hT ho hR'.loose hq
 |ret=>exact Fz hT ho hR'.loose hq
 |_=>exact hq.elim
end Go.AM
namespace Go.Proofs.YtklblkobegcljaaGreat
open Go.AM Go.RowKit
set_option maxRecDepth 100000
set_option maxHeartbeats 4000000
set_option linter.unusedVariables false
set_option linter.unusedSimpArgs false
theorem AC(w:World)(us xs:List Value)(n i b o C bv ov Cv:Nat)(cs cv:Array Value)(T Tv:TypeId)(hul:us.length=n*2)(hxl:xs.length=2)(hi:i<n)(hroom:n+1<=C)(hC:C<=maxLen)
 (hb:w.heap[b]? = some (.cells cs T (0,0))) (hfit:o+C*2<=cs.size) (hcs:∀j,j<n*2->cs.getD (o+j) undef=us.getD j undef) (h1:∀v∈us,v.oneCell'=true)
 (hbv:w.heap[bv]? = some (.cells cv Tv (0,0))) (hCv:1<=Cv) (hfv:ov+Cv*2<=cv.size) (hcv:∀j,j<2->cv.getD (ov+j) undef=xs.getD j undef) (h1v:∀v∈xs,v.oneCell'=true) (hne:bv≠b) :
 Calls Tryz.prog 88 #[.slice (some ⟨b,o,none⟩) n C,.int .i64 i,.slice (some ⟨bv,ov,none⟩) 1 Cv] w λe w'=>
  e=.returned (.slice (some ⟨b,o,none⟩) (n+1) C)/\Placed w w' (some b) b o C (n+1) 2 (us.take (i*2)++xs++us.drop (i*2)):=by
 have u0:=bj Tryz.underlying36;have mixed:Tryz.prog.follows .mixedOrders=true:=al;obtain⟨i0,z0,hi0,hzs,hzb,hz0,hzc,-⟩:=(aw 104 _ zE).info;have hzs:i0.size=2:=hzs;have hC63:C<=9223372036854775807:=sC;have hz1:¬((1:Int)=0):=aa;have hz2:¬((i:Int)=(n:Int)):=aa;have hdl:(us.drop (i*2)).length=(n-i)*2:=sB
 have hov:∀lb cb,(callFunc 147 #[.slice (some ⟨bv,ov,none⟩) 1 Cv,.slice (some ⟨b,o+(i*2+2),none⟩) lb cb]).run Tryz.prog w=.ok (.value (.bool false)) w:=λlb cb=>by
  rw[I9 Tryz.func147 al al al (e:=Extern.SlicesOverlaps.overlaps #[36,36] #[4]) al,
   BE w 36 4 104 Tryz.underlying36 2 Tryz.sizeOf104 ⟨bv,ov,none⟩ ⟨b,o+(i*2+2),none⟩ 1 Cv lb cb hne Tv T cv.size cs.size (by simp[World.shape?,hbv]) (by simp[World.shape?,hb]) aa sA sA]
  rfl
 have hmm:(n+1)*2<=C*2:=ao _ hroom;have hii:i*2+2<=n*2:=by have:=ao 2 (show i+1<=n from aa);omega
 have e1:(i+1)*2=i*2+2:=bD i 2;have e2:(n+1)*2=n*2+2:=bD n 2;have e3:(n-i)*2=n*2-i*2:=uS n i 2;obtain⟨cs1,hcs1⟩:∃c,c=(cs.toList.take (o+(i+1)*2)++us.drop (i*2)++cs.toList.drop (o+(i+1)*2+(us.drop (i*2)).length)).toArray:=⟨_,rfl⟩;obtain⟨s1,g1⟩:=dp cs (o+(i+1)*2) (us.drop (i*2)) aa;rw[<-hcs1]at s1 g1
 have hcp1:∀(W:World),W.heap=w.heap->∀ty dl dc sl sc,Nat.min sl dl=n-i->(Builtin.copy_ #[36,36] ty #[.slice (some ⟨b,o+(i*2+2),none⟩) dl dc,.slice (some ⟨b,o+i*2,none⟩) sl sc]).run Tryz.prog W=.ok (goInt (n-i:Nat)) (W.setRow b cs1):=λW hW ty dl dc sl sc hm=>by
  have hb':W.heap[b]? = some (.cells cs T (0,0)):=by rw[hW];exact hb
  rw[hcs1,e1]
  exact gC Tryz.underlying36 hi0 hb' ⟨b,o+i*2,none⟩ (us.drop (i*2)) (n-i) hm sy
   (λj v hj=>by
    rw[dz];refine fF hb' (o:=o+i*2) (vs:=us.drop (i*2)) (λj hj=>?_) aa j v hj;rw[et,hcs _ aa];simp[aL])
   (λv hv=>h1 v (a8 hv)) aa
 obtain⟨cs2,hcs2⟩:∃c,c=(cs1.toList.take (o+i*2)++xs++cs1.toList.drop (o+i*2+xs.length)).toArray:=⟨_,rfl⟩;obtain⟨s2,g2⟩:=dp cs1 (o+i*2) xs aa;rw[<-hcs2]at s2 g2
 have hcp2:∀(W:World),W.heap[b]? = some (.cells cs1 T (0,0))->W.heap[bv]? = some (.cells cv Tv (0,0))->∀ty dl dc,0<dl->(Builtin.copy_ #[36,36] ty #[.slice (some ⟨b,o+i*2,none⟩) dl dc,.slice (some ⟨bv,ov,none⟩) 1 Cv]).run Tryz.prog W=.ok (goInt (1:Nat)) (W.setRow b cs2):=λW hW hWv ty dl dc hm=>by
  rw[hcs2]
  exact gC Tryz.underlying36 hi0 hW ⟨bv,ov,none⟩ xs 1 jX iB
   (λj v hj=>by
    rw[dz];exact fF hWv (λj hj=>hcv j aa) aa j v hj)
   h1v aa
 have hw1:IntKind.i64.wrap ((i:Int)+1)=(i:Int)+1:=sx;have hb1:(0:Int)<=(i:Int)+1:=aa;have hin:i<=n:=aa;have htn:((i:Int)+1).toNat=i+1:=aa;have hb2:¬(C=i+1):=aa;have hb3:(i:Int)<=(n:Int)+1:=aa;have hb4:¬(C=i):=aa
 go_enter Tryz.func88,Tryz.ntmps88
 go_wp2_with (simp only[hov])
 have hE:=hcp1 w.drew rfl 3 (n-i) (C-(i+1)) (n+1-i) (C-i) jX;have hE2:=hcp2 (w.drew.setRow b cs1) DO DN 3 (n+1-i) (C-i) aa
 have hP:Placed w ((w.drew.setRow b cs1).setRow b cs2) (some b) b o C (n+1) 2 (us.take (i*2)++xs++us.drop (i*2)):=by
  refine⟨⟨cs2,T,dy _ b cs1 cs2 T (0,0) (dy w.drew b cs cs1 T (0,0) hb),aa,λj hj=>?_⟩,hroom,hC,ab,⟨rfl,rfl,rfl⟩,.inr rfl,λc _ hc=>?_⟩
  ·rw[g2,g1]
   have hl:(us.take (i*2)).length=i*2:=aN;simp only[aL];rw[cj];by_cases c1:j<i*2
   ·exact EG
   ·rw[a9 aa,hl]
    by_cases c2:j<i*2+2
    ·exact Ef
    ·exact EH
  ·exact zd
 clear hcs1 hcs2
 go_region
 go_wp2
 go_ret
 all_goals exact⟨rfl,hP⟩
theorem qf(w:World)(a:Option Addr)(n C bv ov Cv:Nat)(r:Value)(w1:World)(hnC:n<=C)(hC:C<=maxLen)
 (hr:∀ty,(Builtin.append_ #[36,36] ty #[.slice a n C,.slice (some ⟨bv,ov,none⟩) 1 Cv]).run Tryz.prog w=.ok r w1) :
 Calls Tryz.prog 88 #[.slice a n C,.int .i64 n,.slice (some ⟨bv,ov,none⟩) 1 Cv] w λe w'=>e=.returned r/\w'=w1:=by
 have u0:=bj Tryz.underlying36;have mixed:Tryz.prog.follows .mixedOrders=true:=al;have hC63:C<=9223372036854775807:=sC;have hz1:¬((1:Int)=0):=aa
 cases a with
 | none =>
   exact Lo
 | some q =>
   exact Lo
theorem BX(w:World)(us xs:List Value)(n i b o C bv ov Cv:Nat)(cs cv:Array Value)(T Tv:TypeId)(hul:us.length=n*2)(hxl:xs.length=2)(hi:i<n)(hnc:n<=C)(hroom:C<n+1)(hbig:(n+1)*tM.bytes<=140737488355328)
 (hb:w.heap[b]? = some (.cells cs T (0,0))) (hfit:o+C*2<=cs.size) (hcs:∀j,j<n*2->cs.getD (o+j) undef=us.getD j undef) (h1:∀v∈us,v.oneCell'=true)
 (hbv:w.heap[bv]? = some (.cells cv Tv (0,0))) (hCv:1<=Cv) (hfv:ov+Cv*2<=cv.size) (hcv:∀j,j<2->cv.getD (ov+j) undef=xs.getD j undef) (h1v:∀v∈xs,v.oneCell'=true) :
 Calls Tryz.prog 88 #[.slice (some ⟨b,o,none⟩) n C,.int .i64 i,.slice (some ⟨bv,ov,none⟩) 1 Cv] w λe w'=>
  ∃nC,e=.returned (.slice (some ⟨w.heap.size,0,none⟩) (n+1) nC)/\Placed w w' (some b) w.heap.size 0 nC (n+1) 2 (us.take (i*2)++xs++us.drop (i*2)):=by
 have u0:=bj Tryz.underlying36;have mixed:Tryz.prog.follows .mixedOrders=true:=al;obtain⟨i0,z0,hi0,hzs,hzb,hz0,hzc,-⟩:=(aw 104 _ zE).info;have hzz:=jB hzc;have hzs:i0.size=2:=hzs;have hzb:i0.bytes=tM.bytes:=hzb;have hby:0<tM.bytes:=ah;have hzz:z0.cells.size=2:=hzz;have hnb:(n+1)<=140737488355328:=dP (cm _ hby) hbig;have hz1:¬((1:Int)=0):=aa;have hz2:¬((i:Int)=(n:Int)):=aa;have hz3:(C:Int)<(n:Int)+1:=aa;have hmm:n*2<=C*2:=ao _ hnc;have hii:i*2+2<=n*2:=by have:=ao 2 (show i+1<=n from aa);omega
 have e1:(i+1)*2=i*2+2:=bD i 2;have e2:(n+1)*2=n*2+2:=bD n 2;have e3:(n-i)*2=n*2-i*2:=uS n i 2;have hdl:(us.drop (i*2)).length=(n-i)*2:=sB;have htl:(us.take (i*2)).length=i*2:=aN;have hbw:b<w.heap.size:=fM hb;have hvw:bv<w.heap.size:=fM hbv;have hkk:(n:Int)+1-(i:Int)=((n+1-i:Nat):Int):=aa;have hik:i+(n+1-i)=n+1:=aa
 have hold:(Builtin.firstCells i0.size i (.slice (some ⟨b,o,none⟩) i C)).run Tryz.prog w.drew=.ok (us.take (i*2)).toArray w.drew:=by
  rw[hzs]
  exact mF w.drew 2 i ⟨b,o,none⟩ i C (us.take (i*2)) (by rw[htl]) (λj v hj=>by
   rw[dz]
   exact fF (w:=w.drew) (o:=o) (vs:=us.take (i*2)) (cs:=cs) (T:=T) hb (λj hj=>by
    rw[hcs _ aa];rw[htl]at hj;simp only[aL,cA,an hj]) aa j v hj)
 have hrz:∀ty,(Builtin.append_ #[36,3] ty #[.slice (some ⟨b,o,none⟩) i C,.int .i64 ((n:Int)+1-(i:Int))]).run Tryz.prog w =
  .ok (.slice (some ⟨w.heap.size,0,none⟩) (n+1) (grownCap w (n+1) C 104)) (w.drew.alloc (.cells ((us.take (i*2)).toArray++Builtin.zeroCells z0.cells (n+1-i)++Builtin.zeroCells z0.cells (grownCap w (n+1) C 104-(n+1))) 104)):=λty=>by
  have h:=wk w 36 3 ty 104 i0 z0 .i64 .i64 Tryz.underlying36 Tryz.underlying3 hi0 hz0 (some ⟨b,o,none⟩) i C (us.take (i*2)) hold (n+1-i) aa aa aa aa (by rw[hzb];have:=ao tM.bytes (show n+1-i<=n+1 from aa);omega) DM;rw[hik]at h;rw[hkk];exact h
 obtain⟨G,hG⟩:∃G,G=grownCap w (n+1) C 104:=⟨_,rfl⟩;obtain⟨ROW,hROW⟩:∃ROW:Array Value,ROW=(us.take (i*2)).toArray++Builtin.zeroCells z0.cells (n+1-i)++Builtin.zeroCells z0.cells (G-(n+1)):=⟨_,rfl⟩;rw[<-hG]at hrz;rw[<-hROW]at hrz;have hGn:n+1<=G:=DL;have hGm:G<=maxLen:=by rw[hG];exact dE w (n+1) C 104 ij
 have hG63:G<=9223372036854775807:=by unfold maxLen at hGm;omega
 have hRs:ROW.size=G*2:=by
  exact EF
 have hGK:(n+1)*2<=G*2:=ao _ hGn
 have hRg:∀j,j<i*2->ROW.getD j undef=us.getD j undef:=by
  exact ET
 obtain⟨W1,hW1⟩:∃W1,W1=w.drew.alloc (.cells ROW 104):=⟨_,rfl⟩;rw[<-hW1]at hrz;have hN:W1.heap[w.heap.size]? = some (.cells ROW 104 (0,0)):=DK;have hO:∀c,c<w.heap.size->W1.heap[c]? = w.heap[c]?:=λc hc=>DJ
 have hS:W1.heap.size=w.heap.size+1:=by rw[hW1];simp
 obtain⟨cs1,hcs1⟩:∃c,c=(ROW.toList.take (i*2)++xs++ROW.toList.drop (i*2+xs.length)).toArray:=⟨_,rfl⟩;obtain⟨s1,g1⟩:=dp ROW (i*2) xs aa;rw[<-hcs1]at s1 g1
 have hcpA:=gC (P:=Tryz.prog) (w:=W1) (ty:=3) Tryz.underlying36 hi0 (dl:=n+1-i) (dc:=G-i) (o:=i*2) hN ⟨bv,ov,none⟩ (sl:=1) (sc:=Cv) xs 1 jX iB
  (λj v hj=>by
   rw[dz];exact fF (by rw[hO _ hvw];exact hbv) (λj hj=>hcv j aa) aa j v hj) h1v aa
 rw[<-hcs1]at hcpA;have hN1:(W1.setRow w.heap.size cs1).heap[w.heap.size]? = some (.cells cs1 104 (0,0)):=dy _ _ _ _ _ _ hN;obtain⟨cs2,hcs2⟩:∃c,c=(cs1.toList.take (i*2+2)++us.drop (i*2)++cs1.toList.drop (i*2+2+(us.drop (i*2)).length)).toArray:=⟨_,rfl⟩;obtain⟨s2,g2⟩:=dp cs1 (i*2+2) (us.drop (i*2)) aa;rw[<-hcs2]at s2 g2;have hbN:b≠w.heap.size:=aa
 have hcpB:=gC (P:=Tryz.prog) (w:=(W1.setRow w.heap.size cs1).drew) (ty:=3) Tryz.underlying36 hi0 (dl:=n-i) (dc:=G-(i+1)) (o:=i*2+2) hN1 ⟨b,o+i*2,none⟩ (sl:=n-i) (sc:=C-i) (us.drop (i*2)) (n-i) jX sy
  (λj v hj=>by
   rw[dz]
   have hb':(W1.setRow w.heap.size cs1).drew.heap[b]? = some (.cells cs T (0,0)):=by
    exact Ex
   refine fF hb' (o:=o+i*2) (vs:=us.drop (i*2)) (λj hj=>?_) aa j v hj;rw[et,hcs _ aa];simp[aL])
  (λv hv=>h1 v (a8 hv)) aa
 rw[<-hcs2]at hcpB
 have hP:Placed w ((W1.setRow w.heap.size cs1).drew.setRow w.heap.size cs2) (some b) w.heap.size 0 G (n+1) 2 (us.take (i*2)++xs++us.drop (i*2)):=by
  refine⟨⟨cs2,104,dy _ _ cs1 cs2 _ (0,0) hN1,aa,λj hj=>?_⟩,hGn,hGm,?_,?_,.inl (aH _),λc hc hne=>?_⟩
  ·rw[cQ,g2,g1]
   simp only[aL];rw[cj];by_cases c1:j<i*2
   ·exact EM
   ·rw[a9 aa,htl]
    by_cases c2:j<i*2+2
    ·exact Ej
    ·exact EB
  ·simp[hS]
  ·rw[hW1];exact⟨rfl,rfl,rfl⟩
  ·exact EA
 have hw1:IntKind.i64.wrap ((i:Int)+1)=(i:Int)+1:=sx;have hb1:(0:Int)<=(i:Int)+1:=aa;have hin:i<=n:=aa;have htn:((i:Int)+1).toNat=i+1:=aa;have hGi:¬(G=i):=aa;have hGim:¬(G=i+1):=aa;have hci:¬(C=i):=aa;have hb3:(i:Int)<=(n:Int):=aa
 clear hkk hik hold hROW hG hcs1 hcs2 hN hN1 hO hS hRs hRg hW1
 go_enter Tryz.func88,Tryz.ntmps88
 go_wp2_with (first
  |(at_builtin;refine Cj _ rfl _ _ _ _ rfl _ _ rfl rfl _ _ (hrz _) ?_)
  |(at_builtin;refine lI _ rfl _ _ 36 36 rfl _ _ rfl rfl hcpA ?_))
 go_region
 go_wp2
 go_ret
 all_goals exact⟨_,rfl,hP⟩
theorem qg:zB Tryz.prog 88 2 tM.bytes:=by
 refine⟨⟨_,Tryz.func88,al,al⟩,λw us xs n i s v ob bv0 hul hxl hi hbig hs hv hap=>?_⟩;obtain⟨i0,z0,hi0,hzs,hzb,hz0,hzc,-⟩:=(aw 104 _ zE).info;have hzz:=jB hzc;have hzs:i0.size=2:=hzs;have hzb:i0.bytes=tM.bytes:=hzb;have hby:0<tM.bytes:=ah;have hzz:z0.cells.size=2:=hzz;have hnb:(n+1)<=140737488355328:=dP (cm _ hby) hbig;rcases hv with⟨h0,-⟩|⟨bv,ov,Cv,cv,Tv,rfl,rfl,hbv,hCv,hCvm,hfv,hcv,h1v⟩
 ·omega
 have hcellv:∀j v,xs[j]? = some v->w.cell? (Addr.add ⟨bv,ov,none⟩ j)=some v:=λj v hj=>by
  exact En
 have fresh:∀(C0 nC:Nat) (rest:Array Value) (ob:Option Nat),n+1<=nC->nC<=maxLen->rest.size=(nC-(n+1))*2 ->
  Placed w (w.drew.alloc (.cells (us.toArray++xs.toArray++rest) 104)) ob w.heap.size 0 nC (n+1) 2 (us.take (n*2)++xs++us.drop (n*2)):=by
  intro C0 nC rest ob h1 h2 h3;have e:nC*2=n*2+2+(nC-(n+1))*2:=DI;refine⟨⟨_,_,rJ w.drew _,by simp[hul,hxl,h3];omega,λj hj=>?_⟩,h1,h2,ab,⟨rfl,rfl,rfl⟩,.inl (aH _),λc hc _=>pB w.drew _ hc⟩;rw[aB aa,bm aa,bO,cQ];have e2:(n+1)*2=n*2+2:=bD n 2;simp only[aW,aL];rw[dG aN,Du,iz]
 rcases hs with⟨rfl,rfl,a,rfl⟩|⟨b,o,C,cs,T,rfl,rfl,hb,hnC,hCm,hfit,hcs,h1⟩
 ·obtain rfl:i=0:=by omega
  have hun:us=[]:=aA aa;subst hun;have hrun:=λty=>jG (P:=Tryz.prog) (w:=w) (ty:=ty) Tryz.underlying36 hi0 hz0 a ⟨bv,ov,none⟩ 1 Cv xs iB hcellv aa aa (by rw[hzb];omega)
  refine(qf w a 0 0 bv ov Cv _ _ (aH _) ij hrun).mono ?_
  rintro e w' ⟨rfl,rfl⟩
  have hge:=lU w 1 0 104;have hcm:=dE w 1 0 104 ij;refine⟨_,_,_,rfl,?_⟩;have:=fresh 0 (grownCap w 1 0 104) (Builtin.zeroCells z0.cells (grownCap w 1 0 104-1)) none hge hcm (by rw[gU,hzz]);exact jD
 ·by_cases hin:i=n
  ·subst hin
   by_cases hroom:i+1<=C
   ·have hmm:(i+1)*2<=C*2:=ao _ hroom
    have e2:(i+1)*2=i*2+2:=bD i 2;have hrun:=λty=>Go.AM.run_append_room (P:=Tryz.prog) (ty:=ty) (c:=Cv) (n:=i) (m:=1) Tryz.underlying36 hi0 hb ⟨bv,ov,none⟩ xs iB hcellv h1v hroom yN
    refine(qf w _ i C bv ov Cv _ _ hnC hCm hrun).mono ?_
    rintro e w' ⟨rfl,rfl⟩
    obtain⟨g0,g⟩:=dp cs (o+i*i0.size) xs (by rw[hzs];omega);refine⟨_,_,_,rfl,⟨_,_,dy w b cs _ T (0,0) hb,by rw[g0];exact hfit,λj hj=>?_⟩,hroom,hCm,ab,⟨rfl,rfl,rfl⟩,.inr rfl,λc _ hc=>tJ w b c _ hc⟩;rw[g,hzs,aB aa,bm aa,bO];by_cases c1:j<i*2
    ·exact Ez
    ·exact EC
   ·have hrun:=λty=>sf (P:=Tryz.prog) w 36 ty 104 i0 z0 Tryz.underlying36 hi0 hz0 ⟨b,o,none⟩ i C us (by rw[hzs];exact hul) (λj v hj=>by
     rw[dz];have:=ao 2 hnC;exact fF hb (λj hj=>hcs j aa) aa j v hj) ⟨bv,ov,none⟩ 1 Cv xs iB hcellv aa aa (by rw[hzb];exact uR aa hbig)
    refine(qf w _ i C bv ov Cv _ _ hnC hCm hrun).mono ?_
    rintro e w' ⟨rfl,rfl⟩
    have hge:=lU w (i+1) C 104;have hcm:=dE w (i+1) C 104 ij;exact Ee
  ·by_cases hroom:n+1<=C
   ·refine(AC w us xs n i b o C bv ov Cv cs cv T Tv hul hxl aa hroom hCm hb hfit hcs h1 hbv hCv hfv (λj hj=>hcv j aa) h1v (λh=>hap b rfl eK)).mono ?_
    exact D5
   ·refine(BX w us xs n i b o C bv ov Cv cs cv T Tv hul hxl aa hnC aa hbig hb hfit hcs h1 hbv hCv hfv (λj hj=>hcv j aa) h1v).mono ?_
    exact D7
end Go.Proofs.YtklblkobegcljaaGreat
