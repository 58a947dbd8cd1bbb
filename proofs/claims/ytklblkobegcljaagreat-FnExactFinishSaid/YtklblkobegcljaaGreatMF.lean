import Derived.Test.YtklblkobegcljaaGreatME
namespace Go.AM
open Go.RowKit
def RdM(w:World)(S:Nat->Prop)(u:Value):CD×Nat->Prop
 |(.v x,_)=>u=x/\plain x=true
 |(.s rows,sz)=>0<sz/\(∀row∈rows,row.length=sz)/\((rows=[]/\∃a c,u=.slice a 0 c)\/(rows≠[]/\lG w S u (.s rows,sz)))
 |(.h ..,_)=>False
def XW(w:World)(S:Nat->Prop)(us:Nat->Value)(ts:List (CD×Nat)):Prop:=
 ∃F:Nat->Nat->Prop,(∀j c,F j c->S c)/\(∀j j' c,F j c->F j' c->j=j')/\∀j t,ts[j]? = some t->RdM w (F j) (us j) t
def RV.cells:RV->List (CD×Nat)
 | .c d sz=>[(d,sz)]
 | .agg ts=>ts
def Sh(u:Value)(us:Nat->Value):RV->Prop
 | .c _ _=>us 0=u
 | .agg ts=>∃xs:Array Value,u=.agg xs/\xs.size=ts.length/\∀j,us j=xs.getD j undef
def je(P:Program)(f:Nat)(a:RV)(k r:Int)(a':RV):Prop:=
 xj P f/\∀(w:World) (S:Nat->Prop) (u:Value) (us:Nat->Value),(∀c,S c->c<w.heap.size)->Sh u us a->XW w S us a.cells ->
  Calls P f #[u,.int .i64 k] w λe w'=>e=.returned (.int .i64 r)/\BelowF (λb=>b<w.heap.size/\¬S b) w w'/\XW w' (λc=>S c\/w.heap.size<=c/\c<w'.heap.size) us a'.cells
def mkS(h:AH)(k:Nat)(H:Hd)(sz len:Nat)(t t':CD×Nat)(ks:List Nat)(K:AH->List Nat->Prop):Prop:=
 ks.contains k=false/\match h.get k with
  | .rows H' sz' rows own => H = H' /\ sz = sz' /\ t.2 = sz /\ t'.2 = sz /\ 0 < sz /\ own = true /\ len = rows.length /\ (∀ row ∈ rows,row.length = sz) /\ t.1 = .s rows /\
   (match t'.1 with
    | .s rows'=>K ((k,.rows H sz rows' true)::h) (k::ks)
    |_=>False)
  |_=>False
def mkK(h:AH):List AV->List (CD×Nat)->List (CD×Nat)->List Nat->(AH->Prop)->Prop
 | [],[],[],_,K=>K h
 | a :: l, t :: ts, t' :: ts', ks, K => match a with
   | .v u=>t.1=.v u/\t'.1=.v u/\mkK h l ts ts' ks K
   | .sl k H sz off len=>off=0/\mkS h k H sz len t t' ks λh' ks'=>mkK h' l ts ts' ks' K
   | .ml k H sz len=>mkS h k H sz len t t' ks λh' ks'=>mkK h' l ts ts' ks' K
   |_=>False
 |_,_,_,_,_=>False
def mkV(h:AH)(x:AV)(a a':RV)(K:AH->Prop):Prop:=
 match a,a' with
 | .c d sz,.c d' sz'=>mkK h [x] [(d,sz)] [(d',sz')] [] K
 | .agg ts, .agg ts' => match x with
   | .agg l=>mkK h l ts ts' [] K
   |_=>False
 |_,_=>False
inductive MCell(h h':AH):AV->CD×Nat->CD×Nat->Prop
 |v (u:Value) (sz sz':Nat):MCell h h' (.v u) (.v u,sz) (.v u,sz')
 | s (av : AV) (k : Nat) (H : Hd) (sz : Nat) (rows rows' : List (List CD)) (ha : av = .sl k H sz 0 rows.length \/ av = .ml k H sz rows.length) (hz : 0 < sz) (hr : ∀ row ∈ rows, row.length = sz)
     (hg:h.get k=.rows H sz rows true) (hg':h'.get k=.rows H sz rows' true):MCell h h' av (.s rows,sz) (.s rows',sz)
def AV.key:AV->Option Nat
 | .sl k _ _ _ _=>some k
 | .ml k _ _ _=>some k
 |_=>none
theorem vC:∀(l:List AV) (ts ts':List (CD×Nat)) (h:AH) (ks:List Nat) (K:AH->Prop),mkK h l ts ts' ks K ->
 ∃ h', K h' /\ l.length = ts.length /\ ts'.length = ts.length /\ (∀ (j : Nat) (av : AV) (t t' : CD × Nat), l[j]? = some av -> ts[j]? = some t -> ts'[j]? = some t' -> MCell h h' av t t') /\
   (∀(j j':Nat) (av av':AV) (k:Nat),l[j]? = some av->l[j']? = some av'->av.key=some k->av'.key=some k->j=j') /\
   (∀av∈l,∀k,av.key=some k->k∉ks)/\∀q,(∀av∈l,av.key≠some q)->h'.get q=h.get q
 | [],[],[],h,ks,K,hk=>⟨h,hk,rfl,rfl,λj av t t' hj=>pT,λj j' av av' k hj=>pT,λav ha=>by simp at ha,λq _=>rfl⟩
 | a :: l, t :: ts, t' :: ts', h, ks, K, hk => by
   have slice:∀(k:Nat) (H:Hd) (sz len:Nat),(a=.sl k H sz 0 len\/a=.ml k H sz len)->mkS h k H sz len t t' ks (λh' ks'=>mkK h' l ts ts' ks' K)->∃h',K h'/\(a::l).length=(t::ts).length/\(t'::ts').length=(t::ts).length/\(∀(j:Nat) (av:AV) (x x':CD×Nat),(a::l)[j]? = some av->(t::ts)[j]? = some x->(t'::ts')[j]? = some x'->MCell h h' av x x') /\
    (∀(j j':Nat) (av av':AV) (k:Nat),(a::l)[j]? = some av->(a::l)[j']? = some av'->av.key=some k->av'.key=some k->j=j') /\
    (∀av∈a::l,∀k,av.key=some k->k∉ks)/\∀q,(∀av∈a::l,av.key≠some q)->h'.get q=h.get q:=by
    intro k H sz len ha hs;unfold mkS at hs;obtain⟨hks,hs⟩:=hs;have hkk:a.key=some k:=by rcases ha with rfl|rfl<;>rfl
    split at hs
    ·rename_i H' sz' rows own hget
     obtain⟨rfl,rfl,h1,h2,h3,rfl,rfl,h4,h5,h6⟩:=hs
     split at h6
     ·rename_i rows' ht'
      obtain⟨h',g1,g2,g3,g4,g5,g6,g7⟩:=vC l ts ts' _ _ K h6;have hne:∀av∈l,av.key≠some k:=λav hav hk=>g6 av hav k hk (aJ ..)
      have hgk:h'.get k=.rows H sz rows' true:=by rw[g7 k hne,bH,an rfl]
      refine⟨h',g1,by simp[g2],by simp[g3],λj av x x' hj hx hx'=>?_,λj j' av av' q hj hj' hq hq'=>?_,λav hav q hq=>?_,λq hq=>?_⟩
      ·cases j with
       | zero =>
         simp at hj hx hx';subst hj hx hx';obtain⟨t1,t2⟩:=t;obtain⟨t1',t2'⟩:=t';simp only at h1 h2 h5 ht';subst h1 h5 ht';rw[h2];exact .s a k H t2 rows rows' ha h3 h4 hget hgk
       | succ j =>
         have hj':l[j]? = some av:=jC;have:=g4 j av x x' hj' oa (by simpa using hx')
         cases this with
         |v u s s'=>exact .v u s s'
         | s _ k2 H2 sz2 r r' q1 q2 q3 q4 q5 =>
           have hk2:av.key=some k2:=by rcases q1 with rfl|rfl<;>rfl
           have:k2≠k:=by rintro rfl;exact hne av (aO hj') hk2
           rw[bH,aq this]at q4;exact .s av k2 H2 sz2 r r' q1 q2 q3 q4 q5
      ·cases j with
       | zero =>
         simp at hj;subst hj
         cases j' with
         |zero=>rfl
         | succ j' =>
           rw[hkk]at hq;cases hq;exact absurd hq' (hne av' (aO (by simpa using hj')))
       | succ j =>
         cases j' with
         | zero =>
           simp at hj';subst hj';rw[hkk]at hq';cases hq';exact absurd hq (hne av (aO jC))
         |succ j'=>rw[g5 j j' av av' q jC (by simpa using hj') hq hq']
      ·rcases aX.1 hav with rfl|hav
       ·rw[hkk]at hq;cases hq
        simpa using hks
       ·exact λhm=>g6 av hav q hq (aC _ hm)
      ·have hqk:q≠k:=by rintro rfl;exact hq a (aJ ..) hkk
       rw[g7 q (λav hav=>hq av (aC _ hav)),bH,aq hqk]
     ·exact h6.elim
    ·exact hs.elim
   unfold mkK at hk
   split at hk
   ·rename_i u
    obtain⟨h1,h2,h3⟩:=hk;obtain⟨h',g1,g2,g3,g4,g5,g6,g7⟩:=vC l ts ts' _ _ K h3;refine⟨h',g1,by simp[g2],by simp[g3],λj av x x' hj hx hx'=>?_,λj j' av av' q hj hj' hq hq'=>?_,λav hav q hq=>?_,λq hq=>g7 q (λav hav=>hq av (aC _ hav))⟩
    ·cases j with
     | zero =>
       simp at hj hx hx';subst hj hx hx';obtain⟨t1,t2⟩:=t;obtain⟨t1',t2'⟩:=t';simp only at h1 h2;subst h1 h2;exact .v u _ _
     |succ j=>exact g4 j av x x' jC oa (by simpa using hx')
    ·cases j with
     |zero=>simp at hj;subst hj;simp[AV.key]at hq
     | succ j =>
       cases j' with
       |zero=>simp at hj';subst hj';simp[AV.key]at hq'
       |succ j'=>rw[g5 j j' av av' q jC (by simpa using hj') hq hq']
    ·rcases aX.1 hav with rfl|hav
     ·simp[AV.key]at hq
     ·exact g6 av hav q hq
   ·rename_i k H sz off len
    obtain⟨rfl,hs⟩:=hk;exact slice k H sz len (.inl rfl) hs
   ·rename_i k H sz len
    exact slice k H sz len (.inr rfl) hk
   ·exact hk.elim
 | [],_::_,_,_,_,_,hk=>hk.elim
 | [],[],_::_,_,_,_,hk=>hk.elim
 |_::_,[],_,_,_,_,hk=>hk.elim
 |_::_,_::_,[],_,_,_,hk=>hk.elim
theorem fv.still{w w':World}{M M' E:Nat->Prop}{o:AObj}(h:fv w M E o)(hq:o.q=true)(hb:∀b,o.blk=some b->w'.heap[b]? = w.heap[b]?)(hE:∀c,E c->w'.heap[c]? = w.heap[c]?)
 (hM:∀c,E c->¬M c->¬M' c):fv w' M' E o:=by
 cases o with
 |dead=>exact h
 | vars b T cells =>
   obtain⟨cs,h1,h2,h3⟩:=h;exact⟨cs,(hb b rfl).trans h1,h2,λj av hj=>(h3 j av hj).quiet (kQ _ yS j av hj)⟩
 | rows H sz rows own =>
   cases H with
   |none=>exact h
   | some q =>
     obtain⟨b,o,C⟩:=q;obtain⟨cs,T,F,h1,h2,h3,h4,h5,h6,h7,h8,h9⟩:=h;have hown:own=true:=yS;refine⟨cs,T,F,(hb b rfl).trans h1,h2,h3,h4,h5,h6,λi j c hc=>⟨(h7 i j c hc).1,?_⟩,h8,λi j row d h10 h11=>(h9 i j row d h10 h11).map (λc hc _=>hE c ((h7 i j c hc).1 hown)) (λc hc _=>hc)⟩;exact hM c ((h7 i j c hc).1 hown) (h7 i j c hc).2
 |lent=>simp[AObj.q]at hq
 |part=>simp[AObj.q]at hq
theorem SlV.some_of{H:Hd}{sz len:Nat}{u:Value}(h:SlV H sz 0 len u)(hl:0<len):∃b o C,H=some (b,o,C)/\u=.slice (some ⟨b,o,none⟩) len C/\len<=C:=by
 cases H with
 |none=>obtain⟨_,h0⟩:=h;omega
 | some q =>
   obtain⟨b,o,C⟩:=q;rcases h with⟨rfl,h2⟩|⟨rfl,_⟩
   ·exact⟨b,o,C,rfl,ab,aa⟩
   ·omega
theorem vr{w:World}{M:Nat->Prop}{av:AV}{k:Nat}{H:Hd}{sz len:Nat}{u:Value}(h:VRel w M av u)(ha:av=.sl k H sz 0 len\/av=.ml k H sz len) :
 (0<len->SlV H sz 0 len u)/\∃a c,u=.slice a len c:=by
 rcases ha with rfl|rfl
 ·cases h with
  | sl _ _ _ _ _ _ h =>
    refine⟨λ_=>h,?_⟩
    cases H with
    |none=>obtain⟨⟨a,rfl⟩,rfl⟩:=h;exact⟨a,0,rfl⟩
    | some q =>
      obtain⟨b,o,C⟩:=q;rcases h with⟨rfl,_⟩|⟨rfl,_,a,rfl⟩
      ·exact⟨_,_,rfl⟩
      ·exact⟨_,_,rfl⟩
 ·cases h with
  |ml _ _ _ _ _ h=>exact⟨λh0=>h.elim (λh=>h.2) (λh=>aa),h.slice⟩
theorem Qk{E:Env}{f:Nat}{a a':RV}{k r:Int}(hc:je E.P f a k r a')(hFG:∀b,E.base.F b->E.base.G b){st:ASt}(hq:st.quiet){x:AV}{K:AH->Prop}(hk:mkV st.h x a a' K)
 {ac:Act}{w:World}(hR:Rep E.w0 E.base st ac w) {u:Value}(hu:VRel w st.h.M x u) :
 Calls E.P f #[u,.int .i64 k] w λe w'=>e=.returned (.int .i64 r)/\∃h',K h'/\Rep E.w0 E.base { st with h:=h' } ac w':=by
 obtain⟨Es,HH⟩:=hR.heap
 have hcells:∃(l:List AV) (us:Nat->Value),Sh u us a/\(∀(j:Nat) (av:AV),l[j]? = some av->VRel w st.h.M av (us j))/\mkK st.h l a.cells a'.cells [] K:=by
  unfold mkV at hk
  split at hk
  ·exact⟨[x],λ_=>u,rfl,λj av hj=>by rcases j with _|j<;>simp at hj;subst hj;exact hu,hk⟩
  ·split at hk
   ·rename_i l
    cases hu with
    | agg _ xs hs hl =>
      have:=(vC _ _ _ _ _ _ hk);obtain⟨_,_,h2,_⟩:=this;exact⟨l,λj=>xs.getD j undef,⟨xs,rfl,aa,λ_=>rfl⟩,hl,hk⟩
   ·exact hk.elim
  ·exact hk.elim
 obtain⟨l,us,hsh,hus,hmk⟩:=hcells;obtain⟨h',hK,hlen,hlen',hcell,hdis,-,hrest⟩:=vC _ _ _ _ _ _ hmk
 let T (q:Nat):Prop:=∃(j:Nat) (av:AV) (H:Hd) (sz:Nat) (rows:List (List CD)),l[j]? = some av/\av.key=some q/\st.h.get q=.rows H sz rows true/\rows≠[]
 let G (j c:Nat):Prop:=∃(av:AV) (q:Nat) (H:Hd) (sz:Nat) (rows:List (List CD)),l[j]? = some av/\av.key=some q/\st.h.get q=.rows H sz rows true/\rows≠[]/\((st.h.get q).blk=some c\/Es q c)
 let S (c:Nat):Prop:=∃j,G j c
 have hST:∀c,S c->∃q,T q/\((st.h.get q).blk=some c\/Es q c):=by
  rintro c ⟨j,av,q,H,sz,rows,h1,h2,h3,h4,h5⟩
  exact⟨q,⟨j,av,H,sz,rows,h1,h2,h3,h4⟩,h5⟩
 have hSlt:∀c,S c->c<w.heap.size:=by
  intro c hc;obtain⟨q,-,h|h⟩:=hST c hc
  ·exact HH.lt h
  ·exact(HH.elow q c h).2
 have hSG:∀c,S c->¬E.base.G c:=by
  intro c hc;obtain⟨q,-,h|h⟩:=hST c hc
  ·exact(HH.low q c h).2
  ·exact(HH.elow q c h).1
 have getc:∀(j:Nat) (av:AV),l[j]? = some av->∃t t',a.cells[j]? = some t/\a'.cells[j]? = some t'/\MCell st.h h' av t t':=by
  intro j av hj;have h1:j<l.length:=(au.1 hj).1;have h2:j<a.cells.length:=aa;have h3:j<a'.cells.length:=aa;exact⟨_,_,aj h2,aj h3,hcell j av _ _ hj (aj h2) (aj h3)⟩
 have hin:XW w S us a.cells:=by
  refine⟨G,λj c hc=>⟨j,hc⟩,?_,?_⟩
  ·rintro j j' c ⟨av,q,H,sz,rows,h1,h2,h3,h4,h5⟩ ⟨av',q',H',sz',rows',g1,g2,g3,g4,g5⟩
   have:q=q':=by
    rcases h5 with h5|h5<;>rcases g5 with g5|g5
    ·exact HH.inj _ _ c h5 g5
    ·exact absurd ⟨q,h5⟩ (HH.em q' c g5)
    ·exact absurd ⟨q',g5⟩ (HH.em q c h5)
    ·exact HH.einj _ _ c h5 g5
   subst this;exact hdis j j' av av' q h1 g1 h2 g2
  ·intro j t hj
   have h1:j<a.cells.length:=(au.1 hj).1;have h2:j<l.length:=aa;obtain⟨t0,t',e1,e2,hm⟩:=getc j _ (aj h2);rw[hj]at e1;cases e1;have hv:=hus j _ (aj h2);have hlj:l[j]? = some l[j]:=aj h2;generalize l[j]=av at hm hv hlj
   cases hm with
   |v u' s s'=>cases hv with|v _ hp=>exact⟨rfl,hp⟩
   | s _ q H sz rows rows' ha hz hr hg hg' =>
     obtain⟨h5,h6⟩:=vr hv ha;refine⟨hz,hr,?_⟩;by_cases h0:rows=[]
     ·subst h0
      obtain⟨ad,c,hu⟩:=h6;exact .inl ⟨rfl,ad,c,hu⟩
     ·have hpos:0<rows.length:=eN.2 h0
      have hs:=h5 hpos;obtain⟨b,o,C,rfl,-,-⟩:=hs.some_of hpos;have ho:=HH.obj q;rw[hg]at ho;have:=Ac ho ⟨q,by rw[hg];rfl⟩ hs (show 0+rows.length<=rows.length from aa);rw[show cut rows 0 rows.length=rows by simp[cut]]at this;refine .inr ⟨h0,this.mono (λc hc=>⟨av,q,_,sz,rows,hlj,by rcases ha with rfl|rfl<;>rfl,hg,h0,?_⟩)⟩;rcases hc with rfl|hc
      ·exact .inl (by rw[hg];rfl)
      ·exact .inr hc.1
 refine(hc.2 w S u us hSlt hsh hin).mono ?_
 rintro e w' ⟨rfl,hb,F',hF',hd',hr'⟩
 refine⟨rfl,h',hK,?_⟩
 have turned : ∀ (j : Nat) (av : AV) (q : Nat) (H : Hd) (sz : Nat) (rows : List (List CD)),l[j]? = some av -> av.key = some q -> st.h.get q = .rows H sz rows true -> rows ≠ [] ->
  ∃ b o C rows', H = some (b, o, C) /\ h'.get q = .rows (some (b, o, C)) sz rows' true /\ F' j b /\ rows'.length = rows.length /\ 0 < sz /\ (∀ row ∈ rows', row.length = sz) /\
    ∃ (cs : Array Value) (Ty : TypeId) (F : Nat -> Nat -> Nat -> Prop), w'.heap[b]? = some (.cells cs Ty (0, 0)) /\ rows'.length <= C /\ C <= maxLen /\ o + C * sz <= cs.size /\ (∀ i j' c, F i j' c -> F' j c /\ c ≠ b) /\ (∀ i j i' j' c, F i j c -> F i' j' c -> i = i' /\ j = j') /\
      ∀i j row d,rows'[i]? = some row->row[j]? = some d->Rd w' true (F i j) (cs.getD (o+(i*sz+j)) undef) d:=by
  intro j av q H sz rows hj hkey hg h0;obtain⟨t,t',e1,e2,hm⟩:=getc j av hj;have hv:=hus j av hj
  cases hm with
  |v u' s s'=>simp[AV.key]at hkey
  | s _ q2 H2 sz2 rows2 rows' ha hz hr hg2 hg' =>
    have:q2=q:=by rcases ha with rfl|rfl<;>simpa[AV.key]using hkey
    subst this;rw[hg]at hg2
    cases hg2
    have hpos:0<rows.length:=eN.2 h0;obtain⟨b,o,C,rfl,hu,hle⟩:=((vr hv ha).1 hpos).some_of hpos;have h3:=hr' j _ e2;obtain⟨h4,h5,h6⟩:=h3;rcases h6 with⟨rfl,ad,c,h7⟩|⟨h7,h8,h9,h10⟩
    ·rw[hu,Value.slice.injEq]at h7
     exact absurd (aA h7.2.1) h0
    ·rcases h10 with⟨h11,_⟩|⟨b',off',cap',cs,Ty,F,g1,g2,g3,g4,g5,g6,g7,g8,g9⟩
     ·exact absurd h11 h7
     ·rw[hu]at g1
      simp at g1;obtain⟨⟨rfl,rfl⟩,g10,rfl⟩:=g1;exact⟨b,o,C,rows',rfl,hg',g2,g10.symm,h4,h5,cs,Ty,F,g3,g4,g5,g6,g7,g8,g9⟩
 have same:∀q,¬T q->h'.get q=st.h.get q:=by
  intro q hT;by_cases hk:∀av∈l,av.key≠some q
  ·exact hrest q hk
  ·simp only[Classical.not_forall,Classical.not_not]at hk
   obtain⟨av,hav,hkey⟩:=hk;obtain⟨j,hj⟩:=en hav;obtain⟨t,t',e1,e2,hm⟩:=getc j av hj;have hv:=hus j av hj
   cases hm with
   |v u' s s'=>simp[AV.key]at hkey
   | s _ q2 H2 sz2 rows2 rows' ha hz hr hg2 hg' =>
     have:q2=q:=by rcases ha with rfl|rfl<;>simpa[AV.key]using hkey
     subst this;have h0:rows2=[]:=aT λh0=>hT ⟨j,av,H2,sz2,rows2,hj,hkey,hg2,h0⟩
     subst h0;obtain⟨ad,c,hu⟩:=(vr hv ha).2;obtain⟨h4,h5,h6⟩:=hr' j _ e2
     have:rows'=[]:=by
      rcases h6 with⟨h7,_⟩|⟨h7,h8,h9,h10⟩
      ·exact h7
      ·rcases h10 with⟨h11,_⟩|⟨b',off',cap',cs,Ty,F,g1,-⟩
       ·exact h11
       ·rw[hu]at g1
        simp at g1;exact aA g1.2.1.symm
     subst this;rw[hg2,hg']
 have hblk:∀q,(h'.get q).blk=(st.h.get q).blk:=by
  intro q;by_cases hT:T q
  ·obtain⟨j,av,H,sz,rows,h1,h2,h3,h4⟩:=hT
   obtain⟨b,o,C,rows',rfl,h5,-⟩:=turned j av q H sz rows h1 h2 h3 h4;rw[h5,h3];rfl
  ·rw[same q hT]
 have hM:∀c,h'.M c↔st.h.M c:=by intro c;unfold AH.M;simp only[hblk]
 have hnS:∀q c,¬T q->((st.h.get q).blk=some c\/Es q c)->¬S c:=by
  intro q c hT h hS;obtain⟨q',hT',h2⟩:=hST c hS
  have:q=q':=by
   rcases h with h|h<;>rcases h2 with h2|h2
   ·exact HH.inj _ _ c h h2
   ·exact absurd ⟨q,h⟩ (HH.em q' c h2)
   ·exact absurd ⟨q',h2⟩ (HH.em q c h)
   ·exact HH.einj _ _ c h h2
  subst this;exact hT hT'
 have hFM:∀(j:Nat) (av:AV) (q:Nat) (H:Hd) (sz:Nat) (rows:List (List CD)),l[j]? = some av->av.key=some q->st.h.get q=.rows H sz rows true->rows≠[]->∀c,F' j c->(st.h.get q).blk≠some c->¬st.h.M c:=by
  rintro j av q H sz rows h1 h2 h3 h4 c hc hne ⟨q',hq'⟩
  rcases hF' j c hc with hS|⟨hS,-⟩
  ·obtain⟨j2,av2,q2,H2,sz2,rows2,g1,g2,g3,g4,g5⟩:=hS
   rcases g5 with g5|g5
   ·obtain⟨b,o,C,rows',rfl,h5,hb2,-⟩:=turned j2 av2 q2 H2 sz2 rows2 g1 g2 g3 g4
    have:b=c:=by rw[g3]at g5;simpa[AObj.blk]using g5
    subst this;have:=hd' _ _ _ hc hb2;subst this;rw[h1]at g1;cases g1;rw[h2]at g2;cases g2;exact hne g5
   ·exact HH.em q2 c g5 ⟨q',hq'⟩
  ·have:=HH.lt hq';omega
 let E' (q c:Nat):Prop:=(∃(j:Nat) (av:AV) (H:Hd) (sz:Nat) (rows:List (List CD)),l[j]? = some av/\av.key=some q/\st.h.get q=.rows H sz rows true/\rows≠[]/\F' j c/\(st.h.get q).blk≠some c)\/(¬T q/\Es q c)
 have H':HRel E.base h' w' E':=by
  refine⟨λq=>?_,λq q' c h1 h2=>HH.inj _ _ c (by rw[<-hblk];exact h1) (by rw[<-hblk];exact h2),λq c h1=>HH.low q c (by rw[<-hblk];exact h1),λq c hc=>?_,λq q' c hc hc'=>?_,λq c hc hm=>?_⟩
  ·by_cases hT:T q
   ·obtain⟨j,av,H,sz,rows,h1,h2,h3,h4⟩:=hT
    obtain⟨b,o,C,rows',rfl,h5,hb2,hl',hz,hrl,cs,Ty,F,g1,g2,g3,g4,g5,g6,g7⟩:=turned j av q H sz rows h1 h2 h3 h4;rw[h5];have hne:∀c,c≠b->(st.h.get q).blk≠some c:=λc hcb he=>by rw[h3]at he;simp[AObj.blk]at he;exact hcb he.symm
    exact⟨cs,Ty,F,g1,g2,g3,hz,g4,hrl,λi j2 c hc=>⟨λ_=>.inl ⟨j,av,_,sz,rows,h1,h2,h3,h4,(g5 i j2 c hc).1,hne c (g5 i j2 c hc).2⟩,λhm=>hFM j av q _ sz rows h1 h2 h3 h4 c (g5 i j2 c hc).1 (hne c (g5 i j2 c hc).2) ((hM c).1 hm)⟩,λ_=>g6,g7⟩
   ·rw[same q hT]
    refine((HH.obj q).still (wC _ hq.2 q) (M':=h'.M) (λb hbq=>hb.block b ⟨HH.lt hbq,hnS q b hT (.inl hbq)⟩) (λc hc=>hb.block c ⟨(HH.elow q c hc).2,hnS q c hT (.inr hc)⟩) (λc _ hm hm'=>hm ((hM c).1 hm'))).mono (λ_ _ h=>h) (λc hc=>.inr ⟨hT,hc⟩)
  ·rcases hc with⟨j,av,H,sz,rows,h1,h2,h3,h4,h5,h6⟩|⟨hT,hc⟩
   ·rcases hF' j c h5 with hS|hS
    ·exact⟨hSG c hS,cg (hSlt c hS) hb.size⟩
    ·exact⟨(hR.newer hS.1).2,hS.2⟩
   ·exact⟨(HH.elow q c hc).1,cg (HH.elow q c hc).2 hb.size⟩
  ·have mixed:∀q q',(∃(j:Nat) (av:AV) (H:Hd) (sz:Nat) (rows:List (List CD)),l[j]? = some av/\av.key=some q/\st.h.get q=.rows H sz rows true/\rows≠[]/\F' j c/\(st.h.get q).blk≠some c)->(¬T q'/\Es q' c)->False:=by
    rintro q q' ⟨j,av,H,sz,rows,h1,h2,h3,h4,h5,h6⟩ ⟨hT,hc⟩
    rcases hF' j c h5 with hS|hS
    ·exact hnS q' c hT (.inr hc) hS
    ·have:=(HH.elow q' c hc).2;omega
   rcases hc with hc|hc<;>rcases hc' with hc'|hc'
   ·obtain⟨j,av,H,sz,rows,h1,h2,h3,h4,h5,h6⟩:=hc
    obtain⟨j2,av2,H2,sz2,rows2,g1,g2,g3,g4,g5,g6⟩:=hc';have:=hd' _ _ _ h5 g5;subst this;rw[h1]at g1;cases g1;rw[h2]at g2;cases g2;rfl
   ·exact(mixed q q' hc hc').elim
   ·exact(mixed q' q hc' hc).elim
   ·exact HH.einj _ _ c hc.2 hc'.2
  ·rcases hc with⟨j,av,H,sz,rows,h1,h2,h3,h4,h5,h6⟩|⟨hT,hc⟩
   ·exact hFM j av q H sz rows h1 h2 h3 h4 c h5 h6 ((hM c).1 hm)
   ·exact HH.em q c hc ((hM c).1 hm)
 refine⟨hR.dfr,hR.size,λi=>(hR.tmp i).quiet (Fw _ hq.1 i),⟨E',H'⟩,hR.below.trans ⟨hb.os,hb.tape,hb.output,hb.size,λb hbF=>hb.block b ⟨hR.base_le b (.inl hbF),λhS=>hSG b hS (hFG b hbF)⟩⟩,λb hb'=>cg (hR.base_le b hb') hb.size⟩
theorem ag.mark{E:Env}{f:Nat}{a a':RV}{k r:Int}(hc:je E.P f a k r a')(hlo:E.base.loose=true)(hFG:∀b,E.base.F b->E.base.G b){st:ASt}{x:AV}{dst:Option Nat}{K:ASt->Prop}(hq:st.quiet)
 (hk:mkV st.h x a a' λh'=>bQ { st with h:=h' } dst (.v (.int .i64 r)) K):ag E f [x,.v (.int .i64 k)] st dst K:=by
 refine⟨hc.1,λac w hR xs hs hx=>?_⟩;have hx0:=hx 0 x rfl;have hx1:=hx 1 _ rfl
 have hxs:xs = #[xs.getD 0 undef,.int .i64 k]:=by
  have h1:xs.getD 1 undef=.int .i64 k:=by
   generalize xs.getD 1 undef=y at hx1
   cases hx1;rfl
  have h2:xs.size=2:=by simpa using hs
  refine Array.ext (by simp[h2]) (λi hi hi'=>?_);have hi2:i<2:=aa;rcases i with _|_|i
  ·simp[hi]
  ·simp at h1
   simp[hi]at h1;simp[h1]
  ·omega
 rw[hxs];refine(Qk hc hFG hq hk hR hx0).mono ?_
 rintro e w' ⟨rfl,h',hK,hR'⟩
 obtain⟨h1,h2⟩:=hR'.put (v:=.int .i64 r) (.v _ rfl) hK;have e:∀(s:ASt),(({ s with h:=h' }:ASt).aft dst (.v (.int .i64 r)) h')=s.aft dst (.v (.int .i64 r)) h':=λs=>yR
 rw[show({ st with h:=h' }:ASt).h=h' from rfl,e]at h1 h2;exact⟨_,_,h',rfl,h1,h2,(λh=>by rw[hlo]at h;cases h),.v _ rfl⟩
def qM:Nat->List (CD×Nat)->(List AV->AH->Prop)->Prop
 |_,[],K=>K [] []
 |key,(.v u,_)::ts,K=>qM (key+1) ts λl h=>K (.v u::l) h
 |key,(.s rows,sz)::ts,K=>∀H,qM (key+1) ts λl h=>K (.ml key H sz rows.length::l) ((key,.rows H sz rows true)::h)
 |_,(.h ..,_)::_,_=>False
def TT(a:RV)(K:AV->AH->Prop):Prop:=
 match a with
 | .c d sz=>qM 0 [(d,sz)] λl h=>K (l.headD .any) h
 | .agg ts=>qM 0 ts λl h=>K (.agg l) h
def tG(h:AH):List AV->List (CD×Nat)->Prop
 | [],[]=>True
 | a :: l, t :: ts => match a with
   | .v u=>t.1=.v u/\tG h l ts
   | .ml k H sz len=>(match h.get k with
    | .rows H' sz' rows' own=>H'=H/\sz'=sz/\t.2=sz/\own=true/\rows'.length=len/\0<sz/\(∀row∈rows',row.length=sz)/\t.1=.s rows'
    |_=>False)/\tG h l ts
   |_=>False
 |_,_=>False
def Gf(h:AH)(x:AV)(a':RV):Prop:=
 match a' with
 | .c d sz=>tG h [x] [(d,sz)]
 | .agg ts => match x with
   | .agg l=>tG h l ts
   |_=>False
def O3(E:Env)(rs:List ResultVar)(r:Int)(x:AV)(a':RV):Exit->ASt->Prop
 | .normal,st=>gP E st rs (λl=>l=[.v (.int .i64 r)])/\Gf st.h x a'
 | .ret,st=>gP E st rs (λl=>l=[.v (.int .i64 r)])/\Gf st.h x a'
 |_,_=>False
def lOf(Hs:Nat->Hd):Nat->List (CD×Nat)->List AV
 |_,[]=>[]
 |key,(.v u,_)::ts=>.v u::lOf Hs (key+1) ts
 |key,(.s rows,sz)::ts=>.ml key (Hs key) sz rows.length::lOf Hs (key+1) ts
 |key,(.h ..,_)::ts=>.any::lOf Hs (key+1) ts
def hOf(Hs:Nat->Hd):Nat->List (CD×Nat)->AH
 |_,[]=>[]
 |key,(.v _,_)::ts=>hOf Hs (key+1) ts
 |key,(.s rows,sz)::ts=>(key,.rows (Hs key) sz rows true)::hOf Hs (key+1) ts
 |key,(.h ..,_)::ts=>hOf Hs (key+1) ts
theorem qi(Hs:Nat->Hd):∀(ts:List (CD×Nat)) (key:Nat) (K:List AV->AH->Prop),qM key ts K->K (lOf Hs key ts) (hOf Hs key ts)
 | [],_,_,h=>h
 |(.v _,_)::ts,key,_,h=>qi Hs ts (key+1) _ h
 |(.s _,_)::ts,key,_,h=>qi Hs ts (key+1) _ (h (Hs key))
 |(.h ..,_)::_,_,_,h=>h.elim
theorem FK(Hs:Nat->Hd):∀(ts:List (CD×Nat)) (key j:Nat),(lOf Hs key ts)[j]? = (ts[j]?).map λt=>match t.1 with | .v u=>.v u | .s rows=>.ml (key+j) (Hs (key+j)) t.2 rows.length | .h ..=>.any
 | [],key,j=>by simp[lOf]
 | (.v u, _) :: ts, key, j => by
   exact EO
 | (.s rows, sz) :: ts, key, j => by
   exact EO
 | (.h .., _) :: ts, key, j => by
   exact EO
theorem F9(Hs:Nat->Hd):∀(ts:List (CD×Nat)) (key q:Nat),(hOf Hs key ts).get q=if key<=q then(match ts[q-key]? with|some (.s rows,sz)=>.rows (Hs q) sz rows true|_=>.dead)else .dead
 | [],key,q=>by simp[hOf,AH.get]
 | (.v u, _) :: ts, key, q => by
   exact NU
 | (.s rows, sz) :: ts, key, q => by
   rw[hOf,bH];by_cases hq:q=key
   ·subst hq;simp
   ·rw[aq hq,F9 Hs ts (key+1) q]
    by_cases h:key+1<=q
    ·rw[an h,an aa,show q-key=(q-(key+1))+1 from aa,gB]
    ·rw[aq h,aq aa]
 | (.h .., _) :: ts, key, q => by
   exact NU
theorem IC{h:AH}:∀(l:List AV) (ts:List (CD×Nat)),tG h l ts->l.length=ts.length/\∀(j:Nat) (t:CD×Nat),ts[j]? = some t ->
 (∃u sz,l[j]? = some (.v u)/\t=(.v u,sz))\/∃k H sz rows',l[j]? = some (.ml k H sz rows'.length)/\h.get k=.rows H sz rows' true/\0<sz/\(∀row∈rows',row.length=sz)/\t=(.s rows',sz)
 | [],[],_=>⟨rfl,λj t hj=>pT⟩
 | a :: l, t :: ts, hk => by
   have step:tG h l ts->((∃u sz,a=.v u/\t=(.v u,sz))\/∃k H sz rows',a=.ml k H sz rows'.length/\h.get k=.rows H sz rows' true/\0<sz/\(∀row∈rows',row.length=sz)/\t=(.s rows',sz)) ->
    (a::l).length=(t::ts).length/\∀(j:Nat) (t':CD×Nat),(t::ts)[j]? = some t'->(∃u sz,(a::l)[j]? = some (.v u)/\t'=(.v u,sz))\/∃k H sz rows',(a::l)[j]? = some (.ml k H sz rows'.length)/\h.get k=.rows H sz rows' true/\0<sz/\(∀row∈rows',row.length=sz)/\t'=(.s rows',sz):=by
    intro hk hc;obtain⟨h1,h2⟩:=IC l ts hk;refine⟨kW,λj t' hj=>?_⟩
    cases j with
    |zero=>simp at hj;subst hj;simpa using hc
    |succ j=>simpa using h2 j t' jC
   unfold tG at hk;obtain⟨t1,t2⟩:=t
   split at hk
   ·rename_i u
    obtain⟨h1,h2⟩:=hk;simp only at h1;subst h1;exact step h2 (.inl ⟨u,t2,rfl,rfl⟩)
   ·rename_i k H sz len
    obtain⟨h1,h2⟩:=hk
    split at h1
    ·rename_i H' sz' rows' own hg
     obtain⟨rfl,rfl,h4,rfl,rfl,h5,h6,h7⟩:=h1;simp only at h4 h7;subst h4 h7;exact step h2 (.inr ⟨k,_,_,rows',rfl,hg,h5,h6,rfl⟩)
    ·exact h1.elim
   ·exact hk.elim
 | [],_::_,hk=>hk.elim
 |_::_,[],hk=>hk.elim
theorem je.intro {P : Program} {T : Nat → Option TI} (hT : ∀ t ti, T t = some ti → TIok P t ti) {f : Nat} {fn : Func} {c : Code} (hf : P.funcs[f]? = some fn) (hname : (fn.name == "runtime.NumGoroutine") = false) (hb : fn.body = some c)
 {n:Nat}{rs:List ResultVar}(hnt:fn.ntmps=n) (hrs:fn.results=⟨rs⟩) {a a':RV}{k r:Int}(hn:2<=n)
 (h:∀w0 b,TT a λx h0=>ic ⟨P,T,w0,⟨b,b,true,λ_=>True⟩⟩ c (O3 ⟨P,T,w0,⟨b,b,true,λ_=>True⟩⟩ rs r x a') { n:=n,kb:=0,t:=[(0,x),(1,.v (.int .i64 k))],h:=h0 }) (hsm:a.cells.length<=1000:=by first|exact ai rfl|simp[RV.cells]):je P f a k r a':=by
 have hsmall:∀j,j<a.cells.length->j<50000:=λj hj=>aa
 subst hnt;have hrs':fn.results.toList=rs:=lX;subst hrs';refine⟨⟨fn,hf,hname,kX⟩,λw S u us hS hsh hin=>jg hf hb ?_⟩;obtain⟨F,hFS,hFd,hrd⟩:=hin
 let bs:Bs:=⟨λc=>c<w.heap.size/\¬S c,λc=>c<w.heap.size/\¬S c,true,λ_=>True⟩
 have hE:EOk ⟨P,T,w,bs⟩:=⟨hT,λ_ _=>trivial⟩
 let Hs (j:Nat):Hd:=match a.cells[j]? with
  |some (.s (_::_),_)=>(match us j with | .slice (some ad) _ cap=>some (ad.block,ad.off,cap)|_=>none)
  |_=>none
 have full:∀(j:Nat) (rows:List (List CD)) (sz:Nat),a.cells[j]? = some (.s rows,sz)->rows ≠ []->∃(b off cap:Nat) (cs:Array Value) (Ty:TypeId) (G:Nat->Nat->Nat->Prop),Hs j=some (b,off,cap)/\us j=.slice (some ⟨b,off,none⟩) rows.length cap/\F j b/\w.heap[b]? = some (.cells cs Ty (0,0))/\rows.length<=cap/\cap<=maxLen/\0<sz /\
  off+cap*sz<=cs.size/\(∀row∈rows,row.length=sz)/\(∀i j' c,G i j' c->F j c/\c≠b)/\(∀i j i' j' c,G i j c->G i' j' c->i=i'/\j=j') /\
  ∀i j row d,rows[i]? = some row->row[j]? = some d->Rd w true (G i j) (cs.getD (off+(i*sz+j)) undef) d:=by
  intro j rows sz hj h0;obtain⟨h1,h2,h3⟩:=hrd j _ hj;rcases h3 with⟨h3,-⟩|⟨-,-,-,h4⟩
  ·exact absurd h3 h0
  ·rcases h4 with⟨h4,-⟩|⟨b,off,cap,cs,Ty,G,g1,g2,g3,g4,g5,g6,g7,g8,g9⟩
   ·exact absurd h4 h0
   ·refine⟨b,off,cap,cs,Ty,G,?_,g1,g2,g3,g4,g5,h1,g6,h2,g7,g8,g9⟩
    obtain⟨r0,rl,rfl⟩:=List.exists_cons_of_ne_nil h0;simp only[Hs,hj,g1]
 have hHs0:∀(j sz:Nat),a.cells[j]? = some (.s [],sz)->Hs j=none:=by
  intro j sz hj;simp only[Hs,hj]
 obtain⟨h0,hh0⟩:∃h0,hOf Hs 0 a.cells=h0:=⟨_,rfl⟩
 have hget:∀q,h0.get q=match a.cells[q]? with|some (.s rows,sz)=>.rows (Hs q) sz rows true|_=>.dead:=by
  intro q;rw[<-hh0,F9,an (iU _),jO]
 have hblk:∀q b,(h0.get q).blk=some b->F q b/\∃rows sz off cap,a.cells[q]? = some (.s rows,sz)/\rows≠[]/\Hs q=some (b,off,cap):=by
  intro q b hq;rw[hget]at hq
  split at hq
  ·rename_i rows sz hc
   by_cases hr:rows=[]
   ·subst hr;rw[hHs0 q sz hc]at hq;simp[AObj.blk]at hq
   ·obtain⟨b',off,cap,cs,Ty,G,g1,g2,g3,-⟩:=full q rows sz hc hr
    rw[g1]at hq;simp[AObj.blk]at hq;subst hq;exact⟨g3,rows,sz,off,cap,hc,hr,g1⟩
  ·simp[AObj.blk]at hq
 have hMF:∀q c,F q c->h0.M c->(h0.get q).blk=some c:=by
  rintro q c hc ⟨q',hq'⟩
  have:=hFd _ _ _ hc (hblk q' c hq').1;subst this;exact hq'
 let Es (q c:Nat):Prop:=F q c/\∃b,(h0.get q).blk=some b/\c≠b
 have HH:HRel bs h0 w Es:=by
  refine⟨λq=>?_,λq q' b h1 h2=>hFd _ _ _ (hblk q b h1).1 (hblk q' b h2).1,λq b h1=>?_,λq c hc=>?_,λq q' c hc hc'=>hFd _ _ _ hc.1 hc'.1,λq c hc hm=>?_⟩
  ·have hq:=hget q
   split at hq
   ·rename_i rows sz hc
    by_cases hr:rows=[]
    ·subst hr;rw[hq,hHs0 q sz hc];rfl
    ·obtain⟨b,off,cap,cs,Ty,G,g1,g2,g3,g4,g5,g6,g7,g8,g9,g10,g11,g12⟩:=full q rows sz hc hr
     rw[g1]at hq;have hb':(h0.get q).blk=some b:=by rw[hq];rfl
     rw[hq];refine⟨cs,Ty,G,g4,g5,g6,g7,g8,g9,λi j c hc=>⟨λ_=>⟨(g10 i j c hc).1,b,hb',(g10 i j c hc).2⟩,λhm=>?_⟩,λ_=>g11,g12⟩;have:=hMF q c (g10 i j c hc).1 hm;rw[hb']at this;cases this;exact(g10 i j _ hc).2 rfl
   ·rw[hq];trivial
  ·have:=hFS q b (hblk q b h1).1
   exact⟨λh=>h.2 this,λh=>h.2 this⟩
  ·have:=hFS q c hc.1
   exact⟨λh=>h.2 this,hS c this⟩
  ·obtain⟨h1,b,h2,h3⟩:=hc
   have:=hMF q c h1 hm;rw[h2]at this;cases this;exact h3 rfl
 have hvr:∀(j:Nat) (av:AV),(lOf Hs 0 a.cells)[j]? = some av->VRel w h0.M av (us j):=by
  intro j av hj;rw[FK,aU]at hj;obtain⟨⟨d,sz⟩,hj,rfl⟩:=hj;have hr:=hrd j _ hj
  cases d with
  |v x=>obtain⟨h1,h2⟩:=hr;rw[h1];exact .v _ h2
  |h=>exact hr.elim
  | s rows =>
    simp only[cQ];refine .ml _ _ _ _ _ ?_;by_cases h0:rows=[]
    ·subst h0
     rcases hr.2.2 with⟨-,ad,c,h3⟩|⟨h3,-⟩
     ·exact .inr ⟨rfl,λh=>h.elim (λh=>absurd h ab) (λh=>by have:=hsmall j (au.1 hj).1;omega),ad,c,h3⟩
     ·exact absurd rfl h3
    ·obtain⟨b,off,cap,cs,Ty,G,g1,g2,g3,g4,g5,-⟩:=full j rows sz hj h0
     rw[g1,g2];exact .inl ⟨.inl (eN.2 h0),.inl ⟨ab,aa⟩⟩
 have hinit:∃x,VRel w h0.M x u/\ic ⟨P,T,w,bs⟩ c (O3 ⟨P,T,w,bs⟩ fn.results.toList r x a') { n:=fn.ntmps,kb:=0,t:=[(0,x),(1,.v (.int .i64 k))],h:=h0 }/\((∃ts,a=.agg ts/\x=.agg (lOf Hs 0 ts))\/∃d sz,a=.c d sz/\x=(lOf Hs 0 [(d,sz)]).headD .any):=by
  have hi:=h w (λc=>c<w.heap.size/\¬S c)
  cases a with
  | c d sz =>
    have:=qi Hs _ _ _ hi;rw[show hOf Hs 0 [(d,sz)]=h0 from hh0]at this;refine⟨_,?_,this,.inr ⟨d,sz,rfl,rfl⟩⟩;have e:us 0=u:=hsh;rw[<-e];have hv0:=hvr 0
    cases hl:lOf Hs 0 [(d,sz)]with
    |nil=>have:=nP List.length hl;cases d<;>simp[lOf]at this
    |cons y l=>exact hv0 y (by show(lOf Hs 0 [(d,sz)])[0]? = _;rw[hl];rfl)
  | agg ts =>
    have:=qi Hs _ _ _ hi;rw[show hOf Hs 0 ts=h0 from hh0]at this;refine⟨_,?_,this,.inl ⟨ts,rfl,rfl⟩⟩;obtain⟨xs,rfl,hxs,hus⟩:=hsh
    have hll:(lOf Hs 0 ts).length=ts.length:=by
     have:∀(l:List (CD×Nat)) (key:Nat),(lOf Hs key l).length=l.length:=by
      intro l
      induction l with
      |nil=>intro key;rfl
      |cons t l ih=>intro key;obtain⟨d,sz⟩:=t;cases d<;>simp[lOf,ih]
     exact this ts 0
    exact .agg _ _ aa (λi av hi=>by rw[<-hus];exact hvr i av hi)
 obtain⟨x,hx,hsem,hxa⟩:=hinit
 have hR:Rep w bs { n:=fn.ntmps,kb:=0,t:=[(0,x),(1,.v (.int .i64 k))],h:=h0 } { tmps:=#[u,.int .i64 k]++Array.replicate (fn.ntmps-(#[u,.int .i64 k]:Array Value).size) undef,defers:=[] } w:=by
  refine⟨rfl,aN,λi=>?_,⟨Es,HH⟩,BelowF.refl _ _,λb hb=>hb.elim (λh=>h.1) (λh=>h.1)⟩
  show VRel w h0.M (bM [(0,x),(1,.v (.int .i64 k))] i) _
  have e:∀i,i<2->(#[u,.int .i64 k]++Array.replicate (fn.ntmps-(#[u,.int .i64 k]:Array Value).size) undef).getD i undef=(#[u,.int .i64 k]:Array Value).getD i undef:=by
   intro i hi;simp only[aW];rw[dG ee]
  match i with
  |0=>rw[e 0 aa];exact hx
  |1=>rw[e 1 aa];exact VRel.v (w:=w) (M:=h0.M) (.int .i64 k) rfl
  |i+2=>exact .any _
 refine gT (dD hE c _ _ _ w hR hsem) ?_
 rintro e ac' w' ⟨st',hq,hR'⟩
 have key:(gP ⟨P,T,w,bs⟩ st' fn.results.toList (λl=>l=[.v (.int .i64 r)])/\Gf st'.h x a')->ac'.defers=[]/\∃v,(results fn ac'.tmps).run P w'=.ok v w'/\Ending.returned v=.returned (.int .i64 r)/\BelowF (λb=>b<w.heap.size/\¬S b) w w'/\XW w' (λc=>S c\/w.heap.size<=c/\c<w'.heap.size) us a'.cells:=by
  rintro⟨hres,hfin⟩
  obtain⟨vs,l,h1,h2,h3,rfl⟩:=gq hE hR' fn.results.toList hres
  have hvs:vs=[.int .i64 r]:=by
   match vs,h2 with
   | [v], _ =>
     have:=h3 0 _ rfl;simp at this
     cases this;rfl
  subst hvs;obtain⟨E',H'⟩:=hR'.heap;refine⟨hR'.dfr,.int .i64 r,?_,rfl,hR'.below,?_⟩
  ·have h1':(fn.results.toList.mapM (j8 ac'.tmps)).run P w'=.ok [.int .i64 r] w':=h1
   rw[ny,uk];simp only[ff,Sem.run_map,h1',cZ,fN];simp
  ·have hfin':tG st'.h (lOf Hs 0 a.cells) a'.cells:=by
    rcases hxa with⟨ts,rfl,rfl⟩|⟨d,sz,rfl,rfl⟩
    ·unfold Gf at hfin
     cases a' with
     |agg ts'=>exact hfin
     |c d' sz'=>exact hfin.elim
    ·unfold Gf at hfin
     cases a' with
     |c d' sz'=>cases d<;>exact hfin
     |agg ts'=>cases d<;>exact hfin.elim
   obtain⟨hll,hfk⟩:=IC _ _ hfin'
   have hbk:∀q c,((st'.h.get q).blk=some c\/E' q c)->S c\/w.heap.size<=c/\c<w'.heap.size:=by
    intro q c hc
    have h4:¬(c<w.heap.size/\¬S c)/\c<w'.heap.size:=by
     rcases hc with hc|hc
     ·exact⟨(H'.low q c hc).2,H'.lt hc⟩
     ·exact H'.elow q c hc
    by_cases hs:S c
    ·exact .inl hs
    ·exact .inr ⟨pf (λh=>h4.1 ⟨h,hs⟩),h4.2⟩
   refine⟨λq c=>(st'.h.get q).blk=some c\/E' q c,hbk,?_,λj t hj=>?_⟩
   ·intro q q' c hc hc'
    rcases hc with hc|hc<;>rcases hc' with hc'|hc'
    ·exact H'.inj _ _ c hc hc'
    ·exact absurd ⟨q,hc⟩ (H'.em q' c hc')
    ·exact absurd ⟨q',hc'⟩ (H'.em q c hc)
    ·exact H'.einj _ _ c hc hc'
   ·rcases hfk j t hj with⟨u',sz,h4,rfl⟩|⟨q,Hq,sz,rows',h4,h5,h6,h7,rfl⟩
    ·have hv:=hvr j _ h4
     generalize us j=y at hv
     cases hv with|v _ hp=>exact⟨rfl,hp⟩
    ·have hqj:q=j:=by
      rw[FK,aU]at h4;obtain⟨⟨d,s⟩,h8,h9⟩:=h4
      cases d with
      |v=>simp at h9
      |h=>simp at h9
      |s rows=>simp at h9;exact h9.1.symm
     subst hqj;have hv:=hvr q _ h4;obtain⟨h8,ad,c,h9⟩:=vr hv (.inr rfl);refine⟨h6,h7,?_⟩;by_cases hr0:rows'=[]
     ·subst hr0;exact .inl ⟨rfl,ad,c,h9⟩
     ·have hpos:=eN.2 hr0
      have hs:=h8 hpos;obtain⟨b,o,C,rfl,-,-⟩:=hs.some_of hpos;have ho:=H'.obj q;rw[h5]at ho;have:=Ac ho ⟨q,by rw[h5];rfl⟩ hs (show 0+rows'.length<=rows'.length from aa);rw[show cut rows' 0 rows'.length=rows' by simp[cut]]at this;refine .inr ⟨hr0,this.mono (λc hc=>?_)⟩;rcases hc with rfl|hc
      ·exact .inl (by rw[h5];rfl)
      ·exact .inr hc.1
 cases e with
 |normal=>exact key hq
 |ret=>exact key hq
 |_=>exact hq.elim
def rdW(w0:World)(F:Nat->Prop)(u:Value)(d:CD):Prop:=Rd w0 false F u d
theorem aaf{P:Program}{T:Nat->Option TI}{w0:World}{F G:Nat->Prop}{l:Bool}{L:World->Prop}:Env.rd ⟨P,T,w0,⟨F,G,l,L⟩⟩=rdW w0 F:=(rfl)
theorem R0{P:Program}{T:Nat->Option TI}{w0:World}{F G:Nat->Prop}{l:Bool}{L:World->Prop}:Env.tight ⟨P,T,w0,⟨F,G,l,L⟩⟩=⟨P,T,w0,⟨F,G,false,L⟩⟩:=(rfl)
def cvC(u:Value):CD->AV
 | .v x=>.v x
 | .s rows=>.cv u rows.length
 | .h ..=>.any
def cvL(us:Nat->Value):Nat->List CD->List AV
 |_,[]=>[]
 |j,d::ds=>cvC (us j) d::cvL us (j+1) ds
def xd(us:Nat->Nat->Value):Nat->List VD->List (Nat×AV)
 |_,[]=>[]
 |i,.c d::l=>(i,cvC (us i 0) d)::xd us (i+1) l
 |i,.agg ds::l=>(i,.agg (cvL (us i) 0 ds))::xd us (i+1) l
def rdC(R:Value->CD->Prop)(u:Value):CD->Prop
 | .s rows=>R u (.s rows)
 |_=>True
def rdL(R:Value->CD->Prop)(us:Nat->Value):Nat->List CD->Prop
 |_,[]=>True
 |j,d::ds=>rdC R (us j) d/\rdL R us (j+1) ds
def rdA(R:Value->CD->Prop)(us:Nat->Nat->Value):Nat->List VD->Prop
 |_,[]=>True
 |i,.c d::l=>rdC R (us i 0) d/\rdA R us (i+1) l
 |i,.agg ds::l=>rdL R (us i) 0 ds/\rdA R us (i+1) l
theorem Pk(us:Nat->Value):∀(ds:List CD) (j i:Nat),(cvL us j ds)[i]? = (ds[i]?).map (cvC (us (j+i)))
 | [],j,i=>by simp[cvL]
 | d :: ds, j, i => by
   cases i with
   |zero=>rfl
   |succ i=>simp only[cvL,gB];rw[Pk us ds (j+1) i,show j+1+i=j+(i+1)from aa]
theorem A5(us:Nat->Value):∀(ds:List CD) (j:Nat),(cvL us j ds).length=ds.length
 | [],_=>rfl
 |d::ds,j=>by simp[cvL,A5 us ds (j+1)]
theorem IT(us:Nat->Nat->Value):∀(l:List VD) (k i:Nat),bM (xd us k l) i=if k<=i then(match l[i-k]? with|some (.c d)=>cvC (us i 0) d|some (.agg ds)=>.agg (cvL (us i) 0 ds)|none=>.any)else .any
 | [],k,i=>by simp[xd,bM]
 | v :: l, k, i => by
   by_cases h:i=k
   ·subst h;cases v<;>simp[xd,bM]
   ·have e:bM (xd us k (v::l)) i=bM (xd us (k+1) l) i:=by cases v<;>simp[xd,bM,h]
    rw[e,IT us l (k+1) i];exact Ld
theorem Pl{w:World}{M F:Nat->Prop}{u:Value}{d:CD}(h:Rd w false F u d)(hh:∀k H sz len,d≠.h k H sz len):VRel w M (cvC u d) u:=by
 cases d with
 |v x=>cases h with|plain hp=>exact .v _ hp
 | s rows =>
   refine .cv _ _ ?_
   cases h with
   |empty a cap=>exact⟨a,cap,rfl⟩
   |slice b off cap=>exact⟨_,cap,rfl⟩
 |h k H sz len=>exact absurd rfl (hh k H sz len)
theorem SY{R:Value->CD->Prop}{us:Nat->Value}:∀(ds:List CD) (j:Nat),(∀(i:Nat) (d:CD),ds[i]? = some d->R (us (j+i)) d)->rdL R us j ds
 | [],_,_=>trivial
 | d :: ds, j, h => by
   refine⟨?_,SY ds (j+1) (λi d' hi=>by rw[show j+1+i=j+(i+1)from aa];exact h (i+1) d' ee)⟩
   cases d with
   |s rows=>exact h 0 _ rfl
   |_=>trivial
theorem SZ{R:Value->CD->Prop}{us:Nat->Nat->Value}:∀(l:List VD) (k:Nat),(∀(i:Nat) (v:VD),l[i]? = some v->(∀d,v=.c d->R (us (k+i) 0) d)/\(∀ds,v=.agg ds->∀(j:Nat) (d:CD),ds[j]? = some d->R (us (k+i) j) d))->rdA R us k l
 | [],_,_=>trivial
 | v :: l, k, h => by
   have hl:=SZ l (k+1) (λi v' hi=>by rw[show k+1+i=k+(i+1)from aa];exact h (i+1) v' ee);have h0:=h 0 v rfl
   cases v with
   | c d =>
     refine⟨?_,hl⟩;have:=h0.1 d rfl
     cases d with
     |s rows=>exact this
     |_=>trivial
   | agg ds =>
     refine⟨SY ds 0 (λi d hi=>?_),hl⟩;rw[cQ];exact h0.2 ds rfl i d hi
def noH:CD->Bool
 | .h ..=>false
 |_=>true
def VD.noH:VD->Bool
 | .c d=>AM.noH d
 | .agg ds=>ds.all AM.noH
theorem nO.introL {P : Program} {T : Nat → Option TI} (hT : ∀ t ti, T t = some ti → TIok P t ti) {L : World → Prop} (hL : LSt L) {f : Nat} {fn : Func} {c : Code} (hf : P.funcs[f]? = some fn) (hname : (fn.name == "runtime.NumGoroutine") = false) (hb : fn.body = some c)
 {n:Nat}{rs:List ResultVar}(hnt:fn.ntmps=n) (hrs:fn.results=⟨rs⟩) {args:List VD}{res:RR}(hn:args.length<=n) (hno:args.all VD.noH=true)
 (h:∀w0 b us,EOk ⟨P,T,w0,⟨b,b,true,L⟩⟩->rdA (rdW w0 b) us 0 args->ic ⟨P,T,w0,⟨b,b,true,L⟩⟩ c (xU ⟨P,T,w0,⟨b,b,true,L⟩⟩ rs res) { n:=n,kb:=0,t:=xd us 0 args,h:=[] }):nO P L f args res:=by
 subst hnt;have hrs':fn.results.toList=rs:=lX;subst hrs';refine⟨⟨fn,hf,hname,kX⟩,λw hw xs hs hx=>jg hf hb ?_⟩
 let bs:Bs:=⟨λc=>c<w.heap.size,λc=>c<w.heap.size,true,L⟩
 have hE:EOk ⟨P,T,w,bs⟩:=⟨hT,λw' hb=>hL w w' hb hw⟩;have hM:∀b,¬AH.M [] b:=by rintro b ⟨k,hk⟩;simp[AObj.blk]at hk
 let us (i j:Nat):Value:=match xs.getD i undef with
  | .agg ys=>ys.getD j undef
  |y=>y
 have hargs:∀(i:Nat) (v:VD),args[i]? = some v->(∀d,v=.c d->xs.getD i undef=us i 0/\Rd w false (λ_=>True) (us i 0) d)/\(∀ds,v=.agg ds->∃ys:Array Value,xs.getD i undef=.agg ys/\ys.size=ds.length/\(∀j,us i j=ys.getD j undef)/\∀(j:Nat) (d:CD),ds[j]? = some d->Rd w false (λ_=>True) (us i j) d):=by
  intro i v hi;have h1:=hx i v hi
  constructor
  ·rintro d rfl
   have h2:Rd w false (λ_=>True) (xs.getD i undef) d:=h1
   have e:us i 0=xs.getD i undef:=by
    simp only[us];generalize xs.getD i undef=y at h2;have h2':=h2
    cases h2 with
    |plain hp=>cases y<;>simp[plain]at hp<;>rfl
    |empty=>rfl
    |slice=>rfl
    | h k H sz len =>
      obtain⟨a,c,rfl⟩:=h2'.mlv.slice;rfl
   rw[e];exact⟨rfl,h2⟩
  ·rintro ds rfl
   obtain⟨ys,e1,e2,e3⟩:=h1;have e4:∀j,us i j=ys.getD j undef:=λj=>by simp only[us,e1]
   exact⟨ys,e1,e2,e4,λj d hj=>by rw[e4];exact e3 j d hj⟩
 have hrd:rdA (rdW w λc=>c<w.heap.size) us 0 args:=by
  refine SZ args 0 (λi v hi=>?_);obtain⟨h1,h2⟩:=hargs i v hi;rw[cQ];refine⟨λd hd=>((h1 d hd).2.within).map (λ_ _ _=>rfl) (λc hc _=>hc.2),λds hds j d hj=>?_⟩;obtain⟨ys,-,-,-,h3⟩:=h2 ds hds;exact((h3 j d hj).within).map (λ_ _ _=>rfl) (λc hc _=>hc.2)
 have nh:∀(d:CD),AM.noH d=true->∀k H sz len,d≠.h k H sz len:=by
  intro d hd k H sz len e;subst e;simp[AM.noH]at hd
 have hR:Rep w bs { n:=fn.ntmps,kb:=0,t:=xd us 0 args,h:=[] } { tmps:=xs++Array.replicate (fn.ntmps-xs.size) undef,defers:=[] } w:=by
  refine⟨rfl,aN,λi=>?_,⟨λ_ _=>False,λk=>trivial,λk k' b hk=>by simp[AH.get,AObj.blk]at hk,λk b hk=>by simp[AH.get,AObj.blk]at hk,λk c hc=>hc.elim,λk k' c hc=>hc.elim,λk c hc=>hc.elim⟩,BelowF.refl _ _,λb hb=>hb.elim id id⟩
  show VRel w (AH.M []) (bM (xd us 0 args) i) _
  rw[IT,an (iU i),jO]
  cases hv:args[i]? with
  |none=>exact .any _
  | some v =>
    have hlt:i<xs.size:=by rw[hs];exact(au.1 hv).1
    have e:(xs++Array.replicate (fn.ntmps-xs.size) undef).getD i undef=xs.getD i undef:=by
     exact Ot
    show VRel w (AH.M []) _ ((xs++Array.replicate (fn.ntmps-xs.size) undef).getD i undef)
    rw[e];obtain⟨h1,h2⟩:=hargs i v hv;have hnv:=cB.1 hno v (aO hv)
    cases v with
    | c d =>
      obtain⟨e1,e2⟩:=h1 d rfl;rw[e1];exact Pl e2 (nh d (by simpa[VD.noH]using hnv))
    | agg ds =>
      obtain⟨ys,e1,e2,e3,e4⟩:=h2 ds rfl;rw[e1];refine .agg _ _ (by rw[A5];omega) (λj av hj=>?_);rw[Pk,cQ,aU]at hj;obtain⟨d,hd,rfl⟩:=hj;rw[<-e3];exact Pl (e4 j d hd) (nh d (cB.1 (by simpa[VD.noH]using hnv) d (aO hd)))
 refine gT (dD hE c _ _ _ w hR (h w (λc=>c<w.heap.size) us hE hrd)) ?_
 rintro e a' w' ⟨st',hq,hR'⟩
 have key:gP ⟨P,T,w,bs⟩ st' fn.results.toList (uy st'.h res)->a'.defers=[]/\∃v,(results fn a'.tmps).run P w'=.ok v w'/\∃v',Ending.returned v=.returned v'/\Below w.heap.size w w'/\GK w' (λc=>w.heap.size<=c/\c<w'.heap.size) v' res:=by
  exact OB
 cases e with
 |normal=>exact key hq
 |ret=>exact key hq
 |_=>exact hq.elim
theorem ar.introL {P : Program} {T : Nat → Option TI} (hT : ∀ t ti, T t = some ti → TIok P t ti) {f : Nat} {fn : Func} {c : Code} (hf : P.funcs[f]? = some fn) (hname : (fn.name == "runtime.NumGoroutine") = false) (hb : fn.body = some c)
 {n:Nat}{rs:List ResultVar}(hnt:fn.ntmps=n) (hrs:fn.results=⟨rs⟩) {args:List VD}{res:RR}(hn:args.length<=n) (hno:args.all VD.noH=true)
 (h:∀w0 b us,rdA (rdW w0 b) us 0 args->ic ⟨P,T,w0,⟨b,b,true,λ_=>True⟩⟩ c (xU ⟨P,T,w0,⟨b,b,true,λ_=>True⟩⟩ rs res) { n:=n,kb:=0,t:=xd us 0 args,h:=[] }):ar P f args res:=
 nO.introL hT LSt.true hf hname hb hnt hrs hn hno (λw0 b us _=>h w0 b us)
def hv(v:AV):AV:=bif v.q then v else .any
def hush(t:List (Nat×AV)):List (Nat×AV):=t.map λp=>(p.1,hv p.2)
theorem Io:∀(t:List (Nat×AV)) (i:Nat),bM (hush t) i=hv (bM t i)
 | [],_=>rfl
 | (k, v) :: t, i => by
   simp only[hush,bL,bM]
   split
   ·rfl
   ·exact Io t i
theorem Rep.hush{w0:World}{base:Bs}{n kb:Nat}{t:List (Nat×AV)}{h:AH}{a:Act}{w:World}(hR:Rep w0 base ⟨n,kb,t,h⟩ a w):Rep w0 base ⟨n,kb,AM.hush t,h⟩ a w:=by
 refine⟨hR.dfr,hR.size,λi=>?_,hR.heap,hR.below,hR.base_le⟩
 show VRel w h.M (bM (AM.hush t) i) _
 rw[Io];have:=hR.tmp i;unfold hv
 cases (bM t i).q
 ·exact .any _
 ·exact this
theorem wi{E:Env}(hE:EOk E)(hm:E.P.follows .mixedOrders=true){id:Nat}{ops:List Oper}{Q:Exit->ASt->Prop}{n kb:Nat}{t:List (Nat×AV)}{h:AH}(hok:Ft n ops=true)
 (hx:xi E ops n kb h ops t λt'=>Q .normal ⟨n,kb,AM.hush t',h⟩):aY E id ops Q ⟨n,kb,t,h⟩:=by
 intro a w hR;have:=aY.quiet hE hm (id:=id) (Q:=λe st=>Q e ⟨st.n,st.kb,AM.hush st.t,st.h⟩) hok hx a w hR;refine gT this ?_
 rintro e a' w' ⟨st',hq,hR'⟩
 exact⟨_,hq,Rep.hush hR'⟩
section rules
variable {P:Program}{T:Nat->Option TI}{w0:World}{base:Bs}{E:Env}{Q:Exit->ASt->Prop}{K:ASt->Prop}{st:ASt}{h:AH}{l:List AV}{t t':CD×Nat}{ts ts':List (CD×Nat)}{ks:List Nat}{KA:AH->Prop}{KL:AH->List Nat->Prop}{KI:List AV->AH->Prop}{key k sz off len:Nat}{H:Hd}{u:Value}{rows:List (List CD)}
theorem agq:hv (.v u)=.v u:=(rfl)
theorem aa0:hv .any=.any:=(rfl)
theorem adS:hv .un=.un:=(rfl)
theorem aaY:hv .nil=.nil:=(rfl)
theorem adV:hv (.ro rows)=.any:=(rfl)
theorem adU{row:List CD}:hv (.rp row)=.any:=(rfl)
theorem adT:hv (.sl k H sz off len)=.sl k H sz off len:=(rfl)
theorem adX:hv (.cv u len)=.cv u len:=(rfl)
theorem adW:hv (.ml k H sz len)=.ml k H sz len:=(rfl)
theorem agr{b c:Nat}:hv (.p k b c)=.p k b c:=(rfl)
theorem ags{r c:Nat}:hv (.e k H sz r c)=.e k H sz r c:=(rfl)
theorem aa1:hv (.agg l)=bif AV.qL l then .agg l else .any:=(rfl)
theorem aaX:hv (.tup l)=bif AV.qL l then .tup l else .any:=(rfl)
theorem aaZ{f:Nat}:hv (.clo f l)=bif AV.qL l then .clo f l else .any:=(rfl)
theorem T3:AM.hush []=[]:=(rfl)
theorem QO{i:Nat}{v:AV}{t:List (Nat×AV)}:AM.hush ((i,v)::t)=(i,hv v)::AM.hush t:=(rfl)
theorem q_v:AV.q (.v u)=true:=(rfl)
theorem adq:AV.q .any=true:=(rfl)
theorem aga:AV.q .un=true:=(rfl)
theorem ado:AV.q .nil=true:=(rfl)
theorem agd:AV.q (.ro rows)=false:=(rfl)
theorem agc{row:List CD}:AV.q (.rp row)=false:=(rfl)
theorem agb:AV.q (.sl k H sz off len)=true:=(rfl)
theorem agf:AV.q (.cv u len)=true:=(rfl)
theorem age:AV.q (.ml k H sz len)=true:=(rfl)
theorem q_p{b c:Nat}:AV.q (.p k b c)=true:=(rfl)
theorem q_e{r c:Nat}:AV.q (.e k H sz r c)=true:=(rfl)
theorem adr:AV.q (.agg l)=AV.qL l:=(rfl)
theorem adn:AV.q (.tup l)=AV.qL l:=(rfl)
theorem adp{f:Nat}:AV.q (.clo f l)=AV.qL l:=(rfl)
theorem aak:AV.qL []=true:=(rfl)
theorem Wm{a:AV}:AV.qL (a::l)=(a.q&&AV.qL l):=(rfl)
theorem S6{n kb:Nat}{t:List (Nat×AV)}:ASt.quiet ⟨n,kb,t,h⟩=(qT t=true/\qH h=true):=(rfl)
theorem aaj:qT []=true:=(rfl)
theorem Wl{i:Nat}{v:AV}{t:List (Nat×AV)}:qT ((i,v)::t)=(v.q&&qT t):=(rfl)
theorem aal:qH []=true:=(rfl)
theorem Wn{i:Nat}{o:AObj}:qH ((i,o)::h)=(o.q&&qH h):=(rfl)
theorem Wv:AObj.q .dead=true:=(rfl)
theorem Wt{b:Nat}{T:TypeId}:AObj.q (.vars b T l)=AV.qL l:=(rfl)
theorem Wu{own:Bool}:AObj.q (.rows H sz rows own)=own:=(rfl)
theorem WD:mkK h [] [] [] ks KA=KA h:=(rfl)
theorem adA:mkK h (.v u::l) (t::ts) (t'::ts') ks KA=(t.1=.v u/\t'.1=.v u/\mkK h l ts ts' ks KA):=(rfl)
theorem aaF:mkK h (.sl k H sz off len::l) (t::ts) (t'::ts') ks KA=(off=0/\mkS h k H sz len t t' ks λh' ks'=>mkK h' l ts ts' ks' KA):=(rfl)
theorem aaG:mkK h (.ml k H sz len::l) (t::ts) (t'::ts') ks KA=(mkS h k H sz len t t' ks λh' ks'=>mkK h' l ts ts' ks' KA):=(rfl)
theorem aaE{d:CD}{z:Nat}{rows':List (List CD)}{z':Nat}:mkS h k H sz len (d,z) (.s rows',z') ks KL=(ks.contains k=false/\wR (h.get k) λH' sz' rows own=>H=H'/\sz=sz'/\z=sz/\z'=sz/\0<sz/\own=true/\len=rows.length/\(∀row∈rows,row.length=sz)/\d=.s rows/\KL ((k,.rows H sz rows' true)::h) (k::ks)):=by
 simp only[mkS,wR];cases h.get k<;>rfl
theorem adz{x:AV}{d d':CD}{z z':Nat}:mkV h x (.c d z) (.c d' z') KA=mkK h [x] [(d,z)] [(d',z')] [] KA:=(rfl)
theorem WC:mkV h (.agg l) (.agg ts) (.agg ts') KA=mkK h l ts ts' [] KA:=(rfl)
theorem QI:qM key [] KI=KI [] []:=(rfl)
theorem WW{z:Nat}:qM key ((.v u,z)::ts) KI=qM (key+1) ts λl h=>KI (.v u::l) h:=(rfl)
theorem WX{z:Nat}:qM key ((.s rows,z)::ts) KI=∀H,qM (key+1) ts λl h=>KI (.ml key H z rows.length::l) ((key,.rows H z rows true)::h):=(rfl)
theorem WV{d:CD}{z:Nat}{KV:AV->AH->Prop}:TT (.c d z) KV=qM 0 [(d,z)] λl h=>KV (l.headD .any) h:=(rfl)
theorem QF{KV:AV->AH->Prop}:TT (.agg ts) KV=qM 0 ts λl h=>KV (.agg l) h:=(rfl)
theorem Ka{a:AV}:List.headD (a::l) .any=a:=(rfl)
theorem Ut:tG h [] []=True:=(rfl)
theorem aa9:tG h (.v u::l) (t::ts)=(t.1=.v u/\tG h l ts):=(rfl)
theorem Xe:tG h (.ml k H sz len::l) (t::ts)=((wR (h.get k) λH' sz' rows' own=>H'=H/\sz'=sz/\t.2=sz/\own=true/\rows'.length=len/\0<sz/\(∀row∈rows',row.length=sz)/\t.1=.s rows')/\tG h l ts):=by
 simp only[tG,wR];cases h.get k<;>rfl
theorem aa8{x:AV}{d:CD}{z:Nat}:Gf h x (.c d z)=tG h [x] [(d,z)]:=(rfl)
theorem Us:Gf h (.agg l) (.agg ts)=tG h l ts:=(rfl)
variable {rs:List ResultVar}{r:Int}{x:AV}{a':RV}
theorem WG:O3 E rs r x a' .normal st=(gP E st rs (λl=>l=[.v (.int .i64 r)])/\Gf st.h x a'):=(rfl)
theorem WE:O3 E rs r x a' .ret st=(gP E st rs (λl=>l=[.v (.int .i64 r)])/\Gf st.h x a'):=(rfl)
theorem WM{β:Type}{Inv:β->Prop}{I:β->ASt}{μ:β->Nat}{x:β}:O6 E Inv I μ x Q .normal st=Ent E st λst'=>∃x',Inv x'/\μ x'<μ x/\Bx st' (I x'):=(rfl)
theorem WL{β:Type}{Inv:β->Prop}{I:β->ASt}{μ:β->Nat}{x:β}:O6 E Inv I μ x Q .ret st=Q .ret st:=(rfl)
theorem WN{β:Type}{Inv:β->Prop}{I:β->ASt}{μ:β->Nat}{x:β}{i:Nat}:O6 E Inv I μ x Q (.exit i) st=Q (.exit i) st:=(rfl)
end rules
attribute [simp ↓] aaf R0 WD adA aaF aaG aaE adz WC QI WW WX WV QF Ka Ut aa9 Xe aa8 Us WG WE WM WL WN T3 QO
attribute [simp] agq aa0 adS aaY adV adU adT adX adW agr ags aa1 aaX aaZ q_v adq aga ado agd agc agb agf age q_p q_e adr adn adp aak Wm S6 aaj Wl aal Wn Wv Wt Wu cvC cvL xd rdC rdL rdA ow
open Go.RowKit
theorem Ent.kill{E:Env}{st:ASt}{S:ASt->Prop}(k:Nat)(h:Ent E { st with h:=(k,.dead)::st.h } S):Ent E st S:=by
 intro a w hR;obtain⟨Es,HH⟩:=hR.heap;exact h a w (hR.move (HH.kill k) (Tr.kill HH k) ⟨rfl,rfl,rfl⟩).rep
def Ih(E:Env)(rs:List ResultVar)(R:AV->AH->Prop):Exit->ASt->Prop
 | .normal, st => gP E st rs λl => match l with
   | [x]=>R x st.h
   |l=>R (.tup l) st.h
 | .ret, st => gP E st rs λl => match l with
   | [x]=>R x st.h
   |l=>R (.tup l) st.h
 |_,_=>False
def uJ:Nat->List AV->List (Nat×AV)
 |_,[]=>[]
 |i,v::l=>(i,v)::uJ (i+1) l
theorem IS:∀(l:List AV) (k i:Nat),bM (uJ k l) i=if k<=i then(match l[i-k]? with|some v=>v|none=>.any)else .any
 | [],k,i=>by simp[uJ,bM]
 | v :: l, k, i => by
   unfold uJ bM;by_cases h:i=k
   ·subst h;simp
   ·rw[aq h,IS l (k+1) i]
    exact Ld
theorem Ch {P : Program} {T : Nat → Option TI} {w0 : World} {base : Bs} (hE0 : EOk ⟨P, T, w0, base⟩) {f : Nat} {fn : Func} {c : Code} (hf : P.funcs[f]? = some fn) (hname : (fn.name == "runtime.NumGoroutine") = false) (hb : fn.body = some c)
 {n:Nat}{rs:List ResultVar}(hnt:fn.ntmps=n) (hrs:fn.results=⟨rs⟩) {args:List AV}(hn:args.length<=n) (kb':Nat) {st:ASt}{dst:Option Nat}{K:ASt->Prop}
 (h:∀w1 F,EOk ⟨P,T,w1,⟨F,base.G,base.loose,base.L⟩⟩->ic ⟨P,T,w1,⟨F,base.G,base.loose,base.L⟩⟩ c (Ih ⟨P,T,w1,⟨F,base.G,base.loose,base.L⟩⟩ rs λav h'=>bQ ⟨st.n,st.kb,st.t,h'⟩ dst av K) ⟨n,kb',uJ 0 args,st.h⟩):ag ⟨P,T,w0,base⟩ f args st dst K:=by
 subst hnt;have hrs':fn.results.toList=rs:=lX;subst hrs';refine⟨⟨fn,hf,hname,kX⟩,λa w hR xs hs hx=>jg hf hb ?_⟩
 let bs:Bs:=⟨λb=>b<w.heap.size/\¬st.h.M b,base.G,base.loose,base.L⟩
 obtain⟨Es,HH⟩:=hR.heap;have hE:EOk ⟨P,T,w,bs⟩:=⟨hE0.1,λw' hb=>hE0.2 w' (hR.below.trans ⟨hb.os,hb.tape,hb.output,hb.size,λb hF=>hb.block b ⟨hR.base_le b (.inl hF),λ⟨q,hq⟩=>(HH.low q b hq).1 hF⟩⟩)⟩
 have hR0:Rep w bs ⟨fn.ntmps,kb',uJ 0 args,st.h⟩ { tmps:=xs++Array.replicate (fn.ntmps-xs.size) undef,defers:=[] } w:=by
  exact LF
 refine gT (dD hE c _ _ _ w hR0 (h w _ hE)) ?_
 rintro e a' w' ⟨st',hq,hR'⟩
 obtain⟨E',H'⟩:=hR'.heap;have t:Tr st.h.M w st'.h.M w':=⟨hR'.below.size,λb hb hM=>hR'.below.block b ⟨hb,hM⟩,λb hb ⟨k,hk⟩=>aT λhM=>(H'.low k b hk).1 ⟨hb,hM⟩⟩
 have hRo:Rep w0 base ⟨st.n,st.kb,st.t,st'.h⟩ a w':=by
  refine⟨hR.dfr,hR.size,λi=>(hR.tmp i).tr t,⟨E',H'.obj,H'.inj,λk b hk=>⟨λhF=>?_,(H'.low k b hk).2⟩,H'.elow,H'.einj,H'.em⟩,hR.below.trans ⟨hR'.below.os,hR'.below.tape,hR'.below.output,hR'.below.size,λb hF=>?_⟩,λb hb=>cg (hR.base_le b hb) hR'.below.size⟩
  ·obtain⟨q,hq⟩:=t.mono b (hR.base_le b (.inl hF)) ⟨k,hk⟩
   exact(HH.low q b hq).1 hF
  ·exact LU
 have key:(gP ⟨P,T,w,bs⟩ st' fn.results.toList λl=>match l with | [x]=>bQ ⟨st.n,st.kb,st.t,st'.h⟩ dst x K|l=>bQ ⟨st.n,st.kb,st.t,st'.h⟩ dst (.tup l) K)->a'.defers=[]/\∃v,(results fn a'.tmps).run P w'=.ok v w' /\
  ∃v' av h',Ending.returned v=.returned v'/\K (st.aft dst av h')/\Rep w0 base (st.aft dst av h') (a.put dst v') w'/\(base.loose=false->Tr st.h.M w h'.M w')/\VRel w' h'.M av v':=by
  intro hq;obtain⟨vs,l,h1,h2,h3,h4⟩:=gq hE hR' fn.results.toList hq;have h1':(fn.results.toList.mapM (j8 a'.tmps)).run P w'=.ok vs w':=h1
  have hrun:(results fn a'.tmps).run P w'=.ok (if vs.length=1 then vs.getD 0 undef else .tuple vs.toArray) w':=by
   exact zp
  refine⟨hR'.dfr,_,hrun,?_⟩
  have fin:∀(av:AV) (v:Value),VRel w' st'.h.M av v->bQ ⟨st.n,st.kb,st.t,st'.h⟩ dst av K->∃v' av h',Ending.returned v=.returned v'/\K (st.aft dst av h')/\Rep w0 base (st.aft dst av h') (a.put dst v') w'/\(base.loose=false->Tr st.h.M w h'.M w')/\VRel w' h'.M av v':=by
   intro av v hv hK;obtain⟨g1,g2⟩:=hRo.put hv hK;have e:(({ st with h:=st'.h }:ASt).aft dst av st'.h)=st.aft dst av st'.h:=yR;have e2:(⟨st.n,st.kb,st.t,st'.h⟩:ASt).aft dst av st'.h=st.aft dst av st'.h:=e;rw[show(⟨st.n,st.kb,st.t,st'.h⟩:ASt).h=st'.h from rfl,e2]at g1 g2;exact⟨v,av,st'.h,rfl,g1,g2,λ_=>t,hv⟩
  split at h4
  ·rename_i x
   rw[an lZ];exact fin x _ (h3 0 x rfl) h4
  ·rename_i hne
   have hl:¬vs.length=1:=by
    exact Eu
   rw[aq hl];exact fin (.tup l) _ (.tup l vs.toArray lZ (λi av hi=>by simpa using h3 i av hi)) h4
 cases e with
 |normal=>exact key hq
 |ret=>exact key hq
 |_=>exact hq.elim
theorem GQ {P : Program} {T : Nat → Option TI} (hT : ∀ t ti, T t = some ti → TIok P t ti) {w0 : World} {base : Bs} {f : Nat} {fn : Func} {c : Code} (hf : P.funcs[f]? = some fn) (hname : (fn.name == "runtime.NumGoroutine") = false) (hb : fn.body = some c)
 {n:Nat}{rs:List ResultVar}(hnt:fn.ntmps=n) (hrs:fn.results=⟨rs⟩) {args:List AV}(hn:args.length<=n) (kb':Nat) {st:ASt}{dst:Option Nat}{K:ASt->Prop}
 (h:∀w1 F,ic ⟨P,T,w1,⟨F,base.G,base.loose,base.L⟩⟩ c (Ih ⟨P,T,w1,⟨F,base.G,base.loose,base.L⟩⟩ rs λav h'=>bQ ⟨st.n,st.kb,st.t,h'⟩ dst av K) ⟨n,kb',uJ 0 args,st.h⟩)
 (hL:base.L=λ_=>True:=by rfl):ag ⟨P,T,w0,base⟩ f args st dst K:=
 Ch ⟨hT,λ_ _=>DQ⟩ hf hname hb hnt hrs hn kb' (λw1 F _=>h w1 F)
theorem aY.ent{E:Env}{id:Nat}{ops:List Oper}{Q:Exit->ASt->Prop}{st:ASt}(h:Ent E st (aY E id ops Q)):aY E id ops Q st:=by
 intro a w hR;obtain⟨st',hs,hR'⟩:=h a w hR;exact hs a w hR'
theorem aY.open{E:Env}{id:Nat}{ops:List Oper}{Q:Exit->ASt->Prop}{st:ASt}(hFG:∀b,E.base.F b->E.base.G b){k i j k' sz sz':Nat}{H:Hd}{rows srows:List (List CD)}{row:List CD}(hk:st.h.get k=.rows H sz rows true)
 (hi:rows[i]? = some row) (hj:row[j]? = some (.s srows)) (hk':st.h.get k'=.dead) (hz:0<sz') (hr:∀r∈srows,r.length=sz') (hq:st.quiet)
 (h:∀H',aY E id ops Q { st with h:=(k',.rows H' sz' srows true)::(k,.rows H sz (lK rows i j (.h k' H' sz' srows.length)) true)::st.h }) (h7:k'<70000:=by first|decide|omega|assumption):aY E id ops Q st:=
 aY.ent (Ent.open hFG hk hi hj hk' hz hr hq (λH'=>Ent.refl (h H')) h7)
theorem dI {P : Program} {T : Nat → Option TI} (hT : ∀ t ti, T t = some ti → TIok P t ti) {w0 : World} {base : Bs} {f : Nat} {fn : Func} {c : Code} (hf : P.funcs[f]? = some fn) (hname : (fn.name == "runtime.NumGoroutine") = false) (hb : fn.body = some c)
 {n:Nat}{rs:List ResultVar}(hnt:fn.ntmps=n) (hrs:fn.results=⟨rs⟩) {args:List AV}(hn:args.length<=n) (kb':Nat) {st:ASt}{dst:Option Nat}{K:ASt->Prop}(hl:base.loose=true) (hq:qT st.t=true)
 (h:ic ⟨P,T,w0,base⟩ c (Ih ⟨P,T,w0,base⟩ rs λav h'=>bQ ⟨st.n,st.kb,st.t,h'⟩ dst av K) ⟨n,kb',uJ 0 args,st.h⟩)
 (hL:base.L=λ_=>True:=by rfl):ag ⟨P,T,w0,base⟩ f args st dst K:=by
 subst hnt;have hrs':fn.results.toList=rs:=lX;subst hrs';have hE:EOk ⟨P,T,w0,base⟩:=⟨hT,λ_ _=>DQ⟩;refine⟨⟨fn,hf,hname,kX⟩,λa w hR xs hs hx=>jg hf hb ?_⟩
 have hR0:Rep w0 base ⟨fn.ntmps,kb',uJ 0 args,st.h⟩ { tmps:=xs++Array.replicate (fn.ntmps-xs.size) undef,defers:=[] } w:=by
  refine⟨rfl,aN,λi=>?_,hR.heap,hR.below,hR.base_le⟩;exact Oy
 refine gT (dD hE c _ _ _ w hR0 h) ?_
 rintro e a' w' ⟨st',hq',hR'⟩
 have hRo:Rep w0 base ⟨st.n,st.kb,st.t,st'.h⟩ a w':=⟨hR.dfr,hR.size,λi=>(hR.tmp i).quiet (Fw _ hq i),hR'.heap,hR'.below,hR'.base_le⟩
 have key:(gP ⟨P,T,w0,base⟩ st' fn.results.toList λl=>match l with | [x]=>bQ ⟨st.n,st.kb,st.t,st'.h⟩ dst x K|l=>bQ ⟨st.n,st.kb,st.t,st'.h⟩ dst (.tup l) K)->a'.defers=[]/\∃v,(results fn a'.tmps).run P w'=.ok v w' /\
  ∃v' av h',Ending.returned v=.returned v'/\K (st.aft dst av h')/\Rep w0 base (st.aft dst av h') (a.put dst v') w'/\(base.loose=false->Tr st.h.M w h'.M w')/\VRel w' h'.M av v':=by
  intro hq;obtain⟨vs,l,h1,h2,h3,h4⟩:=gq hE hR' fn.results.toList hq;have h1':(fn.results.toList.mapM (j8 a'.tmps)).run P w'=.ok vs w':=h1
  have hrun:(results fn a'.tmps).run P w'=.ok (if vs.length=1 then vs.getD 0 undef else .tuple vs.toArray) w':=by
   exact zp
  refine⟨hR'.dfr,_,hrun,?_⟩
  have fin:∀(av:AV) (v:Value),VRel w' st'.h.M av v->bQ ⟨st.n,st.kb,st.t,st'.h⟩ dst av K->∃v' av h',Ending.returned v=.returned v'/\K (st.aft dst av h')/\Rep w0 base (st.aft dst av h') (a.put dst v') w'/\(base.loose=false->Tr st.h.M w h'.M w')/\VRel w' h'.M av v':=by
   intro av v hv hK;obtain⟨g1,g2⟩:=hRo.put hv hK;have e2:(⟨st.n,st.kb,st.t,st'.h⟩:ASt).aft dst av st'.h=st.aft dst av st'.h:=yR;rw[show(⟨st.n,st.kb,st.t,st'.h⟩:ASt).h=st'.h from rfl,e2]at g1 g2;exact⟨v,av,st'.h,rfl,g1,g2,λhf=>absurd (hl.symm.trans hf) ah,hv⟩
  split at h4
  ·rename_i x
   rw[an lZ];exact fin x _ (h3 0 x rfl) h4
  ·rename_i hne
   have hl:¬vs.length=1:=by
    exact Eu
   rw[aq hl];exact fin (.tup l) _ (.tup l vs.toArray lZ (λi av hi=>by simpa using h3 i av hi)) h4
 cases e with
 |normal=>exact key hq'
 |ret=>exact key hq'
 |_=>exact hq'.elim
theorem adM{E:Env}{rs:List ResultVar}{R:AV->AH->Prop}{st:ASt}:Ih E rs R .normal st=gP E st rs λl=>match l with | [x]=>R x st.h|l=>R (.tup l) st.h:=(rfl)
theorem adL{E:Env}{rs:List ResultVar}{R:AV->AH->Prop}{st:ASt}:Ih E rs R .ret st=gP E st rs λl=>match l with | [x]=>R x st.h|l=>R (.tup l) st.h:=(rfl)
theorem aew{E:Env}{st:ASt}{K:ASt->Prop}{d:Option Nat}{t:TypeId}{p:String}{af:Array Edge}{g:Option (Nat×Bool)}{f:Nat}{l:List Operand} :
 aOp E ⟨d,.makeFunc (.func f) #[] ⟨l⟩,t,p,af,g⟩ st K=bQ st d (.clo f (l.map st.ev)) K:=by
 simp[aOp,xY]
theorem adv{k b c:Nat}{F:AV->Prop}:yA (.p k b c) F=F (.p k b c):=(rfl)
theorem adw{k sz r c:Nat}{H:Hd}{F:AV->Prop}:yA (.e k H sz r c) F=F (.e k H sz r c):=(rfl)
theorem aaB{row:List CD}{F:AV->Prop}:yA (.rp row) F=F (.rp row):=(rfl)
theorem Wz{f:Nat}{l:List AV}{F:AV->Prop}:yA (.clo f l) F=F (.clo f l):=(rfl)
attribute [simp ↓] aew adv adw aaB Wz adM adL
attribute [simp] uJ
def svT(t:List (Nat×AV))(F:List (Nat×AV)->Prop):Prop:=F t
@[congr] theorem af8 {t t':List (Nat×AV)} {F:List (Nat×AV)->Prop} (h:t=t'):svT t F=svT t' F:=eK
theorem V2{F:List (Nat×AV)->Prop}:svT [] F=F []:=(rfl)
theorem SM{p:Nat×AV}{t:List (Nat×AV)}{F:List (Nat×AV)->Prop}:svT (p::t) F=svT t λt'=>F (p::t'):=(rfl)
def PZ(o:Oper)(G:List Nat):PV->PV
 | []=>[]
 |p::l=>bif da o p.1 && !G.contains p.1 then p::PZ o G l else PZ o G l
def PY(o:Oper)(G:List Nat):PV->PV
 | []=>[]
 |p::l=>bif !da o p.1 && !G.contains p.1 then p::PY o G l else PY o G l
def PX(G:List Nat):PV->PV
 | []=>[]
 |p::l=>bif !G.contains p.1 then p::PX G l else PX G l
theorem ON(o:Oper)(G:List Nat):∀pv:PV,pv.filter (λp=>da o p.1 && !G.contains p.1)=PZ o G pv
 | []=>rfl
 |p::l=>by rw[PC,PZ,ON o G l];cases da o p.1 && !G.contains p.1<;>rfl
theorem OM(o:Oper)(G:List Nat):∀pv:PV,pv.filter (λp=>!da o p.1 && !G.contains p.1)=PY o G pv
 | []=>rfl
 |p::l=>by rw[PC,PY,OM o G l];cases !da o p.1 && !G.contains p.1<;>rfl
theorem OL(G:List Nat):∀pv:PV,pv.filter (λp=>!G.contains p.1)=PX G pv
 | []=>rfl
 |p::l=>by rw[PC,PX,OL G l];cases !G.contains p.1<;>rfl
def ixs(pv:PV):List Nat:=pv.map (·.1)
def pick{α:Type}:List Bool->List α->List α
 |true::m,a::l=>a::pick m l
 |false::m,_::l=>pick m l
 |_,_=>[]
theorem CA(o:Oper)(G:List Nat):∀pv:PV,PZ o G pv=pick ((ixs pv).map λi=>da o i && !G.contains i) pv
 | []=>rfl
 | p :: l => by
   simp only[PZ,ixs,bL,CA o G l]
   cases da o p.1 && !G.contains p.1<;>rfl
theorem Cz(o:Oper)(G:List Nat):∀pv:PV,PY o G pv=pick ((ixs pv).map λi=>!da o i && !G.contains i) pv
 | []=>rfl
 | p :: l => by
   simp only[PY,ixs,bL,Cz o G l]
   cases !da o p.1 && !G.contains p.1<;>rfl
theorem Cy(G:List Nat):∀pv:PV,PX G pv=pick ((ixs pv).map λi=>!G.contains i) pv
 | []=>rfl
 | p :: l => by
   simp only[PX,ixs,bL,Cy G l]
   cases !G.contains p.1<;>rfl
def wa(l:List (Oper×Nat×AV))(F:Oper->AV->Prop):Prop:=
 match l with
 | []=>True
 |p::l=>F p.1 p.2.2/\wa l F
theorem Pu{F:Oper->AV->Prop}:∀l:List (Oper×Nat×AV),wa l F=∀p∈l,F p.1 p.2.2
 | []=>by simp[wa]
 |p::l=>by simp[wa,Pu l]
def oK(E:Env)(all:List Oper)(n kb:Nat)(h:AH):List Oper->List (Nat×AV)->List (Oper×Nat×AV)->(List (Nat×AV)->List (Oper×Nat×AV)->Prop)->Prop
 | [],vt,pv,K=>K vt pv
 |o::rest,vt,pv,K=>fG E all o ⟨n,kb,vt,h⟩ λv=>oK E all n kb h rest ((o.dst.getD 0,v)::vt) ((o,o.dst.getD 0,v)::pv) K
def nV(pv:PV):List (Oper×Nat×AV):=pv.map λp=>(p.2.1,p.2.1.dst.getD 0,p.2.2)
theorem pr{α β:Type}(f:α->β):∀(m:List Bool) (l:List α),pick m (l.map f)=(pick m l).map f
 | [],_=>by simp[pick]
 |true::m,[]=>rfl
 |false::m,[]=>rfl
 |true::m,a::l=>by simp[pick,pr f m l]
 |false::m,a::l=>by simp[pick,pr f m l]
theorem Aj{α:Type}{a:α}:∀(m:List Bool) (l:List α),a∈pick m l->a∈l
 | [],_,h=>by simp[pick]at h
 |true::m,[],h=>by simp[pick]at h
 |false::m,[],h=>by simp[pick]at h
 | true :: m, b :: l, h => by
   simp only[pick,aX]at h⊢;exact h.imp id (Aj m l)
 | false :: m, b :: l, h => by
   simp only[pick]at h;exact aC _ (Aj m l h)
theorem Hu:∀(pv:PV),(∀p∈pv,p.2.1.dst.isSome=true)->pvT pv=(nV pv).map λp=>(p.2.1,p.2.2)
 | [],_=>rfl
 | p :: l, h => by
   have h1:=h p (aJ ..);have h2:=Hu l (λq hq=>h q (aC _ hq));obtain⟨i,o,v⟩:=p
   cases hd:o.dst with
   |none=>simp[hd]at h1
   | some d =>
     unfold pvT at h2⊢;simp only[List.filterMap_cons,hd,fQ,h2,nV,bL,lH]
theorem IZ{E:Env}{ops:List Oper}{n kb:Nat}{t:List (Nat×AV)}{h:AH}{K:PV->Prop}{K':List (Nat×AV)->List (Oper×Nat×AV)->Prop}:∀(l:List Nat) (pv:PV),(∀p∈pv,p.2.1=bg ops p.1)->(∀i∈l,(bg ops i).dst.isSome=true) ->
 (∀pv':PV,ixs pv'=l.reverse++ixs pv->(∀p∈pv',p.2.1=bg ops p.1)->K pv'=K' (pvT pv'++t) (nV pv')) ->
 uM E ops ⟨n,kb,t,h⟩ pv (l.map λi=>(i,bg ops i)) K=oK E ops n kb h (l.map (bg ops)) (pvT pv++t) (nV pv) K'
 | [], pv, hp, _, hk => by
   simp only[jP,uM,oK];exact hk pv rfl hp
 | i :: l, pv, hp, hl, hk => by
   obtain⟨d,hd⟩:=mw.1 (hl i (aJ ..));simp only[bL,uM,oK];refine nP _ ?_
   funext v
   have e1:pvT ((i,bg ops i,v)::pv)=((bg ops i).dst.getD 0,v)::pvT pv:=by simp[pvT,hd]
   have e2:nV ((i,bg ops i,v)::pv)=(bg ops i,(bg ops i).dst.getD 0,v)::nV pv:=rfl;rw[IZ l ((i,bg ops i,v)::pv) (λp hp'=>?_) (λj hj=>hl j (aC _ hj)) (λpv' h1 h2=>hk pv' (by rw[h1];simp[ixs]) h2),e1,e2]
   ·rfl
   ·rcases aX.1 hp' with rfl|hp'
    ·rfl
    ·exact hp p hp'
def Kp(n:Nat)(ops:List Oper)(pre:List Nat):Bool:=pre.all λi=>match (bg ops i).dst with|some d=>decide (d<n)|none=>false
section rules
variable {E:Env}{all rest:List Oper}{n kb d:Nat}{t vt:List (Nat×AV)}{h:AH}{pv:List (Oper×Nat×AV)}{K:ASt->Prop}{KP:List (Nat×AV)->List (Oper×Nat×AV)->Prop}{op:Op}{ty:TypeId}{p:String}{af:Array Edge}{D N R:List Bool}{plan:List (List Bool×List Bool)}{o:Oper}{st:ASt}{KV:AV->Prop}
theorem abW:oK E all n kb h [] vt pv KP=KP vt pv:=(rfl)
theorem XX:oK E all n kb h (⟨some d,op,ty,p,af,none⟩::rest) vt pv KP=jf E ⟨n,kb,vt,h⟩ op λv=>oK E all n kb h rest ((d,v)::vt) ((⟨some d,op,ty,p,af,none⟩,d,v)::pv) KP:=(rfl)
theorem Vu{j:Nat}{b:Bool}:oK E all n kb h (⟨some d,op,ty,p,af,some (j,b)⟩::rest) vt pv KP=GC (lE all j) λs=>yz (bM vt s) b (ph (jf E ⟨n,kb,vt,h⟩ op λv=>oK E all n kb h rest ((d,v)::vt) ((⟨some d,op,ty,p,af,some (j,b)⟩,d,v)::pv) KP)) (ph (oK E all n kb h rest ((d,.un)::vt) ((⟨some d,op,ty,p,af,some (j,b)⟩,d,.un)::pv) KP)):=by
 simp only[oK,fG,GC,yz]
 cases lE all j with
 |none=>rfl
 |some s=>rfl
@[congr] theorem afE {l l':List (Oper×Nat×AV)} {F:Oper->AV->Prop} (h:l=l'):wa l F=wa l' F:=eK
theorem U9{F:Oper->AV->Prop}:wa [] F=True:=(rfl)
theorem Ro{o:Oper}{i:Nat}{v:AV}{l:List (Oper×Nat×AV)}{F:Oper->AV->Prop}:wa ((o,i,v)::l) F=(F o v/\wa l F):=(rfl)
theorem PN{dd:Option Nat}:fG E all ⟨dd,op,ty,p,af,none⟩ st KV=jf E st op KV:=(rfl)
theorem aaw:bg (o::rest) 0=o:=(rfl)
theorem aav{i:Nat}:bg (o::rest) (i+1)=bg rest i:=by simp[bg]
theorem aap{α:Type}{m:List Bool}{a:α}{l:List α}:pick (true::m) (a::l)=a::pick m l:=(rfl)
theorem aaq{α:Type}{m:List Bool}{a:α}{l:List α}:pick (false::m) (a::l)=pick m l:=(rfl)
theorem aar{α:Type}{l:List α}:pick [] l=[]:=by cases l<;>rfl
end rules
attribute [simp ↓] abW XX Vu PN aaw aav aap aaq aar
attribute [simp] V2 SM U9 Ro
open Go.RowKit
theorem kR.refl:∀a:AV,kR a a:=by
 intro a
 cases a<;>first|rfl|trivial|exact .inl rfl
theorem ALe.refl:∀l:List AV,ALe l l
 | []=>trivial
 |a::l=>⟨kR.refl a,ALe.refl l⟩
theorem fH.refl:∀o:AObj,fH o o:=by
 intro o
 cases o with
 |dead=>trivial
 |vars b T cells=>exact⟨rfl,rfl,ALe.refl _⟩
 |rows=>exact .inl rfl
 |lent=>rfl
 |part=>rfl
def we(st st':ASt):Prop:=st.n=st'.n/\st.kb=st'.kb/\wkT st.t st'.t/\∀k,fH (st.h.get k) (st'.h.get k)
theorem we.rep{w0:World}{base:Bs}{st st':ASt}{a:Act}{w:World}(h:we st st')(hR:Rep w0 base st a w):Rep w0 base st' a w:=by
 obtain⟨hn,hkb,ht,hob⟩:=h;have ht:∀p∈st'.t,kR (bM st.t p.1) p.2:=by rw[Je];exact ht
 obtain⟨E,H⟩:=hR.heap;exact OE
def O4{β:Type}(Inv:β->Prop)(I:β->ASt)(μ:β->Nat)(x:β)(Q:Exit->ASt->Prop):Exit->ASt->Prop
 | .normal,st=>∃x',Inv x'/\μ x'<μ x/\we st (I x')
 |e,st=>Q e st
theorem wh{E:Env}(hE:EOk E){body:Code}{Q:Exit->ASt->Prop}{st:ASt}{β:Type}(Inv:β->Prop)(I:β->ASt)(μ:β->Nat)(x0:β)(h0:Inv x0)(hw:we st (I x0))
 (hr:∀x,Inv x->ic E body (O4 Inv I μ x Q) (I x)):aV E body Q st:=by
 intro a w hR;refine wp_loop_ghost (λn a w=>∃x,Inv x/\μ x=n/\Rep E.w0 E.base (I x) a w) (μ x0) ⟨x0,h0,rfl,hw.rep hR⟩ ?_
 rintro n a w ⟨x,hx,rfl,hR⟩
 refine gT (dD hE body _ _ a w hR (hr x hx)) ?_
 rintro e a' w' ⟨st',hq,hR'⟩
 cases e with
 | normal =>
   exact LP
 |_=>exact⟨st',hq,hR'⟩
theorem WJ{β:Type}{Inv:β->Prop}{I:β->ASt}{μ:β->Nat}{x:β}{st:ASt}{Q:Exit->ASt->Prop}:O4 Inv I μ x Q .normal st=∃x',Inv x'/\μ x'<μ x/\we st (I x'):=(rfl)
theorem WI{β:Type}{Inv:β->Prop}{I:β->ASt}{μ:β->Nat}{x:β}{st:ASt}{Q:Exit->ASt->Prop}:O4 Inv I μ x Q .ret st=Q .ret st:=(rfl)
theorem WK{β:Type}{Inv:β->Prop}{I:β->ASt}{μ:β->Nat}{x:β}{st:ASt}{Q:Exit->ASt->Prop}{l:Nat}:O4 Inv I μ x Q (.exit l) st=Q (.exit l) st:=(rfl)
attribute [simp ↓] WJ WI WK
def se(base:Bs)(h h':AH):Prop:=∀w E,HRel base h w E->∃E',HRel base h' w E'/\Tr h.M w h'.M w
theorem se.refl{base:Bs}(h:AH):se base h h:=λ_ E H=>⟨E,H,Tr.refl _ _⟩
theorem se.trans{base:Bs}{h h' h'':AH}(a:se base h h')(b:se base h' h''):se base h h'':=λw E H=>by
 obtain⟨E1,H1,t1⟩:=a w E H;obtain⟨E2,H2,t2⟩:=b w E1 H1;exact⟨E2,H2,t1.trans t2⟩
theorem se.ent{E:Env}{st:ASt}{S:ASt->Prop}{h':AH}(he:se E.base st.h h')(h:Ent E { st with h:=h' } S):Ent E st S:=by
 intro a w hR;obtain⟨Es,HH⟩:=hR.heap;obtain⟨E',H',t⟩:=he w Es HH;exact h a w (hR.move H' t ⟨rfl,rfl,rfl⟩).rep
theorem I8{base:Bs}{h:AH}{kx b:Nat}{T:TypeId}{cells:List AV}{j k sz off len:Nat}{H:Hd}{rows:List (List CD)}{own:Bool}(hx:h.get kx=.vars b T cells)(hj:cells[j]? = some (.sl k H sz off len))
 (hk:h.get k=.rows H sz rows own) (hl:off+len<=rows.length):se base h ((kx,.vars b T (cells.set j (.ro (cut rows off len))))::(k,.dead)::h):=by
 intro w Es HH;have hne:kx≠k:=by rintro rfl;rw[hx]at hk;cases hk
 have ho:=HH.obj kx;rw[hx]at ho;obtain⟨cs,hb,hs,hv⟩:=ho;obtain⟨d,h',o,E',S',⟨rfl,rfl⟩,FR⟩:=uO HH (hv j _ hj) (K:=λd h' _=>d=.s (cut rows off len)/\h'=(k,.dead)::h) (by rw[abt,hk];exact⟨rfl,rfl,hl,rfl,rfl⟩);have hg:AH.get ((k,AObj.dead)::h) kx=.vars b T cells:=by rw[bH,aq hne,hx]
 have hMM:∀c,AH.M ((kx,AObj.vars b T (cells.set j (.ro (cut rows off len))))::(k,.dead)::h) c->AH.M ((k,.dead)::h) c:=by
  intro c hc;rcases qC.1 hc with h1|⟨q,_,hq⟩
  ·exact⟨kx,by rw[hg];exact h1⟩
  ·exact⟨q,hq⟩
 have hblk:∀c,(AObj.vars b T (cells.set j (.ro (cut rows off len)))).blk=some c->w.heap.size<=c\/(AH.get ((k,AObj.dead)::h) kx).blk=some c:=λc hc=>.inr (by rw[hg];exact hc)
 have t2:=Tr.upd FR.rel (k:=kx) (o':=.vars b T (cells.set j (.ro (cut rows off len)))) (aH _) (λ_ _ _=>rfl) hblk;have t:=FR.tr.trans t2;refine⟨_,FR.rel.upd (k:=kx) (o':=.vars b T (cells.set j (.ro (cut rows off len)))) (Ek:=λ_=>False) (aH _) (λ_ _ _=>rfl) (λc hc=>⟨HH.low kx c (by rw[hx];exact hc),hblk c hc⟩) ?_ (λ_ hc=>hc.elim),t⟩;refine⟨cs,hb,by simp[hs],λi av hi=>?_⟩;rw[eQ]at hi;by_cases hij:j=i
 ·subst hij
  rw[an rfl]at hi
  split at hi
  ·simp at hi
   subst hi;refine .ro _ _ (Rd.map FR.rd.weaken (λ_ _ _=>rfl) (λc hc _ hM=>FR.off c hc (hMM c hM)))
  ·simp at hi
 ·rw[aq hij]at hi
  exact(hv i av hi).tr t
theorem BB {P : Program} {T : Nat → Option TI} {w0 : World} {base : Bs} (hE0 : EOk ⟨P, T, w0, base⟩) {f : Nat} {fn : Func} {c : Code} (hf : P.funcs[f]? = some fn) (hname : (fn.name == "runtime.NumGoroutine") = false) (hb : fn.body = some c)
 {n:Nat}{rs:List ResultVar}(hnt:fn.ntmps=n) (hrs:fn.results=⟨rs⟩) {args:List AV}(hn:args.length<=n) (kb':Nat) {st:ASt}{dst:Option Nat}{K:ASt->Prop}
 (h:∀w1 F,EOk ⟨P,T,w1,⟨F,base.G,base.loose,base.L⟩⟩->ic ⟨P,T,w1,⟨F,base.G,base.loose,base.L⟩⟩ c (Ih ⟨P,T,w1,⟨F,base.G,base.loose,base.L⟩⟩ rs λav h'=>∃h'',se base h' h''/\bQ ⟨st.n,st.kb,st.t,h''⟩ dst av K) ⟨n,kb',uJ 0 args,st.h⟩):ag ⟨P,T,w0,base⟩ f args st dst K:=by
 subst hnt;have hrs':fn.results.toList=rs:=lX;subst hrs';refine⟨⟨fn,hf,hname,kX⟩,λa w hR xs hs hx=>jg hf hb ?_⟩
 let bs:Bs:=⟨λb=>b<w.heap.size/\¬st.h.M b,base.G,base.loose,base.L⟩
 obtain⟨Es,HH⟩:=hR.heap;have hE:EOk ⟨P,T,w,bs⟩:=⟨hE0.1,λw' hb=>hE0.2 w' (hR.below.trans ⟨hb.os,hb.tape,hb.output,hb.size,λb hF=>hb.block b ⟨hR.base_le b (.inl hF),λ⟨q,hq⟩=>(HH.low q b hq).1 hF⟩⟩)⟩
 have hR0:Rep w bs ⟨fn.ntmps,kb',uJ 0 args,st.h⟩ { tmps:=xs++Array.replicate (fn.ntmps-xs.size) undef,defers:=[] } w:=by
  exact LF
 refine gT (dD hE c _ _ _ w hR0 (h w _ hE)) ?_
 rintro e a' w' ⟨st',hq,hR'⟩
 obtain⟨E',H'⟩:=hR'.heap;have t:Tr st.h.M w st'.h.M w':=⟨hR'.below.size,λb hb hM=>hR'.below.block b ⟨hb,hM⟩,λb hb ⟨k,hk⟩=>aT λhM=>(H'.low k b hk).1 ⟨hb,hM⟩⟩
 have HB:HRel base st'.h w' E':=⟨H'.obj,H'.inj,λk b hk=>⟨λhF=>by
  obtain⟨q,hq⟩:=t.mono b (hR.base_le b (.inl hF)) ⟨k,hk⟩;exact(HH.low q b hq).1 hF,(H'.low k b hk).2⟩,H'.elow,H'.einj,H'.em⟩
 have key:(gP ⟨P,T,w,bs⟩ st' fn.results.toList λl=>match l with | [x]=>∃h'',se base st'.h h''/\bQ ⟨st.n,st.kb,st.t,h''⟩ dst x K|l=>∃h'',se base st'.h h''/\bQ ⟨st.n,st.kb,st.t,h''⟩ dst (.tup l) K)->a'.defers=[]/\∃v,(results fn a'.tmps).run P w'=.ok v w' /\
  ∃v' av h',Ending.returned v=.returned v'/\K (st.aft dst av h')/\Rep w0 base (st.aft dst av h') (a.put dst v') w'/\(base.loose=false->Tr st.h.M w h'.M w')/\VRel w' h'.M av v':=by
  intro hq;obtain⟨vs,l,h1,h2,h3,h4⟩:=gq hE hR' fn.results.toList hq;have h1':(fn.results.toList.mapM (j8 a'.tmps)).run P w'=.ok vs w':=h1
  have hrun:(results fn a'.tmps).run P w'=.ok (if vs.length=1 then vs.getD 0 undef else .tuple vs.toArray) w':=by
   exact zp
  refine⟨hR'.dfr,_,hrun,?_⟩
  have fin:∀(av:AV) (v:Value),VRel w' st'.h.M av v->(∃h'',se base st'.h h''/\bQ ⟨st.n,st.kb,st.t,h''⟩ dst av K)->∃v' av h',Ending.returned v=.returned v'/\K (st.aft dst av h')/\Rep w0 base (st.aft dst av h') (a.put dst v') w'/\(base.loose=false->Tr st.h.M w h'.M w')/\VRel w' h'.M av v':=by
   rintro av v hv ⟨h'',he,hK⟩
   obtain⟨E2,H2,t2⟩:=he w' E' HB;have tt2:=t.trans t2
   have hRo:Rep w0 base ⟨st.n,st.kb,st.t,h''⟩ a w':=by
    refine⟨hR.dfr,hR.size,λi=>(hR.tmp i).tr tt2,⟨E2,H2⟩,hR.below.trans ⟨hR'.below.os,hR'.below.tape,hR'.below.output,hR'.below.size,λb hF=>?_⟩,λb hb=>cg (hR.base_le b hb) hR'.below.size⟩;exact LU
   obtain⟨g1,g2⟩:=hRo.put (hv.tr t2) hK;have e2:(⟨st.n,st.kb,st.t,h''⟩:ASt).aft dst av h''=st.aft dst av h'':=yR;rw[show(⟨st.n,st.kb,st.t,h''⟩:ASt).h=h'' from rfl,e2]at g1 g2;exact⟨v,av,h'',rfl,g1,g2,λ_=>tt2,hv.tr t2⟩
  split at h4
  ·rename_i x
   rw[an lZ];exact fin x _ (h3 0 x rfl) h4
  ·rename_i hne
   have hl:¬vs.length=1:=by
    exact Eu
   rw[aq hl];exact fin (.tup l) _ (.tup l vs.toArray lZ (λi av hi=>by simpa using h3 i av hi)) h4
 cases e with
 |normal=>exact key hq
 |ret=>exact key hq
 |_=>exact hq.elim
theorem Ci {P : Program} {T : Nat → Option TI} (hT : ∀ t ti, T t = some ti → TIok P t ti) {w0 : World} {base : Bs} {f : Nat} {fn : Func} {c : Code} (hf : P.funcs[f]? = some fn) (hname : (fn.name == "runtime.NumGoroutine") = false) (hb : fn.body = some c)
 {n:Nat}{rs:List ResultVar}(hnt:fn.ntmps=n) (hrs:fn.results=⟨rs⟩) {args:List AV}(hn:args.length<=n) (kb':Nat) {st:ASt}{dst:Option Nat}{K:ASt->Prop}
 (h:∀w1 F,ic ⟨P,T,w1,⟨F,base.G,base.loose,base.L⟩⟩ c (Ih ⟨P,T,w1,⟨F,base.G,base.loose,base.L⟩⟩ rs λav h'=>∃h'',se base h' h''/\bQ ⟨st.n,st.kb,st.t,h''⟩ dst av K) ⟨n,kb',uJ 0 args,st.h⟩)
 (hL:base.L=λ_=>True:=by rfl):ag ⟨P,T,w0,base⟩ f args st dst K:=
 BB ⟨hT,λ_ _=>DQ⟩ hf hname hb hnt hrs hn kb' (λw1 F _=>h w1 F)
def Ae(all:List Oper)(rem:List Nat)(i:Nat):Bool:=rem.all λr=>!da (bg all i) r
theorem aY.cut{E:Env}{id:Nat}{ops:List Oper}{Q:Exit->ASt->Prop}{st:ASt}{β:Type}(I:β->ASt)
 (h:aY E id ops (λe st'=>e=.normal/\∃x,we st' (I x)) st) (hK:∀x,Q .normal (I x)):aY E id ops Q st:=by
 intro a w hR;refine gT (h a w hR) ?_
 rintro e a' w' ⟨st',⟨rfl,x,hx⟩,hR'⟩
 exact⟨I x,hK x,hx.rep hR'⟩
def yt(h h':AH)(ks:List Nat):Prop:=∀q,q∉ks->fH (h.get q) (h'.get q)
theorem RM{n kb n' kb':Nat}{t t':List (Nat×AV)}{h h':AH}:we ⟨n,kb,t,h⟩ ⟨n',kb',t',h'⟩=(n=n'/\kb=kb'/\wkT t t'/\yt h h' []):=by
 simp[we,yt]
theorem aaR{h h':AH}{k:Nat}{o:AObj}{ks:List Nat}(hk:k∉ks):yt h ((k,o)::h') ks=(fH (h.get k) o/\yt h h' (k::ks)):=by
 apply propext
 constructor
 ·intro hl
  refine⟨by have:=hl k hk;rwa[bH,an rfl]at this,λq hq=>?_⟩;simp only[aX,not_or]at hq;have:=hl q hq.2
  rwa[bH,aq hq.1]at this
 ·rintro⟨h1,h2⟩ q hq
  rw[bH]
  split
  ·rename_i e;subst e;exact h1
  ·rename_i e;exact h2 q (by simp[e,hq])
theorem WR{h h':AH}{k:Nat}{o:AObj}{ks:List Nat}(hk:k∈ks):yt h ((k,o)::h') ks=yt h h' ks:=by
 exact NH
theorem aaS{h h':AH}{k:Nat}{o:AObj}{ks:List Nat}(hk:k∈ks):yt ((k,o)::h) h' ks=yt h h' ks:=by
 exact NH
theorem Qu{h:AH}{ks:List Nat}:yt h h ks=True:=by
 simp only[yi,iff_true];exact λq _=>fH.refl _
attribute [simp] RM Qu
attribute [simp] aaR WR aaS
theorem abq{k k':IntKind}{a b:Int}{F:AV->Prop}:Cb (.v (.int k a)) (.v (.int k' b)) F=F (.v (.int k (if b<a then b else a))):=(rfl)
theorem Vc{k k':IntKind}{a b:Int}{F:AV->Prop}:I0 (.v (.int k a)) (.v (.int k' b)) F=F (.v (.int k (if a<b then b else a))):=(rfl)
theorem KE{k k':IntKind}{a b:Nat}{F:AV->Prop}:Cb (.v (.int k a)) (.v (.int k' b)) F=F (.v (.int k ((min a b:Nat):Int))):=by
 rw[abq];have:(if(b:Int)<(a:Int)then(b:Int)else(a:Int))=((min a b:Nat):Int):=by split<;>omega
 rw[this]
inductive OT where
 |leaf (R:List Bool)
 |stop
 |child (i:Nat) (D N:List Bool) (sub next:OT)
theorem wY{rem:List Nat}{i n:Nat}(h:i∈rem)(hn:rem.length<=n):(rem.filter (· != i)).length<=n-1:=by
 have:(rem.filter (· != i)).length<rem.length:=by
  rw[BC];exact⟨i,h,ab⟩
 omega
section rules
variable {E:Env}{all:List Oper}{n kb:Nat}{vt:List (Nat×AV)}{pv:List (Oper×Nat×AV)}{K:ASt->Prop}{st:ASt}{R D N:List Bool}{i:Nat}{sub next:OT}
end rules
open Go.RowKit
def FJ(o:Oper):Bool:=o.guard.isNone&&o.dst.isSome&&match o.op with
 | .move _=>true
 | .assign _=>true
 | .extract _ _=>true
 |_=>false
def ad6(all:List Oper)(i:Nat):Bool:=(List.range all.length).all λj=>j==i || da (bg all j) i || da (bg all i) j || (bg all i).apart all.toArray (bg all j)
def Is(all:List Oper)(pre tail rem:List Nat)(i:Nat):Bool:=
 Ae all rem i&&FJ (bg all i)&&ad6 all i&&pre.all (λk=>!da (bg all i) k || tail.any λt=>!rem.contains t&&da (bg all t) k)
def qN(all:List Oper)(pre tail rem:List Nat):List Nat:=
 match rem.find? (Is all pre tail rem)with
 |some i=>[i]
 |none=>rem.filter (Ae all rem)
theorem HS{E:Env}(_hE:EOk E){st:ASt}{a:Act}{w:World}(hR:Rep E.w0 E.base st a w){o:Oper}(hl:FJ o=true){K:ASt->Prop}(h:aOp E o st K) :
 ∃v,(∀w,(execOp a.eval o).run E.P w=.ok (.value v) w)/\qU E.w0 E.base st a w o.dst v w K:=by
 have hv:=λx=>VRel.ev hR x
 have put:∀{r:Value}{av:AV},VRel w st.h.M av r->bQ st o.dst av K->qU E.w0 E.base st a w o.dst r w K:=by
  intro r av h1 h2;obtain⟨h3,h4⟩:=hR.put h1 h2;exact⟨_,_,h3,h4,λ_=>Tr.refl _ _,h1⟩
 unfold FJ at hl;simp only[aI]at hl;obtain⟨-,hl⟩:=hl;unfold aOp at h
 split at hl
 ·rename_i x ho
  rw[ho]at h;exact⟨_,λw=>by simp[execOp,ho],put (hv x) h⟩
 ·rename_i x ho
  rw[ho]at h;exact⟨_,λw=>by simp[execOp,ho],put (hv x) h⟩
 ·rename_i x i ho
  rw[ho]at h;have h:gu (st.ev x) i λv=>bQ st o.dst v K:=h
  have hx:=hv x;unfold gu at h
  split at h
  ·rename_i l hg
   rw[hg]at hx;generalize hu:a.eval x=u at hx
   cases hx with
   | tup l xs hs hl =>
     split at h
     ·rename_i v hv'
      have hlt:i<xs.size:=by rw[hs];exact(au.1 hv').1
      refine⟨xs.getD i undef,λw=>?_,put (hl i v hv') h⟩;simp[execOp,ho,hu,Instr.extract,hlt]
     ·exact cM
  ·exact h.elim
 ·cases hl
def leT(t:List (Nat×AV)):List (Nat×AV)->List Nat->Prop
 | [],_=>True
 |(i,v)::l,ks=>(i∈ks\/kR (bM t i) v)/\leT t l (i::ks)
theorem O9{t:List (Nat×AV)}:∀(l:List (Nat×AV)) (ks:List Nat),leT t l ks->∀i,i∉ks->kR (bM t i) (bM l i)
 | [],_,_,i,_=>trivial
 | (j, v) :: l, ks, h, i, hi => by
   by_cases e:i=j
   ·subst e
    rw[Vy];exact h.1.resolve_left hi
   ·rw[KS e]
    exact O9 l (j::ks) h.2 i (by simp[e,hi])
def I7(st st':ASt):Prop:=st.n=st'.n/\st.kb=st'.kb/\leT st.t st'.t []/\∀k,fH (st.h.get k) (st'.h.get k)
theorem I7.rep{w0:World}{base:Bs}{st st':ASt}{a:Act}{w:World}(h:I7 st st')(hR:Rep w0 base st a w):Rep w0 base st' a w:=by
 have key:∀i,Rep w0 base ⟨st'.n,st'.kb,[(i,bM st'.t i)],st'.h⟩ a w:=λi=>we.rep ⟨h.1,h.2.1,⟨O9 _ _ h.2.2.1 i ab,trivial⟩,h.2.2.2⟩ hR
 exact⟨(key 0).dfr,(key 0).size,λi=>by have:=(key i).tmp i;simpa[bM]using this,(key 0).heap,(key 0).below,(key 0).base_le⟩
theorem WQ{t:List (Nat×AV)}{ks:List Nat}:leT t [] ks=True:=(rfl)
theorem TC{t l:List (Nat×AV)}{ks:List Nat}{i:Nat}{v:AV}:leT t ((i,v)::l) ks=((i∈ks\/kR (bM t i) v)/\leT t l (i::ks)):=(rfl)
theorem RL{n kb n' kb':Nat}{t t':List (Nat×AV)}{h h':AH}:I7 ⟨n,kb,t,h⟩ ⟨n',kb',t',h'⟩=(n=n'/\kb=kb'/\leT t t' []/\yt h h' []):=by
 simp[I7,yt]
theorem TD{h:AH}{ks:List Nat}:yt h [] ks=True:=by
 simp only[yi,iff_true];exact λq _=>trivial
def PW(t:List (Nat×AV)):List Nat->List (Nat×AV)
 | []=>[]
 |s::l=>(s,bM t s)::PW t l
theorem SS{t:List (Nat×AV)}:PW t []=[]:=(rfl)
theorem PU{t:List (Nat×AV)}{s:Nat}{l:List Nat}:PW t (s::l)=(s,bM t s)::PW t l:=(rfl)
attribute [simp] WQ TC RL TD SS PU
theorem dS{E:Env}{id:Nat}{ops:List Oper}{Q:Exit->ASt->Prop}{n kb:Nat}{t:List (Nat×AV)}{h:AH}{β:Type}(I:β->List (Nat×AV))(J:β->AH)(keep:List Nat)
 (h1:aY E id ops (λe st'=>e=.normal/\∃x,I7 st' ⟨n,kb,I x++PW t keep,J x++h⟩) ⟨n,kb,t,h⟩) (hK:∀x,Q .normal ⟨n,kb,I x++PW t keep,J x++h⟩):aY E id ops Q ⟨n,kb,t,h⟩:=by
 intro a w hR;refine gT (h1 a w hR) ?_
 rintro e a' w' ⟨st',⟨rfl,x,hx⟩,hR'⟩
 exact⟨_,hK x,hx.rep hR'⟩
@[simp] theorem ace {all:List Oper} {pre tail:List Nat}:qN all pre tail []=[]:=(rfl)
theorem Vz{E:Env}{st:ASt}{S:ASt->Prop}(s k:Nat){sz off len:Nat}{H:Hd}{rows:List (List CD)}{own:Bool}(hs:bM st.t s=.sl k H sz off len)(hk:st.h.get k=.rows H sz rows own)(hl:off+len<=rows.length)
 (h:Ent E { st with t:=(s,.ro (cut rows off len))::st.t,h:=(k,.dead)::st.h } S):Ent E st S:=by
 intro a w hR;obtain⟨Es,HH⟩:=hR.heap;have hv:=hR.tmp s;rw[hs]at hv;obtain⟨d,h',o,E',S',⟨rfl,rfl⟩,FR⟩:=uO HH hv (K:=λd h' _=>d=.s (cut rows off len)/\h'=(k,.dead)::st.h) (by rw[abt,hk];exact⟨rfl,rfl,hl,rfl,rfl⟩);have m:=(hR.move FR.rel FR.tr ⟨rfl,rfl,rfl⟩).rep;refine h a w ⟨m.dfr,m.size,λi=>?_,m.heap,m.below,m.base_le⟩
 show VRel w _ (bM ((s,.ro _)::st.t) i) _
 by_cases hi:i=s
 ·subst hi
  rw[Vy];exact .ro _ _ (Rd.map FR.rd.weaken (λ_ _ _=>rfl) (λc hc _ hM=>FR.off c hc hM))
 ·rw[KS hi]
  exact m.tmp i
theorem abr{P:Program}{T:Nat->Option TI}{w0:World}{base:Bs}{t:Nat}{s:ByteArray}{k:IntKind}{i:Nat}{F:AV->Prop} :
 I3 ⟨P,T,w0,base⟩ t (.v (.string s)) (.v (.int k (i:Int))) F=(Env.isStr ⟨P,T,w0,base⟩ t/\∃h:i<s.size,F (.v (.int .u8 (s[i]'h).toNat))):=by
 simp[I3]
attribute [simp ↓] abr
end Go.AM
