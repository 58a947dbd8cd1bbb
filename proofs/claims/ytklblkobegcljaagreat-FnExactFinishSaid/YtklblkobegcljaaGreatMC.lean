import Derived.Test.YtklblkobegcljaaGreatMB
import Derived.Deep.LoopGhost
namespace Go.AM
open Go.RowKit
theorem Jx{w:World}{x:Bool}{S:Nat->Prop}{u:Value}{d:CD}(h:Rd w x S u d):u.oneCell'=true:=by
 cases h with
 |plain hp=>exact CF hp
 |h k H sz len u h he=>obtain⟨a,c,rfl⟩:=(Rd.h (w:=w) (x:=x) (S:=S) k H sz len u h he).mlv.slice;rfl
 |empty=>rfl
 |slice=>rfl
theorem mA{P:Program}{w:World}{t ty e:TypeId}{i:TypeInfo}(hu:P.underlying t=some (.slice e))(hi:P.info? e=some i)(ad a:Option Addr)(n C c:Nat)(hn:n<=C) :
 (Builtin.append_ #[t,t] ty #[.slice ad n C,.slice a 0 c]).run P w=.ok (.slice ad n C) w:=by
 cases ad<;>cases a<;>simp[Builtin.append_,bj hu,eh hi,Builtin.lenOf,hn,Builtin.firstCells,loadCells,loadCellsFrom,storeCells]
structure NewsAt(w:World)(u:Value)(m sz:Nat)(vs:List Value):Prop where
 len:vs.length=m*sz
 shape:(m=0/\∃a c,u=.slice a 0 c)\/∃a c,0<m/\u=.slice (some a) m c/\∀j v,vs[j]? = some v->w.cell? (a.add j)=some v
 one:∀v∈vs,v.oneCell'=true
theorem As{w:World}{x:Bool}{S:Nat->Prop}{u:Value}{rows:List (List CD)}(h:Rd w x S u (.s rows)){sz:Nat}(hsz:∀row∈rows,row.length=sz) :
 ∃ (vs : List Value) (F : Nat -> Nat -> Nat -> Prop), NewsAt w u rows.length sz vs /\ (∀ i j c, F i j c -> S c) /\ (x = true -> ∀ i j i' j' c, F i j c -> F i' j' c -> i = i' /\ j = j') /\
   ∀i j row d,rows[i]? = some row->row[j]? = some d->Rd w x (F i j) (vs.getD (i*sz+j) undef) d:=by
 cases h with
 |empty a cap=>exact⟨[],λ_ _ _=>False,⟨ab,.inl ⟨rfl,a,cap,rfl⟩,ab⟩,λ_ _ _ hc=>hc.elim,λ_ _ _ _ _ _ hc=>hc.elim,λi j row d hi=>oc⟩
 | slice b off cap sz' cs T fr rows F hcap hmax hsz' hS hb hfit hown hF hd hlen hr =>
   by_cases hm:rows.length=0
   ·have:rows=[]:=aA hm
    subst this;exact⟨[],λ_ _ _=>False,⟨ab,.inl ⟨rfl,_,cap,rfl⟩,ab⟩,λ_ _ _ hc=>hc.elim,λ_ _ _ _ _ _ hc=>hc.elim,λi j row d hi=>oc⟩
   ·have h0:rows[0]' aa∈rows:=ak _
    have e:sz'=sz:=by rw[<-hlen _ h0,hsz _ h0]
    subst e
    have hget:∀k,k<rows.length*sz'->((List.range (rows.length*sz')).map λj=>cs.getD (off+j) undef).getD k undef=cs.getD (off+k) undef:=by
     intro k hk;simp[hk]
    refine⟨(List.range (rows.length*sz')).map λj=>cs.getD (off+j) undef,F,⟨ab,.inr ⟨_,cap,aa,rfl,?_⟩,?_⟩,λi j c hc=>(hF i j c hc).1,hd,?_⟩
    ·intro j v hj
     simp only[ch,aU]at hj;obtain⟨k,hk,rfl⟩:=hj;obtain⟨hk1,rfl⟩:=au.1 hk;simp at hk1;rw[fi]
     simpa using tv hb (show off+j<cs.size from aa)
    ·intro v hv
     simp only[cE,fw]at hv;obtain⟨k,hk,rfl⟩:=hv;have hi:k / sz'<rows.length:=(zC hsz').2 hk;have hj:k % sz'<sz':=GU _ hsz';have hrow:=aj hi;have hl:=hlen _ (ak hi);have:=hr (k / sz') (k % sz') _ _ hrow (aj aa);have e:k / sz'*sz'+k % sz'=k:=by rw[Jc];exact RE k sz'
     rw[e]at this;exact Jx this
    ·intro i j row d hi hj
     have hlt:i<rows.length:=(au.1 hi).1;have hjl:j<sz':=by rw[<-hlen _ (aO hi)];exact(au.1 hj).1
     have hk:i*sz'+j<rows.length*sz':=by
      have:=ao sz' (show i+1<=rows.length from aa);have e:(i+1)*sz'=i*sz'+sz':=bD i sz';omega
     rw[hget _ hk];exact hr i j row d hi hj
theorem Ho{w:World}{x:Bool}{S:Nat->Prop}{u:Value}{d:CD}(h:Rd w x S u d)(hv:isV d=true)(y:Bool):Rd w y (λ_=>False) u d:=by
 cases h with
 |plain hp=>exact .plain hp
 |h=>simp[isV]at hv
 |empty=>simp[isV]at hv
 |slice=>simp[isV]at hv
theorem fv.as_part{w:World}{M E:Nat->Prop}{H:Hd}{sz:Nat}{rows:List (List CD)}(h:fv w M E (.rows H sz rows true)):fv w M E (.part H sz rows 0):=by
 cases H with
 |none=>exact h
 | some q =>
   obtain⟨b,o,C⟩:=q;obtain⟨cs,T,F,h1,h2,h3,h4,h5,h6,h7,h8,h9⟩:=h;exact⟨cs,T,F,h1,h2,h3,h4,h5,h6,λi j c hc=>⟨λ_=>(h7 i j c hc).1 rfl,(h7 i j c hc).2⟩,λi j i' j' c _ _=>h8 rfl i j i' j' c,λi j row d hi hj=>by simpa using h9 i j row d hi hj⟩
theorem CH{base:Bs}{h:AH}{w:World}{E:Nat->Nat->Prop}(H:HRel base h w E){k sz lo off len:Nat}{Hd:AM.Hd}{rows:List (List CD)}{u:Value}(ho:fv w h.M (E k) (.part Hd sz rows lo))(hbk:(h.get k).blk=AObj.blk (.part Hd sz rows lo))
 (hx:SlV Hd sz off len u) (hlen:off+len<=rows.length) (hlo:lo<=off) :
 ∃vs S E',NewsAt w u (cut rows off len).length sz vs/\FrzR base h w E ((k,.part Hd sz rows (off+len))::h) E' true S (λi j=>vs.getD (i*sz+j) undef) (cut rows off len):=by
 have hcl:(cut rows off len).length=len:=kt _ _ _ hlen
 have hblk:∀b',AObj.blk (.part Hd sz rows (off+len))=some b'->(h.get k).blk=some b':=by
  intro b' hb';rw[hbk]
  cases Hd with
  |none=>simp[AObj.blk]at hb'
  |some q=>simpa[AObj.blk]using hb'
 have hMs:∀c,AH.M ((k,.part Hd sz rows (off+len))::h) c->h.M c:=by
  intro c hc;rcases qC.1 hc with h1|⟨j,_,hj⟩
  ·exact⟨k,hblk c h1⟩
  ·exact⟨j,hj⟩
 have tr:Tr h.M w (AH.M ((k,.part Hd sz rows (off+len))::h)) w:=Tr.upd H (aH _) (λ_ _ _=>rfl) (λb' hb'=>.inr (hblk b' hb'))
 cases Hd with
 | none =>
   have hr0:rows=[]:=ho;subst hr0;obtain⟨⟨a,rfl⟩,rfl⟩:=hx
   refine⟨[],λ_ _ _=>False,_,⟨by simp[hcl],.inl ⟨hcl,a,0,rfl⟩,ab⟩,H.upd (k:=k) (o':=.part none sz [] (off+0)) (Ek:=λ_=>False) (aH _) (λ_ _ _=>rfl) (λb' hb'=>by simp[AObj.blk]at hb') rfl (λ_ hc=>hc.elim),tr,
    λi j row d hi=>?_,λ_ _ _ hc=>hc.elim,λ_ _ _ _ hc=>hc.elim,λ_ _ _ _ _ _ hc=>hc.elim,λj c hc=>?_⟩
   ·rw[nf]at hi;simp at hi
   ·exact sL
 | some q =>
   obtain⟨b,o,C⟩:=q;have hkb:(h.get k).blk=some b:=by rw[hbk];rfl
   obtain⟨cs,T,F,hb,hl,hC,hsz,hfit,hrl,hF,hd,hr⟩:=ho;have he:∀i j c,lo<=i->F i j c->E k c:=λi j c hi hc=>(hF i j c hc).1 hi
   have rel:HRel base ((k,.part (some (b,o,C)) sz rows (off+len))::h) w (λj=>if j=k then(λc=>∃i j,off+len<=i/\F i j c)else E j):=by
    refine H.upd (k:=k) (o':=.part (some (b,o,C)) sz rows (off+len)) (Ek:=λc=>∃i j,off+len<=i/\F i j c) (aH _) (λ_ _ _=>rfl) (λb' hb'=>⟨H.low k b' (hblk b' hb'),.inr (hblk b' hb')⟩)
     ⟨cs,T,F,hb,hl,hC,hsz,hfit,hrl,λi j c hc=>⟨λhi=>⟨i,j,hi,hc⟩,λhM=>(hF i j c hc).2 (hMs c hM)⟩,λi j i' j' c hi hi'=>hd i j i' j' c aa aa,λi j row d h1 h2=>eJ _ (hr i j row d h1 h2) (λh=>y4)⟩ ?_
    rintro c ⟨i,j,hi,hc⟩
    have e:=he i j c aa hc;exact⟨(H.elow k c e).1,(H.elow k c e).2,λq hne hq=>hne (H.einj _ _ _ hq e),λhM=>H.em k c e (hMs c hM)⟩
   have sub:∀j c,(if j=k then(λc=>∃i j,off+len<=i/\F i j c)else E j) c->E j c:=by
    intro j c hc
    split at hc
    ·rename_i e;subst e;obtain⟨i,j',hi,hc⟩:=hc;exact he i j' c aa hc
    ·exact hc
   rcases hx with⟨rfl,hle⟩|⟨rfl,_,a,rfl⟩
   ·have hm:(off+len)*sz<=C*sz:=ao sz hle
    rw[fg]at hm
    have hget:∀q,q<len*sz->((List.range (len*sz)).map λj=>cs.getD (o+off*sz+j) undef).getD q undef=cs.getD (o+off*sz+q) undef:=by
     intro q hq;simp[hq]
    refine⟨(List.range (len*sz)).map λj=>cs.getD (o+off*sz+j) undef,λi j c=>i<len/\F (off+i) j c,_,⟨by simp[hcl],?_,?_⟩,rel,tr,?_,?_,?_,?_,sub⟩
    ·rw[hcl]
     rcases Nat.eq_zero_or_pos len with h0|h0
     ·subst h0;exact .inl ⟨rfl,_,_,rfl⟩
     ·refine .inr ⟨_,_,h0,rfl,?_⟩
      intro j v hj;simp only[ch,aU]at hj;obtain⟨q,hq,rfl⟩:=hj;obtain⟨hq1,rfl⟩:=au.1 hq;simp at hq1;rw[fi]
      simpa using tv hb (show o+off*sz+j<cs.size from aa)
    ·intro v hv
     simp only[cE,fw]at hv;obtain⟨q,hq,rfl⟩:=hv;have hi:q / sz<len:=(zC hsz).2 hq;have hj:q % sz<sz:=GU _ hsz;have hrow:=aj (show off+q / sz<rows.length from aa);have hl':=hrl _ (ak (show off+q / sz<rows.length from aa));have:=hr (off+q / sz) (q % sz) _ _ hrow (aj aa);have e:(off+q / sz)*sz+q % sz=off*sz+q:=by rw[fg,et,Jc (q / sz)];rw[RE q sz]
     rw[e,<-et]at this;exact Jx this
    ·intro i j row d hi hj
     rw[nf]at hi
     split at hi
     ·rename_i hlt
      have hjl:j<sz:=u9
      have hk:i*sz+j<len*sz:=by
       have:=ao sz (show i+1<=len from aa);exact vf
      rw[hget _ hk];have:=hr (off+i) j row d hi hj;have e:o+off*sz+(i*sz+j)=o+((off+i)*sz+j):=y3;rw[e];exact(eJ true this (λ_=>aN)).map (λ_ _ _=>rfl) (λc hc _=>⟨hlt,hc⟩)
     ·simp at hi
    ·rintro i j c ⟨-,hc⟩ hM
     exact(hF _ _ c hc).2 (hMs c hM)
    ·rintro-i j c ⟨hlt,hc⟩
     refine⟨.inl ⟨k,he _ _ c aa hc⟩,λq hq=>?_⟩
     split at hq
     ·obtain⟨i',j',hi',hc'⟩:=hq
      have:=(hd _ _ _ _ c aa aa hc hc').1;omega
     ·rename_i hne;exact hne (H.einj _ _ _ hq (he _ _ c aa hc))
    ·rintro-i j i' j' c ⟨-,hc⟩ ⟨-,hc'⟩
     have:=hd _ _ _ _ c aa aa hc hc';omega
   ·refine⟨[],λ_ _ _=>False,_,⟨by simp[hcl],.inl ⟨hcl,a,0,rfl⟩,ab⟩,rel,tr,λi j row d hi=>?_,λ_ _ _ hc=>hc.elim,λ_ _ _ _ hc=>hc.elim,λ_ _ _ _ _ _ hc=>hc.elim,sub⟩
    rw[nf]at hi;simp at hi
theorem yc{base:Bs}{h:AH}{w:World}{E:Nat->Nat->Prop}(H:HRel base h w E){te:TI}{x:AV}{u:Value}(hx:VRel w h.M x u){K:List (List CD)->AH->Bool->Prop}(hk:oL te h x K) :
 ∃news h' o E' S vs,K news h' o/\(∀row∈news,row.length=te.n)/\NewsAt w u news.length te.n vs/\FrzR base h w E h' E' o S (λi j=>vs.getD (i*te.n+j) undef) news:=by
 unfold oL at hk
 split at hk
 ·cases hx
  exact⟨[],h,true,E,λ_ _ _=>False,[],hk,ab,⟨ab,.inl ⟨rfl,none,0,rfl⟩,ab⟩,H,Tr.refl _ _,λi j row d hd=>oe,λ_ _ _ hc=>hc.elim,λ_ _ _ _ hc=>hc.elim,λ_ _ _ _ _ _ hc=>hc.elim,λ_ _ hc=>hc⟩
 ·rename_i rows
  obtain⟨hsz,hpl,hK⟩:=hk
  cases hx with
  | ro _ x hr =>
    obtain⟨vs,F,hn,hF,-,hrd⟩:=As hr hsz
    cases hp:te.pln with
    | true =>
      rw[hp]at hK;refine⟨rows,h,true,E,λ_ _ _=>False,vs,hK,hsz,hn,H,Tr.refl _ _,λi j row d hi hj=>Ho (hrd i j row d hi hj) (hpl hp row (aO hi) d (aO hj)) _,λ_ _ _ hc=>hc.elim,λ_ _ _ _ hc=>hc.elim,λ_ _ _ _ _ _ hc=>hc.elim,λ_ _ hc=>hc⟩
    | false =>
      rw[hp]at hK;exact⟨rows,h,false,E,F,vs,hK,hsz,hn,H,Tr.refl _ _,hrd,λi j c hc=>hF i j c hc,eS,eS,λ_ _ hc=>hc⟩
 ·rename_i k Hd sz off len
  split at hk
  ·rename_i H' sz' rows own hget
   obtain⟨rfl,rfl,hte,hlen,hk⟩:=hk
   cases hx with
   | sl _ _ _ _ _ x hx =>
     have ho:=H.obj k;rw[hget]at ho
     have hrows:∀row∈cut rows off len,row.length=te.n:=by
      intro row hrow;obtain⟨i,hi⟩:=en hrow;rw[nf]at hi
      split at hi
      ·have hm:=aO hi
       cases Hd with
       |none=>rw[show rows=[]from ho]at hm;simp at hm
       | some q =>
         obtain⟨b,o,C⟩:=q;obtain⟨cs,T,F,-,-,-,-,-,hrl,-⟩:=ho;rw[hrl _ hm,hte]
      ·simp at hi
     have hsub:∀row∈cut rows off len,row∈rows:=by
      intro row hrow;rw[fu]at hrow;exact a8 (br hrow)
     have hread:∃S,Rd w own S u (.s (cut rows off len))/\∀c,S c->((h.get k).blk=some c\/(own=true->E k c)/\¬h.M c):=by
      cases Hd with
      | none =>
        obtain⟨⟨a,rfl⟩,rfl⟩:=hx;rw[show rows=[]from ho,show cut ([]:List (List CD)) off 0=[]from sH];exact⟨λ_=>False,.empty _ _ (λ_=>rfl),λ_ hc=>hc.elim⟩
      | some q =>
        obtain⟨b,o,C⟩:=q;obtain⟨S,hrd,hS⟩:=iP ho ⟨k,i7⟩ hx hlen;refine⟨S,hrd,λc hc=>?_⟩;rcases hS c hc with rfl|h2
        ·exact .inl i7
        ·exact .inr h2
     obtain⟨S,hrd,hS⟩:=hread;obtain⟨vs,F,hn,hF,hd,hr⟩:=As hrd hrows
     split at hk
     ·obtain⟨hpl,hK⟩:=hk
      refine⟨_,h,true,E,λ_ _ _=>False,vs,hK,hrows,hn,H,Tr.refl _ _,λi j row d hi hj=>Ho (hr i j row d hi hj) (hpl row (hsub _ (aO hi)) d (aO hj)) _,λ_ _ _ hc=>hc.elim,λ_ _ _ _ hc=>hc.elim,λ_ _ _ _ _ _ hc=>hc.elim,λ_ _ hc=>hc⟩
     ·cases own with
      | true =>
        obtain⟨vs',S',E',hn',FR⟩:=CH H (lo:=0) ho.as_part (by rw[hget];cases Hd<;>rfl) hx hlen (iU _);subst hte;exact⟨_,_,true,E',S',vs',hk,hrows,hn',FR⟩
      | false =>
        ·refine⟨_,_,false,_,F,vs,hk,hrows,hn,H.kill k,Tr.kill H k,hr,?_,?_,hd,λj c hc=>?_⟩
         ·intro i j c hc hM
          rcases hS c (hF i j c hc)with hb|⟨-,hnM⟩
          ·exact uB H hb hM
          ·exact hnM (GO hM)
         ·intro hown i j c hc
          rcases hS c (hF i j c hc)with hb|⟨he,-⟩
          ·refine⟨.inr ⟨k,hb⟩,λq hq=>?_⟩
           split at hq
           ·exact hq
           ·exact H.em q c hq ⟨k,hb⟩
          ·refine⟨.inl ⟨k,he hown⟩,λq hq=>?_⟩
           split at hq
           ·exact hq
           ·rename_i hne;exact hne (H.einj _ _ _ hq (he hown))
         ·exact sL
  ·rename_i H' sz' rows lo hget
   obtain⟨rfl,rfl,hte,hlen,-,hlo,hK⟩:=hk
   cases hx with
   | sl _ _ _ _ _ x hx =>
     have ho:=H.obj k;rw[hget]at ho;obtain⟨vs,S,E',hn,FR⟩:=CH H ho (by rw[hget]) hx hlen hlo;subst hte;refine⟨_,_,true,E',S,vs,hK,?_,hn,FR⟩;intro row hrow;rw[fu]at hrow;have hm:=a8 (br hrow)
     cases Hd with
     |none=>rw[show rows=[]from ho]at hm;simp at hm
     | some q =>
       exact Ml
  ·exact hk.elim
 ·exact hk.elim
theorem run_append_room{P:Program}{w:World}{t ty e:TypeId}{i:TypeInfo}(hu:P.underlying t=some (.slice e))(hi:P.info? e=some i){b o n m C c:Nat}{cs:Array Value}{T:TypeId}
 (hb:w.heap[b]? = some (.cells cs T (0,0))) (a:Addr) (vs:List Value) (hl:vs.length=m*i.size) (hvs:∀j v,vs[j]? = some v->w.cell? (a.add j)=some v) (h1:∀v∈vs,v.oneCell'=true)
 (hC:n+m<=C) (hfit:o+C*i.size<=cs.size) :
 (Builtin.append_ #[t,t] ty #[.slice (some ⟨b,o,none⟩) n C,.slice (some a) m c]).run P w =
  .ok (.slice (some ⟨b,o,none⟩) (n+m) C) (w.setRow b (cs.toList.take (o+n*i.size)++vs++cs.toList.drop (o+n*i.size+vs.length)).toArray):=by
 have hf:=mF (P:=P) w i.size m a m c vs hl hvs;have hle:(n+m)*i.size<=C*i.size:=ao _ hC;rw[fg]at hle;have hst:=wm (P:=P) b (o+n*i.size) T vs 0 cs w hb aa h1;simp only[nS]at hst;simp[Builtin.append_,bj hu,eh hi,Builtin.lenOf,hC,hf,fi,hst]
theorem gU(z:Array Value)(n:Nat):(Builtin.zeroCells z n).size=n*z.size:=by simp[Builtin.zeroCells]
theorem wN(xs vs:List Value)(rest:Array Value)(n m sz:Nat)(hx:xs.length=n*sz)(hv:vs.length=m*sz) :
 (∀i j,i<n->j<sz->(xs.toArray++vs.toArray++rest).getD (i*sz+j) undef=xs.getD (i*sz+j) undef) /\
 ∀i j,i<m->j<sz->(xs.toArray++vs.toArray++rest).getD ((n+i)*sz+j) undef=vs.getD (i*sz+j) undef:=by
 have lt:∀i j n,i<n->j<sz->i*sz+j<n*sz:=by
  intro i j n hi hj;have:=ao sz (show i+1<=n from aa);exact vf
 refine⟨λi j hi hj=>?_,λi j hi hj=>?_⟩
 ·have h:=lt i j n hi hj
  simp only[aW];rw[dG aN,dG aN];simp
 ·have h:=lt i j m hi hj
  simp only[aW];rw[fg];rw[dG aN,VC aN];simp only[List.size_toArray,hx,iz,aL]
  congr 2
  omega
theorem jG{P:Program}{w:World}{t ty e:TypeId}{i:TypeInfo}{z:Value}(hu:P.underlying t=some (.slice e))(hi:P.info? e=some i)(hz:i.zero=some z)(ad0:Option Addr)
 (a:Addr) (n c:Nat) (vs:List Value) (hl:vs.length=n*i.size) (hvs:∀j v,vs[j]? = some v->w.cell? (a.add j)=some v) (h0:0<n) (h63:n<=140737488355328) (hb:n*i.bytes<=140737488355328) :
 (Builtin.append_ #[t,t] ty #[.slice ad0 0 0,.slice (some a) n c]).run P w =
  .ok (.slice (some ⟨w.heap.size,0,none⟩) n (grownCap w n 0 e)) (w.drew.alloc (.cells (vs.toArray++Builtin.zeroCells z.cells (grownCap w n 0 e-n)) e)):=by
 cases ad0 with
 |none=>exact run_append_nil w t ty e i z hu hi hz a n c vs hl hvs h0 aa aa
 | some ad =>
   have:=sf (P:=P) w t ty e i z hu hi hz ad 0 0 [] ab ab a n c vs hl hvs aa aa (by rw[cQ];exact uR h0 hb);exact jD
theorem Rep.inRoom{w0:World}{base:Bs}{st:ASt}{a:Act}{w w':World}(hR:Rep w0 base st a w){h':AH}{E':Nat->Nat->Prop}(H':HRel base h' w E')(tr:Tr st.h.M w h'.M w){k b o C sz:Nat}{e:TypeId}{rows news:List (List CD)}{own own':Bool}{cs cs':Array Value}
 (hget:h'.get k=.rows (some (b,o,C)) sz rows own) (hb:w.heap[b]? = some (.cells cs e (0,0))) (hs:w'.heap.size=w.heap.size) (hb':w'.heap[b]? = some (.cells cs' e (0,0))) (hoth:∀c,c≠b->w'.heap[c]? = w.heap[c]?) (hso:Same w w')
 (hsz':cs'.size=cs.size) (hC:rows.length+news.length<=C) (hnl:∀row∈news,row.length=sz)
 (hold:∀i j,i<rows.length->j<sz->cs'.getD (o+(i*sz+j)) undef=cs.getD (o+(i*sz+j)) undef) (S:Nat->Nat->Nat->Prop)
 (hnew:∀i j row d,news[i]? = some row->row[j]? = some d->Rd w own' (S i j) (cs'.getD (o+((rows.length+i)*sz+j)) undef) d)
 (hoff:∀i j c,S i j c->¬h'.M c) (hown:own'=true->∀i j c,S i j c->¬base.G c/\∀j,¬E' j c) (hinj:own'=true->∀i j i' j' c,S i j c->S i' j' c->i=i'/\j=j') :
 Moved w0 base st a w ((k,.rows (some (b,o,C)) sz (rows++news) (own&&own'))::h') w':=by
 have hbk:(h'.get k).blk=some b:=i7
 have hfr:∀c,c<w.heap.size->(¬h'.M c\/∃j,j≠k/\(h'.get j).blk=some c)->w'.heap[c]? = w.heap[c]?:=by
  intro c _ h;refine hoth c (λhe=>?_);exact Mt
 have t:Tr h'.M w (AH.M ((k,.rows (some (b,o,C)) sz (rows++news) (own&&own'))::h')) w':=
  Tr.upd H' aa (λc hc hM=>hfr c hc (.inl hM)) (λc hc=>.inr (by rw[hbk];simpa[AObj.blk]using hc))
 have hob:=H'.obj k;rw[hget]at hob;obtain⟨cs0,T0,F,hb0,hlen,hCm,hsz,hfit,hrl,hF,hd,hr⟩:=hob
 obtain⟨rfl,rfl⟩:cs=cs0/\e=T0:=by
  rw[hb]at hb0
  simpa using hb0
 refine(hR.move H' tr ⟨rfl,rfl,rfl⟩).move (H'.upd (Ek:=λc=>(own&&own')=true/\c<w.heap.size/\((∃i j,i<rows.length/\F i j c)\/∃i j,S i j c)) aa hfr (λc hc=>?_)
  ⟨cs',e,λi j c=>c<w.heap.size/\if i<rows.length then F i j c else S (i-rows.length) j c,hb',by simpa using hC,hCm,hsz,aa,?_,?_,?_,?_⟩ ?_) t hso
 ·have hcb:b=c:=by simpa[AObj.blk]using hc
  subst hcb;exact⟨H'.low k _ hbk,.inr hbk⟩
 ·intro row hrow
  rcases aP.1 hrow with h|h
  ·exact hrl _ h
  ·exact hnl _ h
 ·rintro i j c ⟨hlt,hc⟩
  refine⟨λho=>⟨ho,hlt,?_⟩,λhM=>?_⟩
  ·split at hc
   ·rename_i hi;exact .inl ⟨i,j,hi,hc⟩
   ·exact .inr ⟨_,j,hc⟩
  ·have hM':=t.mono c hlt hM
   split at hc
   ·exact(hF i j c hc).2 hM'
   ·exact hoff _ j c hc hM'
 ·rintro ho i j i' j' c ⟨hlt,hc⟩ ⟨-,hc'⟩
  simp at ho;have key:∀i j i' j',F i j c->S i' j' c->False:=λi j i' j' h1 h2=>(hown ho.2 i' j' c h2).2 k ((hF i j c h1).1 ho.1)
  split at hc<;>split at hc'
  ·exact hd ho.1 i j i' j' c hc hc'
  ·exact(key _ _ _ _ hc hc').elim
  ·exact(key _ _ _ _ hc' hc).elim
  ·have:=hinj ho.2 _ _ _ _ c hc hc';omega
 ·intro i j row d hi hj
  by_cases hlt:i<rows.length
  ·rw[cq hlt]at hi
   have hjl:j<sz:=u9;rw[hold i j hlt hjl];refine Rd.map (eJ _ (hr i j row d hi hj) (λh=>od)) (λc hc hl=>hfr c hl (.inl (hF i j c hc).2)) (λc hc hl=>⟨hl,by rw[an hlt];exact hc⟩)
  ·rw[a9 aa]at hi
   have:=hnew (i-rows.length) j row d hi hj;rw[show rows.length+(i-rows.length)=i from aa]at this;refine Rd.map (eJ _ this (λh=>pS)) (λc hc hl=>hfr c hl (.inl (hoff _ j c hc))) (λc hc hl=>⟨hl,by rw[aq hlt];exact hc⟩)
 ·rintro c ⟨ho,hlt,hc⟩
  simp at ho;rcases hc with⟨i,j,-,hc⟩|⟨i,j,hc⟩
  ·have he:=(hF i j c hc).1 ho.1
   exact⟨(H'.elow k c he).1,aa,λq hne hq=>hne (H'.einj _ _ _ hq he),λhM=>(hF i j c hc).2 (t.mono c hlt hM)⟩
  ·exact⟨(hown ho.2 i j c hc).1,aa,λq _=>(hown ho.2 i j c hc).2 q,λhM=>hoff i j c hc (t.mono c hlt hM)⟩
theorem Cc{E:Env}(hE:EOk E){st:ASt}{a:Act}{w:World}(hR:Rep E.w0 E.base st a w){d:Option Nat}{T ty:Nat}{s x:AV}{u v:Value}(hs:VRel w st.h.M s u)(hx:VRel w st.h.M x v){K:ASt->Prop}(h:im E st d T s x K) :
 ∃r w',(Builtin.append_ #[T,T] ty #[u,v]).run E.P w=.ok r w'/\qU E.w0 E.base st a w d r w' K:=by
 obtain⟨e,te,i,hu,ht,hi,hsz,hby,hbp,hn,h⟩:=ed hE h;obtain⟨E0,H0⟩:=hR.heap;obtain⟨i',z,hi',-,-,hz,hzc,-⟩:=ht.info;have hii:i'=i:=DW;subst hii;have hzs:z.cells.size=te.n:=by rw[jB hzc,ht.zlen]
 replace hs:=hs.norm;generalize s.norm=s at h hs
 split at h
 ·
  cases hs
  obtain⟨news,h',o,E',S,vs,hK,hnl,hN,FR⟩:=yc H0 hx h;obtain⟨hbytes,hK⟩:=hK;rcases hN.shape with⟨hm,ad,c,rfl⟩|⟨ad,c,hm,rfl,hcell⟩
  ·have hnil:news=[]:=aA hm
   subst hnil;refine⟨_,w,mA hu hi none ad 0 0 c (aH _),?_⟩;have t:Tr h'.M w (AH.M ((st.key d,.rows none te.n [] o)::h')) w:=Tr.upd FR.rel (aH _) (λ_ _ _=>rfl) (λb hb=>mP)
   exact((hR.move FR.rel FR.tr ⟨rfl,rfl,rfl⟩).move (FR.rel.upd (k:=st.key d) (o':=.rows none te.n [] o) (Ek:=λ_=>False) (aH _) (λ_ _ _=>rfl) (λb hb=>mP) rfl (λ_ hc=>hc.elim)) t ⟨rfl,rfl,rfl⟩).put
    (VRel.sl (st.key d) none te.n 0 0 _ ⟨⟨_,rfl⟩,rfl⟩) (hK none)
  ·have hl0:news.length<=news.length*te.bytes:=cm _ hbp
   have hrun:=run_append_nil (P:=E.P) w T ty e i' z hu hi hz ad news.length c vs y2 hcell hm aa (by rw[hby];omega);refine⟨_,_,hrun,?_⟩;have hge:=lU w news.length 0 e;have hcm:=dE w news.length 0 e ij;generalize grownCap w news.length 0 e=C at hge hcm⊢;have hg:=wN [] vs (Builtin.zeroCells z.cells (C-news.length)) 0 news.length te.n ab hN.len;simp only[cQ,Array.empty_append]at hg;refine(hR.newRows H0 FR.rel FR.tr (st.key d) C e te.n hn news o (vs.toArray++Builtin.zeroCells z.cells (C-news.length)) (w.drew.alloc (.cells (vs.toArray++Builtin.zeroCells z.cells (C-news.length)) e)) rfl ⟨rfl,rfl,rfl⟩ hge hcm ?_ hnl S ?_ FR.off ?_ FR.inj).put (.sl _ _ _ _ _ _ ?_) (hK (some (w.heap.size,0,C)))
   ·simp[gU,hzs,hN.len,<-fg]
    rw[show news.length+(C-news.length)=C from aa];exact aH _
   ·intro i j row d' hi' hj'
    have hlt:i<news.length:=(au.1 hi').1;have hjl:j<te.n:=yZ;rw[hg.2 i j hlt hjl];exact FR.rd i j row d' hi' hj'
   ·intro ho i j c hc
    obtain⟨h1,h2⟩:=FR.own ho i j c hc;exact⟨h1.imp id .inl,λj _=>h2 j⟩
   ·exact .inl ⟨ab,aa⟩
 ·rename_i k H sz off len
  obtain⟨news,h',o,E',S,vs,hK,hnl,hN,FR⟩:=yc H0 hx h
  split at hK
  ·rename_i H' sz' rows own hget
   obtain⟨rfl,rfl,rfl,rfl,rfl,hbytes,hK⟩:=hK;have hl0:rows.length+news.length<=(rows.length+news.length)*te.bytes:=cm _ hbp;have hob:=FR.rel.obj k;rw[hget]at hob
   cases hs with
   | sl _ _ _ _ _ _ hslv =>
     cases H with
     | none =>
       obtain⟨⟨ad0,rfl⟩,hr0⟩:=hslv;have hrows:rows=[]:=hob;subst hrows;rcases hN.shape with⟨hm,ad,c,rfl⟩|⟨ad,c,hm,rfl,hcell⟩
       ·have hnil:news=[]:=aA hm
        subst hnil;refine⟨_,w,mA hu hi ad0 ad 0 0 c (aH _),?_⟩;have t:Tr h'.M w (AH.M ((k,.rows none te.n ([]++[]) (own&&o))::h')) w:=Tr.upd FR.rel (aH _) (λ_ _ _=>rfl) (λb hb=>mP)
        exact((hR.move FR.rel FR.tr ⟨rfl,rfl,rfl⟩).move (FR.rel.upd (k:=k) (o':=.rows none te.n ([]++[]) (own&&o)) (Ek:=λ_=>False) (aH _) (λ_ _ _=>rfl) (λb hb=>mP) (by simp[fv]) (λ_ hc=>hc.elim)) t ⟨rfl,rfl,rfl⟩).put
         (VRel.sl k none te.n 0 0 _ ⟨⟨_,rfl⟩,rfl⟩) (hK none)
       ·simp only[iN,cQ]at hl0 hbytes hK
        have hl1:news.length<=news.length*te.bytes:=cm _ hbp;have hrun:=jG (P:=E.P) (ty:=ty) hu hi hz ad0 ad news.length c vs y2 hcell hm aa (by rw[hby];omega);refine⟨_,_,hrun,?_⟩;have hge:=lU w news.length 0 e;have hcm:=dE w news.length 0 e ij;generalize grownCap w news.length 0 e=C at hge hcm⊢;have hg:=wN [] vs (Builtin.zeroCells z.cells (C-news.length)) 0 news.length te.n ab hN.len;simp only[cQ,Array.empty_append]at hg
        refine(hR.newRows H0 FR.rel FR.tr k C e te.n hn ([]++news) (own&&o) (vs.toArray++Builtin.zeroCells z.cells (C-news.length)) (w.drew.alloc (.cells (vs.toArray++Builtin.zeroCells z.cells (C-news.length)) e)) rfl ⟨rfl,rfl,rfl⟩ hge hcm ?_ hnl S ?_ FR.off ?_ ?_).put (.sl _ _ _ _ _ _ ?_) (hK (some (w.heap.size,0,C)))
        ·simp[gU,hzs,hN.len,<-fg]
         rw[show news.length+(C-news.length)=C from aa];exact aH _
        ·intro i j row d' hi' hj'
         have hlt:i<news.length:=(au.1 hi').1;have hjl:j<te.n:=yZ;rw[hg.2 i j hlt hjl];exact eJ _ (FR.rd i j row d' hi' hj') (λh=>pS)
        ·intro ho i j c hc
         simp at ho;obtain⟨h1,h2⟩:=FR.own ho.2 i j c hc;exact⟨h1.imp id .inl,λj _=>h2 j⟩
        ·intro ho
         simp at ho;exact FR.inj ho.2
        ·exact y6
     | some q =>
       obtain⟨b,oo,C⟩:=q;rcases hslv with⟨rfl,hC⟩|⟨-,h00,-⟩
       ·obtain⟨cs,T0,F,hb,hlen,hCm,hszp,hfit,hrl,hF,hd',hr⟩:=hob
        simp only[Nat.zero_mul,nS,cQ,jO]at hC⊢
        have hlow:o=true->∀i j c,S i j c->¬E.base.G c/\∀j,¬E' j c:=by
         intro ho i j c hc;obtain⟨h1,h2⟩:=FR.own ho i j c hc;exact MM
        rcases hN.shape with⟨hm,ad,c,rfl⟩|⟨ad,c,hm,rfl,hcell⟩
        ·have hnil:news=[]:=aA hm
         subst hnil;refine⟨_,w,mA hu hi _ ad rows.length C c hlen,?_⟩
         refine(hR.inRoom FR.rel FR.tr (news:=[]) (own':=o) hget hb rfl hb (λ_ _=>rfl) ⟨rfl,rfl,rfl⟩ rfl (by simpa using hlen) ab (λ_ _ _ _=>rfl) S (λi j row d hi=>oc) FR.off hlow FR.inj).put
          (VRel.sl k (some (b,oo,C)) te.n 0 _ _ (Or.inl ⟨ab,by simpa using hlen⟩)) (hK (some (b,oo,C)))
        ·by_cases hroom:rows.length+news.length<=C
         ·have hrun:=run_append_room (P:=E.P) (ty:=ty) (c:=c) hu hi hb ad vs y2 hcell hN.one hroom (by rw[hsz];exact hfit)
          refine⟨_,_,hrun,?_⟩;rw[hsz];have hvl:=hN.len;have hm1:(rows.length+news.length)*te.n<=C*te.n:=ao _ hroom;rw[fg]at hm1;obtain⟨g1,g2⟩:=dp cs (oo+rows.length*te.n) vs aa
          refine(hR.inRoom FR.rel FR.tr (own':=o) hget hb ab (dy w b cs _ T0 (0,0) hb) (λc hc=>tJ w b c _ hc) (Same.setRow _ _ _) g1 hroom hnl ?_ S ?_ FR.off hlow FR.inj).put
           (VRel.sl k (some (b,oo,C)) te.n 0 _ _ (Or.inl ⟨ab,aa⟩)) (hK (some (b,oo,C)))
          ·intro i j hi hj
           have:i*te.n+te.n<=rows.length*te.n:=by
            exact Nd
           rw[g2,aq aa]
          ·intro i j row d' hi' hj'
           have hlt:i<news.length:=(au.1 hi').1;have hjl:j<te.n:=yZ
           have:i*te.n+te.n<=news.length*te.n:=by
            have:=ao te.n (show i+1<=news.length from aa);have e:(i+1)*te.n=i*te.n+te.n:=bD i te.n;omega
           rw[g2,fg,an aa];rw[show oo+(rows.length*te.n+i*te.n+j)-(oo+rows.length*te.n)=i*te.n+j from aa];exact FR.rd i j row d' hi' hj'
         ·have hmC:(C+(0:Nat))*te.n=C*te.n:=by simp
          have hxl:((List.range (rows.length*te.n)).map λj=>cs.getD (oo+j) undef).length=rows.length*te.n:=ab
          have hrun:=sf (P:=E.P) w T ty e i' z hu hi hz ⟨b,oo,none⟩ rows.length C ((List.range (rows.length*te.n)).map λj=>cs.getD (oo+j) undef) (by rw[hsz];simp) ?_ ad news.length c vs y2 hcell aa aa
           (by rw[hby];exact uR aa hbytes)
          ·refine⟨_,_,hrun,?_⟩
           have hge:=lU w (rows.length+news.length) C e;have hcm:=dE w (rows.length+news.length) C e ij;generalize grownCap w (rows.length+news.length) C e=C' at hge hcm⊢;have hg:=wN _ vs (Builtin.zeroCells z.cells (C'-(rows.length+news.length))) rows.length news.length te.n hxl hN.len
           refine(hR.newRows H0 FR.rel FR.tr k C' e te.n hn (rows++news) (own&&o) _ (w.drew.alloc (.cells (((List.range (rows.length*te.n)).map λj=>cs.getD (oo+j) undef).toArray++vs.toArray++Builtin.zeroCells z.cells (C'-(rows.length+news.length))) e)) rfl ⟨rfl,rfl,rfl⟩ (by simpa using hge) hcm ?_ ?_
            (λi j c=>if i<rows.length then F i j c else S (i-rows.length) j c) ?_ ?_ ?_ ?_).put (.sl _ _ _ _ _ _ ?_) (hK (some (w.heap.size,0,C')))
           ·simp[gU,hzs,hN.len,<-fg]
            rw[show rows.length+news.length+(C'-(rows.length+news.length))=C' from aa];exact aH _
           ·intro row hrow
            rcases aP.1 hrow with h|h
            ·exact hrl _ h
            ·exact hnl _ h
           ·intro i j row d' hi' hj'
            by_cases hlt:i<rows.length
            ·rw[cq hlt]at hi'
             have hjl:j<te.n:=by rw[<-hrl _ (aO hi')];exact(au.1 hj').1
             have hk:i*te.n+j<rows.length*te.n:=by
              exact Nd
             rw[hg.1 i j hlt hjl];refine Rd.map (S:=F i j) ?_ (λ_ _ _=>rfl) (λc hc _=>by rw[an hlt];exact hc);have:=eJ (own&&o) (hr i j row d' hi' hj') (λh=>od)
             simpa[hk]using this
            ·rw[a9 aa]at hi'
             have hlt':i-rows.length<news.length:=(au.1 hi').1;have hjl:j<te.n:=yZ;have h2:=hg.2 (i-rows.length) j hlt' hjl;rw[show rows.length+(i-rows.length)=i from aa]at h2;rw[h2];exact Rd.map (eJ _ (FR.rd _ j row d' hi' hj') (λh=>pS)) (λ_ _ _=>rfl) (λc hc _=>by rw[aq hlt];exact hc)
           ·intro i j c hc
            split at hc
            ·exact(hF i j c hc).2
            ·exact FR.off _ j c hc
           ·intro ho i j c hc
            simp at ho
            split at hc
            ·have he:=(hF i j c hc).1 ho.1
             exact⟨.inr (.inr he),λq hne hq=>hne (FR.rel.einj _ _ _ hq he)⟩
            ·obtain⟨h1,h2⟩:=FR.own ho.2 _ j c hc
             exact⟨h1.imp id .inl,λq _=>h2 q⟩
           ·intro ho i j i1 j1 c hc hc'
            simp at ho;have key:∀i j i' j',F i j c->S i' j' c->False:=λi j i' j' h1 h2=>(FR.own ho.2 i' j' c h2).2 k ((hF i j c h1).1 ho.1)
            split at hc<;>split at hc'
            ·exact hd' ho.1 i j i1 j1 c hc hc'
            ·exact(key _ _ _ _ hc hc').elim
            ·exact(key _ _ _ _ hc' hc).elim
            ·have:=FR.inj ho.2 _ _ _ _ c hc hc';omega
           ·exact y6
          ·intro j v hj
           simp only[ch,aU]at hj;obtain⟨k',hk',rfl⟩:=hj;obtain⟨hk1,rfl⟩:=au.1 hk';simp at hk1;have hle:rows.length*te.n<=C*te.n:=ao _ hlen;rw[fi]
           simpa using tv hb (show oo+j<cs.size from aa)
       ·exact absurd h00 aa
  ·exact hK.elim
 ·exact h.elim
theorem Hw{α:Type}:∀(l vs:List α),vs.length=l.length->iW l 0 vs=vs
 |l,[],h=>by have:l=[]:=aA h.symm;subst this;rfl
 | [],_::_,h=>ik
 |_::l,v::vs,h=>by simp only[iW];rw[Hw l vs mN]
theorem Jt(rows:List (List CD))(r c sz:Nat)(ds:List CD)(hr:r<rows.length)(hl:(rows[r]).length=sz)(hfit:c+ds.length<=sz)(i:Nat) :
 (if c=0/\ds.length=sz then rows.set r ds else rows.modify r λrow=>iW row c ds)[i]? = if i=r then some (iW rows[r] c ds)else rows[i]?:=by
 split
 ·rename_i h
  obtain⟨rfl,h⟩:=h;rw[eQ,Hw _ _ aa];by_cases hi:i=r
  ·rw[an hi.symm,an hr,an hi]
  ·rw[aq (VB hi),aq hi]
 ·rw[iV]
  by_cases hi:i=r
  ·subst hi
   simp[hr]
  ·simp[hi,VB hi]
theorem BO(rows:List (List CD))(r c sz:Nat)(ds:List CD):(if c=0/\ds.length=sz then rows.set r ds else rows.modify r λrow=>iW row c ds).length=rows.length:=by
 split<;>simp
theorem Rep.storeRow{w0:World}{base:Bs}{st:ASt}{a:Act}{w:World}(hR:Rep w0 base st a w){h':AH}{E0 E':Nat->Nat->Prop}(H0:HRel base st.h w E0){o':Bool}{S:Nat->Nat->Prop}{us:List Value}{ds:List CD}
 (FR:FrzL base st.h w E0 h' E' o' S (λj=>us.getD j undef) ds) (hul:us.length=ds.length) {k b o C sz r c:Nat}{rows:List (List CD)}{own:Bool}
 (hget:h'.get k=.rows (some (b,o,C)) sz rows own) (hr:r<rows.length) (hfit:c+ds.length<=sz) :
 ∃ cs T, w.heap[b]? = some (.cells cs T (0, 0)) /\ o + r * sz + c + us.length <= cs.size /\
   Moved w0 base st a w ((k,.rows (some (b,o,C)) sz (if c=0/\ds.length=sz then rows.set r ds else rows.modify r λrow=>iW row c ds) (own&&o'))::h')
    (w.setRow b (cs.toList.take (o+r*sz+c)++us++cs.toList.drop (o+r*sz+c+us.length)).toArray) /\
   Tr h'.M w (AH.M ((k,.rows (some (b,o,C)) sz (if c=0/\ds.length=sz then rows.set r ds else rows.modify r λrow=>iW row c ds) (own&&o'))::h'))
    (w.setRow b (cs.toList.take (o+r*sz+c)++us++cs.toList.drop (o+r*sz+c+us.length)).toArray):=by
 have H':=FR.rel;have hbk:(h'.get k).blk=some b:=i7;have hob:=H'.obj k;rw[hget]at hob;obtain⟨cs,T,F,hb,hlen,hCm,hsz,hfitC,hrl,hF,hd,hrd⟩:=hob;have hrow:=aj hr;have hl:(rows[r]).length=sz:=hrl _ (ak hr)
 have hle:r*sz+sz<=C*sz:=by
  have:=ao sz (show r+1<=C from aa);have e:(r+1)*sz=r*sz+sz:=bD r sz;omega
 have hfit':o+r*sz+c+us.length<=cs.size:=aa;refine⟨cs,T,hb,hfit',?_⟩;obtain⟨g1,g2⟩:=dp cs (o+r*sz+c) us hfit';have hget':=Jt rows r c sz ds hr hl hfit;have hlen':=BO rows r c sz ds;generalize (if c=0/\ds.length=sz then rows.set r ds else rows.modify r λrow=>iW row c ds)=rows' at hget' hlen'⊢;generalize hcs':(cs.toList.take (o+r*sz+c)++us++cs.toList.drop (o+r*sz+c+us.length)).toArray=cs' at g1 g2⊢
 have hfr:∀c,c<w.heap.size->(¬h'.M c\/∃j,j≠k/\(h'.get j).blk=some c)->(w.setRow b cs').heap[c]? = w.heap[c]?:=by
  intro c _ h;refine tJ w b c _ (λhe=>?_);exact Mt
 have t:Tr h'.M w (AH.M ((k,.rows (some (b,o,C)) sz rows' (own&&o'))::h')) (w.setRow b cs'):=
  Tr.upd H' ab (λc hc hM=>hfr c hc (.inl hM)) (λc hc=>.inr (by rw[hbk];simpa[AObj.blk]using hc))
 have hlow:o'=true->∀j c,S j c->¬base.G c/\∀q,¬E' q c:=by
  intro ho j c hc;obtain⟨h1,h2⟩:=FR.own ho j c hc;exact MM
 refine⟨?_,t⟩
 refine(hR.move H' FR.tr ⟨rfl,rfl,rfl⟩).move (H'.upd (Ek:=λq=>(own&&o')=true/\q<w.heap.size/\((∃i j,F i j q)\/∃j,S j q)) ab hfr (λq hq=>?_)
  ⟨cs',T,λi j q=>q<w.heap.size/\if i=r/\c<=j/\j<c+ds.length then S (j-c) q else F i j q,dy w b cs _ T (0,0) hb,aa,hCm,hsz,aa,?_,?_,?_,?_⟩ ?_) t (Same.setRow _ _ _)
 ·have hqb:b=q:=by simpa[AObj.blk]using hq
  subst hqb;exact⟨H'.low k _ hbk,.inr hbk⟩
 ·intro row hm
  obtain⟨i,hi⟩:=en hm;rw[hget' i]at hi
  split at hi
  ·cases hi;rw[mg _ _ _ aa,hl]
  ·exact hrl _ (aO hi)
 ·rintro i j q ⟨hlt,hc⟩
  refine⟨λho=>⟨ho,hlt,?_⟩,λhM=>?_⟩
  ·split at hc
   ·exact .inr ⟨_,hc⟩
   ·exact .inl ⟨i,j,hc⟩
  ·have hM':=t.mono q hlt hM
   split at hc
   ·exact FR.off _ q hc hM'
   ·exact(hF i j q hc).2 hM'
 ·rintro ho i j i' j' q ⟨hlt,hc⟩ ⟨-,hc'⟩
  simp at ho;have key:∀i j j',F i j q->S j' q->False:=λi j j' h1 h2=>(hlow ho.2 j' q h2).2 k ((hF i j q h1).1 ho.1)
  split at hc<;>split at hc'
  ·have:=FR.inj ho.2 _ _ q hc hc';omega
  ·exact(key _ _ _ hc' hc).elim
  ·exact(key _ _ _ hc hc').elim
  ·exact hd ho.1 i j i' j' q hc hc'
 ·intro i j row d hi hj
  rw[hget' i]at hi;by_cases hir:i=r
  ·subst hir
   rw[an rfl]at hi
   cases hi
   rw[rv _ _ _ aa]at hj;by_cases hin:c<=j/\j<c+ds.length
   ·rw[an hin]at hj
    rw[g2,an aa,show o+(i*sz+j)-(o+i*sz+c)=j-c from aa];exact Rd.map (eJ _ (FR.rd _ _ hj) (λh=>pS)) (λq hq hl=>hfr q hl (.inl (FR.off _ q hq))) (λq hq hl=>⟨hl,by rw[an ⟨rfl,hin⟩];exact hq⟩)
   ·rw[aq hin]at hj
    rw[g2,aq aa];exact Rd.map (eJ _ (hrd i j _ d hrow hj) (λh=>od)) (λq hq hl=>hfr q hl (.inl (hF i j q hq).2)) (λq hq hl=>⟨hl,by rw[aq (λh=>hin h.2)];exact hq⟩)
  ·rw[aq hir]at hi
   have hjl:j<sz:=u9
   have hne:¬(o+r*sz+c<=o+(i*sz+j)/\o+(i*sz+j)<o+r*sz+c+us.length):=by
    rcases ig i r with h|h
    ·have:=ao sz (show i+1<=r from aa)
     exact vf
    ·have:=ao sz (show r+1<=i from aa)
     have e:(r+1)*sz=r*sz+sz:=bD r sz;omega
   rw[g2,aq hne];exact Rd.map (eJ _ (hrd i j _ d hi hj) (λh=>od)) (λq hq hl=>hfr q hl (.inl (hF i j q hq).2)) (λq hq hl=>⟨hl,by rw[aq (λh=>hir h.1)];exact hq⟩)
 ·rintro q ⟨ho,hlt,hc⟩
  simp at ho;rcases hc with⟨i,j,hc⟩|⟨j,hc⟩
  ·have he:=(hF i j q hc).1 ho.1
   exact⟨(H'.elow k q he).1,pU,λp hne hp=>hne (H'.einj _ _ _ hp he),λhM=>(hF i j q hc).2 (t.mono q hlt hM)⟩
  ·exact⟨(hlow ho.2 j q hc).1,pU,λp _=>(hlow ho.2 j q hc).2 p,λhM=>FR.off j q hc (t.mono q hlt hM)⟩
theorem GF{E:Env}(hE:EOk E){st:ASt}{a:Act}{w:World}(hR:Rep E.w0 E.base st a w){T:Nat}{x y:AV}{u v:Value}(hx:VRel w st.h.M x u)(hy:VRel w st.h.M y v){K:ASt->Prop}(h:o9 E st T x y K) :
 ∃w' h',(Instr.storeAt T u v).run E.P w=.ok () w'/\K { st with h:=h' }/\Moved E.w0 E.base st a w h' w':=by
 unfold o9 at h
 split at h
 ·rename_i ti hti
  have ht:=hE.1 _ _ hti;obtain⟨hn,hone,h⟩:=h;obtain⟨hcs,hcr⟩:=tq hy hone
  have h1:∀z∈v.cells.toList,z.oneCell'=true:=by
   intro z hz;obtain⟨j,hj⟩:=en hz;have hlt:j<y.cells.length:=by rw[<-hcs];simpa using (au.1 hj).1
   have hav:=aj hlt;have:=HD (hcr j _ hav) (cB.1 hone _ (ak hlt))
   have e:v.cells.getD j undef=z:=by
    simp only[pd]at hj;simp[hj]
   rw[e]at this;exact this
  have hun:v.cells.size=ti.n:=by rw[hcs,hn]
  split at h
  ·rename_i k b c
   split at h
   ·rename_i b' T' cells hget
    obtain⟨rfl,hfit,hK⟩:=h
    cases hx
    obtain⟨cs,hb,hfit',hR'⟩:=hR.storeVars hget (l:=y.cells) (us:=v.cells.toList) (by simpa using hcs) (λj x hj=>by simpa using hcr j x hj) hfit;refine⟨_,_,?_,hK,hR'⟩;have:=qG (P:=E.P) ht (o:=c) hb hun h1 (by simp at hfit';omega)
    simpa[Instr.storeAt,Instr.sureAddr]using this
   ·exact h.elim
  ·rename_i k Hd sz r c
   obtain⟨E0,H0⟩:=hR.heap;obtain⟨ds,h',o',E',S,hK,hdl,FR⟩:=sd y.cells H0 (us:=λj=>v.cells.toList.getD j undef) (λi av hi=>by simpa using hcr i av hi) (Bu y.cells H0 h);obtain⟨hK,hgood,-⟩:=hK
   split at hK
   ·rename_i H' sz' rows own hget
    obtain⟨hHd,rfl,hr,hfit,hK⟩:=hK
    cases hx with
    | e _ b o C1 _ _ _ =>
      obtain⟨C,rfl⟩:=hHd.some_of;obtain⟨cs,T0,hb,hfit',hR',ht'⟩:=hR.storeRow H0 FR (by simp[hcs,hdl]) hget hr hfit;refine⟨_,_,?_,hK,hR'.lendL y.cells ds (us:=λj=>v.cells.toList.getD j undef) ?_ ?_ ?_⟩;rotate_left
      ·intro j av d hj hd k' H2 sz2 len2 e
       obtain⟨g1,g2⟩:=hgood j av d hj hd k' H2 sz2 len2 e;refine⟨?_,g2⟩;rw[bH]
       split
       ·rename_i e2;rw[e2,hget]at g1;simp[AObj.blk]at g1
       ·exact g1
      ·intro j k' H2 sz2 off2 len2 hj
       have:=hcr j _ hj
       cases this with
       |sl _ _ _ _ _ _ h=>simpa using h
      ·intro j d hd
       exact(FR.rd j d hd).weaken.map (λq hq hl=>ht'.frame q hl (FR.off j q hq)) (λq hq hl hM=>FR.off j q hq (ht'.mono q hl hM))
      have:=qG (P:=E.P) ht (o:=o+r*sz+c) hb hun h1 (by simp at hfit';omega)
      simpa[Instr.storeAt,Instr.sureAddr]using this
   ·exact hK.elim
  ·exact h.elim
 ·exact h.elim
theorem P9{w:World}{M:Nat->Prop}{st:ASt}{a:Act}(hv:∀x,VRel w M (st.ev x) (a.eval x))(parts:Array (Nat×Operand)) :
 (parts.map λ(i,x)=>(i,a.eval x)).toList.length=(parts.toList.map λq=>(q.1,st.ev q.2)).length /\
 ∀(i:Nat) (p:Nat×AV),(parts.toList.map λq=>(q.1,st.ev q.2))[i]? = some p->∃v,(parts.map λ(i,x)=>(i,a.eval x)).toList[i]? = some (p.1,v)/\VRel w M p.2 v:=by
 refine⟨ab,λi p hi=>?_⟩;simp only[ch,aU]at hi;obtain⟨q,hq,rfl⟩:=hi;exact⟨a.eval q.2,by simp at hq⊢;exact⟨q.1,q.2,hq,rfl,rfl⟩,hv _⟩
theorem Bn{E:Env}(hE:EOk E){w:World}{M:Nat->Prop}{T ty:Nat}{x:AV}{u:Value}(hx:VRel w M x u){K:AV->Prop}(h:tH E T x K) :
 ∃r av,(Builtin.len_ #[T] ty #[u]).run E.P w=.ok r w/\VRel w M av r/\K av:=by
 unfold tH at h
 split at h
 ·obtain⟨e,te,i,hu,-,-,-,-,h⟩:=ed hE h
  cases hx with
  |ro rows x hr=>cases hr<;>exact⟨_,_,pR,.v _ rfl,h⟩
 ·rename_i kk H ss oo ll
  obtain⟨e,te,i,hu,-,-,-,-,h⟩:=ed hE h
  cases hx with
  | sl _ _ _ _ _ _ hx =>
    cases H with
    |none=>obtain⟨⟨a,rfl⟩,rfl⟩:=hx;exact⟨_,_,pR,.v _ rfl,h⟩
    | some q =>
      obtain⟨b,o,C⟩:=q;rcases hx with⟨rfl,_⟩|⟨rfl,_,a,rfl⟩<;>exact⟨_,_,pR,.v _ rfl,h⟩
 ·obtain⟨e,te,i,hu,-,-,-,-,h⟩:=ed hE h
  cases hx with
  |cv _ _ hh=>obtain⟨a,c,rfl⟩:=hh;exact⟨_,_,pR,.v _ rfl,h⟩
 ·obtain⟨e,te,i,hu,-,-,-,-,h⟩:=ed hE h
  cases hx with
  |ml _ _ _ _ _ hh=>obtain⟨a,c,rfl⟩:=hh.slice;exact⟨_,_,pR,.v _ rfl,h⟩
 ·obtain⟨e,te,i,hu,-,-,-,-,h⟩:=ed hE h
  cases hx
  exact⟨_,_,pR,.v _ rfl,h⟩
 ·obtain⟨e,te,i,hu,-,-,-,-,h⟩:=ed hE h
  cases hx
  exact⟨_,_,pR,.v _ rfl,h⟩
 ·obtain⟨hstr,h⟩:=h
  cases hx
  unfold Env.isStr at hstr
  split at hstr
  ·rename_i ti hti
   exact⟨_,_,by simp[Builtin.len_,bj ((hE.1 _ _ hti).str hstr),goInt],.v _ rfl,h⟩
  ·exact hstr.elim
 ·exact h.elim
theorem p7{P:Program}{f:Nat}(hf:xj P f)(args:Array Value)(w:World):(callFunc f args).run P w=.ok (.enter f args) w:=by
 obtain⟨fn,h1,h2,h3⟩:=hf;simp only[callFunc,ff,run_program,cZ,h1];simp[h2,h3]
theorem zA{α β:Type}(x:Array α)(f:α->β):(x.map f)=(x.toList.map f).toArray:=by cases x;simp
theorem tB{E:Env}(hE:EOk E){st:ASt}{a:Act}{w:World}(hR:Rep E.w0 E.base st a w){o:Oper}{K:ASt->Prop}(h:aOp E o st K){next:Act->World->Prop}{Q:Exit->Act->World->Prop}
 (hn:∀r w',qU E.w0 E.base st a w o.dst r w' K->next (a.put o.dst r) w'):o.wp E.P a w next Q:=by
 have hv:=λx=>VRel.ev hR x
 have put:∀{r:Value}{av:AV},VRel w st.h.M av r->bQ st o.dst av K->next (a.put o.dst r) w:=by
  intro r av h1 h2;obtain⟨h3,h4⟩:=hR.put h1 h2;exact hn _ _ ⟨_,_,h3,h4,λ_=>Tr.refl _ _,h1⟩
 have fin:∀{r:Value}{w':World},qU E.w0 E.base st a w o.dst r w' K->next (a.put o.dst r) w':=λh=>hn _ _ h
 have call:∀(f:Nat) (l:List AV) (xs:Array Value),ag E f l st o.dst K->xs.size=l.length->(∀i av,l[i]? = some av->VRel w st.h.M av (xs.getD i undef)) ->
  Oper.upon E.P o a next Q (.ok (.enter f xs) w):=by
  intro f l xs hc hs hx;rw[Oper.upon_enter];refine(hc.2 a w hR xs hs hx).mono ?_
  rintro e w' ⟨v,av,h',rfl,hK,hR',ht,hv'⟩
  exact hn _ _ ⟨av,h',hK,hR',ht,hv'⟩
 unfold aOp at h;unfold Oper.wp
 split at h
 ·rename_i T ho
  obtain⟨r,w',h1,h2⟩:=GJ hE hR h;simp only[execOp,ho,ff,h1,cZ,fN];exact fin h2
 ·rename_i T x ho
  obtain⟨r,w',h1,h2⟩:=KO hR (hv x) h;simp only[execOp,ho,ff,h1,cZ,fN];exact fin h2
 ·rename_i T len parts ho
  obtain⟨hl,hp⟩:=P9 hv parts;obtain⟨r,w',h1,h2⟩:=wc hE hR hl hp h;simp only[execOp,ho,ff,h1,cZ,fN];exact fin h2
 ·rename_i T l c ho
  obtain⟨r,w',h1,h2⟩:=I1 hE hR (hv l) (hv c) h;simp only[execOp,ho,ff,h1,cZ,fN];exact fin h2
 ·rename_i T x y ho
  obtain⟨w',h',h1,h2,h3⟩:=GF hE hR (hv x) (hv y) h;simp only[execOp,ho,ff,h1,cZ,fN];exact hn _ _ (h3.put (VRel.un) h2)
 ·rename_i T x lo hi mx ho
  obtain⟨r,av,h1,h2,h3⟩:=Ca hE (hv x) (vlo:=lo.map a.eval) (vhi:=hi.map a.eval) (ku _) (λy hy=>zu hv hy) (λy hy=>zu hv hy) (hv mx) h;simp only[execOp,ho,fQ,ff,h1,cZ,fN];exact put h2 h3
 ·rename_i c ho
  unfold Vh at h
  split at h
  ·rename_i x T hc ha ht
   obtain⟨r,av,h1,h2,h3⟩:=Bn hE (ty:=o.type) (hv x) h;have ha':c.args = #[x]:=pQ;have ht':c.argTypes = #[T]:=DV;simp[execOp,ho,resolve,hc,ha',ht',invoke,builtin,h1];exact put h2 h3
  ·rename_i x y hc ha
   unfold Cb at h
   split at h
   ·rename_i k p k' q hx hy
    have ha':c.args = #[x,y]:=pQ;have h1:=hv x;rw[hx]at h1;have h2:=hv y;rw[hy]at h2;generalize hu:a.eval x=u at h1;generalize hu':a.eval y=u' at h2
    cases h1;cases h2
    simp[execOp,ho,resolve,hc,ha',invoke,builtin,hu,hu',run_min_int2];exact put (.v _ rfl) h
   ·exact h.elim
  ·rename_i x y hc ha
   unfold I0 at h
   split at h
   ·rename_i k p k' q hx hy
    have ha':c.args = #[x,y]:=pQ;have h1:=hv x;rw[hx]at h1;have h2:=hv y;rw[hy]at h2;generalize hu:a.eval x=u at h1;generalize hu':a.eval y=u' at h2
    cases h1;cases h2
    simp[execOp,ho,resolve,hc,ha',invoke,builtin,hu,hu',run_max_int2];exact put (.v _ rfl) h
   ·exact h.elim
  ·rename_i s x T T' hc ha ht
   obtain⟨rfl,h⟩:=h;obtain⟨r,w',h1,h2⟩:=Cc hE (ty:=o.type) hR (hv s) (hv x) h;have ha':c.args = #[s,x]:=pQ;have ht':c.argTypes = #[T,T]:=DV;simp[execOp,ho,resolve,hc,ha',ht',invoke,builtin,h1];exact fin h2
  ·rename_i f hc
   have hrun:(execOp a.eval o).run E.P w=.ok (.enter f (c.args.map a.eval)) w:=by
    simp[execOp,ho,resolve,hc,Act.eval,Deferred.ofValue,invoke,p7 h.1]
   rw[hrun];refine call f _ _ h ab (vX hR c.args.toList _ (zA _ _))
  ·rename_i t hc
   have ht:=hv (.tmp t)
   split at h
   ·rename_i f caps hg
    have hg':st.ev (.tmp t)=.clo f caps:=hg;rw[hg']at ht;generalize hu:a.eval (.tmp t)=u at ht
    cases ht with
    | clo _ _ xs hs hl =>
      have hrun:(execOp a.eval o).run E.P w=.ok (.enter f (c.args.map a.eval++xs)) w:=by
       exact LJ
      rw[hrun];refine call f _ _ h (by simp[hs]) ?_;intro i av hi;by_cases hlt:i<(c.args.toList.map st.ev).length
      ·rw[cq hlt]at hi
       have:=vX hR c.args.toList _ (zA c.args a.eval) i av hi;simp only[qX,Dv]at hlt;rw[aW,dG pU];rw[aW]at this;exact this
      ·rw[a9 aa]at hi
       have:=hl _ _ hi;simp only[qX,Dv]at hlt this;rw[aW,VC pU];rw[aW]at this;exact jD
   ·rename_i f p q hg
    have hg':st.ev (.tmp t)=.v (.func (.func f) p q):=hg;rw[hg']at ht;generalize hu:a.eval (.tmp t)=u at ht
    cases ht with
    | v _ hp =>
      simp[plain]at hp;obtain⟨rfl,rfl⟩:=hp
      have hrun:(execOp a.eval o).run E.P w=.ok (.enter f (c.args.map a.eval)) w:=by
       exact LJ
      rw[hrun];refine call f _ _ h ab (vX hR c.args.toList _ (zA _ _))
   ·exact h.elim
  ·exact h.elim
 ·obtain⟨r,av,h1,h2,h3⟩:=xX hE hR h
  rw[h1];exact put h2 h3
theorem getD_some{tmps:Array Value}{d:Nat}{b:Bool}(h:tmps.getD d undef=.bool b):tmps[d]? = some (.bool b):=by
 simp only[aW]at h
 cases hx:tmps[d]? with
 |none=>rw[hx]at h;simp[undef]at h
 |some v=>rw[hx]at h;simpa using h
theorem Bm{E:Env}(hE:EOk E){ops:Array Oper}{K:ASt->Prop}{Qc:Exit->Act->World->Prop}(hn:∀st' a' w',K st'->Rep E.w0 E.base st' a' w'->Qc .normal a' w') :
 ∀(l:List Oper) (st:ASt) (a:Act) (w:World),Rep E.w0 E.base st a w->uN E ops.toList l K st->wpList E.P ops Qc l a w
 | [],st,a,w,hR,h=>hn _ _ _ h hR
 | o :: rest, st, a, w, hR, h => by
   have ih:=Bm (ops:=ops) hE hn rest;have run:aOp E o st (uN E ops.toList rest K)->o.wp E.P a w (wpList E.P ops Qc rest) Qc:=λh=>tB hE hR h (λr w' ⟨av,h',hK,hR',_,_⟩=>ih _ _ w' hR' hK)
   have skip:bQ st o.dst .un (uN E ops.toList rest K)->wpList E.P ops Qc rest (a.put o.dst undef) w:=by
    intro h;obtain⟨h1,h2⟩:=hR.put .un h;exact ih _ _ _ h2 h1
   unfold uN Vb at h;unfold wpList
   split at h
   ·rename_i hg
    rw[an yY];exact .inl (run h)
   ·rename_i j want hg
    split at h
    ·rename_i d hd
     have hd':(ops[j]?).bind (·.dst)=some d:=by simpa[lE]using hd
     split at h
     ·rename_i b hb
      have hv:=hR.tmp d;rw[hb]at hv;generalize hu:a.tmps.getD d undef=u at hv
      cases hv
      have hy:yielded ops a.tmps j=some b:=by simp[yielded,hd',getD_some hu]
      by_cases hbw:b=want
      ·rw[an sG]
       exact .inl (run (h.1 hbw))
      ·rw[aq sG]
       exact skip (h.2 yX)
     ·rename_i hb
      have hv:=hR.tmp d;rw[hb]at hv;generalize hu:a.tmps.getD d undef=u at hv
      cases hv
      have hy:yielded ops a.tmps j=none:=by
       exact EP
      rw[aq DU];exact skip h
     ·exact cM
    ·exact cM
theorem dD{E:Env}(hE:EOk E):∀(c:Code) (Q:Exit->ASt->Prop) (st:ASt) (a:Act) (w:World),Rep E.w0 E.base st a w->ic E c Q st->c.wp E.P (λe a' w'=>∃st',Q e st'/\Rep E.w0 E.base st' a' w') a w
 | .skip,Q,st,a,w,hR,h=>wp_skip ⟨st,h,hR⟩
 | .region id ops draw, Q, st, a, w, hR, h => by
   unfold ic at h
   cases draw with
   | true =>
     rw[an rfl]at h;have:=h a w hR;rw[Array.toArray_toList]at this;exact this
   | false =>
     rw[aq ab]at h;exact wp_region_list (Bm hE (K:=Q .normal) (λst' a' w' h1 h2=>⟨st',h1,h2⟩) _ st a w hR h)
 | .seq x y, Q, st, a, w, hR, h => by
   refine wp_seq (gT (dD hE x _ st a w hR h) ?_)
   rintro e a' w' ⟨st',hq,hR'⟩
   cases e with
   |normal=>exact dD hE y Q st' a' w' hR' hq
   |_=>exact⟨st',hq,hR'⟩
 | .cond c x y, Q, st, a, w, hR, h => by
   obtain⟨b,hb,h⟩:=r7 (VRel.ev hR c) h
   cases b with
   |true=>exact wp_cond_true hb (dD hE x Q st a w hR (h.1 rfl))
   |false=>exact wp_cond_false hb (dD hE y Q st a w hR (h.2 rfl))
 | .block id x, Q, st, a, w, hR, h => by
   refine wp_block (gT (dD hE x _ st a w hR h) ?_)
   rintro e a' w' ⟨st',hq,hR'⟩
   cases e with
   | exit j =>
     simp only[GA]at hq;simp only[Exit.inBlock]
     split at hq
     ·rename_i hj;rw[an hj];exact⟨st',hq,hR'⟩
     ·rename_i hj;rw[aq hj];exact⟨st',hq,hR'⟩
   |_=>exact⟨st',hq,hR'⟩
 | .loop x,Q,st,a,w,hR,h=>h a w hR
 | .exit id,Q,st,a,w,hR,h=>wp_exit ⟨st,h,hR⟩
 | .ret,Q,st,a,w,hR,h=>wp_ret ⟨st,h,hR⟩
 | .rangeFunc ..,Q,st,a,w,hR,h=>h.elim
 | .scope _,Q,st,a,w,hR,h=>h.elim
 | .label _,Q,st,a,w,hR,h=>h.elim
 | .goto _,Q,st,a,w,hR,h=>h.elim
 | .refuse _,Q,st,a,w,hR,h=>h.elim
inductive VD where
 |c (d:CD)
 |agg (ds:List CD)
inductive RV where
 |c (d:CD) (sz:Nat)
 |agg (ds:List (CD×Nat))
inductive RR where
 |one (x:RV)
 |tup (l:List RV)
def VD.toAV:VD->AV
 | .c d=>AM.toAV d
 | .agg ds=>.agg (ds.map AM.toAV)
def RdV(w:World)(v:Value):VD->Prop
 | .c d=>Rd w false (λ_=>True) v d
 | .agg ds=>∃xs:Array Value,v=.agg xs/\xs.size=ds.length/\∀j d,ds[j]? = some d->Rd w false (λ_=>True) (xs.getD j undef) d
def lG(w:World)(S:Nat->Prop)(v:Value):CD×Nat->Prop
 |(.v u,_)=>v=u/\plain u=true
 |(.h _ _ _ _,_)=>False
 | (.s rows,sz)=>0 < sz/\(∀ row∈rows,row.length = sz)/\((rows = []/\∃ a,v = .slice a 0 0)\/
  ∃ (b off cap : Nat) (cs : Array Value) (T : TypeId) (F : Nat -> Nat -> Nat -> Prop), v = .slice (some ⟨b, off, none⟩) rows.length cap /\ S b /\ w.heap[b]? = some (.cells cs T (0, 0)) /\ rows.length <= cap /\ cap <= maxLen /\
    off+cap*sz<=cs.size/\(∀i j c,F i j c->S c/\c≠b)/\(∀i j i' j' c,F i j c->F i' j' c->i=i'/\j=j') /\
    ∀i j row d,rows[i]? = some row->row[j]? = some d->Rd w true (F i j) (cs.getD (off+(i*sz+j)) undef) d)
def tI(w:World)(S:Nat->Prop)(v:Value):RV->Prop
 | .c d sz=>lG w S v (d,sz)
 | .agg ts=>∃(xs:Array Value) (F:Nat->Nat->Prop),v=.agg xs/\xs.size=ts.length/\(∀j c,F j c->S c)/\(∀j j' c,F j c->F j' c->j=j')/\∀j t,ts[j]? = some t->lG w (F j) (xs.getD j undef) t
def GK(w:World)(S:Nat->Prop)(v:Value):RR->Prop
 | .one r=>tI w S v r
 | .tup l=>∃(xs:Array Value) (F:Nat->Nat->Prop),v=.tuple xs/\xs.size=l.length/\(∀j c,F j c->S c)/\(∀j j' c,F j c->F j' c->j=j')/\∀j t,l[j]? = some t->tI w (F j) (xs.getD j undef) t
def nO(P:Program)(L:World->Prop)(f:Nat)(args:List VD)(res:RR):Prop:=
 xj P f/\∀(w:World),L w->∀(xs:Array Value),xs.size=args.length->(∀i vd,args[i]? = some vd->RdV w (xs.getD i undef) vd) ->
  Calls P f xs w λe w'=>∃v,e=.returned v/\Below w.heap.size w w'/\GK w' (λc=>w.heap.size<=c/\c<w'.heap.size) v res
abbrev ar(P:Program)(f:Nat)(args:List VD)(res:RR):Prop:=nO P (λ_=>True) f args res
theorem nO.up{P:Program}{L:World->Prop}{f:Nat}{args:List VD}{res:RR}(h:ar P f args res):nO P L f args res:=⟨h.1,λw _=>h.2 w trivial⟩
def LSt(L:World->Prop):Prop:=∀w w',BelowF (λc=>c<w.heap.size) w w'->L w->L w'
theorem LSt.true:LSt λ_=>True:=λ_ _ _ _=>trivial
def hd0:Hd->Prop
 |some (_,_,C)=>C=0
 |none=>True
def xg(h:AH)(x:AV)(t:CD×Nat)(K:AH->Prop):Prop:=
 match x with
 | .v u=>t.1=.v u/\K h
 | .nil=>t.1=.s []/\0<t.2/\K h
 | .ml k H sz len=>len=0/\MlS k sz len/\hd0 H/\t.1=.s []/\0<t.2/\K h
 | .sl k H sz off len => match h.get k with
   | .rows H' sz' rows own=>H=H'/\sz=sz'/\t.2=sz/\0<sz/\own=true/\off+len<=rows.length/\(∀row∈rows,row.length=sz)/\t.1=.s (cut rows off len)/\K ((k,.dead)::h)
   |_=>False
 |_=>False
def yb(h:AH)(l:List AV)(ts:List (CD×Nat))(K:AH->Prop):Prop:=
 match l,ts with
 | [],[]=>K h
 |a::l,t::ts=>xg h a t λh'=>yb h' l ts K
 |_,_=>False
def xZ(h:AH)(x:AV)(r:RV)(K:AH->Prop):Prop:=
 match r with
 | .c d sz=>xg h x (d,sz) K
 | .agg ts => match x with
   | .agg l=>yb h l ts K
   |_=>False
def r9(h:AH)(l:List AV)(rs:List RV)(K:AH->Prop):Prop:=
 match l,rs with
 | [],[]=>K h
 |a::l,r::rs=>xZ h a r λh'=>r9 h' l rs K
 |_,_=>False
def gP(E:Env)(st:ASt)(rs:List ResultVar)(K:List AV->Prop):Prop:=
 match rs with
 | []=>K []
 | .tmp t::rs=>gP E st rs λl=>K (bM st.t t::l)
 | .cell t T::rs=>qS E st.h T (bM st.t t) λv=>gP E st rs λl=>K (v::l)
def uy(h:AH)(rr:RR)(l:List AV):Prop:=
 match rr with
 | .one r => match l with
   | [x]=>xZ h x r λ_=>True
   |_=>False
 | .tup rs=>l.length≠1/\r9 h l rs λ_=>True
def xU(E:Env)(rs:List ResultVar)(rr:RR):Exit->ASt->Prop
 | .normal,st=>gP E st rs (uy st.h rr)
 | .ret,st=>gP E st rs (uy st.h rr)
 |_,_=>False
def nW:Nat->List VD->List (Nat×AV)
 |_,[]=>[]
 |i,v::l=>(i,v.toAV)::nW (i+1) l
theorem Ac{w:World}{M E:Nat->Prop}{b o C sz off len:Nat}{rows:List (List CD)}(h:fv w M E (.rows (some (b,o,C)) sz rows true))
 (hM:M b) {u:Value}(hu:SlV (some (b,o,C)) sz off len u) (hlen:off+len<=rows.length) :
 lG w (λc=>c=b\/E c/\¬M c) u (.s (cut rows off len),sz):=by
 obtain⟨cs,T,F,hb,hl,hC,hsz,hfit,hrl,hF,hd,hr⟩:=h;have hcl:(cut rows off len).length=len:=kt _ _ _ hlen;refine⟨hsz,λrow hrow=>?_,?_⟩
 ·rw[fu]at hrow
  exact hrl _ (a8 (br hrow))
 ·rcases hu with⟨rfl,hle⟩|⟨rfl,_,a,rfl⟩
  ·have hm:(off+(C-off))*sz<=C*sz:=ao sz aa
   rw[fg]at hm
   refine .inr ⟨b,o+off*sz,C-off,cs,T,λi j c=>F (off+i) j c,by rw[hcl],.inl rfl,hb,aa,aa,aa,λi j c hc=>⟨.inr ⟨(hF _ _ _ hc).1 rfl,(hF _ _ _ hc).2⟩,λhe=>(hF _ _ _ hc).2 (he ▸ hM)⟩,
    λi j i' j' c hc hc'=>by have:=hd rfl _ _ _ _ c hc hc';omega,λi j row d hi hj=>?_⟩
   rw[nf]at hi
   split at hi
   ·have:=hr (off+i) j row d hi hj
    have e:o+off*sz+(i*sz+j)=o+((off+i)*sz+j):=y3;rw[e];exact this
   ·simp at hi
  ·exact .inl ⟨aA aa,a,rfl⟩
theorem lG.mono{w:World}{S S':Nat->Prop}{v:Value}{t:CD×Nat}(h:lG w S v t)(hS:∀c,S c->S' c):lG w S' v t:=by
 obtain⟨d,sz⟩:=t
 cases d with
 |v u=>exact h
 |h=>exact h
 | s rows =>
   obtain⟨h1,h2,h3⟩:=h;refine⟨h1,h2,?_⟩;rcases h3 with h3|⟨b,off,cap,cs,T,F,g1,g2,g3,g4,g5,g6,g7,g8,g9⟩
   ·exact .inl h3
   ·exact .inr ⟨b,off,cap,cs,T,F,g1,hS _ g2,g3,g4,g5,g6,λi j c hc=>⟨hS _ (g7 i j c hc).1,(g7 i j c hc).2⟩,g8,g9⟩
structure Outs(base:Bs)(h:AH)(w:World)(E:Nat->Nat->Prop)(h':AH)(E':Nat->Nat->Prop)(S:Nat->Prop):Prop where
 rel:HRel base h' w E'
 tr:Tr h.M w h'.M w
 own:∀c,S c->((∃k,E k c)\/h.M c)/\(∀j,¬E' j c)/\¬h'.M c
 sub:∀j c,E' j c->E j c
theorem Outs.refl{base:Bs}{h:AH}{w:World}{E:Nat->Nat->Prop}(H:HRel base h w E):Outs base h w E h E (λ_=>False):=⟨H,Tr.refl _ _,λ_ hc=>hc.elim,λ_ _ hc=>hc⟩
theorem Bl{base:Bs}{h:AH}{w:World}{E:Nat->Nat->Prop}(H:HRel base h w E){x:AV}{u:Value}(hv:VRel w h.M x u){t:CD×Nat}{K:AH->Prop}(hk:xg h x t K) :
 ∃h' E' S,K h'/\lG w S u t/\Outs base h w E h' E' S:=by
 obtain⟨d,tz⟩:=t;unfold xg at hk
 split at hk
 ·obtain⟨rfl,hK⟩:=hk
  cases hv with
  |v u hp=>exact⟨h,E,_,hK,⟨rfl,hp⟩,Outs.refl H⟩
 ·obtain⟨rfl,hz,hK⟩:=hk
  cases hv
  exact⟨h,E,_,hK,⟨hz,ab,.inl ⟨rfl,_,rfl⟩⟩,Outs.refl H⟩
 ·rename_i k Hd sz len
  obtain⟨rfl,hm,h0,rfl,hz,hK⟩:=hk
  cases hv with
  | ml _ _ _ _ _ hx =>
    have hs:SlV Hd sz 0 0 u:=hx.elim (λh=>h.2) (λh=>absurd hm h.2.1)
    have:∃a,u=.slice a 0 0:=by
     cases Hd with
     |none=>exact hs.1
     | some q =>
       obtain⟨b,o,C⟩:=q;have h0:C=0:=h0;subst h0;rcases hs with⟨rfl,-⟩|⟨-,-,a,rfl⟩
       ·exact⟨_,rfl⟩
       ·exact⟨_,rfl⟩
    obtain⟨a,rfl⟩:=this;exact⟨h,E,_,hK,⟨hz,ab,.inl ⟨rfl,_,rfl⟩⟩,Outs.refl H⟩
 ·rename_i k Hd sz off len
  split at hk
  ·rename_i H' sz' rows own hget
   obtain⟨rfl,rfl,rfl,hz,rfl,hlen,hrl,rfl,hK⟩:=hk
   cases hv with
   | sl _ _ _ _ _ _ hx =>
     have ho:=H.obj k;rw[hget]at ho
     cases Hd with
     | none =>
       obtain⟨⟨a,rfl⟩,rfl⟩:=hx;have hr0:rows=[]:=ho;subst hr0;refine⟨_,_,λ_=>False,hK,⟨hz,sH,.inl ⟨sH,a,rfl⟩⟩,H.kill k,Tr.kill H k,λ_ hc=>hc.elim,λj c hc=>?_⟩;exact sL
     | some q =>
       obtain⟨b,o,C⟩:=q;have hblk:(h.get k).blk=some b:=i7;refine⟨_,_,_,hK,Ac ho ⟨k,hblk⟩ hx hlen,H.kill k,Tr.kill H k,?_,λj c hc=>?_⟩
       ·rintro c (rfl|⟨he,hn⟩)
        ·refine⟨.inr ⟨k,hblk⟩,λj hj=>?_,uB H hblk⟩
         split at hj
         ·exact hj
         ·exact H.em j c hj ⟨k,hblk⟩
        ·refine⟨.inl ⟨k,he⟩,λj hj=>?_,λhM=>hn (GO hM)⟩
         split at hj
         ·exact hj
         ·rename_i hne;exact hne (H.einj _ _ _ hj he)
       ·exact sL
  ·exact hk.elim
 ·exact hk.elim
theorem Outs.trans{base:Bs}{h h1 h2:AH}{w:World}{E E1 E2:Nat->Nat->Prop}{S1 S2:Nat->Prop}(H:HRel base h w E)(a:Outs base h w E h1 E1 S1)(b:Outs base h1 w E1 h2 E2 S2) :
 Outs base h w E h2 E2 (λc=>S1 c\/S2 c)/\∀c,S1 c->S2 c->False:=by
 have lt:∀c,S1 c->c<w.heap.size:=λc hc=>by
  rcases(a.own c hc).1 with⟨k,hk⟩|⟨k,hk⟩
  ·exact(H.elow k c hk).2
  ·exact H.lt hk
 refine⟨⟨b.rel,a.tr.trans b.tr,?_,λj c hc=>a.sub j c (b.sub j c hc)⟩,λc h1 h2=>?_⟩
 ·rintro c (hc|hc)
  ·obtain⟨g1,g2,g3⟩:=a.own c hc
   exact⟨g1,λj hj=>g2 j (b.sub j c hj),λhM=>g3 (b.tr.mono c (lt c hc) hM)⟩
  ·obtain⟨g1,g2,g3⟩:=b.own c hc
   refine⟨?_,g2,g3⟩;rcases g1 with⟨k,hk⟩|⟨k,hk⟩
   ·exact .inl ⟨k,a.sub k c hk⟩
   ·exact .inr (a.tr.mono c (a.rel.lt hk) ⟨k,hk⟩)
 ·obtain⟨g1,g2,g3⟩:=a.own c h1
  rcases(b.own c h2).1 with⟨k,hk⟩|hM
  ·exact g2 k hk
  ·exact g3 hM
theorem ya{base:Bs}{w:World}:∀(l:List AV) (ts:List (CD×Nat)) {h:AH}{E:Nat->Nat->Prop}(_:HRel base h w E) {us:Nat->Value}(_:∀i av,l[i]? = some av->VRel w h.M av (us i)) {K:AH->Prop}(_:yb h l ts K),
 ∃h' E' S,∃F:Nat->Nat->Prop,K h'/\ts.length=l.length/\(∀j c,F j c->S c)/\(∀j j' c,F j c->F j' c->j=j')/\(∀j t,ts[j]? = some t->lG w (F j) (us j) t)/\Outs base h w E h' E' S
 | [],[],h,E,H,us,hv,K,hk=>⟨h,E,_,λ_ _=>False,hk,rfl,λ_ _ hc=>hc.elim,λ_ _ _ hc=>hc.elim,λj t ht=>by simp at ht,Outs.refl H⟩
 | a :: l, t :: ts, h, E, H, us, hv, K, hk => by
   unfold yb at hk;obtain⟨h1,E1,S1,hk1,hr1,O1⟩:=Bl H (hv 0 a rfl) hk;obtain⟨h2,E2,S2,F2,hk2,hl2,hF2,hd2,hr2,O2⟩:=ya l ts O1.rel (us:=λi=>us (i+1)) (λi av hi=>(hv (i+1) av ee).tr O1.tr) hk1;exact Om
 | [],_::_,h,E,H,us,hv,K,hk=>hk.elim
 |_::_,[],h,E,H,us,hv,K,hk=>hk.elim
theorem sa{base:Bs}{h:AH}{w:World}{E:Nat->Nat->Prop}(H:HRel base h w E){x:AV}{u:Value}(hv:VRel w h.M x u){r:RV}{K:AH->Prop}(hk:xZ h x r K) :
 ∃h' E' S,K h'/\tI w S u r/\Outs base h w E h' E' S:=by
 unfold xZ at hk
 split at hk
 ·exact Bl H hv hk
 ·split at hk
  ·rename_i ts _ l
   cases hv with
   | agg _ xs hs hl =>
     obtain⟨h',E',S,F,h1,h2,h3,h4,h5,h6⟩:=ya l ts H hl hk;exact⟨h',E',S,h1,⟨xs,F,rfl,aa,h3,h4,h5⟩,h6⟩
  ·exact hk.elim
theorem tI.mono{w:World}{S S':Nat->Prop}{v:Value}{t:RV}(h:tI w S v t)(hS:∀c,S c->S' c):tI w S' v t:=by
 cases t with
 |c d sz=>exact lG.mono h hS
 | agg ts =>
   obtain⟨xs,F,h1,h2,h3,h4,h5⟩:=h;exact⟨xs,F,h1,h2,λj c hc=>hS c (h3 j c hc),h4,h5⟩
theorem qz{base:Bs}{w:World}:∀(l:List AV) (ts:List RV) {h:AH}{E:Nat->Nat->Prop}(_:HRel base h w E) {us:Nat->Value}(_:∀i av,l[i]? = some av->VRel w h.M av (us i)) {K:AH->Prop}(_:r9 h l ts K),
 ∃h' E' S,∃F:Nat->Nat->Prop,K h'/\ts.length=l.length/\(∀j c,F j c->S c)/\(∀j j' c,F j c->F j' c->j=j')/\(∀j t,ts[j]? = some t->tI w (F j) (us j) t)/\Outs base h w E h' E' S
 | [],[],h,E,H,us,hv,K,hk=>⟨h,E,_,λ_ _=>False,hk,rfl,λ_ _ hc=>hc.elim,λ_ _ _ hc=>hc.elim,λj t ht=>by simp at ht,Outs.refl H⟩
 | a :: l, t :: ts, h, E, H, us, hv, K, hk => by
   unfold r9 at hk;obtain⟨h1,E1,S1,hk1,hr1,O1⟩:=sa H (hv 0 a rfl) hk;obtain⟨h2,E2,S2,F2,hk2,hl2,hF2,hd2,hr2,O2⟩:=qz l ts O1.rel (us:=λi=>us (i+1)) (λi av hi=>(hv (i+1) av ee).tr O1.tr) hk1;exact Om
 | [],_::_,h,E,H,us,hv,K,hk=>hk.elim
 |_::_,[],h,E,H,us,hv,K,hk=>hk.elim
def j8(tmps:Array Value):ResultVar->Sem Value
 | .tmp t=>pure (tmps.getD t undef)
 | .cell a t=>do loadVar t (<-asAddr (tmps.getD a undef))
theorem ny(fn:Func)(tmps:Array Value):results fn tmps=(do let vs <-fn.results.mapM (j8 tmps);pure (if h:vs.size=1 then vs[0]else .tuple vs)):=rfl
theorem gq{E:Env}(hE:EOk E){st:ASt}{a:Act}{w:World}(hR:Rep E.w0 E.base st a w):∀(rs:List ResultVar) {K:List AV->Prop}(_:gP E st rs K),
 ∃ (vs : List Value) (l : List AV), (rs.mapM (j8 a.tmps)).run E.P w = .ok vs w /\ vs.length = l.length /\
   (∀i av,l[i]? = some av->VRel w st.h.M av (vs.getD i undef))/\K l
 | [],K,h=>⟨[],[],ab,rfl,λi av hi=>oc,h⟩
 | .tmp t :: rs, K, h => by
   unfold gP at h;obtain⟨vs,l,h1,h2,h3,h4⟩:=gq hE hR rs h;refine⟨a.tmps.getD t undef::vs,bM st.t t::l,by simp only[VF,j8,ff,fN,cZ,h1],by simp[h2],λi av hi=>?_,h4⟩
   cases i with
   |zero=>simp at hi;subst hi;exact hR.tmp t
   |succ i=>exact h3 i av ee
 | .cell q T :: rs, K, h => by
   unfold gP qS at h
   split at h
   ·rename_i ti hti
    obtain⟨Es,hH⟩:=hR.heap;obtain⟨v,av,h1,h2,h3⟩:=vG hH (hE.1 _ _ hti) (hR.tmp q) h;obtain⟨vs,l,g1,g2,g3,g4⟩:=gq hE hR rs h3
    have hload:(do loadVar T (<-asAddr (a.tmps.getD q undef)):Sem Value).run E.P w=.ok v w:=by
     generalize a.tmps.getD q undef=u at h1⊢
     cases u with
     | pointer ad =>
       cases ad with
       |none=>simp[Instr.loadAt,Instr.sureAddr]at h1
       |some ad=>simpa[Instr.loadAt,Instr.sureAddr,asAddr]using h1
     |_=>simp[Instr.loadAt,Instr.sureAddr]at h1
    refine⟨v::vs,av::l,?_,by simp[g2],λi x hi=>?_,g4⟩
    ·have hload':(j8 a.tmps (.cell q T)).run E.P w=.ok v w:=hload
     simp only[VF,ff,fN,hload',cZ,g1]
    ·cases i with
     |zero=>simp at hi;subst hi;exact h2
     |succ i=>exact g3 i x ee
   ·exact cM
theorem rX:∀(l:List VD) (k i:Nat),bM (nW k l) i=if k<=i then(match l[i-k]? with|some v=>v.toAV|none=>.any)else .any
 | [],k,i=>by simp[nW,bM]
 | v :: l, k, i => by
   unfold nW bM;by_cases h:i=k
   ·subst h;simp
   ·rw[aq h,rX l (k+1) i]
    by_cases h1:k+1<=i
    ·exact Ng
    ·rw[aq h1]
     by_cases h2:k<=i
     ·omega
     ·rw[aq h2]
theorem RdV.rel{w:World}{v:Value}{d:VD}(h:RdV w v d):VRel w (λ_=>False) d.toAV v:=by
 cases d with
 |c d=>exact jR (Rd.map h (λ_ _ _=>rfl) (λ_ _ _ h=>h))
 | agg ds =>
   obtain⟨xs,rfl,hs,hr⟩:=h;refine .agg _ _ (by simp[hs]) (λi av hi=>?_);simp only[ch,aU]at hi;obtain⟨d,hd,rfl⟩:=hi;exact jR (Rd.map (hr i d hd) (λ_ _ _=>rfl) (λ_ _ _ h=>h))
theorem nO.intro {P : Program} {T : Nat → Option TI} (hT : ∀ t ti, T t = some ti → TIok P t ti) {L : World → Prop} (hL : LSt L) {f : Nat} {fn : Func} {c : Code} (hf : P.funcs[f]? = some fn) (hname : (fn.name == "runtime.NumGoroutine") = false) (hb : fn.body = some c)
 {args:List VD}{res:RR}(hn:args.length<=fn.ntmps)
 (h:∀w0 b,EOk ⟨P,T,w0,⟨b,b,false,L⟩⟩->ic ⟨P,T,w0,⟨b,b,false,L⟩⟩ c (xU ⟨P,T,w0,⟨b,b,false,L⟩⟩ fn.results.toList res) { n:=fn.ntmps,kb:=0,t:=nW 0 args,h:=[] }):nO P L f args res:=by
 refine⟨⟨fn,hf,hname,kX⟩,λw hw xs hs hx=>jg hf hb ?_⟩
 let bs:Bs:=⟨λc=>c<w.heap.size,λc=>c<w.heap.size,false,L⟩
 have hE:EOk ⟨P,T,w,bs⟩:=⟨hT,λw' hb=>hL w w' hb hw⟩;have hM:∀b,¬AH.M [] b:=DS
 have hR:Rep w bs { n:=fn.ntmps,kb:=0,t:=nW 0 args,h:=[] } { tmps:=xs++Array.replicate (fn.ntmps-xs.size) undef,defers:=[] } w:=by
  exact E4
 refine gT (dD hE c _ _ _ w hR (h w (λc=>c<w.heap.size) hE)) ?_
 rintro e a' w' ⟨st',hq,hR'⟩
 have key:gP ⟨P,T,w,bs⟩ st' fn.results.toList (uy st'.h res)->a'.defers=[]/\∃v,(results fn a'.tmps).run P w'=.ok v w'/\∃v',Ending.returned v=.returned v'/\Below w.heap.size w w'/\GK w' (λc=>w.heap.size<=c/\c<w'.heap.size) v' res:=by
  exact OB
 cases e with
 |normal=>exact key hq
 |ret=>exact key hq
 |_=>exact hq.elim
theorem ar.intro {P : Program} {T : Nat → Option TI} (hT : ∀ t ti, T t = some ti → TIok P t ti) {f : Nat} {fn : Func} {c : Code} (hf : P.funcs[f]? = some fn) (hname : (fn.name == "runtime.NumGoroutine") = false) (hb : fn.body = some c)
 {args:List VD}{res:RR}(hn:args.length<=fn.ntmps)
 (h:∀w0 b,ic ⟨P,T,w0,⟨b,b,false,λ_=>True⟩⟩ c (xU ⟨P,T,w0,⟨b,b,false,λ_=>True⟩⟩ fn.results.toList res) { n:=fn.ntmps,kb:=0,t:=nW 0 args,h:=[] }):ar P f args res:=
 nO.intro hT LSt.true hf hname hb hn (λw0 b _=>h w0 b)
end Go.AM
