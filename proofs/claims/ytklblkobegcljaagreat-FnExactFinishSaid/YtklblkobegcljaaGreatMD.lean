import Derived.Test.YtklblkobegcljaaGreatMC
import Derived.Orders
namespace Go.AM
open Go.RowKit
def Env.rd(E:Env)(u:Value)(d:CD):Prop:=Rd E.w0 false E.base.F u d
def aIn(R:Value->CD->Prop)(h:AH)(x:AV)(d:CD):Prop:=
 match x with
 | .cv u _=>R u d
 | .ml k H sz len => match h.get k with
   | .rows H' sz' rows _=>H=H'/\sz=sz'/\len=rows.length/\d=.s rows
   |_=>False
 | .v u=>d=.v u
 | .nil=>d=.s []
 | .ro rows=>d=.s rows
 | .sl k H sz off len => match h.get k with
   | .rows H' sz' rows _=>H=H'/\sz=sz'/\off+len<=rows.length/\d=.s (cut rows off len)
   | .lent H' sz' rows=>H=H'/\sz=sz'/\off=0/\len=rows.length/\d=.s rows
   |_=>False
 |_=>False
def Bq(R:Value->CD->Prop)(h:AH):List AV->List CD->Prop
 | [],[]=>True
 |a::l,d::ds=>aIn R h a d/\Bq R h l ds
 |_,_=>False
def KG(R:Value->CD->Prop)(h:AH)(x:AV)(v:VD):Prop:=
 match v with
 | .c d=>aIn R h x d
 | .agg ds => match x with
   | .agg l=>Bq R h l ds
   |_=>False
def sb(R:Value->CD->Prop)(h:AH):List AV->List VD->Prop
 | [],[]=>True
 |a::l,d::ds=>KG R h a d/\sb R h l ds
 |_,_=>False
def xJ(h:AH)(key:Nat)(t:CD×Nat)(K:AV->AH->Prop):Prop:=
 match t.1 with
 | .v u=>K (.v u) h
 | .h ..=>False
 | .s rows=>∀H,K (.sl key H t.2 0 rows.length) ((key,.rows H t.2 rows true)::h)
def xL(h:AH)(key:Nat)(ts:List (CD×Nat))(K:List AV->AH->Nat->Prop):Prop:=
 match ts with
 | []=>K [] h key
 |t::ts=>xJ h key t λv h'=>xL h' (key+1) ts λl h'' key'=>K (v::l) h'' key'
def vJ(h:AH)(key:Nat)(r:RV)(K:AV->AH->Nat->Prop):Prop:=
 match r with
 | .c d sz=>xJ h key (d,sz) λv h'=>K v h' (key+1)
 | .agg ts=>xL h key ts λl h' key'=>K (.agg l) h' key'
def rC(h:AH)(key:Nat)(rs:List RV)(K:List AV->AH->Prop):Prop:=
 match rs with
 | []=>K [] h
 |r::rs=>vJ h key r λv h' key'=>rC h' key' rs λl h''=>K (v::l) h''
def CW(h:AH)(key:Nat)(r:RR)(K:AV->AH->Prop):Prop:=
 match r with
 | .one r=>vJ h key r λv h' _=>K v h'
 | .tup rs=>rC h key rs λl h'=>K (.tup l) h'
theorem Do{base:Bs}{h:AH}{w:World}{E:Nat->Nat->Prop}(H:HRel base h w E){x:AV}{u:Value}{R:Value->CD->Prop}(hR:∀u d,R u d->Rd w false (λ_=>True) u d)(hv:VRel w h.M x u){d:CD}(hk:aIn R h x d):Rd w false (λ_=>True) u d:=by
 unfold aIn at hk
 split at hk
 ·cases hv;exact hR _ _ hk
 ·rename_i k Hd sz len
  split at hk
  ·rename_i H' sz' rows own hget
   obtain⟨rfl,rfl,rfl,rfl⟩:=hk
   cases hv with
   | ml _ _ _ _ _ hx =>
     rcases hx with⟨hp,hx⟩|⟨h0,-,a,c,rfl⟩
     ·have ho:=H.obj k
      rw[hget]at ho
      cases Hd with
      | none =>
        obtain⟨⟨a,rfl⟩,h0⟩:=hx;exact vg
      | some q =>
        obtain⟨b,o,C⟩:=q;obtain⟨S,hrd,-⟩:=iP ho ⟨k,i7⟩ hx (show 0+rows.length<=rows.length from aa);have:=hrd.weaken.map (S':=λ_=>True) (λ_ _ _=>rfl) (λ_ _ _=>trivial)
        simpa[fu]using this
     ·exact vg
  ·exact hk.elim
 ·subst hk;cases hv with|v u hp=>exact .plain hp
 ·subst hk;cases hv;exact .empty _ _ eS
 ·subst hk;cases hv with|ro rows x hr=>exact hr.map (λ_ _ _=>rfl) (λ_ _ _=>trivial)
 ·rename_i k Hd sz off len
  split at hk
  ·rename_i H' sz' rows own hget
   obtain⟨rfl,rfl,hlen,rfl⟩:=hk
   cases hv with
   | sl _ _ _ _ _ _ hx =>
     have ho:=H.obj k;rw[hget]at ho
     cases Hd with
     | none =>
       exact Ls
     | some q =>
       obtain⟨b,o,C⟩:=q;obtain⟨S,hrd,-⟩:=iP ho ⟨k,i7⟩ hx hlen;exact hrd.weaken.map (λ_ _ _=>rfl) (λ_ _ _=>trivial)
  ·rename_i H' sz' rows hget
   obtain⟨rfl,rfl,rfl,rfl,rfl⟩:=hk
   cases hv with
   | sl _ _ _ _ _ _ hx =>
     have ho:=H.obj k;rw[hget]at ho;exact(ho.2.2 _ hx).map (λ_ _ _=>rfl) (λ_ _ _=>trivial)
  ·exact hk.elim
 ·exact hk.elim
theorem Bp{base:Bs}{h:AH}{w:World}{E:Nat->Nat->Prop}(H:HRel base h w E){R:Value->CD->Prop}(hR:∀u d,R u d->Rd w false (λ_=>True) u d):∀(l:List AV) (ds:List CD) {us:Nat->Value}(_:∀i av,l[i]? = some av->VRel w h.M av (us i)) (_:Bq R h l ds),
 l.length=ds.length/\∀i d,ds[i]? = some d->Rd w false (λ_=>True) (us i) d
 | [],[],us,hv,hk=>⟨rfl,λi d hd=>oe⟩
 | a :: l, d :: ds, us, hv, hk => by
   obtain⟨h1,h2⟩:=Bp H hR l ds (us:=λi=>us (i+1)) (λi av hi=>hv (i+1) av ee) hk.2;refine⟨kW,λi d' hd=>?_⟩
   cases i with
   |zero=>simp at hd;subst hd;exact Do H hR (hv 0 a rfl) hk.1
   |succ i=>exact h2 i d' mO
 | [],_::_,us,hv,hk=>hk.elim
 |_::_,[],us,hv,hk=>hk.elim
theorem KF{base:Bs}{h:AH}{w:World}{E:Nat->Nat->Prop}(H:HRel base h w E){x:AV}{u:Value}{R:Value->CD->Prop}(hR:∀u d,R u d->Rd w false (λ_=>True) u d)(hv:VRel w h.M x u){d:VD}(hk:KG R h x d):RdV w u d:=by
 unfold KG at hk
 split at hk
 ·exact Do H hR hv hk
 ·split at hk
  ·rename_i ds _ l
   cases hv with
   | agg _ xs hs hl =>
     obtain⟨h1,h2⟩:=Bp H hR l ds hl hk;exact⟨xs,rfl,aa,h2⟩
  ·exact hk.elim
theorem kO{base:Bs}{h:AH}{w:World}{E:Nat->Nat->Prop}(H:HRel base h w E){R:Value->CD->Prop}(hR:∀u d,R u d->Rd w false (λ_=>True) u d):∀(l:List AV) (ds:List VD) {us:Nat->Value}(_:∀i av,l[i]? = some av->VRel w h.M av (us i)) (_:sb R h l ds),
 l.length=ds.length/\∀i d,ds[i]? = some d->RdV w (us i) d
 | [],[],us,hv,hk=>⟨rfl,λi d hd=>oe⟩
 | a :: l, d :: ds, us, hv, hk => by
   obtain⟨h1,h2⟩:=kO H hR l ds (us:=λi=>us (i+1)) (λi av hi=>hv (i+1) av ee) hk.2;refine⟨kW,λi d' hd=>?_⟩
   cases i with
   |zero=>simp at hd;subst hd;exact KF H hR (hv 0 a rfl) hk.1
   |succ i=>exact h2 i d' mO
 | [],_::_,us,hv,hk=>hk.elim
 |_::_,[],us,hv,hk=>hk.elim
structure HX(base:Bs)(h:AH)(w:World)(E:Nat->Nat->Prop)(X:Nat->Prop):Prop where
 obj:∀k,fv w (λc=>h.M c\/X c) (E k) (h.get k)
 inj:∀k k' b,(h.get k).blk=some b->(h.get k').blk=some b->k=k'
 low:∀k b,(h.get k).blk=some b->¬base.F b/\¬base.G b
 elow:∀k c,E k c->¬base.G c/\c<w.heap.size
 einj:∀k k' c,E k c->E k' c->k=k'
 em:∀k c,E k c->¬h.M c/\¬X c
 xm:∀c,X c->(¬base.F c/\¬base.G c)/\c<w.heap.size/\¬h.M c
theorem fv.mono{w:World}{M M' E E':Nat->Prop}{o:AObj}(h:fv w M E o)(hM:∀c,c<w.heap.size->M' c->M c)(hE:∀c,E c->E' c):fv w M' E' o:=
 h.tr ⟨aH _,λ_ _ _=>rfl,hM⟩ (λ_ _=>rfl) (λc hc _=>hE c hc)
theorem HX.toRel{base:Bs}{h:AH}{w:World}{E:Nat->Nat->Prop}{X:Nat->Prop}(H:HX base h w E X):HRel base h w E:=
 ⟨λk=>(H.obj k).mono (λ_ _=>.inl) (λ_ h=>h),H.inj,H.low,H.elow,H.einj,λk c hc=>(H.em k c hc).1⟩
theorem xI{base:Bs}{h:AH}{w:World}{E:Nat->Nat->Prop}{X S:Nat->Prop}(H:HX base h w E X){u:Value}{t:CD×Nat}(hr:lG w S u t)(hS:∀c,S c->X c){key:Nat}{K:AV->AH->Prop}(hk:xJ h key t K) :
 ∃av h' E' X',K av h'/\HX base h' w E' X'/\(∀c,X c->¬S c->X' c)/\(∀c,h'.M c\/X' c->h.M c\/X c)/\∀M:Nat->Prop,VRel w M av u:=by
 obtain⟨d,sz⟩:=t;unfold xJ at hk
 cases d with
 |h=>exact hk.elim
 | v x =>
   obtain⟨rfl,hp⟩:=hr;exact⟨_,h,E,X,hk,H,λc hc _=>hc,λc hc=>hc,λM=>.v _ hp⟩
 | s rows =>
   obtain⟨hsz,hrl,hr⟩:=hr;rcases hr with⟨rfl,a,rfl⟩|⟨b,off,cap,cs,T,F,rfl,hb,hheap,hcap,hmax,hfit,hF,hd,hrd⟩
   ·refine⟨_,_,λj=>if j=key then(λ_=>False)else E j,X,hk none,?_,λc hc _=>hc,?_,λM=>.sl _ _ _ _ _ _ ⟨⟨a,rfl⟩,rfl⟩⟩
    ·have hM:∀c,AH.M ((key,.rows none sz [] true)::h) c->h.M c:=by
      intro c hc;rcases qC.1 hc with h1|⟨j,_,hj⟩
      ·simp[AObj.blk]at h1
      ·exact⟨j,hj⟩
     refine⟨λk=>?_,λk k' b hk hk'=>?_,λk b hk=>?_,λk c hc=>?_,λk k' c hc hc'=>?_,λk c hc=>?_,λc hc=>⟨(H.xm c hc).1,(H.xm c hc).2.1,λh=>(H.xm c hc).2.2 (hM c h)⟩⟩
     ·rw[bH]
      split
      ·rfl
      ·exact(H.obj k).mono (λc _ hc=>hc.imp (hM c) id) (λ_ h=>h)
     ·rw[bH]at hk hk'
      split at hk
      ·simp[AObj.blk]at hk
      ·split at hk'
       ·simp[AObj.blk]at hk'
       ·exact H.inj _ _ b hk hk'
     ·rw[bH]at hk
      split at hk
      ·simp[AObj.blk]at hk
      ·exact H.low k b hk
     ·split at hc
      ·exact hc.elim
      ·exact H.elow k c hc
     ·split at hc
      ·exact hc.elim
      ·split at hc'
       ·exact hc'.elim
       ·exact H.einj _ _ c hc hc'
     ·split at hc
      ·exact hc.elim
      ·exact⟨λh=>(H.em k c hc).1 (hM c h),(H.em k c hc).2⟩
    ·intro c hc
     rcases hc with hc|hc
     ·rcases qC.1 hc with h1|⟨j,_,hj⟩
      ·simp[AObj.blk]at h1
      ·exact .inl ⟨j,hj⟩
     ·exact .inr hc
   ·have hblk:(AObj.rows (some (b,off,cap)) sz rows true).blk=some b:=rfl
    have hM:∀c,AH.M ((key,.rows (some (b,off,cap)) sz rows true)::h) c->c=b\/h.M c:=by
     intro c hc;rcases qC.1 hc with h1|⟨j,_,hj⟩
     ·simp[AObj.blk]at h1;exact .inl h1.symm
     ·exact .inr ⟨j,hj⟩
    have hXb:=hS b hb;refine⟨_,_,λj=>if j=key then(λc=>∃i j,F i j c)else E j,λc=>X c/\¬S c,hk (some (b,off,cap)),?_,λc hc hn=>⟨hc,hn⟩,?_,λM=>.sl _ _ _ _ _ _ (.inl ⟨ab,aa⟩)⟩
    ·refine⟨λk=>?_,λk k' b' hk hk'=>?_,λk b' hk=>?_,λk c hc=>?_,λk k' c hc hc'=>?_,λk c hc=>?_,λc hc=>⟨(H.xm c hc.1).1,(H.xm c hc.1).2.1,λh=>?_⟩⟩
     ·rw[bH]
      split
      ·refine⟨cs,T,F,hheap,hcap,hmax,hsz,hfit,hrl,λi j c hc=>⟨λ_=>⟨i,j,hc⟩,λh=>?_⟩,λ_=>hd,hrd⟩
       obtain⟨h1,h2⟩:=hF i j c hc;rcases h with h|h
       ·rcases hM c h with rfl|h
        ·exact h2 rfl
        ·exact(H.xm c (hS c h1)).2.2 h
       ·exact h.2 h1
      ·refine(H.obj k).mono (λc _ hc=>?_) (λ_ h=>h)
       exact MF
     ·rw[bH]at hk hk'
      split at hk<;>split at hk'
      ·simp_all
      ·rw[hblk]at hk;cases hk
       exact((H.xm b hXb).2.2 ⟨k',hk'⟩).elim
      ·rw[hblk]at hk';cases hk'
       exact((H.xm b hXb).2.2 ⟨k,hk⟩).elim
      ·exact H.inj _ _ b' hk hk'
     ·rw[bH]at hk
      split at hk
      ·rw[hblk]at hk;cases hk;exact(H.xm b hXb).1
      ·exact H.low k b' hk
     ·split at hc
      ·obtain⟨i,j,hc⟩:=hc
       have:=H.xm c (hS c (hF i j c hc).1);exact⟨this.1.2,this.2.1⟩
      ·exact H.elow k c hc
     ·split at hc<;>split at hc'
      ·simp_all
      ·obtain⟨i,j,hc⟩:=hc
       exact((H.em k' c hc').2 (hS c (hF i j c hc).1)).elim
      ·obtain⟨i,j,hc'⟩:=hc'
       exact((H.em k c hc).2 (hS c (hF i j c hc').1)).elim
      ·exact H.einj _ _ c hc hc'
     ·split at hc
      ·obtain⟨i,j,hc⟩:=hc
       obtain⟨h1,h2⟩:=hF i j c hc;refine⟨λh=>?_,λh=>h.2 h1⟩;rcases hM c h with rfl|h
       ·exact h2 rfl
       ·exact(H.xm c (hS c h1)).2.2 h
      ·obtain⟨h1,h2⟩:=H.em k c hc
       refine⟨λh=>?_,λh=>h2 h.1⟩;rcases hM c h with rfl|h
       ·exact h2 hXb
       ·exact h1 h
     ·rcases hM c h with rfl|h
      ·exact hc.2 hb
      ·exact(H.xm c hc.1).2.2 h
    ·intro c hc
     exact MF
theorem xK{base:Bs}{w:World}:∀(ts:List (CD×Nat)) {h:AH}{E:Nat->Nat->Prop}{X:Nat->Prop}(_:HX base h w E X) {us:Nat->Value}{F:Nat->Nat->Prop}(_:∀j j' c,F j c->F j' c->j=j') (_:∀j c,F j c->X c)
 (_:∀j t,ts[j]? = some t->lG w (F j) (us j) t) {key:Nat}{K:List AV->AH->Nat->Prop}(_:xL h key ts K),
 ∃l h' key' E' X',K l h' key'/\l.length=ts.length/\HX base h' w E' X'/\(∀c,X c->(∀j,¬F j c)->X' c)/\(∀c,h'.M c\/X' c->h.M c\/X c)/\∀j av,l[j]? = some av->∀M:Nat->Prop,VRel w M av (us j)
 | [],h,E,X,H,us,F,hd,hF,hr,key,K,hk=>⟨[],h,key,E,X,hk,rfl,H,λc hc _=>hc,λc hc=>hc,λj av hj=>pT⟩
 | t :: ts, h, E, X, H, us, F, hd, hF, hr, key, K, hk => by
   unfold xL at hk;obtain⟨av,h1,E1,X1,hk1,H1,hX1,hm1,hv1⟩:=xI H (hr 0 t rfl) (hF 0) hk
   obtain⟨l,h2,key',E2,X2,hk2,hl,H2,hX2,hm2,hv2⟩:=xK ts H1 (us:=λj=>us (j+1)) (F:=λj=>F (j+1)) (λj j' c hc hc'=>by have:=hd _ _ c hc hc';omega)
    (λj c hc=>hX1 c (hF _ c hc) (λh0=>by have:=hd _ _ c hc h0;omega)) (λj t' hj=>hr (j+1) t' jC) hk1
   refine⟨av::l,h2,key',E2,X2,hk2,by simp[hl],H2,λc hc hn=>hX2 c (hX1 c hc (hn 0)) (λj=>hn (j+1)),λc hc=>hm1 c (hm2 c hc),λj x hj=>?_⟩;exact Ms
theorem xH{base:Bs}{h:AH}{w:World}{E:Nat->Nat->Prop}{X S:Nat->Prop}(H:HX base h w E X){u:Value}{r:RV}(hr:tI w S u r)(hS:∀c,S c->X c){key:Nat}{K:AV->AH->Nat->Prop}(hk:vJ h key r K) :
 ∃av h' key' E' X',K av h' key'/\HX base h' w E' X'/\(∀c,X c->¬S c->X' c)/\(∀c,h'.M c\/X' c->h.M c\/X c)/\∀M:Nat->Prop,VRel w M av u:=by
 cases r with
 | c d sz =>
   unfold vJ at hk;obtain⟨av,h',E',X',h1,h2,h3,h4,h5⟩:=xI H hr hS hk;exact⟨av,h',_,E',X',h1,h2,h3,h4,h5⟩
 | agg ts =>
   unfold vJ at hk;obtain⟨xs,F,rfl,hs,hF,hd,hr⟩:=hr;obtain⟨l,h',key',E',X',h1,h2,h3,h4,h5,h6⟩:=xK ts H hd (λj c hc=>hS c (hF j c hc)) hr hk;exact⟨_,h',key',E',X',h1,h3,λc hc hn=>h4 c hc (λj hj=>hn (hF j c hj)),h5,λM=>.agg _ _ aa (λi av hi=>h6 i av hi M)⟩
theorem vI{base:Bs}{w:World}:∀(ts:List RV) {h:AH}{E:Nat->Nat->Prop}{X:Nat->Prop}(_:HX base h w E X) {us:Nat->Value}{F:Nat->Nat->Prop}(_:∀j j' c,F j c->F j' c->j=j') (_:∀j c,F j c->X c)
 (_:∀j t,ts[j]? = some t->tI w (F j) (us j) t) {key:Nat}{K:List AV->AH->Prop}(_:rC h key ts K),
 ∃l h' E' X',K l h'/\l.length=ts.length/\HX base h' w E' X'/\(∀c,h'.M c\/X' c->h.M c\/X c)/\∀j av,l[j]? = some av->∀M:Nat->Prop,VRel w M av (us j)
 | [],h,E,X,H,us,F,hd,hF,hr,key,K,hk=>⟨[],h,E,X,hk,rfl,H,λc hc=>hc,λj av hj=>pT⟩
 | t :: ts, h, E, X, H, us, F, hd, hF, hr, key, K, hk => by
   unfold rC at hk;obtain⟨av,h1,key1,E1,X1,hk1,H1,hX1,hm1,hv1⟩:=xH H (hr 0 t rfl) (hF 0) hk
   obtain⟨l,h2,E2,X2,hk2,hl,H2,hm2,hv2⟩:=vI ts H1 (us:=λj=>us (j+1)) (F:=λj=>F (j+1)) (λj j' c hc hc'=>by have:=hd _ _ c hc hc';omega)
    (λj c hc=>hX1 c (hF _ c hc) (λh0=>by have:=hd _ _ c hc h0;omega)) (λj t' hj=>hr (j+1) t' jC) hk1
   refine⟨av::l,h2,E2,X2,hk2,by simp[hl],H2,λc hc=>hm1 c (hm2 c hc),λj x hj=>?_⟩;exact Ms
theorem HZ{base:Bs}{h:AH}{w:World}{E:Nat->Nat->Prop}{X:Nat->Prop}(H:HX base h w E X){u:Value}{r:RR}(hr:GK w X u r){key:Nat}{K:AV->AH->Prop}(hk:CW h key r K) :
 ∃av h' E',K av h'/\HRel base h' w E'/\(∀c,h'.M c->h.M c\/X c)/\VRel w h'.M av u:=by
 cases r with
 | one r =>
   unfold CW at hk;obtain⟨av,h',key',E',X',h1,h2,h3,h4,h5⟩:=xH H hr (λc hc=>hc) hk;exact⟨av,h',E',h1,h2.toRel,λc hc=>h4 c (.inl hc),h5 _⟩
 | tup rs =>
   unfold CW at hk;obtain⟨xs,F,rfl,hs,hF,hd,hr⟩:=hr;obtain⟨l,h',E',X',h1,h2,h3,h4,h5⟩:=vI rs H hd hF hr hk;exact⟨_,h',E',h1,h3.toRel,λc hc=>h4 c (.inl hc),.tup _ _ aa (λi av hi=>h5 i av hi _)⟩
theorem Rep.rd{E:Env}{st:ASt}{a:Act}{w:World}(hR:Rep E.w0 E.base st a w)(u:Value)(d:CD)(h:E.rd u d):Rd w false (λ_=>True) u d:=
 Rd.map h (λb hb _=>hR.below.block b hb) (λ_ _ _=>trivial)
theorem ag.pure{E:Env}{f:Nat}{args:List VD}{rr:RR}(hc:ar E.P f args rr){avs:List AV}{st:ASt}{dst:Option Nat}{K:ASt->Prop}(hin:sb E.rd st.h avs args)
 (hout:CW st.h (st.key dst) rr λav h'=>bQ { st with h:=h' } dst av K):ag E f avs st dst K:=by
 refine⟨hc.1,λa w hR xs hs hx=>?_⟩;obtain⟨Es,hH⟩:=hR.heap;obtain⟨hl,hr⟩:=kO hH hR.rd avs args hx hin;refine(hc.2 w trivial xs aa hr).mono ?_
 rintro e w' ⟨v,rfl,hb,hrr⟩
 have t:Tr st.h.M w (λc=>st.h.M c\/(w.heap.size<=c/\c<w'.heap.size)) w':=⟨hb.size,λb hlt _=>hb.block b hlt,λb hlt hM=>hM.elim id (λh=>aa)⟩
 have HXr:HX E.base st.h w' Es (λc=>w.heap.size<=c/\c<w'.heap.size):=by
  refine⟨λk=>(hH.obj k).tr t (λb hk=>hb.block b (hH.lt hk)) (λc hc _=>hc),hH.inj,hH.low,λk c hc=>⟨(hH.elow k c hc).1,cg (hH.elow k c hc).2 hb.size⟩,hH.einj,
   λk c hc=>⟨hH.em k c hc,λh=>by have:=(hH.elow k c hc).2;omega⟩,λc hc=>⟨hR.newer hc.1,hc.2,λ⟨k,hk⟩=>yW⟩⟩
 obtain⟨av,h',E',hK,hH',hM',hv⟩:=HZ HXr hrr hout;have t':Tr st.h.M w h'.M w':=⟨t.size,t.frame,λb hlt hM=>(hM' b hM).elim id (λh=>aa)⟩;obtain⟨av',h'',h1,h2,h3,h4⟩:=(hR.move hH' t' ⟨hb.os,hb.tape,hb.output⟩).put hv hK;exact⟨v,av',h'',rfl,h1,h2,h3,h4⟩
def kR(a:AV):AV->Prop
 | .any=>True
 | .sl k H sz off len=>a=.sl k H sz off len\/(a=.nil/\H=none/\off=0/\len=0)
 | .ro rows=>a=.ro rows\/(a=.nil/\rows=[])
 |b=>a=b
def ALe:List AV->List AV->Prop
 | [],[]=>True
 |a::l,b::l'=>kR a b/\ALe l l'
 |_,_=>False
def fH(o:AObj):AObj->Prop
 | .dead=>True
 | .vars b T cells => match o with
   | .vars b' T' cells'=>b'=b/\T'=T/\ALe cells' cells
   |_=>False
 | .rows H sz rows own=>o=.rows H sz rows own\/(o=.dead/\H=none/\rows=[])
 | .lent H sz rows=>o=.lent H sz rows
 | .part H sz rows lo=>o=.part H sz rows lo
def Bx(st st':ASt):Prop:=st.n=st'.n/\st.kb=st'.kb/\(∀p∈st'.t,kR (bM st.t p.1) p.2)/\∀p∈st'.h,fH (st.h.get p.1) p.2
theorem VRel.le{w:World}{M:Nat->Prop}{a b:AV}{u:Value}(h:VRel w M a u)(hl:kR a b):VRel w M b u:=by
 cases b with
 |any=>exact .any u
 | sl k H sz off len =>
   rcases hl with rfl|⟨rfl,rfl,rfl,rfl⟩
   ·exact h
   ·cases h;exact .sl _ _ _ _ _ _ ⟨⟨_,rfl⟩,rfl⟩
 | ro rows =>
   rcases hl with rfl|⟨rfl,rfl⟩
   ·exact h
   ·cases h;exact .ro _ _ (.empty _ _ eS)
 |_=>first|(cases hl;exact h)
theorem ALe.get:∀(l l':List AV),ALe l l'->l.length=l'.length/\∀(j:Nat) (b:AV),l'[j]? = some b->∃a,l[j]? = some a/\kR a b
 | [],[],_=>⟨rfl,λj b hb=>by simp at hb⟩
 | a :: l, b :: l', h => by
   obtain⟨h1,h2⟩:=ALe.get l l' h.2;refine⟨kW,λj b' hb=>?_⟩
   cases j with
   |zero=>simp at hb;subst hb;exact⟨a,rfl,h.1⟩
   |succ j=>simpa using h2 j b' (by simpa using hb)
 | [],_::_,h=>h.elim
 |_::_,[],h=>h.elim
theorem Uf{t:List (Nat×AV)}{i:Nat}:bM t i=.any\/(i,bM t i)∈t:=by
 induction t with
 |nil=>exact .inl rfl
 | cons p t ih =>
   obtain⟨k,v⟩:=p;unfold bM;exact Nf
theorem KT{h:AH}{i:Nat}:h.get i=.dead\/(i,h.get i)∈h:=by
 induction h with
 |nil=>exact .inl rfl
 | cons p t ih =>
   obtain⟨k,v⟩:=p;rw[bH];exact Nf
theorem fH.vars{o:AObj}{b:Nat}{T:TypeId}{cells:List AV}(h:fH o (.vars b T cells)):∃cells',o=.vars b T cells'/\ALe cells' cells:=by
 cases o with
 |vars b' T' cells'=>obtain⟨rfl,rfl,hl⟩:=h;exact⟨_,rfl,hl⟩
 |dead=>exact h.elim
 |rows=>exact h.elim
 |lent=>exact h.elim
 |part=>exact h.elim
theorem Bx.rep{w0:World}{base:Bs}{st st':ASt}{a:Act}{w:World}(h:Bx st st')(hR:Rep w0 base st a w):Rep w0 base st' a w:=by
 obtain⟨hn,hkb,ht,hh⟩:=h;obtain⟨E,H⟩:=hR.heap
 have hob:∀k,fH (st.h.get k) (st'.h.get k):=by
  intro k;rcases KT (h:=st'.h) (i:=k)with h|h
  ·rw[h];trivial
  ·exact hh _ h
 exact OE
def O5{β:Type}(Inv:β->Prop)(I:β->ASt)(μ:β->Nat)(x:β)(Q:Exit->ASt->Prop):Exit->ASt->Prop
 | .normal,st=>∃x',Inv x'/\μ x'<μ x/\Bx st (I x')
 |e,st=>Q e st
theorem aV.intro{E:Env}(hE:EOk E){body:Code}{Q:Exit->ASt->Prop}{st:ASt}{β:Type}(Inv:β->Prop)(I:β->ASt)(μ:β->Nat)(x0:β)(h0:Inv x0)(hw:Bx st (I x0))
 (hr:∀x,Inv x->ic E body (O5 Inv I μ x Q) (I x)):aV E body Q st:=by
 intro a w hR;refine wp_loop_ghost (λn a w=>∃x,Inv x/\μ x=n/\Rep E.w0 E.base (I x) a w) (μ x0) ⟨x0,h0,rfl,hw.rep hR⟩ ?_
 rintro n a w ⟨x,hx,rfl,hR⟩
 refine gT (dD hE body _ _ a w hR (hr x hx)) ?_
 rintro e a' w' ⟨st',hq,hR'⟩
 cases e with
 | normal =>
   exact LP
 |_=>exact⟨st',hq,hR'⟩
def Yx:AV->Value->Bool
 | .nil,.slice none 0 0=>true
 | .v (.int k n),.int k' n'=>decide (k=k')&&decide (n=n')
 | .v (.bool b),.bool b'=>b==b'
 | .v (.string s),.string s'=>decide (s=s')
 |_,_=>false
theorem Jd{a:AV}{v:Value}(h:Yx a v=true):v=zv a/\(a=.nil\/∃u,a=.v u/\plain u=true):=by
 unfold Yx at h
 split at h
 ·exact⟨rfl,.inl rfl⟩
 ·simp at h;obtain⟨rfl,rfl⟩:=h;exact⟨rfl,.inr ⟨_,rfl,rfl⟩⟩
 ·simp at h;subst h;exact⟨rfl,.inr ⟨_,rfl,rfl⟩⟩
 ·simp at h;subst h;exact⟨rfl,.inr ⟨_,rfl,rfl⟩⟩
 ·simp at h
def Ck:List AV->List Value->Bool
 | [],[]=>true
 |a::l,v::vs=>Yx a v&&Ck l vs
 |_,_=>false
theorem xk:∀(l:List AV) (vs:List Value),Ck l vs=true->vs=l.map zv/\∀a∈l,a=.nil\/∃u,a=.v u/\plain u=true
 | [],[],_=>⟨rfl,ab⟩
 | a :: l, v :: vs, h => by
   simp only[Ck,aI]at h;obtain⟨h1,h2⟩:=Jd h.1;obtain⟨h3,h4⟩:=xk l vs h.2;refine⟨by rw[h1,h3];rfl,λx hx=>?_⟩;rcases aX.1 hx with rfl|hx
   ·exact h2
   ·exact h4 x hx
 | [],_::_,h=>by simp[Ck]at h
 |_::_,[],h=>by simp[Ck]at h
def TS:Value->Bool
 | .agg _=>true
 |_=>false
def TZ(P:Program)(t:Nat)(ti:TI)(fs:Array Field):Bool:=
 !P.stoodInHeld t && !P.eqGuardType P.depth t && decide (fs.toList.map (·.offset) = List.range ti.n) && fs.toList.all fun f => !(f.name == "_") && match P.underlying f.type with
  |some (.int .i64)=>true
  |_=>false
theorem Im {P : Program} {t : Nat} {ti : TI} {fs : Array Field} (hu : P.underlying t = some (.struct fs)) (h : TZ P t ti fs = true) : ∃ fs : Array Field, P.underlying t = some (.struct fs) ∧ P.stoodInHeld t = false ∧ P.eqGuardType P.depth t = false ∧ fs.toList.map (·.offset) = List.range ti.n ∧ ∀ f ∈ fs.toList, f.name ≠ "_" ∧ P.underlying f.type = some (.int .i64) := by
 unfold TZ at h;simp only[aI,cz,cf,cB]at h;obtain⟨⟨⟨h1,h2⟩,h3⟩,h4⟩:=h;refine⟨fs,hu,h1,h2,h3,λf hf=>?_⟩;obtain⟨h5,h6⟩:=h4 f hf;refine⟨by simpa using h5,?_⟩
 split at h6
 ·assumption
 ·cases h6
def AQ(P:Program):List Bool->List Field->Bool
 | [],_=>true
 | b :: l, f :: fs => (match P.underlying f.type with
   |some (.struct _)=>b
   |some (.array _ _)=>false
   |some _=>!b
   |none=>false)&&AQ P l fs
 |_,_=>false
theorem vP{P:Program}:∀(l:List Bool) (fs:List Field),AQ P l fs=true->∀(i:Nat) (b:Bool),l[i]? = some b->∃f:Field,fs[i]? = some f/\if b then ∃gs,P.underlying f.type=some (.struct gs)else ∃d,P.underlying f.type=some d/\(∀gs,d≠.struct gs)/\(∀n e,d≠.array n e)
 | [],_,_,i,b,hi=>oc
 |c::l,[],h,i,b,hi=>by simp[AQ]at h
 | c :: l, f :: fs, h, i, b, hi => by
   simp only[AQ,aI]at h
   cases i with
   |succ i=>simpa using vP l fs h.2 i b ee
   | zero =>
     simp at hi;subst hi;refine⟨f,rfl,?_⟩;have h1:=h.1
     split at h1
     ·rename_i gs hg;simp[h1,hg]
     ·simp at h1
     ·rename_i d hd1 hd2 hd3
      simp at h1;subst h1;simp only[tE,dv];exact⟨d,hd3,λgs e=>hd1 gs e,λn e e2=>hd2 n e e2⟩
     ·simp at h1
def yC(P:Program)(t:Nat)(ti:TI):Bool:=
 (match P.info? t with
  |none=>false
  | some i => decide (i.size = ti.n) && decide (i.bytes = ti.bytes) && (match i.zero with
    |none=>false
    |some z=>Ck ti.zero z.cells.toList&&(!ti.agg || TS z))) &&
 decide (ti.zero.length=ti.n)&&decide (0<ti.n) &&
 (match P.underlying t with
  |none=>false
  |some (.struct fs)=>ti.agg&&decide (fs.toList.mapM (λf=>(P.info? f.type).map λi=>(f.offset,i.size))=some ti.fields)&&ti.fields.all (λp=>decide (0<p.2)&&decide (p.1+p.2<=ti.n)) &&
   decide (ti.sl=none)&&decide (ti.kind=none) && !ti.str && !ti.boo&&(!ti.ieq || TZ P t ti fs)&&AQ P ti.fagg fs.toList
  |some (.array _ _)=>false
  |some (.slice e)=>!ti.agg && !ti.ieq&&decide (ti.fields=[])&&decide (ti.n=1)&&(decide (ti.sl=none) || decide (ti.sl=some e))&&decide (ti.kind=none) && !ti.str && !ti.boo
  |some (.int k)=>!ti.agg && !ti.ieq&&decide (ti.fields=[])&&decide (ti.n=1)&&decide (ti.sl=none)&&(decide (ti.kind=none) || decide (ti.kind=some k)) && !ti.str && !ti.boo
  |some .string=>!ti.agg && !ti.ieq&&decide (ti.fields=[])&&decide (ti.n=1)&&decide (ti.sl=none)&&decide (ti.kind=none) && !ti.boo
  |some .bool=>!ti.agg && !ti.ieq&&decide (ti.fields=[])&&decide (ti.n=1)&&decide (ti.sl=none)&&decide (ti.kind=none) && !ti.str
  |some _=>false)
theorem BH{P:Program}{t:Nat}{ti:TI}(h:yC P t ti=true):TIok P t ti:=by
 unfold yC at h;simp only[aI,cf]at h;obtain⟨⟨⟨h1,h2⟩,h3⟩,h4⟩:=h
 split at h1
 ·simp at h1
 ·rename_i i hi
  simp only[aI,cf]at h1;obtain⟨⟨g1,g2⟩,g3⟩:=h1
  split at g3
  ·simp at g3
  ·rename_i z hz
   simp only[aI,gF,cz]at g3;obtain⟨g4,g5⟩:=xk _ _ g3.1
   have hinfo:∃i z,P.info? t=some i/\i.size=ti.n/\i.bytes=ti.bytes/\i.zero=some z/\z.cells.toList=ti.zero.map zv/\(ti.agg=true->∃cs,z=.agg cs):=by
    refine⟨i,z,hi,g1,g2,hz,g4,λha=>?_⟩;have:=g3.2.resolve_left (by simp[ha])
    cases z<;>simp[TS]at this
    exact⟨_,rfl⟩
   split at h4
   ·simp at h4
   ·rename_i fs hu
    simp only[aI,cf,cz,cB]at h4;obtain⟨⟨⟨⟨⟨⟨⟨⟨ha,hm⟩,hf⟩,hsl⟩,hk⟩,hs⟩,hb⟩,hq⟩,hfa⟩:=h4;exact⟨hinfo,g5,h2,h3,λ_=>⟨fs,hu,hm,hf⟩,λh=>u7,(λfs' hu'=>by rw[hu]at hu';cases hu';exact vP _ _ hfa),λe he=>by simp[hsl]at he,λk hk'=>by simp[hk]at hk',λh=>by simp[hs]at h,λh=>by simp[hb]at h,λh=>Im hu (by simpa[h]using hq)⟩
   ·simp at h4
   ·rename_i e hu
    simp only[aI,gF,cf,cz]at h4;obtain⟨⟨⟨⟨⟨⟨⟨ha,hie⟩,hf⟩,hn⟩,hsl⟩,hk⟩,hs⟩,hb⟩:=h4
    exact⟨hinfo,g5,h2,h3,λh=>u7,λ_=>⟨hf,hn,_,hu,(λ_ h=>lY),(λ_ _ h=>lY)⟩,(λfs' hu'=>yV),
     λe' he=>by rcases hsl with h|h<;>simp[h]at he;subst he;exact hu,λk hk'=>by simp[hk]at hk',λh=>by simp[hs]at h,λh=>by simp[hb]at h,λh=>by simp[hie]at h⟩
   ·rename_i k hu
    simp only[aI,gF,cf,cz]at h4;obtain⟨⟨⟨⟨⟨⟨⟨ha,hie⟩,hf⟩,hn⟩,hsl⟩,hk⟩,hs⟩,hb⟩:=h4
    exact⟨hinfo,g5,h2,h3,λh=>u7,λ_=>⟨hf,hn,_,hu,(λ_ h=>lY),(λ_ _ h=>lY)⟩,(λfs' hu'=>yV),
     λe' he=>by simp[hsl]at he,λk' hk'=>by rcases hk with h|h<;>simp[h]at hk';subst hk';exact hu,λh=>by simp[hs]at h,λh=>by simp[hb]at h,λh=>by simp[hie]at h⟩
   ·rename_i hu
    simp only[aI,cf,cz]at h4;obtain⟨⟨⟨⟨⟨⟨ha,hie⟩,hf⟩,hn⟩,hsl⟩,hk⟩,hb⟩:=h4
    exact⟨hinfo,g5,h2,h3,λh=>u7,λ_=>⟨hf,hn,_,hu,(λ_ h=>lY),(λ_ _ h=>lY)⟩,(λfs' hu'=>yV),
     λe' he=>by simp[hsl]at he,λk hk'=>by simp[hk]at hk',λ_=>hu,λh=>by simp[hb]at h,λh=>by simp[hie]at h⟩
   ·rename_i hu
    simp only[aI,cf,cz]at h4;obtain⟨⟨⟨⟨⟨⟨ha,hie⟩,hf⟩,hn⟩,hsl⟩,hk⟩,hs⟩:=h4
    exact⟨hinfo,g5,h2,h3,λh=>u7,λ_=>⟨hf,hn,_,hu,(λ_ h=>lY),(λ_ _ h=>lY)⟩,(λfs' hu'=>yV),
     λe' he=>by simp[hsl]at he,λk hk'=>by simp[hk]at hk',λh=>by simp[hs]at h,λ_=>hu,λh=>by simp[hie]at h⟩
   ·simp at h4
def HQ:List (Nat×TI)->Nat->Option TI
 | [],_=>none
 |(k,v)::l,t=>if t=k then some v else HQ l t
theorem CV:∀(l:List (Nat×TI)) (t:Nat) (ti:TI),HQ l t=some ti->(t,ti)∈l
 | (k, v) :: l, t, ti, h => by
   unfold HQ at h
   split at h
   ·rename_i hk;subst hk;cases h;exact aJ ..
   ·exact aC _ (CV l t ti h)
theorem SE{P:Program}{l:List (Nat×TI)}(h:(l.all λp=>yC P p.1 p.2)=true):∀t ti,HQ l t=some ti->TIok P t ti:=
 λt ti ht=>BH (cB.1 h (t,ti) (CV l t ti ht))
def CPd{α:Type}(p:(α->Prop)->Prop):Prop:=∀K,p K->∃v,K v/\p (λv'=>v'=v)
theorem xG(ti:TI)(row:List CD):CPd (gL ti row):=by
 intro K h;unfold gL at h⊢
 split at h
 ·rename_i hg;exact⟨_,h.2,by rw[an hg];exact⟨h.1,rfl⟩⟩
 ·rename_i hg
  cases row with
  |nil=>exact h.elim
  |cons d r=>exact⟨_,h,by rw[aq hg]⟩
theorem XE{E:Env}{x:AV}{p:AV->(AV->Prop)->Prop}(hp:∀v,CPd (p v)):CPd (λK=>aCv E x λv=>p v K):=by
 intro K h;simp only[aCv]at h⊢
 split at h
 ·obtain⟨rows,hr,h⟩:=h
  obtain⟨av,h1,h2⟩:=hp _ K h;exact⟨av,h1,rows,hr,h2⟩
 ·exact hp _ K h
theorem tn{E:Env}{T:Nat}{p:Nat->TI->(AV->Prop)->Prop}(hp:∀e te,CPd (p e te)):CPd (λK=>eH E T λe te=>p e te K):=by
 intro K h;simp only[eH]at h⊢
 cases hT:E.T T with
 |none=>simp[hT]at h
 | some ti =>
   simp only[hT]at h⊢
   cases hs:ti.sl with
   |none=>simp[hs]at h
   | some e =>
     simp only[hs]at h⊢
     cases he:E.T e with
     |none=>simp[he]at h
     | some te =>
       simp only[he]at h⊢;exact hp e te K h
theorem jN{c:Prop}{p:(AV->Prop)->Prop}(hp:CPd p):CPd (λK=>c/\p K):=by
 rintro K ⟨h1,h2⟩
 obtain⟨v,h3,h4⟩:=hp K h2;exact⟨v,h3,h1,h4⟩
theorem ry(v:AV):CPd (λK=>K v):=λ_ h=>⟨v,h,rfl⟩
theorem V8{rows:List (List CD)}{r:Nat}{p:List CD->(AV->Prop)->Prop}(hp:∀row,CPd (p row)):CPd (λK=>r<rows.length/\∀row,rows[r]? = some row->p row K):=by
 rintro K ⟨h1,h2⟩
 have hrow:=aj h1;obtain⟨v,h3,h4⟩:=hp _ K (h2 _ hrow);refine⟨v,h3,h1,λrow hr=>?_⟩;rw[hrow]at hr
 cases hr
 exact h4
theorem JT(ti:TI)(h:AH)(x:AV):CPd (loadAt ti h x):=by
 intro K hk;unfold loadAt at hk⊢
 cases x with
 | p k b c =>
   simp only at hk⊢
   cases hg:h.get k with
   | vars b' T cells =>
     simp only[hg]at hk⊢;refine jN (p:=ln ti cells c) ?_ K hk;intro K hk;unfold ln at hk⊢
     split at hk
     ·rename_i hg;exact⟨_,hk.2,by rw[an hg];exact⟨hk.1,rfl⟩⟩
     ·rename_i hg
      cases hc:cells[c]? with
      |none=>simp[hc]at hk
      |some av=>simp only[hc]at hk;exact⟨av,hk,by rw[aq hg]⟩
   |dead=>simp[hg]at hk
   |rows=>simp[hg]at hk
   |lent=>simp[hg]at hk
   |part=>simp[hg]at hk
 | e k H sz r c =>
   simp only at hk⊢
   cases hg:h.get k with
   | rows H' sz' rows own =>
     exact Mu
   | lent H' sz' rows =>
     exact Mu
   |dead=>simp[hg]at hk
   |vars=>simp[hg]at hk
   |part=>simp[hg]at hk
 |rp row=>exact xG ti row K hk
 |_=>exact hk.elim
theorem nk{x:Option AV}{z:Nat}{p:Nat->(AV->Prop)->Prop}(hp:∀n,CPd (p n)):CPd (λK=>eW x z λn=>p n K):=by
 intro K h;unfold eW at h⊢
 split at h
 ·exact hp z K h
 ·rename_i k n;exact jN (hp n.toNat) K h
 ·exact cM
theorem G0{x:AV}{p:Bool->(AV->Prop)->Prop}(hp:∀b,CPd (p b)):CPd (λK=>nN x λb=>p b K):=by
 intro K h;unfold nN at h⊢
 split at h
 ·exact hp _ K h
 ·exact cM
theorem ID(fields:List (Nat×Nat)):∀(parts:List (Nat×AV)) (cells:List AV) (K:List AV->Prop),oD fields cells parts K->∃l,K l/\oD fields cells parts (λl'=>l'=l)
 | [],cells,K,h=>⟨cells,h,rfl⟩
 | (i, v) :: rest, cells, K, h => by
   unfold oD at h⊢
   cases hf:fields[i]? with
   |none=>simp[hf]at h
   | some p =>
     obtain⟨off,n⟩:=p;simp only[hf]at h⊢;obtain⟨h1,h2,h3,h4⟩:=h;obtain⟨l,g1,g2⟩:=ID fields rest _ K h4;exact⟨l,g1,h1,h2,h3,g2⟩
theorem IX{E:Env}{s d:Nat}{rows:List (List CD)}{K:AV->Prop}(h:GE E s d rows K):∃v,K v/\GE E s d rows (λx=>x=v):=by
 obtain⟨h1,h2⟩:=h;unfold eH at h2
 split at h2
 ·rename_i ti hti
  split at h2
  ·rename_i e he
   split at h2
   ·rename_i te hte
    obtain⟨hk,l,hl,hK⟩:=h2;refine⟨_,hK,h1,?_⟩;unfold eH;simp only[hti,he,hte];exact⟨hk,l,hl,rfl⟩
   ·exact h2.elim
  ·exact h2.elim
 ·exact h2.elim
theorem Rr(E:Env)(st:ASt)(op:Op):CPd (xY E st op):=by
 intro K h;unfold xY at h⊢
 split at h
 ·exact⟨_,h,rfl⟩
 ·exact⟨_,h,rfl⟩
 ·rename_i c a b
  refine G0 (p:=λt K=>(t=true->K (st.ev a))/\(t=false->K (st.ev b))) (λt K h=>?_) K h
  cases t with
  |true=>exact⟨_,h.1 rfl,λ_=>rfl,eS⟩
  |false=>exact⟨_,h.2 rfl,eS,λ_=>rfl⟩
 ·unfold pa at h⊢
  split at h
  ·rename_i ti hti
   obtain⟨h1,h2⟩:=h;obtain⟨l,g1,g2⟩:=ID _ _ _ _ h2;refine⟨_,g1,h1,?_⟩;have:(λl'=>AV.agg l'=AV.agg l)=(λl'=>l'=l):=by funext l';simp
   rw[this];exact g2
  ·exact cM
 ·unfold qS at h⊢
  split at h
  ·exact JT _ _ _ K h
  ·exact cM
 ·unfold yA at h⊢
  split at h<;>first|exact h.elim|exact⟨_,h,rfl⟩
 ·rename_i op T x y ty
  unfold pK at h⊢
  split at h
  ·unfold iL at h⊢
   split at h<;>first
    |exact h.elim
    |exact⟨_,h,rfl⟩
    |exact⟨_,h.2,h.1,rfl⟩
    |exact⟨_,h.2.2,h.1,h.2.1,rfl⟩
  ·unfold Rw at h⊢
   split at h
   ·obtain⟨h1,h⟩:=h
    split at h
    ·obtain⟨h2,h3,h⟩:=h
     split at h<;>first
      |exact h.elim
      |exact⟨_,h,h1,h2,h3,rfl⟩
    ·exact cM
   ·exact cM
  ·exact cM
 ·rename_i T x
  exact G0 (p:=λb K=>K (.v (.bool (!b)))) (λb=>ry _) K h
 ·unfold mE at h⊢
  split at h
  ·unfold yg at h⊢
   obtain⟨h1,h⟩:=h
   split at h
   ·split at h
    ·exact⟨_,h,h1,rfl⟩
    ·exact cM
   ·exact cM
  ·exact IX h
  ·split at h
   ·obtain⟨h1,h2,h3,h⟩:=h
    obtain⟨v,k1,k2⟩:=IX h;exact⟨v,k1,h1,h2,h3,k2⟩
   ·exact cM
  ·exact cM
 ·exact⟨_,h.2,h.1,rfl⟩
 ·rename_i T x lo hi
  unfold lB at h⊢
  split at h
  ·rename_i rows _
   exact tn (p:=λ_ te K=>(∀row∈rows,row.length=te.n)/\eW (hi.map st.ev) rows.length λh=>h<=rows.length/\eW (lo.map st.ev) 0 λl=>l<=h/\K (AV.ro (cut rows l (h-l))))
    (λe te=>jN (nk λn=>jN (nk λm=>jN (ry _)))) K h
  ·rename_i k Hd sz off len _
   exact tn (p:=λ_ te K=>sz=te.n/\eW (hi.map st.ev) len λh=>h<=len/\eW (lo.map st.ev) 0 λl=>l<=h/\K (AV.sl k Hd sz (off+l) (h-l)))
    (λe te=>jN (nk λn=>jN (nk λm=>jN (ry _)))) K h
  ·exact jN (nk λn=>jN (nk λm=>jN (ry _))) K h
  ·exact cM
 ·unfold qB at h⊢
  split at h
  ·unfold fieldAt at h⊢
   split at h
   ·split at h
    ·exact⟨_,h,rfl⟩
    ·exact⟨_,h,rfl⟩
    ·exact⟨_,h.2,h.1,rfl⟩
    ·exact cM
   ·exact cM
  ·exact cM
 ·unfold qA at h⊢
  split at h
  ·unfold qu at h⊢
   split at h
   ·split at h
    ·rename_i hb
     simp only[hb,du];exact⟨_,h.2,h.1,rfl⟩
    ·rename_i hb
     simp only[hb];exact zb
   ·exact cM
  ·exact cM
 ·rename_i T x i
  refine tn (p:=λ_ te K=>aCv E (st.ev x) λv=>indexAt te v (st.ev i) K) (λe te=>XE (p:=λv K=>indexAt te v (st.ev i) K) (λz=>?_)) K h;intro K h;unfold indexAt at h⊢
  split at h
  ·obtain⟨h0,h1,h2⟩:=h
   rename_i rows k n _
   have hlt:n.toNat<rows.length:=aa;have hrow:=aj hlt;refine⟨_,(h2 _ hrow).2,h0,h1,λrow hr=>?_⟩;rw[hrow]at hr
   cases hr
   exact⟨(h2 _ hrow).1,rfl⟩
  ·exact⟨_,h.2.2.2,h.1,h.2.1,h.2.2.1,rfl⟩
  ·exact⟨_,h.2.2.2,h.1,h.2.1,h.2.2.1,rfl⟩
  ·exact cM
 ·unfold I3 at h⊢
  split at h
  ·obtain⟨h1,h2,h3,h4⟩:=h;exact⟨_,h4,h1,h2,h3,rfl⟩
  ·exact cM
 ·unfold gu at h⊢
  split at h
  ·exact zb
  ·exact cM
 ·exact cM
def roV:RV->AV
 | .c d _=>toAV d
 | .agg ts=>.agg (ts.map λt=>toAV t.1)
def roR:RR->AV
 | .one r=>roV r
 | .tup l=>.tup (l.map roV)
def Py(E:Env)(f:Nat)(avs:List AV)(h:AH)(K:AV->Prop):Prop:=∃args rr,nO E.P E.base.L f args rr/\sb E.rd h avs args/\K (roR rr)
def jf(E:Env)(st:ASt)(op:Op)(K:AV->Prop):Prop:=
 match op with
 | .call c => match c.callee, c.args.toList, c.argTypes.toList with
   | .builtin .len,[x],[T]=>tH E T (st.ev x) K
   | .builtin .min,[x,y],_=>Cb (st.ev x) (st.ev y) K
   | .builtin .max,[x,y],_=>I0 (st.ev x) (st.ev y) K
   | .value (.func f),args,_=>Py E f (args.map st.ev) st.h K
   |_,_,_=>False
 |op=>xY E st op K
def fG(E:Env)(all:List Oper)(o:Oper)(st:ASt)(K:AV->Prop):Prop:=
 match o.guard with
 |none=>jf E st o.op K
 | some (j, want) => match lE all j with
   | some d => match bM st.t d with
     | .v (.bool b)=>(b=want->jf E st o.op K)/\(b = !want->K .un)
     | .un=>K .un
     |_=>False
   |none=>False
theorem IY(E:Env)(st:ASt)(op:Op):CPd (jf E st op):=by
 intro K h;unfold jf at h⊢
 split at h
 ·split at h
  ·unfold tH at h⊢
   split at h
   ·exact sP
   ·exact sP
   ·exact sP
   ·exact sP
   ·exact sP
   ·exact sP
   ·exact⟨_,h.2,h.1,rfl⟩
   ·exact cM
  ·unfold Cb at h⊢
   exact zb
  ·unfold I0 at h⊢
   exact zb
  ·obtain⟨args,rr,h1,h2,h3⟩:=h
   exact⟨_,h3,args,rr,h1,h2,rfl⟩
  ·exact cM
 ·exact Rr E st _ K h
theorem Dl(E:Env)(all:List Oper)(o:Oper)(st:ASt):CPd (fG E all o st):=by
 intro K h;unfold fG at h⊢
 split at h
 ·exact IY E st _ K h
 ·rename_i j want _
  split at h
  ·split at h
   ·rename_i b _
    by_cases hb:b=want
    ·obtain⟨v,h1,h2⟩:=IY E st _ K (h.1 hb)
     exact⟨v,h1,λ_=>h2,λh'=>by subst hb;cases b<;>simp at h'⟩
    ·exact⟨.un,h.2 yX,λh'=>absurd h' hb,λ_=>rfl⟩
   ·exact⟨_,h,rfl⟩
   ·exact cM
  ·exact cM
def iC(o:Oper):List Nat:=o.op.operands.toList.filterMap λ| .tmp t=>some t|_=>none
def oZ(all:List Oper)(o:Oper):List Nat:=
 match o.guard with
 |some (j,_)=>(lE all j).toList
 |none=>[]
theorem Uy{st st':ASt}{x:Operand}(h:∀t,x=.tmp t->bM st'.t t=bM st.t t):st'.ev x=st.ev x:=by
 cases x with
 |tmp t=>exact h t rfl
 |_=>rfl
theorem KC{E:Env}{st st':ASt}{op:Op}{K:AV->Prop}(he:∀x∈op.operands,st'.ev x=st.ev x)(hh:st'.h=st.h)(h:jf E st op K):jf E st' op K:=by
 unfold jf at h⊢
 split at h
 ·rename_i c
  have ha:∀x∈c.args.toList,st'.ev x=st.ev x:=λx hx=>he x (by simp only[Op.operands,Call.operands,Array.mem_append];exact .inr oa)
  split at h
  ·rename_i x T _ hargs _
   rw[ha x (by rw[hargs];simp)];exact h
  ·exact Mc
  ·exact Mc
  ·rw[hh,Ds ha];exact h
  ·exact cM
 ·unfold xY at h⊢
  split at h
  all_goals first
   |exact h.elim
   |(simp only[Op.operands,List.mem_toArray,aX,List.not_mem_nil,or_false,PA,forall_eq]at he;first|rw[he];exact h|(rw[he,hh];exact h)|(rw[he.1,he.2];exact h)|(rw[he.1,he.2.1,he.2.2];exact h))
   |skip
  ·rename_i T parts _
   have:(parts.toList.map λq=>(q.1,st'.ev q.2))=parts.toList.map λq=>(q.1,st.ev q.2):=by
    refine Ds λq hq=>?_
    rw[he q.2 (by simp only[Op.operands,List.mem_toArray,cE];exact⟨q,hq,rfl⟩)]
   rw[this];exact h
  ·rename_i f first caps _
   have:caps.toList.map st'.ev=caps.toList.map st.ev:=Ds λx hx=>he x (by simp only[Op.operands,Array.mem_append];exact .inr oa)
   rw[this];exact h
  ·rename_i T x lo hi _
   rw[he x (by simp[Op.operands])]
   have h1:lo.map st'.ev=lo.map st.ev:=by
    cases lo with
    |none=>rfl
    |some y=>simp only[fQ];rw[he y (by simp[Op.operands])]
   have h2:hi.map st'.ev=hi.map st.ev:=by
    cases hi with
    |none=>rfl
    |some y=>simp only[fQ];rw[he y (by simp[Op.operands])]
   rw[h1,h2];exact h
theorem HA{o:Oper}{x:Operand}(hx:x∈o.op.operands){t:Nat}(ht:x=.tmp t):t∈iC o:=by
 unfold iC;rw[gj];exact⟨x,oa,by rw[ht]⟩
theorem r8{E:Env}{all:List Oper}{o:Oper}{st st':ASt}{K:AV->Prop}(he:∀s,s∈iC o\/s∈oZ all o->bM st'.t s=bM st.t s)(hh:st'.h=st.h)(h:fG E all o st K):fG E all o st' K:=by
 have key:jf E st o.op K->jf E st' o.op K:=KC (λx hx=>Uy λt ht=>he t (.inl (HA hx ht))) hh;unfold fG at h⊢
 split at h
 ·exact key h
 ·rename_i j want hg
  split at h
  ·rename_i d hd
   have:bM st'.t d=bM st.t d:=he d (.inr (by simp[oZ,hg,hd]));rw[this]
   split at h
   ·exact⟨λhb=>key (h.1 hb),h.2⟩
   ·exact h
   ·exact cM
  ·exact cM
theorem lG.rd{w:World}{S:Nat->Prop}{v:Value}{t:CD×Nat}(h:lG w S v t):Rd w true S v t.1:=by
 obtain⟨d,sz⟩:=t
 cases d with
 |v u=>obtain⟨rfl,hp⟩:=h;exact .plain hp
 |h=>exact h.elim
 | s rows =>
   obtain⟨h1,h2,h3⟩:=h;rcases h3 with⟨rfl,a,rfl⟩|⟨b,off,cap,cs,T,F,rfl,g2,g3,g4,g5,g6,g7,g8,g9⟩
   ·exact .empty _ _ (λ_=>rfl)
   ·exact .slice b off cap sz cs T (0,0) rows F g4 g5 h1 g2 g3 (by have:=ao sz g4;omega) (λ_=>⟨rfl,g6⟩) (λi j c hc=>⟨(g7 i j c hc).1,λ_=>(g7 i j c hc).2⟩) (λ_=>g8) h2 g9
theorem OP{w:World}{M S:Nat->Prop}{v:Value}{r:RV}(h:tI w S v r)(hM:∀c,S c->¬M c):VRel w M (roV r) v:=by
 cases r with
 |c d sz=>exact jR ((lG.rd h).weaken.map (λ_ _ _=>rfl) (λc hc _=>hM c hc))
 | agg ts =>
   obtain⟨xs,F,rfl,h2,h3,h4,h5⟩:=h;refine .agg _ _ (by simp[h2]) (λi av hi=>?_);simp only[ch,aU]at hi;obtain⟨t,ht,rfl⟩:=hi;exact jR ((lG.rd (h5 i t ht)).weaken.map (λ_ _ _=>rfl) (λc hc _=>hM c (h3 i c hc)))
theorem Fs{w:World}{M S:Nat->Prop}{v:Value}{r:RR}(h:GK w S v r)(hM:∀c,S c->¬M c):VRel w M (roR r) v:=by
 cases r with
 |one r=>exact OP h hM
 | tup l =>
   obtain⟨xs,F,rfl,h2,h3,h4,h5⟩:=h;refine .tup _ _ (by simp[h2]) (λi av hi=>?_);simp only[ch,aU]at hi;obtain⟨t,ht,rfl⟩:=hi;exact OP (h5 i t ht) (λc hc=>hM c (h3 i c hc))
structure Quiet(base:Bs)(h:AH)(w w':World)(v:AV)(r:Value):Prop where
 rel:∃E,HRel base h w' E
 tr:Tr h.M w h.M w'
 same:Same w w'
 val:VRel w' h.M v r
theorem Rq{E:Env}(hE:EOk E){st:ASt}{a:Act}{w:World}(hR:Rep E.w0 E.base st a w){o:Oper}{v:AV}(h:jf E st o.op (λv'=>v'=v)){next:Act->World->Prop}{Q:Exit->Act->World->Prop}
 (hn:∀r w',Quiet E.base st.h w w' v r->next (a.put o.dst r) w'):o.wp E.P a w next Q:=by
 have hv:=λx=>VRel.ev hR x
 obtain⟨Es,hH⟩:=hR.heap
 have put:∀{r:Value}{av:AV},VRel w st.h.M av r->av=v->next (a.put o.dst r) w:=by
  rintro r av h1 rfl
  exact hn _ _ ⟨⟨Es,hH⟩,Tr.refl _ _,⟨rfl,rfl,rfl⟩,h1⟩
 unfold jf at h;unfold Oper.wp
 split at h
 ·rename_i c ho
  split at h
  ·rename_i x T hc ha ht
   obtain⟨r,av,h1,h2,h3⟩:=Bn hE (ty:=o.type) (hv x) h;have ha':c.args = #[x]:=pQ;have ht':c.argTypes = #[T]:=DV;simp[execOp,ho,resolve,hc,ha',ht',invoke,builtin,h1];exact put h2 h3
  ·rename_i x y hc ha
   unfold Cb at h
   split at h
   ·rename_i k p k' q hx hy
    have ha':c.args = #[x,y]:=pQ;have h1:=hv x;rw[hx]at h1;have h2:=hv y;rw[hy]at h2;generalize hu:a.eval x=u at h1;generalize hu':a.eval y=u' at h2
    cases h1;cases h2
    simp[execOp,ho,resolve,hc,ha',invoke,builtin,hu,hu',run_min_int2];exact put (.v _ rfl) h
   ·exact h.elim
  ·rename_i x y hc ha
   unfold I0 at h
   split at h
   ·rename_i k p k' q hx hy
    have ha':c.args = #[x,y]:=pQ;have h1:=hv x;rw[hx]at h1;have h2:=hv y;rw[hy]at h2;generalize hu:a.eval x=u at h1;generalize hu':a.eval y=u' at h2
    cases h1;cases h2
    simp[execOp,ho,resolve,hc,ha',invoke,builtin,hu,hu',run_max_int2];exact put (.v _ rfl) h
   ·exact h.elim
  ·rename_i f hc
   obtain⟨args,rr,hpc,hin,hv'⟩:=h
   have hrun:(execOp a.eval o).run E.P w=.ok (.enter f (c.args.map a.eval)) w:=by
    simp[execOp,ho,resolve,hc,Act.eval,Deferred.ofValue,invoke,p7 hpc.1]
   rw[hrun,Oper.upon_enter];obtain⟨hl,hr⟩:=kO hH hR.rd _ args (vX hR c.args.toList (c.args.map a.eval) (zA _ _)) hin;refine(hpc.2 w (hE.2 w hR.below) _ (by simp at hl⊢;exact hl) hr).mono ?_
   rintro e w' ⟨u,rfl,hb,hrr⟩
   have t:Tr st.h.M w st.h.M w':=⟨hb.size,λb hlt _=>hb.block b hlt,λb _ h=>h⟩;refine hn _ _ ⟨⟨Es,λk=>(hH.obj k).tr t (λb hk=>hb.block b (hH.lt hk)) (λc hc _=>hc),hH.inj,hH.low,λk c hc=>⟨(hH.elow k c hc).1,cg (hH.elow k c hc).2 hb.size⟩,hH.einj,hH.em⟩,t,⟨hb.os,hb.tape,hb.output⟩,?_⟩;subst hv';exact Fs hrr (λc hc ⟨k,hk⟩=>yW)
  ·exact h.elim
 ·obtain⟨r,av,h1,h2,h3⟩:=xX hE hR h
  rw[h1];exact put h2 h3
def da(o:Oper)(k:Nat):Bool:=o.after.any λe=>Region.binds .any e&&e.on==k
def bg(ops:List Oper)(i:Nat):Oper:=ops.getD i default
def oV:List Nat->Bool
 |a::b::l=>decide (a<b)&&oV (b::l)
 |_=>true
def ug(ops:List Oper):List Nat->Bool
 |a::b::l=>da (bg ops b) a&&ug ops (b::l)
 |_=>true
def Gq(ops:List Oper)(pre tail:List Nat):Bool:=
 (List.range ops.length).all (λi=>pre.contains i || tail.contains i) &&
 pre.all (λi=>decide (i<ops.length) && !tail.contains i)&&tail.all (λi=>decide (i<ops.length))&&oV pre&&oV tail &&
 (List.range ops.length).all (λi=>(bg ops i).after.all λe=>!Region.binds .any e || decide (e.on<i)) &&
 (List.range ops.length).all (λi=>(List.range ops.length).all λk=>i==k || (bg ops i).dst==none || (bg ops i).dst != (bg ops k).dst) &&
 pre.all (λi=>(bg ops i).dst.isSome&&(iC (bg ops i)++oZ ops (bg ops i)).all λs=>(List.range ops.length).all λk=>
  (bg ops k).dst != some s || (if pre.contains k then da (bg ops i) k else da (bg ops k) i)) &&
 tail.all (λt=>(bg ops t).guard.isNone&&(iC (bg ops t)).all λs=>pre.all λk=>(bg ops k).dst != some s || da (bg ops t) k)
def uH(ops:List Oper)(pre tail:List Nat):Bool:=Gq ops pre tail&&ug ops tail
abbrev PV:=List (Nat×Oper×AV)
def pvT(pv:PV):List (Nat×AV):=pv.filterMap λp=>p.2.1.dst.map λd=>(d,p.2.2)
def gg(pv:PV):List (Nat×AV):=pv.filterMap λp=>p.2.1.dst.map λd=>(d,AV.any)
def uM(E:Env)(all:List Oper)(st:ASt)(pv:PV):List (Nat×Oper)->(PV->Prop)->Prop
 | [],K=>K pv
 |(i,o)::rest,K=>fG E all o { st with t:=pvT pv++st.t } λv=>uM E all st ((i,o,v)::pv) rest K
def xV(E:Env)(all:List Oper)(st:ASt)(pv:PV):List Nat->List (Nat×Oper)->ASt->(ASt->Prop)->Prop
 |G,[],st2,K=>K { st2 with t:=pvT (pv.filter λp=>!G.contains p.1)++st2.t }
 | G, (_, o) :: rest, st2, K =>
   aOp E o { st2 with t:=pvT (pv.filter λp=>da o p.1 && !G.contains p.1)++st2.t } λst3=>
    (∀p∈pv.filter (λp => !da o p.1 && !G.contains p.1),fG E all p.2.1 { st with t:=pvT pv++st.t,h:=st3.h } λv=>v=p.2.2) /\
    xV E all st pv ((pv.filter λp=>da o p.1 && !G.contains p.1).map (·.1)++G) rest st3 K
def aej(E:Env)(ops:List Oper)(pre tail:List Nat)(K:ASt->Prop)(st:ASt):Prop:=
 uM E ops st [] (pre.map λi=>(i,bg ops i)) λpv=>(∀p∈pv,∀d,p.2.1.dst=some d->d<st.n) /\
  xV E ops st pv [] (tail.map λi=>(i,bg ops i)) { st with t:=gg pv++st.t } K
theorem kG{l t:List (Nat×AV)}{s:Nat}(h:∀p∈l,p.1≠s):bM (l++t) s=bM t s:=by
 induction l with
 |nil=>rfl
 | cons p l ih =>
   obtain⟨k,v⟩:=p;simp only[dn,bM];rw[aq (λhe=>h _ (aJ ..) he.symm)];exact ih (λp hp=>h p (aC _ hp))
theorem iK{l t:List (Nat×AV)}{s:Nat}{v:AV}(h:(s,v)∈l)(hu:∀p∈l,p.1=s->p.2=v):bM (l++t) s=v:=by
 induction l with
 |nil=>simp at h
 | cons p l ih =>
   obtain⟨k,u⟩:=p;simp only[dn,bM];by_cases hk:s=k
   ·rw[an hk]
    exact hu _ (aJ ..) hk.symm
   ·rw[aq hk]
    refine ih ?_ (λp hp=>hu p (aC _ hp));rcases aX.1 h with h|h
    ·simp at h;exact absurd h.1 hk
    ·exact h
structure PvOk(ops:List Oper)(pre:List Nat)(pv:PV):Prop where
 op:∀p∈pv,p.1∈pre/\p.2.1=bg ops p.1
 one:∀p∈pv,∀q∈pv,p.1=q.1->p=q
structure DrawOk(ops:List Oper)(pre tail:List Nat):Prop where
 all:∀i,i<ops.length->i∈pre\/i∈tail
 hpre:∀i∈pre,i<ops.length/\i∉tail
 htail:∀i∈tail,i<ops.length
 ipre:oV pre=true
 itail:oV tail=true
 back:∀i,i<ops.length->∀e∈(bg ops i).after,Region.binds .any e=true->e.on<i
 dst:∀i,i<ops.length->∀k,k<ops.length->∀d,(bg ops i).dst=some d->(bg ops k).dst=some d->i=k
 has:∀i∈pre,∃d,(bg ops i).dst=some d
 use:∀i∈pre,∀s,s∈iC (bg ops i)\/s∈oZ ops (bg ops i)->∀k,k<ops.length->(bg ops k).dst=some s->(k∈pre/\da (bg ops i) k=true)\/(k∉pre/\da (bg ops k) i=true)
 grd:∀t∈tail,(bg ops t).guard=none
 tuse:∀t∈tail,∀s∈iC (bg ops t),∀k∈pre,(bg ops k).dst=some s->da (bg ops t) k=true
theorem B8{ops:List Oper}{pre tail:List Nat}(h:Gq ops pre tail=true):DrawOk ops pre tail:=by
 simp only[Gq,aI,cB,fw,gF,cf,pb,tF,cz,aP,mJ,bne_iff_ne,mw]at h;obtain⟨⟨⟨⟨⟨⟨⟨⟨h1,h2⟩,h3⟩,h4⟩,h5⟩,h6⟩,h7⟩,h8⟩,h9⟩:=h;refine⟨h1,λi hi=>⟨(h2 i hi).1,λht=>by have:=(h2 i hi).2;simp[ht]at this⟩,h3,h4,h5,λi hi e he hb=>?_,λi hi k hk d hd hd'=>?_,λi hi=>(h8 i hi).1,λi hi s hs k hk hd=>?_,λt ht=>?_,λt ht s hs k hk hd=>?_⟩
 ·rcases h6 i hi e he with h|h
  ·simp[hb]at h
  ·exact h
 ·exact MJ
 ·exact Nl
 ·have:=(h9 t ht).1
  cases hg:(bg ops t).guard with
  |none=>rfl
  |some g=>simp[hg]at this
 ·rcases(h9 t ht).2 s hs k hk with h|h
  ·exact absurd hd h
  ·exact h
theorem Gn{ops:List Oper}{pre tail:List Nat}(h:uH ops pre tail=true):DrawOk ops pre tail:=B8 (by unfold uH at h;simp only[aI]at h;exact h.1)
theorem Gp{ops:List Oper}{pre tail:List Nat}(h:uH ops pre tail=true):ug ops tail=true:=by unfold uH at h;simp only[aI]at h;exact h.2
theorem FO:∀(l:List Nat),oV l=true->∀a∈l.head?,∀b∈l.tail,a<b
 | [],_,a,ha,_,_=>by simp at ha
 | [_],_,a,_,b,hb=>by simp at hb
 | a :: b :: l, h, x, hx, y, hy => by
   simp only[oV,aI,cf]at h;simp at hx;subst hx;rcases aX.1 hy with rfl|hy
   ·exact h.1
   ·exact Nat.lt_trans h.1 (FO (b::l) h.2 b ab y hy)
theorem CZ{a:Nat}{l:List Nat}(h:oV (a::l)=true):oV l=true:=by
 exact Mj
theorem FF{pv:PV}{s:Nat}{v:AV}:(s,v)∈pvT pv↔∃p∈pv,p.2.1.dst=some s/\p.2.2=v:=by
 exact NN
section
variable {ops:List Oper}{pre tail:List Nat}(D:DrawOk ops pre tail) {pv:PV}(hpv:PvOk ops pre pv)
include D hpv
theorem JD{p q:Nat×Oper×AV}(hp:p∈pv)(hq:q∈pv){d:Nat}(h1:p.2.1.dst=some d)(h2:q.2.1.dst=some d):p=q:=by
 exact Nv
theorem Pa{p:Nat×Oper×AV}(hp:p∈pv){d:Nat}(hd:p.2.1.dst=some d)(t:List (Nat×AV)):bM (pvT pv++t) d=p.2.2:=by
 refine iK (FF.2 ⟨p,hp,hd,rfl⟩) (λq hq he=>?_);obtain⟨k,v⟩:=q;obtain⟨q',hq',hd',rfl⟩:=FF.1 hq;simp only at he;subst he;rw[JD D hpv hq' hp hd' hd]
end
theorem qt{pv:PV}{s:Nat}(h:∀p∈pv,p.2.1.dst≠some s)(t:List (Nat×AV)):bM (pvT pv++t) s=bM t s:=by
 refine kG (λq hq he=>?_);obtain⟨k,v⟩:=q;obtain⟨p,hp,hd,-⟩:=FF.1 hq;simp only at he;subst he;exact h p hp hd
theorem Dm{E:Env}{ops:List Oper}{pre tail:List Nat}(D:DrawOk ops pre tail){st:ASt}:∀(l done:List Nat) (pv:PV) {K:PV->Prop},pre=done++l->PvOk ops pre pv->(∀p∈pv,p.1∈done)->(∀i∈done,∃p∈pv,p.1=i) ->
 (∀p∈pv,fG E ops p.2.1 { st with t:=pvT pv++st.t } λv=>v=p.2.2)->uM E ops st pv (l.map λi=>(i,bg ops i)) K ->
 ∃pv',K pv'/\PvOk ops pre pv'/\(∀i∈pre,∃p∈pv',p.1=i)/\∀p∈pv',fG E ops p.2.1 { st with t:=pvT pv'++st.t } λv=>v=p.2.2
 | [],done,pv,K,he,hpv,hdone,hall,hval,h=>⟨pv,h,hpv,λi hi=>hall i (by simpa[he]using hi),hval⟩
 | i :: l, done, pv, K, he, hpv, hdone, hall, hval, h => by
   simp only[bL,uM]at h;obtain⟨v,h1,h2⟩:=Dl E ops _ _ _ h;have hip:i∈pre:=by rw[he];simp
   have hlt:∀j∈done,j<i:=by
    have hinc:=D.ipre;rw[he]at hinc
    clear h h1 h2 hval hall hdone hpv he
    induction done with
    |nil=>simp
    | cons a done ih =>
      intro j hj;rcases aX.1 hj with rfl|hj
      ·exact FO _ hinc j ab i ab
      ·exact ih (CZ hinc) j hj
   have hpv':PvOk ops pre ((i,bg ops i,v)::pv):=by
    exact Oa
   have key:∀p:Nat×Oper×AV,p.1∈pre->p.2.1=bg ops p.1->p.1<=i->fG E ops p.2.1 { st with t:=pvT pv++st.t } (λv=>v=p.2.2) ->
    fG E ops p.2.1 { st with t:=pvT ((i,bg ops i,v)::pv)++st.t } (λv=>v=p.2.2):=by
    intro p hp1 hp2 hple hp;refine r8 (st:={ st with t:=pvT pv++st.t }) (λs hs=>?_) rfl hp;obtain⟨d,hd⟩:=D.has i hip
    have hne:d≠s:=by
     exact N3
    show bM (pvT ((i,bg ops i,v)::pv)++st.t) s=bM (pvT pv++st.t) s
    have:pvT ((i,bg ops i,v)::pv)=(d,v)::pvT pv:=by simp[pvT,hd]
    rw[this];simp only[dn,bM];rw[aq (λh=>hne h.symm)]
   refine Dm D l (done++[i]) ((i,bg ops i,v)::pv) (by simp[he]) hpv' (λp hp=>?_) (λj hj=>?_) (λp hp=>?_) h1
   ·rcases aX.1 hp with rfl|hp
    ·simp
    ·simp[hdone p hp]
   ·exact NB
   ·exact Nw
open Go.RowKit
theorem Q1{l:List Nat}{p q:Nat->Bool}(h:∀x∈l,q x=true->p x=true){i:Nat}(hi:i∈l)(hp:p i=true)(hq:q i=false):(l.filter q).length<(l.filter p).length:=by
 induction l with
 |nil=>simp at hi
 | cons a l ih =>
   have hle:∀l:List Nat,(∀x∈l,q x=true->p x=true)->(l.filter q).length<=(l.filter p).length:=by
    intro l h
    induction l with
    |nil=>simp
    | cons b l ih =>
      have h1:=ih (λx hx=>h x (aC _ hx));have h2:=h b (aJ ..)
      cases hqb:q b<;>cases hpb:p b<;>simp[hqb,hpb]at h2⊢<;>omega
   have hl:∀x∈l,q x=true->p x=true:=λx hx=>h x (aC _ hx)
   rcases aX.1 hi with rfl|hi
   ·have:=hle l hl
    simp[hp,hq];omega
   ·have h1:=ih hl hi
    have h2:=h a (aJ ..)
    cases hqb:q a<;>cases hpb:p a<;>simp[hqb,hpb]at h2⊢<;>omega
def on(L:Array Bool)(i:Nat):Bool:=L.getD i false
theorem JI{L:Array Bool}{i j:Nat}(hi:i<L.size):on (L.setIfInBounds i true) j=if j=i then true else on L j:=by
 unfold on;simp only[aW,Array.getElem?_setIfInBounds];by_cases h:i=j
 ·subst h;simp[hi]
 ·simp[h,VB h]
theorem pq{ops:List Oper}{L:Array Bool}(hL:L.size=ops.length){i:Nat}:i∈Region.ready .any ops.toArray L↔i<ops.length/\on L i=false/\∀k,da (bg ops i) k=true->on L k=true:=by
 unfold Region.ready;rw[cl,fw];simp only[List.size_toArray,iz,aI,cz]
 constructor
 ·rintro⟨h1,h2,h3⟩
  have hsz:i<L.size:=aa;have hop:bg ops i=ops[i]:=by simp[bg,h1]
  refine⟨h1,?_,λk hk=>?_⟩
  ·unfold on
   exact MD
  ·rw[aj h1]at h3
   simp only[fQ,lH,tF,gF,cz]at h3;rw[hop]at hk;simp only[da,GX,aI,mJ]at hk;obtain⟨e,he,hb,rfl⟩:=hk;rcases h3 e he with h|h
   ·simp[hb]at h
   ·exact h
 ·rintro⟨h1,h2,h3⟩
  have hsz:i<L.size:=aa;have hop:bg ops i=ops[i]:=by simp[bg,h1]
  refine⟨h1,?_,?_⟩
  ·unfold on at h2
   exact MD
  ·rw[aj h1]
   simp only[fQ,lH,tF,gF,cz];intro e he
   cases hb:Region.binds .any e with
   |false=>exact .inl rfl
   | true =>
     right
     refine h3 e.on ?_;rw[hop];simp only[da,GX,aI,mJ];exact⟨e,he,hb,rfl⟩
theorem KR{w0:World}{base:Bs}{st:ASt}{a:Act}{w:World}(hR:Rep w0 base st a w){d:Option Nat}(r:Value)(h:∀s,d=some s->bM st.t s=.any):Rep w0 base st (a.put d r) w:=by
 cases d with
 |none=>exact hR
 | some d =>
   refine⟨hR.dfr,by simp[Act.put,hR.size],λi=>?_,hR.heap,hR.below,hR.base_le⟩;by_cases hi:i=d
   ·subst hi;rw[h i rfl];exact .any _
   ·have:(a.put (some d) r).tmps.getD i undef=a.tmps.getD i undef:=by
     simp[Act.put,VB hi]
    rw[this];exact hR.tmp i
theorem p9{a:Act}{d:Option Nat}{r:Value}{s:Nat}(h:d≠some s):(a.put d r).tmps.getD s undef=a.tmps.getD s undef:=by
 cases d with
 |none=>rfl
 | some d =>
   have:d≠s:=λhe=>h (by rw[he])
   simp[Act.put,this]
theorem S8{a:Act}{d:Nat}{r:Value}(h:d<a.tmps.size):(a.put (some d) r).tmps.getD d undef=r:=by simp[Act.put,h]
theorem Bj{E:Env}(hE:EOk E){ops:List Oper}{st:ASt}{a:Act}{w:World}(hR:Rep E.w0 E.base st a w){o:Oper}{v:AV}(h:fG E ops o st (λv'=>v'=v)){next:Act->World->Prop}{Q:Exit->Act->World->Prop}
 (hn:∀r w',Quiet E.base st.h w w' v r->next (a.put o.dst r) w') :
 if Region.wanted o (yielded ops.toArray a.tmps)then o.wp E.P a w next Q\/(o.asks E.P a w/\LetsOut Q)else next (a.put o.dst undef) w:=by
 have run:jf E st o.op (λv'=>v'=v)->o.wp E.P a w next Q:=λh=>Rq hE hR h hn
 have skip:AV.un=v->next (a.put o.dst undef) w:=by
  rintro rfl
  obtain⟨Es,hH⟩:=hR.heap;exact hn _ _ ⟨⟨Es,hH⟩,Tr.refl _ _,⟨rfl,rfl,rfl⟩,.un⟩
 unfold fG at h
 split at h
 ·rename_i hg
  rw[an yY];exact .inl (run h)
 ·rename_i j want hg
  split at h
  ·rename_i d hd
   have hd':(ops.toArray[j]?).bind (·.dst)=some d:=by simpa[lE]using hd
   split at h
   ·rename_i b hb
    have hv:=hR.tmp d;rw[hb]at hv;generalize hu:a.tmps.getD d undef=u at hv
    cases hv
    have hy:yielded ops.toArray a.tmps j=some b:=Lb;by_cases hbw:b=want
    ·rw[an sG]
     exact .inl (run (h.1 hbw))
    ·rw[aq sG]
     exact skip (h.2 yX)
   ·rename_i hb
    have hv:=hR.tmp d;rw[hb]at hv;generalize hu:a.tmps.getD d undef=u at hv
    cases hv
    have hy:yielded ops.toArray a.tmps j=none:=by
     exact EP
    rw[aq DU];exact skip h
   ·exact h.elim
  ·exact h.elim
theorem vO(f:Nat->AV):∀(l:List Nat) (i:Nat),bM (l.map λs=>(s,f s)) i=if i∈l then f i else .any
 | [],i=>by simp[bM]
 | s :: l, i => by
   simp only[bL,bM];by_cases h:i=s
   ·subst h;simp
   ·rw[aq h,vO f l i]
    simp[h]
theorem Bb{ops:List Oper}:∀(l:List Nat),ug ops l=true->∀t∈l.tail,∃p∈l,da (bg ops t) p=true
 | [],_,t,ht=>by simp at ht
 | [_],_,t,ht=>by simp at ht
 | a :: b :: l, h, t, ht => by
   simp only[ug,aI]at h;rcases aX.1 ht with rfl|ht
   ·exact⟨a,ab,h.1⟩
   ·obtain⟨p,hp,hd⟩:=Bb (b::l) h.2 t ht
    exact⟨p,aC _ hp,hd⟩
theorem Bc{ops:List Oper}:∀(done rem:List Nat),ug ops (done++rem)=true->ug ops rem=true
 | [],rem,h=>h
 | [a],[],_=>rfl
 | [a],b::l,h=>by simp only[dn,iM,ug,aI]at h;exact h.2
 | a :: b :: l, rem, h => by
   simp only[dn,ug,aI]at h;exact Bc (b::l) rem h.2
theorem C2:∀(done rem:List Nat),oV (done++rem)=true->oV rem=true
 | [],_,h=>h
 |_::done,rem,h=>C2 done rem (CZ h)
structure DInv(E:Env)(ops:List Oper)(pre tail:List Nat)(st:ASt)(pv:PV)(K:ASt->Prop)(L:Array Bool)(a:Act)(w:World)(G done rem:List Nat)(st2:ASt):Prop where
 split:tail=done++rem
 don:∀t∈done,on L t=true
 roff:∀t∈rem,on L t=false
 obl:xV E ops st pv G (rem.map λi=>(i,bg ops i)) st2 K
 rep:Rep E.w0 E.base st2 a w
 n:st2.n=st.n
 g:∀i∈G,on L i=true
 val:∀p∈pv,on L p.1=true->∀d,p.2.1.dst=some d->VRel w st2.h.M p.2.2 (a.tmps.getD d undef)
 pend:∀p∈pv,p.1∉G->fG E ops p.2.1 { st with t:=pvT pv++st.t,h:=st2.h } λv=>v=p.2.2
 mask:∀p∈pv,p.1∉G->∀d,p.2.1.dst=some d->bM st2.t d=.any
 frame:∀s,(∀k,k<ops.length->on L k=true->(bg ops k).dst≠some s)->VRel w st2.h.M (bM st.t s) (a.tmps.getD s undef)
 edges:∀t∈done,∀i,da (bg ops t) i=true->on L i=true
theorem PvOk.filter{ops:List Oper}{pre:List Nat}{pv:PV}(h:PvOk ops pre pv)(f:Nat×Oper×AV->Bool):PvOk ops pre (pv.filter f):=
 ⟨λp hp=>h.op p ((cl.1 hp).1),λp hp q hq=>h.one p ((cl.1 hp).1) q ((cl.1 hq).1)⟩
theorem Dq{w0:World}{base:Bs}{ops:List Oper}{pre tail:List Nat}(D:DrawOk ops pre tail){pv:PV}(hpv:PvOk ops pre pv){st:ASt}{a:Act}{w:World}(hR:Rep w0 base st a w)
 (hv:∀p∈pv,∀d,p.2.1.dst=some d->VRel w st.h.M p.2.2 (a.tmps.getD d undef)):Rep w0 base { st with t:=pvT pv++st.t } a w:=by
 refine⟨hR.dfr,hR.size,λs=>?_,hR.heap,hR.below,hR.base_le⟩;by_cases h:∃p∈pv,p.2.1.dst=some s
 ·obtain⟨p,hp,hd⟩:=h
  show VRel w st.h.M (bM (pvT pv++st.t) s) _
  rw[Pa D hpv hp hd];exact hv p hp s hd
 ·show VRel w st.h.M (bM (pvT pv++st.t) s) _
  rw[qt (λp hp hd=>h ⟨p,hp,hd⟩)];exact hR.tmp s
theorem Kq{E:Env}(hE:EOk E){ops:List Oper}{pre tail:List Nat}(D:DrawOk ops pre tail)(hch0:ug ops tail=true){st:ASt}{pv:PV}(hpv:PvOk ops pre pv)(hall:∀i∈pre,∃p∈pv,p.1=i)(hdn:∀p∈pv,∀d,p.2.1.dst=some d->d<st.n)(hlo:tail=[]\/E.base.loose=false){K:ASt->Prop}{Qc:Exit->Act->World->Prop}
 (hK:∀st' a' w',K st'->Rep E.w0 E.base st' a' w'->Qc .normal a' w') :
 ∀(fuel:Nat) (L:Array Bool) (a:Act) (w:World) (G done rem:List Nat) (st2:ASt),L.size=ops.length->((List.range ops.length).filter λi => !on L i).length<=fuel->DInv E ops pre tail st pv K L a w G done rem st2 ->
 wpAny E.P .any ops.toArray Qc fuel L a w:=by
 have opget:∀i,i<ops.length->ops.toArray[i]? = some (bg ops i):=λi hi=>by simp[bg,hi]
 have fin:∀(L:Array Bool) (a:Act) (w:World) (G done rem:List Nat) (st2:ASt),L.size=ops.length->DInv E ops pre tail st pv K L a w G done rem st2->Region.ready .any ops.toArray L=[]->Qc .normal a w:=by
  intro L a w G done rem st2 hL I hr
  have hon:∀n i,i<n->i<ops.length->on L i=true:=by
   exact Og
  have hrem:rem=[]:=by
   cases hq:rem with
   |nil=>rfl
   | cons t r =>
     have ht:t∈rem:=by rw[hq];simp
     have h1:=I.roff t ht;have h2:=hon (t+1) t aa (D.htail t (by rw[I.split];simp[ht]));rw[h1]at h2;simp at h2
  have hobl:=I.obl;rw[hrem]at hobl;simp only[jP,xV]at hobl;refine hK _ a w hobl (Dq D (hpv.filter _) I.rep (λp hp d hd=>?_));exact M8
 intro fuel
 induction fuel with
 | zero =>
   intro L a w G done rem st2 hL hf I
   have hr:Region.ready .any ops.toArray L=[]:=by
    exact N6
   exact⟨hr,fin L a w G done rem st2 hL I hr⟩
 | succ fuel ih =>
   intro L a w G done rem st2 hL hf I;refine⟨fin L a w G done rem st2 hL I,λi hi=>?_⟩;obtain⟨hilt,hioff,hidep⟩:=(pq hL).1 hi;have hL':(L.setIfInBounds i true).size=ops.length:=by simp[hL]
   have hset:∀j,on (L.setIfInBounds i true) j=if j=i then true else on L j:=λj=>JI aa
   have hmono:∀j,on L j=true->on (L.setIfInBounds i true) j=true:=λj hj=>DR
   have hf':((List.range ops.length).filter λj=>!on (L.setIfInBounds i true) j).length<=fuel:=by
    exact EW
   unfold wpOp;rw[opget i hilt];simp only;by_cases hip:i∈pre
   ·obtain⟨p,hp,hpi⟩:=hall i hip
    have hpo:p.2.1=bg ops i:=by rw[<-hpi];exact(hpv.op p hp).2
    have hiG:p.1∉G:=λhg=>La
    obtain⟨d,hd⟩:=D.has i hip;have hpd:p.2.1.dst=some d:=by rw[hpo];exact hd
    let full:=pvT pv++st.t
    let sl:=iC (bg ops i)++oZ ops (bg ops i)
    let sts:ASt:={ n:=st.n,kb:=st.kb,t:=sl.map λs=>(s,bM full s),h:=st2.h }
    have hRs:Rep E.w0 E.base sts a w:=by
     refine⟨I.rep.dfr,I.rep.size.trans I.n,λs=>?_,I.rep.heap,I.rep.below,I.rep.base_le⟩
     show VRel w st2.h.M (bM (sl.map λs=>(s,bM full s)) s) _
     rw[vO]
     split
     ·rename_i hs
      have hs':s∈iC (bg ops i)\/s∈oZ ops (bg ops i):=aP.1 hs;by_cases hq:∃q∈pv,q.2.1.dst=some s
      ·obtain⟨q,hq,hqd⟩:=hq
       rw[show full=pvT pv++st.t from rfl,Pa D hpv hq hqd];exact NC
      ·rw[show full=pvT pv++st.t from rfl,qt (λq hq' hqd=>hq ⟨q,hq',hqd⟩)]
       refine I.frame s (λk hk hkon hkd=>?_);rcases D.use i hip s hs' k hk hkd with⟨hkp,-⟩|⟨hkn,hkdep⟩
       ·exact Mv
       ·rcases D.all k hk with h|h
        ·exact hkn h
        ·rw[I.split]at h
         rcases aP.1 h with h|h
         ·have:=I.edges k h i hkdep
          rw[hioff]at this;simp at this
         ·have:=I.roff k h
          rw[hkon]at this;simp at this
     ·exact .any _
    have hval:fG E ops (bg ops i) sts (λv=>v=p.2.2):=by
     exact NO
    refine Bj hE hRs hval (λr w' q=>?_);obtain⟨Es,hrel⟩:=q.rel;have hdlt:d<a.tmps.size:=by rw[I.rep.size,I.n];exact hdn p hp d hpd
    refine ih _ _ _ G done rem st2 hL' hf' ⟨I.split,λt ht=>hmono t (I.don t ht),λt ht=>?_,I.obl,?_,I.n,λj hj=>hmono j (I.g j hj),λq' hq' hon d' hd'=>?_,I.pend,I.mask,λs hs=>?_,λt ht j hj=>hmono j (I.edges t ht j hj)⟩
    ·rw[hset]
     split
     ·rename_i h;subst h
      exact absurd (by rw[I.split];simp[ht]) (D.hpre _ hip).2
     ·exact I.roff t ht
    ·exact MX
    ·rw[hset]at hon
     by_cases hqi:q'.1=i
     ·exact M1
     ·rw[aq hqi]at hon
      rw[p9]
      ·exact(I.val q' hq' hon d' hd').tr q.tr
      ·rw[hd]
       intro he
       cases he
       have:=JD D hpv hq' hp hd' hpd;exact hqi (by rw[this,hpi])
    ·exact MH
   ·have hit:i∈rem:=by
     rcases D.all i hilt with h|h
     ·exact absurd h hip
     ·rw[I.split]at h
      rcases aP.1 h with h|h
      ·have:=I.don i h;rw[hioff]at this;simp at this
      ·exact h
    have hitail:i∈tail:=by rw[I.split];simp[hit]
    obtain⟨rest,hrem⟩:∃rest,rem=i::rest:=by
     cases hq:rem with
     |nil=>rw[hq]at hit;simp at hit
     | cons b rest =>
       by_cases hb:b=i
       ·exact⟨rest,by rw[hb]⟩
       ·exfalso
        have hch:=Bc done rem (by rw[<-I.split];exact hch0);rw[hq]at hch
        have:i∈(b::rest).tail:=by
         rw[hq]at hit;rcases aX.1 hit with h|h
         ·exact absurd h.symm hb
         ·exact h
        obtain⟨q,hq1,hq2⟩:=Bb _ hch i this;have h1:=hidep q hq2;have h2:=I.roff q (by rw[hq];exact hq1);rw[h1]at h2;simp at h2
    have hobl:=I.obl;rw[hrem]at hobl;simp only[bL,xV]at hobl;rw[an (by simp[Region.wanted,D.grd i hitail])];refine .inl (tB hE (Dq D (hpv.filter _) I.rep (λq hq d hd=>?_)) hobl (λr w' hs=>?_))
    ·exact Nh
    ·obtain⟨av,h',⟨hpend,hobl'⟩,hrep,htr,hvr⟩:=hs
     have htr:=htr (hlo.resolve_left (λh0=>by rw[h0]at hitail;simp at hitail));have hh:∀s2:ASt,(s2.aft (bg ops i).dst av h').h=h':=λs2=>yU
     have hnn:∀s2:ASt,(s2.aft (bg ops i).dst av h').n=s2.n:=λs2=>yU
     have haft:∀(s2:ASt) (s:Nat),(bg ops i).dst≠some s->bM (s2.aft (bg ops i).dst av h').t s=bM s2.t s:=by
      exact MY
     have hdp:∀q∈pv,∀d,q.2.1.dst=some d->(bg ops i).dst≠some d:=by
      exact M9
     refine ih _ _ _ _ (done++[i]) rest _ hL' hf' ⟨by rw[I.split,hrem];simp,λt ht=>?_,λt ht=>?_,hobl',hrep,(hnn _).trans I.n,λj hj=>?_,λq hq hon d hd=>?_,λq hq hqG=>?_,λq hq hqG d hd=>?_,λs hs=>?_,λt ht j hj=>?_⟩
     ·rw[hset]
      rcases aP.1 ht with ht|ht
      ·split
       ·rfl
       ·exact I.don t ht
      ·simp at ht;rw[an ht]
     ·rw[hset]
      have hinc:=D.itail;rw[I.split,hrem]at hinc;have hinc':oV (i::rest)=true:=C2 done _ hinc;have:=FO _ hinc' i ab t (by simpa using ht);rw[aq aa];exact I.roff t (by rw[hrem];simp[ht])
     ·rcases aP.1 hj with hj|hj
      ·obtain⟨q,hq,rfl⟩:=cE.1 hj
       have hq2:=(cl.1 hq).2;simp only[aI]at hq2;exact hmono _ (hidep _ hq2.1)
      ·exact hmono j (I.g j hj)
     ·rw[hh,p9 (hdp q hq d hd)]
      rw[hset]at hon
      split at hon
      ·rename_i he
       exact absurd (he ▸ (hpv.op q hq).1) hip
      ·exact(I.val q hq hon d hd).tr htr
     ·have:=hpend q (cl.2 ⟨hq,by
       simp only[aI,cz];refine⟨?_,?_⟩
       ·exact NX
       ·cases hg:G.contains q.1 with
        |false=>rfl
        |true=>exact absurd (aP.2 (.inr (by simpa using hg))) hqG⟩)
      exact this
     ·rw[haft _ _ (hdp q hq d hd)]
      show bM (pvT _++st2.t) d=_
      rw[qt (λq' hq' hd'=>?_)]
      ·exact I.mask q hq (λhg=>hqG (aP.2 (.inr hg))) d hd
      ·have:=JD D hpv ((cl.1 hq').1) hq hd' hd
       subst this;exact hqG (aP.2 (.inl (cE.2 ⟨q',hq',rfl⟩)))
     ·rw[hh,p9 (hs i hilt (by rw[hset];simp))]
      exact(I.frame s (λk hk hkon=>hs k hk (hmono k hkon))).tr htr
     ·rcases aP.1 ht with ht|ht
      ·exact hmono j (I.edges t ht j hj)
      ·simp at ht;subst ht;exact hmono j (hidep j hj)
theorem wj{E:Env}(hE:EOk E)(hm:E.P.follows .mixedOrders=true){id:Nat}{ops:List Oper}{Q:Exit->ASt->Prop}{st:ASt}(pre tail:List Nat)(hlo:tail=[]\/E.base.loose=false)(hok:uH ops pre tail=true)(K:PV->ASt->Prop)
 (h:uM E ops st [] (pre.map λi=>(i,bg ops i)) λpv=>(∀p∈pv,∀d,p.2.1.dst=some d->d<st.n)/\xV E ops st pv [] (tail.map λi=>(i,bg ops i)) { st with t:=gg pv++st.t } (K pv))
 (hfin:∀pv st' a w,K pv st'->Rep E.w0 E.base st' a w->∃st'',Q .normal st''/\Rep E.w0 E.base st'' a w):aY E id ops Q st:=by
 intro a w hR;have D:=Gn hok;obtain⟨pv,⟨hdn,hobl⟩,hpv,hall,hval⟩:=Dm D pre [] [] ab ⟨ab,ab⟩ ab ab ab h;refine wp_region_any hm ?_
 have hR':Rep E.w0 E.base { st with t:=gg pv++st.t } a { w with drawn:=w.drawn+1 }:=by
  exact Oz
 have hoff:∀i,on (Array.replicate ops.toArray.size false) i=false:=by
  exact Mp
 refine Kq hE D (Gp hok) hpv hall hdn hlo (K:=K pv) (λst' a' w' h1 h2=>hfin pv st' a' w' h1 h2) ops.toArray.size (Array.replicate ops.toArray.size false) a _ [] [] tail { st with t:=gg pv++st.t } ab ?_
  ⟨rfl,ab,λt _=>hoff t,hobl,hR',rfl,ab,λp _ hon=>by rw[hoff]at hon;simp at hon,λp hp _=>hval p hp,λp hp _ d hd=>?_,λs _=>?_,ab⟩
 ·have:=zD (λi=>!on (Array.replicate ops.toArray.size false) i) (List.range ops.length)
  simpa using this
 ·show bM (gg pv++st.t) d=_
  refine iK ?_ (λq hq _=>?_)
  ·unfold gg;rw[gj];exact⟨p,hp,by rw[hd];rfl⟩
  ·unfold gg at hq
   rw[gj]at hq;obtain⟨x,-,hx⟩:=hq;rw[aU]at hx;obtain⟨d,-,rfl⟩:=hx;rfl
 ·exact(hR.tmp s).tr ⟨aH _,λ_ _ _=>rfl,λ_ _ h=>h⟩
def Env.tight(E:Env):Env:=⟨E.P,E.T,E.w0,⟨E.base.F,E.base.G,false,E.base.L⟩⟩
theorem Rep.loose{w0:World}{F G:Nat->Prop}{l l':Bool}{L:World->Prop}{st:ASt}{a:Act}{w:World}(hR:Rep w0 ⟨F,G,l,L⟩ st a w):Rep w0 ⟨F,G,l',L⟩ st a w:=by
 obtain⟨h1,h2,h3,⟨E,h4⟩,h5,h6⟩:=hR;exact⟨h1,h2,h3,⟨E,h4.obj,h4.inj,h4.low,h4.elow,h4.einj,h4.em⟩,h5,h6⟩
theorem aY.intro{E:Env}(hE:EOk E)(hm:E.P.follows .mixedOrders=true){id:Nat}{ops:List Oper}{Q:Exit->ASt->Prop}{st:ASt}(pre tail:List Nat)(hok:uH ops pre tail=true)(h:aej E.tight ops pre tail (Q .normal) st):aY E id ops Q st:=by
 obtain⟨P,T,w0,⟨F,G,l,L⟩⟩:=E;have h1:=wj (E:=⟨P,T,w0,⟨F,G,false,L⟩⟩) hE hm (id:=id) (Q:=Q) pre tail (.inr rfl) hok (λ_=>Q .normal) h (λ_ st' _ _ h1 h2=>⟨st',h1,h2⟩);intro a w hR;refine gT (h1 a w hR.loose) ?_
 rintro e a' w' ⟨st',hq,hR'⟩
 exact⟨st',hq,hR'.loose⟩
end Go.AM
