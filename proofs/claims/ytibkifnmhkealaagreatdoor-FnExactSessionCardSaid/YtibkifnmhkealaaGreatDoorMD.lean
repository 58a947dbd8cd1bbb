import Derived.Test.YtibkifnmhkealaaGreatDoorMC
import Derived.Orders
namespace Go.AM
open Go.RowKit
def Env.rd (E:Env) (u:Value) (d:CD):Prop:=Rd E.w0 false E.base.F u d
def aIn (R:Value->CD->Prop) (h:AH) (x:AV) (d:CD):Prop:=
 match x with
 | .cv u _=>R u d
 | .ml k H sz len => match h.get k with
   | .rows H' sz' rows _=>H=H'/\sz=sz'/\len=rows.length/\d=.s rows
   |_=>False
 | .v u=>d=.v u
 | .nil=>d=.s []
 | .ro rows=>d=.s rows
 | .sl k H sz off len => match h.get k with
   | .rows H' sz' rows _=>H=H'/\sz=sz'/\off+len<=rows.length/\d=.s (cut rows off len)
   | .lent H' sz' rows=>H=H'/\sz=sz'/\off=0/\len=rows.length/\d=.s rows
   |_=>False
 |_=>False
def yk (R:Value->CD->Prop) (h:AH):List AV->List CD->Prop
 | [],[]=>True
 |a::l,d::ds=>aIn R h a d/\yk R h l ds
 |_,_=>False
def FJ (R:Value->CD->Prop) (h:AH) (x:AV) (v:VD):Prop:=
 match v with
 | .c d=>aIn R h x d
 | .agg ds => match x with
   | .agg l=>yk R h l ds
   |_=>False
def lS (R:Value->CD->Prop) (h:AH):List AV->List VD->Prop
 | [],[]=>True
 |a::l,d::ds=>FJ R h a d/\lS R h l ds
 |_,_=>False
def uO (h:AH) (key:Nat) (t:CD×Nat) (K:AV->AH->Prop):Prop:=
 match t.1 with
 | .v u=>K (.v u) h
 | .h ..=>False
 | .s rows=>∀ H,K (.sl key H t.2 0 rows.length) ((key,.rows H t.2 rows true)::h)
def uR (h:AH) (key:Nat) (ts:List (CD×Nat)) (K:List AV->AH->Nat->Prop):Prop:=
 match ts with
 | []=>K [] h key
 |t::ts=>uO h key t λv h'=>uR h' (key+1) ts λl h'' key'=>K (v::l) h'' key'
def sq (h:AH) (key:Nat) (r:RV) (K:AV->AH->Nat->Prop):Prop:=
 match r with
 | .c d sz=>uO h key (d,sz) λv h'=>K v h' (key+1)
 | .agg ts=>uR h key ts λl h' key'=>K (.agg l) h' key'
def oN (h:AH) (key:Nat) (rs:List RV) (K:List AV->AH->Prop):Prop:=
 match rs with
 | []=>K [] h
 |r::rs=>sq h key r λv h' key'=>oN h' key' rs λl h''=>K (v::l) h''
def xj (h:AH) (key:Nat) (r:RR) (K:AV->AH->Prop):Prop:=
 match r with
 | .one r=>sq h key r λv h' _=>K v h'
 | .tup rs=>oN h key rs λl h'=>K (.tup l) h'
theorem AN {base:Bs} {h:AH} {w:World} {E:Nat->Nat->Prop} (H:HRel base h w E) {x:AV} {u:Value} {R:Value->CD->Prop} (hR:∀ u d,R u d->Rd w false (λ_=>True) u d) (hv:VRel w h.M x u) {d:CD} (hk:aIn R h x d):Rd w false (λ_=>True) u d:=by
 unfold aIn at hk
 split at hk
 ·cases hv;exact hR _ _ hk
 ·rename_i k Hd sz len
  split at hk
  ·rename_i H' sz' rows own hget
   obtain ⟨rfl,rfl,rfl,rfl⟩:=hk
   cases hv with
   | ml _ _ _ _ _ hx =>
     rcases hx with ⟨hp,hx⟩|⟨h0,-,a,c,rfl⟩
     ·have ho:=H.obj k
      rw [hget] at ho
      cases Hd with
      | none =>
        obtain ⟨⟨a,rfl⟩,h0⟩:=hx;rw [List.eq_nil_of_length_eq_zero h0];exact .empty _ _ (by intro h;cases h)
      | some q =>
        obtain ⟨b,o,C⟩:=q;obtain ⟨S,hrd,-⟩:=iO ho ⟨k,by rw [hget];rfl⟩ hx (show 0+rows.length<=rows.length by omega);have:=hrd.weaken.map (S':=λ_=>True) (λ_ _ _=>rfl) (λ_ _ _=>trivial)
        simpa [dO] using this
     ·rw [List.eq_nil_of_length_eq_zero h0]
      exact .empty _ _ (by intro h;cases h)
  ·exact hk.elim
 ·subst hk;cases hv with|v u hp=>exact .plain hp
 ·subst hk;cases hv;exact .empty _ _ (by intro h;cases h)
 ·subst hk;cases hv with|ro rows x hr=>exact hr.map (λ_ _ _=>rfl) (λ_ _ _=>trivial)
 ·rename_i k Hd sz off len
  split at hk
  ·rename_i H' sz' rows own hget
   obtain ⟨rfl,rfl,hlen,rfl⟩:=hk
   cases hv with
   | sl _ _ _ _ _ _ hx =>
     have ho:=H.obj k;rw [hget] at ho
     cases Hd with
     | none =>
       obtain ⟨⟨a,rfl⟩,rfl⟩:=hx;rw [show rows=[] from ho,show cut ([]:List (List CD)) off 0=[] from by simp [dO]];exact .empty _ _ (by intro h;cases h)
     | some q =>
       obtain ⟨b,o,C⟩:=q;obtain ⟨S,hrd,-⟩:=iO ho ⟨k,by rw [hget];rfl⟩ hx hlen;exact hrd.weaken.map (λ_ _ _=>rfl) (λ_ _ _=>trivial)
  ·rename_i H' sz' rows hget
   obtain ⟨rfl,rfl,rfl,rfl,rfl⟩:=hk
   cases hv with
   | sl _ _ _ _ _ _ hx =>
     have ho:=H.obj k;rw [hget] at ho;exact (ho.2.2 _ hx).map (λ_ _ _=>rfl) (λ_ _ _=>trivial)
  ·exact hk.elim
 ·exact hk.elim
theorem yj {base:Bs} {h:AH} {w:World} {E:Nat->Nat->Prop} (H:HRel base h w E) {R:Value->CD->Prop} (hR:∀ u d,R u d->Rd w false (λ_=>True) u d):∀ (l:List AV) (ds:List CD) {us:Nat->Value} (_:∀ i av,l[i]? = some av->VRel w h.M av (us i)) (_:yk R h l ds),
 l.length=ds.length/\∀ i d,ds[i]? = some d->Rd w false (λ_=>True) (us i) d
 | [],[],us,hv,hk=>⟨rfl,λi d hd=>by simp at hd⟩
 | a :: l, d :: ds, us, hv, hk => by
   obtain ⟨h1,h2⟩:=yj H hR l ds (us:=λi=>us (i+1)) (λi av hi=>hv (i+1) av (by simpa using hi)) hk.2;refine ⟨by simp [h1],λi d' hd=>?_⟩
   cases i with
   |zero=>simp at hd;subst hd;exact AN H hR (hv 0 a rfl) hk.1
   |succ i=>exact h2 i d' (by simpa using hd)
 | [],_::_,us,hv,hk=>hk.elim
 |_::_,[],us,hv,hk=>hk.elim
theorem FI {base:Bs} {h:AH} {w:World} {E:Nat->Nat->Prop} (H:HRel base h w E) {x:AV} {u:Value} {R:Value->CD->Prop} (hR:∀ u d,R u d->Rd w false (λ_=>True) u d) (hv:VRel w h.M x u) {d:VD} (hk:FJ R h x d):RdV w u d:=by
 unfold FJ at hk
 split at hk
 ·exact AN H hR hv hk
 ·split at hk
  ·rename_i ds _ l
   cases hv with
   | agg _ xs hs hl =>
     obtain ⟨h1,h2⟩:=yj H hR l ds hl hk;exact ⟨xs,rfl,by omega,h2⟩
  ·exact hk.elim
theorem iX {base:Bs} {h:AH} {w:World} {E:Nat->Nat->Prop} (H:HRel base h w E) {R:Value->CD->Prop} (hR:∀ u d,R u d->Rd w false (λ_=>True) u d):∀ (l:List AV) (ds:List VD) {us:Nat->Value} (_:∀ i av,l[i]? = some av->VRel w h.M av (us i)) (_:lS R h l ds),
 l.length=ds.length/\∀ i d,ds[i]? = some d->RdV w (us i) d
 | [],[],us,hv,hk=>⟨rfl,λi d hd=>by simp at hd⟩
 | a :: l, d :: ds, us, hv, hk => by
   obtain ⟨h1,h2⟩:=iX H hR l ds (us:=λi=>us (i+1)) (λi av hi=>hv (i+1) av (by simpa using hi)) hk.2;refine ⟨by simp [h1],λi d' hd=>?_⟩
   cases i with
   |zero=>simp at hd;subst hd;exact FI H hR (hv 0 a rfl) hk.1
   |succ i=>exact h2 i d' (by simpa using hd)
 | [],_::_,us,hv,hk=>hk.elim
 |_::_,[],us,hv,hk=>hk.elim
structure HX (base:Bs) (h:AH) (w:World) (E:Nat->Nat->Prop) (X:Nat->Prop):Prop where
 obj:∀ k,eT w (λc=>h.M c\/X c) (E k) (h.get k)
 inj:∀ k k' b,(h.get k).blk=some b->(h.get k').blk=some b->k=k'
 low:∀ k b,(h.get k).blk=some b->¬ base.F b/\¬ base.G b
 elow:∀ k c,E k c->¬ base.G c/\c<w.heap.size
 einj:∀ k k' c,E k c->E k' c->k=k'
 em:∀ k c,E k c->¬ h.M c/\¬ X c
 xm:∀ c,X c->(¬ base.F c/\¬ base.G c)/\c<w.heap.size/\¬ h.M c
theorem eT.mono {w:World} {M M' E E':Nat->Prop} {o:AObj} (h:eT w M E o) (hM:∀ c,c<w.heap.size->M' c->M c) (hE:∀ c,E c->E' c):eT w M' E' o:=
 h.tr ⟨Nat.le_refl _,λ_ _ _=>rfl,hM⟩ (λ_ _=>rfl) (λc hc _=>hE c hc)
theorem HX.toRel {base:Bs} {h:AH} {w:World} {E:Nat->Nat->Prop} {X:Nat->Prop} (H:HX base h w E X):HRel base h w E:=
 ⟨λk=>(H.obj k).mono (λ_ _=>.inl) (λ_ h=>h),H.inj,H.low,H.elow,H.einj,λk c hc=>(H.em k c hc).1⟩
theorem uN {base:Bs} {h:AH} {w:World} {E:Nat->Nat->Prop} {X S:Nat->Prop} (H:HX base h w E X) {u:Value} {t:CD×Nat} (hr:j7 w S u t) (hS:∀ c,S c->X c) {key:Nat} {K:AV->AH->Prop} (hk:uO h key t K) :
 ∃ av h' E' X',K av h'/\HX base h' w E' X'/\(∀ c,X c->¬ S c->X' c)/\(∀ c,h'.M c\/X' c->h.M c\/X c)/\∀ M:Nat->Prop,VRel w M av u:=by
 obtain ⟨d,sz⟩:=t;unfold uO at hk
 cases d with
 |h=>exact hk.elim
 | v x =>
   obtain ⟨rfl,hp⟩:=hr;exact ⟨_,h,E,X,hk,H,λc hc _=>hc,λc hc=>hc,λM=>.v _ hp⟩
 | s rows =>
   obtain ⟨hsz,hrl,hr⟩:=hr;rcases hr with ⟨rfl,a,rfl⟩|⟨b,off,cap,cs,T,F,rfl,hb,hheap,hcap,hmax,hfit,hF,hd,hrd⟩
   ·refine ⟨_,_,λj=>if j=key then (λ_=>False) else E j,X,hk none,?_,λc hc _=>hc,?_,λM=>.sl _ _ _ _ _ _ ⟨⟨a,rfl⟩,rfl⟩⟩
    ·have hM:∀ c,AH.M ((key,.rows none sz [] true)::h) c->h.M c:=by
      intro c hc;rcases nI.1 hc with h1|⟨j,_,hj⟩
      ·simp [AObj.blk] at h1
      ·exact ⟨j,hj⟩
     refine ⟨λk=>?_,λk k' b hk hk'=>?_,λk b hk=>?_,λk c hc=>?_,λk k' c hc hc'=>?_,λk c hc=>?_,λc hc=>⟨(H.xm c hc).1,(H.xm c hc).2.1,λh=>(H.xm c hc).2.2 (hM c h)⟩⟩
     ·rw [bo]
      split
      ·rfl
      ·exact (H.obj k).mono (λc _ hc=>hc.imp (hM c) id) (λ_ h=>h)
     ·rw [bo] at hk hk'
      split at hk
      ·simp [AObj.blk] at hk
      ·split at hk'
       ·simp [AObj.blk] at hk'
       ·exact H.inj _ _ b hk hk'
     ·rw [bo] at hk
      split at hk
      ·simp [AObj.blk] at hk
      ·exact H.low k b hk
     ·split at hc
      ·exact hc.elim
      ·exact H.elow k c hc
     ·split at hc
      ·exact hc.elim
      ·split at hc'
       ·exact hc'.elim
       ·exact H.einj _ _ c hc hc'
     ·split at hc
      ·exact hc.elim
      ·exact ⟨λh=>(H.em k c hc).1 (hM c h),(H.em k c hc).2⟩
    ·intro c hc
     rcases hc with hc|hc
     ·rcases nI.1 hc with h1|⟨j,_,hj⟩
      ·simp [AObj.blk] at h1
      ·exact .inl ⟨j,hj⟩
     ·exact .inr hc
   ·have hblk:(AObj.rows (some (b,off,cap)) sz rows true).blk=some b:=rfl
    have hM:∀ c,AH.M ((key,.rows (some (b,off,cap)) sz rows true)::h) c->c=b\/h.M c:=by
     intro c hc;rcases nI.1 hc with h1|⟨j,_,hj⟩
     ·simp [AObj.blk] at h1;exact .inl h1.symm
     ·exact .inr ⟨j,hj⟩
    have hXb:=hS b hb;refine ⟨_,_,λj=>if j=key then (λc=>∃ i j,F i j c) else E j,λc=>X c/\¬ S c,hk (some (b,off,cap)),?_,λc hc hn=>⟨hc,hn⟩,?_,λM=>.sl _ _ _ _ _ _ (.inl ⟨by simp,by omega⟩)⟩
    ·refine ⟨λk=>?_,λk k' b' hk hk'=>?_,λk b' hk=>?_,λk c hc=>?_,λk k' c hc hc'=>?_,λk c hc=>?_,λc hc=>⟨(H.xm c hc.1).1,(H.xm c hc.1).2.1,λh=>?_⟩⟩
     ·rw [bo]
      split
      ·refine ⟨cs,T,F,hheap,hcap,hmax,hsz,hfit,hrl,λi j c hc=>⟨λ_=>⟨i,j,hc⟩,λh=>?_⟩,λ_=>hd,hrd⟩
       obtain ⟨h1,h2⟩:=hF i j c hc;rcases h with h|h
       ·rcases hM c h with rfl|h
        ·exact h2 rfl
        ·exact (H.xm c (hS c h1)).2.2 h
       ·exact h.2 h1
      ·refine (H.obj k).mono (λc _ hc=>?_) (λ_ h=>h)
       rcases hc with hc|hc
       ·rcases hM c hc with rfl|hc
        ·exact .inr hXb
        ·exact .inl hc
       ·exact .inr hc.1
     ·rw [bo] at hk hk'
      split at hk<;>split at hk'
      ·simp_all
      ·rw [hblk] at hk;cases hk
       exact ((H.xm b hXb).2.2 ⟨k',hk'⟩).elim
      ·rw [hblk] at hk';cases hk'
       exact ((H.xm b hXb).2.2 ⟨k,hk⟩).elim
      ·exact H.inj _ _ b' hk hk'
     ·rw [bo] at hk
      split at hk
      ·rw [hblk] at hk;cases hk;exact (H.xm b hXb).1
      ·exact H.low k b' hk
     ·split at hc
      ·obtain ⟨i,j,hc⟩:=hc
       have:=H.xm c (hS c (hF i j c hc).1);exact ⟨this.1.2,this.2.1⟩
      ·exact H.elow k c hc
     ·split at hc<;>split at hc'
      ·simp_all
      ·obtain ⟨i,j,hc⟩:=hc
       exact ((H.em k' c hc').2 (hS c (hF i j c hc).1)).elim
      ·obtain ⟨i,j,hc'⟩:=hc'
       exact ((H.em k c hc).2 (hS c (hF i j c hc').1)).elim
      ·exact H.einj _ _ c hc hc'
     ·split at hc
      ·obtain ⟨i,j,hc⟩:=hc
       obtain ⟨h1,h2⟩:=hF i j c hc;refine ⟨λh=>?_,λh=>h.2 h1⟩;rcases hM c h with rfl|h
       ·exact h2 rfl
       ·exact (H.xm c (hS c h1)).2.2 h
      ·obtain ⟨h1,h2⟩:=H.em k c hc
       refine ⟨λh=>?_,λh=>h2 h.1⟩;rcases hM c h with rfl|h
       ·exact h2 hXb
       ·exact h1 h
     ·rcases hM c h with rfl|h
      ·exact hc.2 hb
      ·exact (H.xm c hc.1).2.2 h
    ·intro c hc
     rcases hc with hc|hc
     ·rcases hM c hc with rfl|hc
      ·exact .inr hXb
      ·exact .inl hc
     ·exact .inr hc.1
theorem uQ {base:Bs} {w:World}:∀ (ts:List (CD×Nat)) {h:AH} {E:Nat->Nat->Prop} {X:Nat->Prop} (_:HX base h w E X) {us:Nat->Value} {F:Nat->Nat->Prop} (_:∀ j j' c,F j c->F j' c->j=j') (_:∀ j c,F j c->X c)
 (_:∀ j t,ts[j]? = some t->j7 w (F j) (us j) t) {key:Nat} {K:List AV->AH->Nat->Prop} (_:uR h key ts K),
 ∃ l h' key' E' X',K l h' key'/\l.length=ts.length/\HX base h' w E' X'/\(∀ c,X c->(∀ j,¬ F j c)->X' c)/\(∀ c,h'.M c\/X' c->h.M c\/X c)/\∀ j av,l[j]? = some av->∀ M:Nat->Prop,VRel w M av (us j)
 | [],h,E,X,H,us,F,hd,hF,hr,key,K,hk=>⟨[],h,key,E,X,hk,rfl,H,λc hc _=>hc,λc hc=>hc,λj av hj=>by simp at hj⟩
 | t :: ts, h, E, X, H, us, F, hd, hF, hr, key, K, hk => by
   unfold uR at hk;obtain ⟨av,h1,E1,X1,hk1,H1,hX1,hm1,hv1⟩:=uN H (hr 0 t rfl) (hF 0) hk
   obtain ⟨l,h2,key',E2,X2,hk2,hl,H2,hX2,hm2,hv2⟩:=uQ ts H1 (us:=λj=>us (j+1)) (F:=λj=>F (j+1)) (λj j' c hc hc'=>by have:=hd _ _ c hc hc';omega)
    (λj c hc=>hX1 c (hF _ c hc) (λh0=>by have:=hd _ _ c hc h0;omega)) (λj t' hj=>hr (j+1) t' (by simpa using hj)) hk1
   refine ⟨av::l,h2,key',E2,X2,hk2,by simp [hl],H2,λc hc hn=>hX2 c (hX1 c hc (hn 0)) (λj=>hn (j+1)),λc hc=>hm1 c (hm2 c hc),λj x hj=>?_⟩
   cases j with
   |zero=>simp at hj;subst hj;exact hv1
   |succ j=>exact hv2 j x (by simpa using hj)
theorem uM {base:Bs} {h:AH} {w:World} {E:Nat->Nat->Prop} {X S:Nat->Prop} (H:HX base h w E X) {u:Value} {r:RV} (hr:nH w S u r) (hS:∀ c,S c->X c) {key:Nat} {K:AV->AH->Nat->Prop} (hk:sq h key r K) :
 ∃ av h' key' E' X',K av h' key'/\HX base h' w E' X'/\(∀ c,X c->¬ S c->X' c)/\(∀ c,h'.M c\/X' c->h.M c\/X c)/\∀ M:Nat->Prop,VRel w M av u:=by
 cases r with
 | c d sz =>
   unfold sq at hk;obtain ⟨av,h',E',X',h1,h2,h3,h4,h5⟩:=uN H hr hS hk;exact ⟨av,h',_,E',X',h1,h2,h3,h4,h5⟩
 | agg ts =>
   unfold sq at hk;obtain ⟨xs,F,rfl,hs,hF,hd,hr⟩:=hr;obtain ⟨l,h',key',E',X',h1,h2,h3,h4,h5,h6⟩:=uQ ts H hd (λj c hc=>hS c (hF j c hc)) hr hk;exact ⟨_,h',key',E',X',h1,h3,λc hc hn=>h4 c hc (λj hj=>hn (hF j c hj)),h5,λM=>.agg _ _ (by omega) (λi av hi=>h6 i av hi M)⟩
theorem sm {base:Bs} {w:World}:∀ (ts:List RV) {h:AH} {E:Nat->Nat->Prop} {X:Nat->Prop} (_:HX base h w E X) {us:Nat->Value} {F:Nat->Nat->Prop} (_:∀ j j' c,F j c->F j' c->j=j') (_:∀ j c,F j c->X c)
 (_:∀ j t,ts[j]? = some t->nH w (F j) (us j) t) {key:Nat} {K:List AV->AH->Prop} (_:oN h key ts K),
 ∃ l h' E' X',K l h'/\l.length=ts.length/\HX base h' w E' X'/\(∀ c,h'.M c\/X' c->h.M c\/X c)/\∀ j av,l[j]? = some av->∀ M:Nat->Prop,VRel w M av (us j)
 | [],h,E,X,H,us,F,hd,hF,hr,key,K,hk=>⟨[],h,E,X,hk,rfl,H,λc hc=>hc,λj av hj=>by simp at hj⟩
 | t :: ts, h, E, X, H, us, F, hd, hF, hr, key, K, hk => by
   unfold oN at hk;obtain ⟨av,h1,key1,E1,X1,hk1,H1,hX1,hm1,hv1⟩:=uM H (hr 0 t rfl) (hF 0) hk
   obtain ⟨l,h2,E2,X2,hk2,hl,H2,hm2,hv2⟩:=sm ts H1 (us:=λj=>us (j+1)) (F:=λj=>F (j+1)) (λj j' c hc hc'=>by have:=hd _ _ c hc hc';omega)
    (λj c hc=>hX1 c (hF _ c hc) (λh0=>by have:=hd _ _ c hc h0;omega)) (λj t' hj=>hr (j+1) t' (by simpa using hj)) hk1
   refine ⟨av::l,h2,E2,X2,hk2,by simp [hl],H2,λc hc=>hm1 c (hm2 c hc),λj x hj=>?_⟩
   cases j with
   |zero=>simp at hj;subst hj;exact hv1
   |succ j=>exact hv2 j x (by simpa using hj)
theorem uP {base:Bs} {h:AH} {w:World} {E:Nat->Nat->Prop} {X:Nat->Prop} (H:HX base h w E X) {u:Value} {r:RR} (hr:Ep w X u r) {key:Nat} {K:AV->AH->Prop} (hk:xj h key r K) :
 ∃ av h' E',K av h'/\HRel base h' w E'/\(∀ c,h'.M c->h.M c\/X c)/\VRel w h'.M av u:=by
 cases r with
 | one r =>
   unfold xj at hk;obtain ⟨av,h',key',E',X',h1,h2,h3,h4,h5⟩:=uM H hr (λc hc=>hc) hk;exact ⟨av,h',E',h1,h2.toRel,λc hc=>h4 c (.inl hc),h5 _⟩
 | tup rs =>
   unfold xj at hk;obtain ⟨xs,F,rfl,hs,hF,hd,hr⟩:=hr;obtain ⟨l,h',E',X',h1,h2,h3,h4,h5⟩:=sm rs H hd hF hr hk;exact ⟨_,h',E',h1,h3.toRel,λc hc=>h4 c (.inl hc),.tup _ _ (by omega) (λi av hi=>h5 i av hi _)⟩
theorem Rep.rd {E:Env} {st:ASt} {a:Act} {w:World} (hR:Rep E.w0 E.base st a w) (u:Value) (d:CD) (h:E.rd u d):Rd w false (λ_=>True) u d:=
 Rd.map h (λb hb _=>hR.below.block b hb) (λ_ _ _=>trivial)
theorem ag {E:Env} (hE:EOk E) {f:Nat} {args:List VD} {rr:RR} (hc:bY E.P E.base.L f args rr) {avs:List AV} {st:ASt} {dst:Option Nat} {K:ASt->Prop} (hin:lS E.rd st.h avs args)
 (hout:xj st.h (st.key dst) rr λav h'=>bk { st with h:=h' } dst av K):aa E f avs st dst K:=by
 refine ⟨hc.1,λa w hR xs hs hx=>?_⟩;obtain ⟨Es,hH⟩:=hR.heap;obtain ⟨hl,hr⟩:=iX hH hR.rd avs args hx hin;refine (hc.2 w (hE.2 w hR.below) xs (by omega) hr).mono ?_
 rintro e w' ⟨v,rfl,hb,hrr⟩
 have t:Tr st.h.M w (λc=>st.h.M c\/(w.heap.size<=c/\c<w'.heap.size)) w':=⟨hb.size,λb hlt _=>hb.block b hlt,λb hlt hM=>hM.elim id (λh=>by omega)⟩
 have HXr:HX E.base st.h w' Es (λc=>w.heap.size<=c/\c<w'.heap.size):=by
  refine ⟨λk=>(hH.obj k).tr t (λb hk=>hb.block b (hH.lt hk)) (λc hc _=>hc),hH.inj,hH.low,λk c hc=>⟨(hH.elow k c hc).1,Nat.lt_of_lt_of_le (hH.elow k c hc).2 hb.size⟩,hH.einj,
   λk c hc=>⟨hH.em k c hc,λh=>by have:=(hH.elow k c hc).2;omega⟩,λc hc=>⟨hR.newer hc.1,hc.2,λ⟨k,hk⟩=>by have:=hH.lt hk;omega⟩⟩
 obtain ⟨av,h',E',hK,hH',hM',hv⟩:=uP HXr hrr hout;have t':Tr st.h.M w h'.M w':=⟨t.size,t.frame,λb hlt hM=>(hM' b hM).elim id (λh=>by omega)⟩;obtain ⟨av',h'',h1,h2,h3,h4⟩:=(hR.move hH' t' ⟨hb.os,hb.tape,hb.output⟩).put hv hK;exact ⟨v,av',h'',rfl,h1,h2,h3,h4⟩
theorem aa.pure {E:Env} {f:Nat} {args:List VD} {rr:RR} (hc:ai E.P f args rr) {avs:List AV} {st:ASt} {dst:Option Nat} {K:ASt->Prop} (hin:lS E.rd st.h avs args)
 (hout:xj st.h (st.key dst) rr λav h'=>bk { st with h:=h' } dst av K):aa E f avs st dst K:=by
 refine ⟨hc.1,λa w hR xs hs hx=>?_⟩;obtain ⟨Es,hH⟩:=hR.heap;obtain ⟨hl,hr⟩:=iX hH hR.rd avs args hx hin;refine (hc.2 w trivial xs (by omega) hr).mono ?_
 rintro e w' ⟨v,rfl,hb,hrr⟩
 have t:Tr st.h.M w (λc=>st.h.M c\/(w.heap.size<=c/\c<w'.heap.size)) w':=⟨hb.size,λb hlt _=>hb.block b hlt,λb hlt hM=>hM.elim id (λh=>by omega)⟩
 have HXr:HX E.base st.h w' Es (λc=>w.heap.size<=c/\c<w'.heap.size):=by
  refine ⟨λk=>(hH.obj k).tr t (λb hk=>hb.block b (hH.lt hk)) (λc hc _=>hc),hH.inj,hH.low,λk c hc=>⟨(hH.elow k c hc).1,Nat.lt_of_lt_of_le (hH.elow k c hc).2 hb.size⟩,hH.einj,
   λk c hc=>⟨hH.em k c hc,λh=>by have:=(hH.elow k c hc).2;omega⟩,λc hc=>⟨hR.newer hc.1,hc.2,λ⟨k,hk⟩=>by have:=hH.lt hk;omega⟩⟩
 obtain ⟨av,h',E',hK,hH',hM',hv⟩:=uP HXr hrr hout;have t':Tr st.h.M w h'.M w':=⟨t.size,t.frame,λb hlt hM=>(hM' b hM).elim id (λh=>by omega)⟩;obtain ⟨av',h'',h1,h2,h3,h4⟩:=(hR.move hH' t' ⟨hb.os,hb.tape,hb.output⟩).put hv hK;exact ⟨v,av',h'',rfl,h1,h2,h3,h4⟩
def iZ (a:AV):AV->Prop
 | .any=>True
 | .sl k H sz off len=>a=.sl k H sz off len\/(a=.nil/\H=none/\off=0/\len=0)
 | .ro rows=>a=.ro rows\/(a=.nil/\rows=[])
 |b=>a=b
def ALe:List AV->List AV->Prop
 | [],[]=>True
 |a::l,b::l'=>iZ a b/\ALe l l'
 |_,_=>False
def fN (o:AObj):AObj->Prop
 | .dead=>True
 | .vars b T cells => match o with
   | .vars b' T' cells'=>b'=b/\T'=T/\ALe cells' cells
   |_=>False
 | .rows H sz rows own=>o=.rows H sz rows own\/(o=.dead/\H=none/\rows=[])
 | .lent H sz rows=>o=.lent H sz rows
 | .part H sz rows lo=>o=.part H sz rows lo
def yp (st st':ASt):Prop:=st.n=st'.n/\st.kb=st'.kb/\(∀ p∈st'.t,iZ (aW st.t p.1) p.2)/\∀ p∈st'.h,fN (st.h.get p.1) p.2
theorem VRel.le {w:World} {M:Nat->Prop} {a b:AV} {u:Value} (h:VRel w M a u) (hl:iZ a b):VRel w M b u:=by
 cases b with
 |any=>exact .any u
 | sl k H sz off len =>
   rcases hl with rfl|⟨rfl,rfl,rfl,rfl⟩
   ·exact h
   ·cases h;exact .sl _ _ _ _ _ _ ⟨⟨_,rfl⟩,rfl⟩
 | ro rows =>
   rcases hl with rfl|⟨rfl,rfl⟩
   ·exact h
   ·cases h;exact .ro _ _ (.empty _ _ (by intro h;cases h))
 |_=>first|(cases hl;exact h)
theorem ALe.get:∀ (l l':List AV),ALe l l'->l.length=l'.length/\∀ (j:Nat) (b:AV),l'[j]? = some b->∃ a,l[j]? = some a/\iZ a b
 | [],[],_=>⟨rfl,λj b hb=>by simp at hb⟩
 | a :: l, b :: l', h => by
   obtain ⟨h1,h2⟩:=ALe.get l l' h.2;refine ⟨by simp [h1],λj b' hb=>?_⟩
   cases j with
   |zero=>simp at hb;subst hb;exact ⟨a,rfl,h.1⟩
   |succ j=>simpa using h2 j b' (by simpa using hb)
 | [],_::_,h=>h.elim
 |_::_,[],h=>h.elim
theorem DG {t:List (Nat×AV)} {i:Nat}:aW t i=.any\/(i,aW t i)∈t:=by
 induction t with
 |nil=>exact .inl rfl
 | cons p t ih =>
   obtain ⟨k,v⟩:=p;unfold aW
   split
   ·rename_i h;subst h;exact .inr (List.mem_cons_self ..)
   ·rcases ih with h|h
    ·exact .inl h
    ·exact .inr (List.mem_cons_of_mem _ h)
theorem FT {h:AH} {i:Nat}:h.get i=.dead\/(i,h.get i)∈h:=by
 induction h with
 |nil=>exact .inl rfl
 | cons p t ih =>
   obtain ⟨k,v⟩:=p;rw [bo]
   split
   ·rename_i h;subst h;exact .inr (List.mem_cons_self ..)
   ·rcases ih with h|h
    ·exact .inl h
    ·exact .inr (List.mem_cons_of_mem _ h)
theorem fN.vars {o:AObj} {b:Nat} {T:TypeId} {cells:List AV} (h:fN o (.vars b T cells)):∃ cells',o=.vars b T cells'/\ALe cells' cells:=by
 cases o with
 |vars b' T' cells'=>obtain ⟨rfl,rfl,hl⟩:=h;exact ⟨_,rfl,hl⟩
 |dead=>exact h.elim
 |rows=>exact h.elim
 |lent=>exact h.elim
 |part=>exact h.elim
theorem yp.rep {w0:World} {base:Bs} {st st':ASt} {a:Act} {w:World} (h:yp st st') (hR:Rep w0 base st a w):Rep w0 base st' a w:=by
 obtain ⟨hn,hkb,ht,hh⟩:=h;obtain ⟨E,H⟩:=hR.heap
 have hob:∀ k,fN (st.h.get k) (st'.h.get k):=by
  intro k;rcases FT (h:=st'.h) (i:=k) with h|h
  ·rw [h];trivial
  ·exact hh _ h
 have hblk:∀ k b,(st'.h.get k).blk=some b->(st.h.get k).blk=some b:=by
  intro k b hb;have:=hob k
  revert hb this
  cases st'.h.get k with
  |dead=>intro hb;simp [AObj.blk] at hb
  | vars b' T cells =>
    intro hb hl;obtain ⟨cells',he,-⟩:=fN.vars hl;rw [he];exact hb
  | rows Hd sz rows own =>
    intro hb hl;rcases hl with hl|⟨-,rfl,-⟩
    ·rw [hl];exact hb
    ·simp [AObj.blk] at hb
  |lent Hd sz rows=>intro hb;simp [AObj.blk] at hb
  |part Hd sz rows lo=>intro hb hl;rw [show st.h.get k=_ from hl];exact hb
 have hM:∀ c,st'.h.M c->st.h.M c:=λc ⟨k,hk⟩=>⟨k,hblk k c hk⟩
 have t:Tr st.h.M w st'.h.M w:=⟨Nat.le_refl _,λ_ _ _=>rfl,λb _ hb=>hM b hb⟩;refine ⟨hR.dfr,hR.size.trans hn,λi=>?_,⟨E,λk=>?_,λk k' b hk hk'=>H.inj _ _ b (hblk k b hk) (hblk k' b hk'),λk b hk=>H.low k b (hblk k b hk),H.elow,H.einj,λk c hc hM'=>H.em k c hc (hM c hM')⟩,hR.below,hR.base_le⟩
 ·rcases DG (t:=st'.t) (i:=i) with h|h
  ·rw [h];exact .any _
  ·exact ((hR.tmp i).tr t).le (ht _ h)
 ·have h1:=(H.obj k).tr t (λ_ _=>rfl) (E':=E k) (λc hc _=>hc)
  have h2:=hob k
  revert h1 h2
  generalize st.h.get k=o
  cases st'.h.get k with
  |dead=>intro _ _;trivial
  | vars b T cells =>
    intro h1 h2;obtain ⟨cells',rfl,hl⟩:=fN.vars h2;obtain ⟨cs,g1,g2,g3⟩:=h1;obtain ⟨g4,g5⟩:=ALe.get _ _ hl;refine ⟨cs,g1,by omega,λj av hj=>?_⟩;obtain ⟨av',hj',hle⟩:=g5 j av hj;exact (g3 j av' hj').le hle
  | rows Hd sz rows own =>
    intro h1 h2;rcases h2 with rfl|⟨rfl,rfl,rfl⟩
    ·exact h1
    ·rfl
  |lent Hd sz rows=>intro h1 h2;rw [show o=_ from h2] at h1;exact h1
  |part Hd sz rows lo=>intro h1 h2;rw [show o=_ from h2] at h1;exact h1
def Gp {β:Type} (Inv:β->Prop) (I:β->ASt) (μ:β->Nat) (x:β) (Q:Exit->ASt->Prop):Exit->ASt->Prop
 | .normal,st=>∃ x',Inv x'/\μ x'<μ x/\yp st (I x')
 |e,st=>Q e st
theorem az.intro {E:Env} (hE:EOk E) {body:Code} {Q:Exit->ASt->Prop} {st:ASt} {β:Type} (Inv:β->Prop) (I:β->ASt) (μ:β->Nat) (x0:β) (h0:Inv x0) (hw:yp st (I x0))
 (hr:∀ x,Inv x->ge E body (Gp Inv I μ x Q) (I x)):az E body Q st:=by
 intro a w hR;refine wp_loop_ghost (λn a w=>∃ x,Inv x/\μ x=n/\Rep E.w0 E.base (I x) a w) (μ x0) ⟨x0,h0,rfl,hw.rep hR⟩ ?_
 rintro n a w ⟨x,hx,rfl,hR⟩
 refine wp_mono (dQ hE body _ _ a w hR (hr x hx)) ?_
 rintro e a' w' ⟨st',hq,hR'⟩
 cases e with
 | normal =>
   obtain ⟨x',h1,h2,h3⟩:=hq;exact ⟨μ x',h2,x',h1,rfl,h3.rep hR'⟩
 |_=>exact ⟨st',hq,hR'⟩
def Nx:AV->Value->Bool
 | .nil,.slice none 0 0=>true
 | .v (.int k n),.int k' n'=>decide (k=k') && decide (n=n')
 | .v (.bool b),.bool b'=>b == b'
 | .v (.string s),.string s'=>decide (s=s')
 |_,_=>false
theorem Eu {a:AV} {v:Value} (h:Nx a v=true):v=zv a/\(a=.nil\/∃ u,a=.v u/\plain u=true):=by
 unfold Nx at h
 split at h
 ·exact ⟨rfl,.inl rfl⟩
 ·simp at h;obtain ⟨rfl,rfl⟩:=h;exact ⟨rfl,.inr ⟨_,rfl,rfl⟩⟩
 ·simp at h;subst h;exact ⟨rfl,.inr ⟨_,rfl,rfl⟩⟩
 ·simp at h;subst h;exact ⟨rfl,.inr ⟨_,rfl,rfl⟩⟩
 ·simp at h
def zu:List AV->List Value->Bool
 | [],[]=>true
 |a::l,v::vs=>Nx a v && zu l vs
 |_,_=>false
theorem uj:∀ (l:List AV) (vs:List Value),zu l vs=true->vs=l.map zv/\∀ a∈l,a=.nil\/∃ u,a=.v u/\plain u=true
 | [],[],_=>⟨rfl,by simp⟩
 | a :: l, v :: vs, h => by
   simp only [zu,Bool.and_eq_true] at h;obtain ⟨h1,h2⟩:=Eu h.1;obtain ⟨h3,h4⟩:=uj l vs h.2;refine ⟨by rw [h1,h3];rfl,λx hx=>?_⟩;rcases List.mem_cons.1 hx with rfl|hx
   ·exact h2
   ·exact h4 x hx
 | [],_::_,h=>by simp [zu] at h
 |_::_,[],h=>by simp [zu] at h
def Kk:Value->Bool
 | .agg _=>true
 |_=>false
def Kq (P:Program) (t:Nat) (ti:TI) (fs:Array Field):Bool:=
 !P.stoodInHeld t && !P.eqGuardType P.depth t && decide (fs.toList.map (·.offset) = List.range ti.n) && fs.toList.all fun f => !(f.name == "_") && match P.underlying f.type with
  |some (.int .i64)=>true
  |_=>false
theorem DB {P : Program} {t : Nat} {ti : TI} {fs : Array Field} (hu : P.underlying t = some (.struct fs)) (h : Kq P t ti fs = true) : ∃ fs : Array Field, P.underlying t = some (.struct fs) ∧ P.stoodInHeld t = false ∧ P.eqGuardType P.depth t = false ∧ fs.toList.map (·.offset) = List.range ti.n ∧ ∀ f ∈ fs.toList, f.name ≠ "_" ∧ P.underlying f.type = some (.int .i64) := by
 unfold Kq at h;simp only [Bool.and_eq_true,Bool.not_eq_true',decide_eq_true_eq,List.all_eq_true] at h;obtain ⟨⟨⟨h1,h2⟩,h3⟩,h4⟩:=h;refine ⟨fs,hu,h1,h2,h3,λf hf=>?_⟩;obtain ⟨h5,h6⟩:=h4 f hf;refine ⟨by simpa using h5,?_⟩
 split at h6
 ·assumption
 ·cases h6
def xC (P:Program):List Bool->List Field->Bool
 | [],_=>true
 | b :: l, f :: fs => (match P.underlying f.type with
   |some (.struct _)=>b
   |some (.array _ _)=>false
   |some _=>!b
   |none=>false) && xC P l fs
 |_,_=>false
theorem sG {P:Program}:∀ (l:List Bool) (fs:List Field),xC P l fs=true->∀ (i:Nat) (b:Bool),l[i]? = some b->∃ f:Field,fs[i]? = some f/\if b then ∃ gs,P.underlying f.type=some (.struct gs) else ∃ d,P.underlying f.type=some d/\(∀ gs,d≠.struct gs)/\(∀ n e,d≠.array n e)
 | [],_,_,i,b,hi=>by simp at hi
 |c::l,[],h,i,b,hi=>by simp [xC] at h
 | c :: l, f :: fs, h, i, b, hi => by
   simp only [xC,Bool.and_eq_true] at h
   cases i with
   |succ i=>simpa using sG l fs h.2 i b (by simpa using hi)
   | zero =>
     simp at hi;subst hi;refine ⟨f,rfl,?_⟩;have h1:=h.1
     split at h1
     ·rename_i gs hg;simp [h1,hg]
     ·simp at h1
     ·rename_i d hd1 hd2 hd3
      simp at h1;subst h1;simp only [Bool.false_eq_true,if_false];exact ⟨d,hd3,λgs e=>hd1 gs e,λn e e2=>hd2 n e e2⟩
     ·simp at h1
def vG (P:Program) (t:Nat) (ti:TI):Bool:=
 (match P.info? t with
  |none=>false
  | some i => decide (i.size = ti.n) && decide (i.bytes = ti.bytes) && (match i.zero with
    |none=>false
    |some z=>zu ti.zero z.cells.toList && (!ti.agg || Kk z))) &&
 decide (ti.zero.length=ti.n) && decide (0<ti.n) &&
 (match P.underlying t with
  |none=>false
  |some (.struct fs)=>ti.agg && decide (fs.toList.mapM (λf=>(P.info? f.type).map λi=>(f.offset,i.size))=some ti.fields) && ti.fields.all (λp=>decide (0<p.2) && decide (p.1+p.2<=ti.n)) &&
   decide (ti.sl=none) && decide (ti.kind=none) && !ti.str && !ti.boo && (!ti.ieq || Kq P t ti fs) && xC P ti.fagg fs.toList
  |some (.array _ _)=>false
  |some (.slice e)=>!ti.agg && !ti.ieq && decide (ti.fields=[]) && decide (ti.n=1) && (decide (ti.sl=none) || decide (ti.sl=some e)) && decide (ti.kind=none) && !ti.str && !ti.boo
  |some (.int k)=>!ti.agg && !ti.ieq && decide (ti.fields=[]) && decide (ti.n=1) && decide (ti.sl=none) && (decide (ti.kind=none) || decide (ti.kind=some k)) && !ti.str && !ti.boo
  |some .string=>!ti.agg && !ti.ieq && decide (ti.fields=[]) && decide (ti.n=1) && decide (ti.sl=none) && decide (ti.kind=none) && !ti.boo
  |some .bool=>!ti.agg && !ti.ieq && decide (ti.fields=[]) && decide (ti.n=1) && decide (ti.sl=none) && decide (ti.kind=none) && !ti.str
  |some _=>false)
theorem yu {P:Program} {t:Nat} {ti:TI} (h:vG P t ti=true):TIok P t ti:=by
 unfold vG at h;simp only [Bool.and_eq_true,decide_eq_true_eq] at h;obtain ⟨⟨⟨h1,h2⟩,h3⟩,h4⟩:=h
 split at h1
 ·simp at h1
 ·rename_i i hi
  simp only [Bool.and_eq_true,decide_eq_true_eq] at h1;obtain ⟨⟨g1,g2⟩,g3⟩:=h1
  split at g3
  ·simp at g3
  ·rename_i z hz
   simp only [Bool.and_eq_true,Bool.or_eq_true,Bool.not_eq_true'] at g3;obtain ⟨g4,g5⟩:=uj _ _ g3.1
   have hinfo:∃ i z,P.info? t=some i/\i.size=ti.n/\i.bytes=ti.bytes/\i.zero=some z/\z.cells.toList=ti.zero.map zv/\(ti.agg=true->∃ cs,z=.agg cs):=by
    refine ⟨i,z,hi,g1,g2,hz,g4,λha=>?_⟩;have:=g3.2.resolve_left (by simp [ha])
    cases z<;>simp [Kk] at this
    exact ⟨_,rfl⟩
   split at h4
   ·simp at h4
   ·rename_i fs hu
    simp only [Bool.and_eq_true,decide_eq_true_eq,Bool.not_eq_true',List.all_eq_true] at h4;obtain ⟨⟨⟨⟨⟨⟨⟨⟨ha,hm⟩,hf⟩,hsl⟩,hk⟩,hs⟩,hb⟩,hq⟩,hfa⟩:=h4;exact ⟨hinfo,g5,h2,h3,λ_=>⟨fs,hu,hm,hf⟩,λh=>by simp [ha] at h,(λfs' hu'=>by rw [hu] at hu';cases hu';exact sG _ _ hfa),λe he=>by simp [hsl] at he,λk hk'=>by simp [hk] at hk',λh=>by simp [hs] at h,λh=>by simp [hb] at h,λh=>DB hu (by simpa [h] using hq)⟩
   ·simp at h4
   ·rename_i e hu
    simp only [Bool.and_eq_true,Bool.or_eq_true,decide_eq_true_eq,Bool.not_eq_true'] at h4;obtain ⟨⟨⟨⟨⟨⟨⟨ha,hie⟩,hf⟩,hn⟩,hsl⟩,hk⟩,hs⟩,hb⟩:=h4
    exact ⟨hinfo,g5,h2,h3,λh=>by simp [ha] at h,λ_=>⟨hf,hn,_,hu,(λ_ h=>by cases h),(λ_ _ h=>by cases h)⟩,(λfs' hu'=>by rw [hu] at hu';cases hu'),
     λe' he=>by rcases hsl with h|h<;>simp [h] at he;subst he;exact hu,λk hk'=>by simp [hk] at hk',λh=>by simp [hs] at h,λh=>by simp [hb] at h,λh=>by simp [hie] at h⟩
   ·rename_i k hu
    simp only [Bool.and_eq_true,Bool.or_eq_true,decide_eq_true_eq,Bool.not_eq_true'] at h4;obtain ⟨⟨⟨⟨⟨⟨⟨ha,hie⟩,hf⟩,hn⟩,hsl⟩,hk⟩,hs⟩,hb⟩:=h4
    exact ⟨hinfo,g5,h2,h3,λh=>by simp [ha] at h,λ_=>⟨hf,hn,_,hu,(λ_ h=>by cases h),(λ_ _ h=>by cases h)⟩,(λfs' hu'=>by rw [hu] at hu';cases hu'),
     λe' he=>by simp [hsl] at he,λk' hk'=>by rcases hk with h|h<;>simp [h] at hk';subst hk';exact hu,λh=>by simp [hs] at h,λh=>by simp [hb] at h,λh=>by simp [hie] at h⟩
   ·rename_i hu
    simp only [Bool.and_eq_true,decide_eq_true_eq,Bool.not_eq_true'] at h4;obtain ⟨⟨⟨⟨⟨⟨ha,hie⟩,hf⟩,hn⟩,hsl⟩,hk⟩,hb⟩:=h4
    exact ⟨hinfo,g5,h2,h3,λh=>by simp [ha] at h,λ_=>⟨hf,hn,_,hu,(λ_ h=>by cases h),(λ_ _ h=>by cases h)⟩,(λfs' hu'=>by rw [hu] at hu';cases hu'),
     λe' he=>by simp [hsl] at he,λk hk'=>by simp [hk] at hk',λ_=>hu,λh=>by simp [hb] at h,λh=>by simp [hie] at h⟩
   ·rename_i hu
    simp only [Bool.and_eq_true,decide_eq_true_eq,Bool.not_eq_true'] at h4;obtain ⟨⟨⟨⟨⟨⟨ha,hie⟩,hf⟩,hn⟩,hsl⟩,hk⟩,hs⟩:=h4
    exact ⟨hinfo,g5,h2,h3,λh=>by simp [ha] at h,λ_=>⟨hf,hn,_,hu,(λ_ h=>by cases h),(λ_ _ h=>by cases h)⟩,(λfs' hu'=>by rw [hu] at hu';cases hu'),
     λe' he=>by simp [hsl] at he,λk hk'=>by simp [hk] at hk',λh=>by simp [hs] at h,λ_=>hu,λh=>by simp [hie] at h⟩
   ·simp at h4
def Dl:List (Nat×TI)->Nat->Option TI
 | [],_=>none
 |(k,v)::l,t=>if t=k then some v else Dl l t
theorem Ac:∀ (l:List (Nat×TI)) (t:Nat) (ti:TI),Dl l t=some ti->(t,ti)∈l
 | (k, v) :: l, t, ti, h => by
   unfold Dl at h
   split at h
   ·rename_i hk;subst hk;cases h;exact List.mem_cons_self ..
   ·exact List.mem_cons_of_mem _ (Ac l t ti h)
theorem Jx {P:Program} {l:List (Nat×TI)} (h:(l.all λp=>vG P p.1 p.2)=true):∀ t ti,Dl l t=some ti->TIok P t ti:=
 λt ti ht=>yu (List.all_eq_true.1 h (t,ti) (Ac l t ti ht))
def CPd {α:Type} (p:(α->Prop)->Prop):Prop:=∀ K,p K->∃ v,K v/\p (λv'=>v'=v)
theorem oM (ti:TI) (row:List CD):CPd (eU ti row):=by
 intro K h;unfold eU at h ⊢
 split at h
 ·rename_i hg;exact ⟨_,h.2,by rw [if_pos hg];exact ⟨h.1,rfl⟩⟩
 ·rename_i hg
  cases row with
  |nil=>exact h.elim
  |cons d r=>exact ⟨_,h,by rw [if_neg hg]⟩
theorem MT {E:Env} {x:AV} {p:AV->(AV->Prop)->Prop} (hp:∀ v,CPd (p v)):CPd (λK=>aCv E x λv=>p v K):=by
 intro K h;simp only [aCv] at h ⊢
 split at h
 ·obtain ⟨rows,hr,h⟩:=h
  obtain ⟨av,h1,h2⟩:=hp _ K h;exact ⟨av,h1,rows,hr,h2⟩
 ·exact hp _ K h
theorem gW {E:Env} {T:Nat} {p:Nat->TI->(AV->Prop)->Prop} (hp:∀ e te,CPd (p e te)):CPd (λK=>dN E T λe te=>p e te K):=by
 intro K h;simp only [dN] at h ⊢
 cases hT:E.T T with
 |none=>simp [hT] at h
 | some ti =>
   simp only [hT] at h ⊢
   cases hs:ti.sl with
   |none=>simp [hs] at h
   | some e =>
     simp only [hs] at h ⊢
     cases he:E.T e with
     |none=>simp [he] at h
     | some te =>
       simp only [he] at h ⊢;exact hp e te K h
theorem gc {c:Prop} {p:(AV->Prop)->Prop} (hp:CPd p):CPd (λK=>c/\p K):=by
 rintro K ⟨h1,h2⟩
 obtain ⟨v,h3,h4⟩:=hp K h2;exact ⟨v,h3,h1,h4⟩
theorem im (v:AV):CPd (λK=>K v):=λ_ h=>⟨v,h,rfl⟩
theorem F8 {rows:List (List CD)} {r:Nat} {p:List CD->(AV->Prop)->Prop} (hp:∀ row,CPd (p row)):CPd (λK=>r<rows.length/\∀ row,rows[r]? = some row->p row K):=by
 rintro K ⟨h1,h2⟩
 have hrow:=List.getElem?_eq_getElem h1;obtain ⟨v,h3,h4⟩:=hp _ K (h2 _ hrow);refine ⟨v,h3,h1,λrow hr=>?_⟩;rw [hrow] at hr
 cases hr
 exact h4
theorem E6 (ti:TI) (h:AH) (x:AV):CPd (loadAt ti h x):=by
 intro K hk;unfold loadAt at hk ⊢
 cases x with
 | p k b c =>
   simp only at hk ⊢
   cases hg:h.get k with
   | vars b' T cells =>
     simp only [hg] at hk ⊢;refine gc (p:=jg ti cells c) ?_ K hk;intro K hk;unfold jg at hk ⊢
     split at hk
     ·rename_i hg;exact ⟨_,hk.2,by rw [if_pos hg];exact ⟨hk.1,rfl⟩⟩
     ·rename_i hg
      cases hc:cells[c]? with
      |none=>simp [hc] at hk
      |some av=>simp only [hc] at hk;exact ⟨av,hk,by rw [if_neg hg]⟩
   |dead=>simp [hg] at hk
   |rows=>simp [hg] at hk
   |lent=>simp [hg] at hk
   |part=>simp [hg] at hk
 | e k H sz r c =>
   simp only at hk ⊢
   cases hg:h.get k with
   | rows H' sz' rows own =>
     simp only [hg] at hk ⊢;exact gc (gc (F8 λrow=>oM ti (row.drop c))) K hk
   | lent H' sz' rows =>
     simp only [hg] at hk ⊢;exact gc (gc (F8 λrow=>oM ti (row.drop c))) K hk
   |dead=>simp [hg] at hk
   |vars=>simp [hg] at hk
   |part=>simp [hg] at hk
 |rp row=>exact oM ti row K hk
 |_=>exact hk.elim
theorem kR {x:Option AV} {z:Nat} {p:Nat->(AV->Prop)->Prop} (hp:∀ n,CPd (p n)):CPd (λK=>eu x z λn=>p n K):=by
 intro K h;unfold eu at h ⊢
 split at h
 ·exact hp z K h
 ·rename_i k n;exact gc (hp n.toNat) K h
 ·exact h.elim
theorem CB {x:AV} {p:Bool->(AV->Prop)->Prop} (hp:∀ b,CPd (p b)):CPd (λK=>lr x λb=>p b K):=by
 intro K h;unfold lr at h ⊢
 split at h
 ·exact hp _ K h
 ·exact h.elim
theorem DK (fields:List (Nat×Nat)):∀ (parts:List (Nat×AV)) (cells:List AV) (K:List AV->Prop),lK fields cells parts K->∃ l,K l/\lK fields cells parts (λl'=>l'=l)
 | [],cells,K,h=>⟨cells,h,rfl⟩
 | (i, v) :: rest, cells, K, h => by
   unfold lK at h ⊢
   cases hf:fields[i]? with
   |none=>simp [hf] at h
   | some p =>
     obtain ⟨off,n⟩:=p;simp only [hf] at h ⊢;obtain ⟨h1,h2,h3,h4⟩:=h;obtain ⟨l,g1,g2⟩:=DK fields rest _ K h4;exact ⟨l,g1,h1,h2,h3,g2⟩
theorem Ef {E:Env} {s d:Nat} {rows:List (List CD)} {K:AV->Prop} (h:B9 E s d rows K):∃ v,K v/\B9 E s d rows (λx=>x=v):=by
 obtain ⟨h1,h2⟩:=h;unfold dN at h2
 split at h2
 ·rename_i ti hti
  split at h2
  ·rename_i e he
   split at h2
   ·rename_i te hte
    obtain ⟨hk,l,hl,hK⟩:=h2;refine ⟨_,hK,h1,?_⟩;unfold dN;simp only [hti,he,hte];exact ⟨hk,l,hl,rfl⟩
   ·exact h2.elim
  ·exact h2.elim
 ·exact h2.elim
theorem Iy (E:Env) (st:ASt) (op:Op):CPd (u7 E st op):=by
 intro K h;unfold u7 at h ⊢
 split at h
 ·exact ⟨_,h,rfl⟩
 ·exact ⟨_,h,rfl⟩
 ·rename_i c a b
  refine CB (p:=λt K=>(t=true->K (st.ev a))/\(t=false->K (st.ev b))) (λt K h=>?_) K h
  cases t with
  |true=>exact ⟨_,h.1 rfl,λ_=>rfl,(by intro h;cases h)⟩
  |false=>exact ⟨_,h.2 rfl,(by intro h;cases h),λ_=>rfl⟩
 ·unfold mf at h ⊢
  split at h
  ·rename_i ti hti
   obtain ⟨h1,h2⟩:=h;obtain ⟨l,g1,g2⟩:=DK _ _ _ _ h2;refine ⟨_,g1,h1,?_⟩;have:(λl'=>AV.agg l'=AV.agg l)=(λl'=>l'=l):=by funext l';simp
   rw [this];exact g2
  ·exact h.elim
 ·unfold n7 at h ⊢
  split at h
  ·exact E6 _ _ _ K h
  ·exact h.elim
 ·unfold vD at h ⊢
  split at h<;>first|exact h.elim|exact ⟨_,h,rfl⟩
 ·rename_i op T x y ty
  unfold mI at h ⊢
  split at h
  ·unfold ep at h ⊢
   split at h<;>first
    |exact h.elim
    |exact ⟨_,h,rfl⟩
    |exact ⟨_,h.2,h.1,rfl⟩
    |exact ⟨_,h.2.2,h.1,h.2.1,rfl⟩
  ·unfold IE at h ⊢
   split at h
   ·obtain ⟨h1,h⟩:=h
    split at h
    ·obtain ⟨h2,h3,h⟩:=h
     split at h<;>first
      |exact h.elim
      |exact ⟨_,h,h1,h2,h3,rfl⟩
    ·exact h.elim
   ·exact h.elim
  ·exact h.elim
 ·rename_i T x
  exact CB (p:=λb K=>K (.v (.bool (!b)))) (λb=>im _) K h
 ·unfold kj at h ⊢
  split at h
  ·unfold vg at h ⊢
   obtain ⟨h1,h⟩:=h
   split at h
   ·split at h
    ·exact ⟨_,h,h1,rfl⟩
    ·exact h.elim
   ·exact h.elim
  ·exact Ef h
  ·split at h
   ·obtain ⟨h1,h2,h3,h⟩:=h
    obtain ⟨v,k1,k2⟩:=Ef h;exact ⟨v,k1,h1,h2,h3,k2⟩
   ·exact h.elim
  ·exact h.elim
 ·exact ⟨_,h.2,h.1,rfl⟩
 ·rename_i T x lo hi
  unfold jo at h ⊢
  split at h
  ·rename_i rows _
   exact gW (p:=λ_ te K=>(∀ row∈rows,row.length=te.n)/\eu (hi.map st.ev) rows.length λh=>h<=rows.length/\eu (lo.map st.ev) 0 λl=>l<=h/\K (AV.ro (cut rows l (h - l))))
    (λe te=>gc (kR λn=>gc (kR λm=>gc (im _)))) K h
  ·rename_i k Hd sz off len _
   exact gW (p:=λ_ te K=>sz=te.n/\eu (hi.map st.ev) len λh=>h<=len/\eu (lo.map st.ev) 0 λl=>l<=h/\K (AV.sl k Hd sz (off+l) (h - l)))
    (λe te=>gc (kR λn=>gc (kR λm=>gc (im _)))) K h
  ·exact gc (kR λn=>gc (kR λm=>gc (im _))) K h
  ·exact h.elim
 ·unfold nF at h ⊢
  split at h
  ·unfold fieldAt at h ⊢
   split at h
   ·split at h
    ·exact ⟨_,h,rfl⟩
    ·exact ⟨_,h,rfl⟩
    ·exact ⟨_,h.2,h.1,rfl⟩
    ·exact h.elim
   ·exact h.elim
  ·exact h.elim
 ·unfold nE at h ⊢
  split at h
  ·unfold nr at h ⊢
   split at h
   ·split at h
    ·rename_i hb
     simp only [hb,if_true];exact ⟨_,h.2,h.1,rfl⟩
    ·rename_i hb
     simp only [hb]
     split at h
     ·exact ⟨_,h,rfl⟩
     ·exact h.elim
   ·exact h.elim
  ·exact h.elim
 ·rename_i T x i
  refine gW (p:=λ_ te K=>aCv E (st.ev x) λv=>indexAt te v (st.ev i) K) (λe te=>MT (p:=λv K=>indexAt te v (st.ev i) K) (λz=>?_)) K h;intro K h;unfold indexAt at h ⊢
  split at h
  ·obtain ⟨h0,h1,h2⟩:=h
   rename_i rows k n _
   have hlt:n.toNat<rows.length:=by omega
   have hrow:=List.getElem?_eq_getElem hlt;refine ⟨_,(h2 _ hrow).2,h0,h1,λrow hr=>?_⟩;rw [hrow] at hr
   cases hr
   exact ⟨(h2 _ hrow).1,rfl⟩
  ·exact ⟨_,h.2.2.2,h.1,h.2.1,h.2.2.1,rfl⟩
  ·exact ⟨_,h.2.2.2,h.1,h.2.1,h.2.2.1,rfl⟩
  ·exact h.elim
 ·unfold zl at h ⊢
  split at h
  ·obtain ⟨h1,h2,h3,h4⟩:=h;exact ⟨_,h4,h1,h2,h3,rfl⟩
  ·exact h.elim
 ·unfold eS at h ⊢
  split at h
  ·split at h
   ·exact ⟨_,h,rfl⟩
   ·exact h.elim
  ·exact h.elim
 ·exact h.elim
def roV:RV->AV
 | .c d _=>toAV d
 | .agg ts=>.agg (ts.map λt=>toAV t.1)
def roR:RR->AV
 | .one r=>roV r
 | .tup l=>.tup (l.map roV)
def GK (E:Env) (f:Nat) (avs:List AV) (h:AH) (K:AV->Prop):Prop:=∃ args rr,bY E.P E.base.L f args rr/\lS E.rd h avs args/\K (roR rr)
def gw (E:Env) (st:ASt) (op:Op) (K:AV->Prop):Prop:=
 match op with
 | .call c => match c.callee, c.args.toList, c.argTypes.toList with
   | .builtin .len,[x],[T]=>qa E T (st.ev x) K
   | .builtin .min,[x,y],_=>Cc (st.ev x) (st.ev y) K
   | .builtin .max,[x,y],_=>FH (st.ev x) (st.ev y) K
   | .value (.func f),args,_=>GK E f (args.map st.ev) st.h K
   |_,_,_=>False
 |op=>u7 E st op K
def ez (E:Env) (all:List Oper) (o:Oper) (st:ASt) (K:AV->Prop):Prop:=
 match o.guard with
 |none=>gw E st o.op K
 | some (j, want) => match ju all j with
   | some d => match aW st.t d with
     | .v (.bool b)=>(b=want->gw E st o.op K)/\(b = !want->K .un)
     | .un=>K .un
     |_=>False
   |none=>False
theorem Eg (E:Env) (st:ASt) (op:Op):CPd (gw E st op):=by
 intro K h;unfold gw at h ⊢
 split at h
 ·split at h
  ·unfold qa at h ⊢
   split at h
   ·exact gW (p:=λ_ _ K=>K _) (λ_ _=>im _) K h
   ·exact gW (p:=λ_ _ K=>K _) (λ_ _=>im _) K h
   ·exact gW (p:=λ_ _ K=>K _) (λ_ _=>im _) K h
   ·exact gW (p:=λ_ _ K=>K _) (λ_ _=>im _) K h
   ·exact gW (p:=λ_ _ K=>K _) (λ_ _=>im _) K h
   ·exact gW (p:=λ_ _ K=>K _) (λ_ _=>im _) K h
   ·exact ⟨_,h.2,h.1,rfl⟩
   ·exact h.elim
  ·unfold Cc at h ⊢
   split at h
   ·exact ⟨_,h,rfl⟩
   ·exact h.elim
  ·unfold FH at h ⊢
   split at h
   ·exact ⟨_,h,rfl⟩
   ·exact h.elim
  ·obtain ⟨args,rr,h1,h2,h3⟩:=h
   exact ⟨_,h3,args,rr,h1,h2,rfl⟩
  ·exact h.elim
 ·exact Iy E st _ K h
theorem AJ (E:Env) (all:List Oper) (o:Oper) (st:ASt):CPd (ez E all o st):=by
 intro K h;unfold ez at h ⊢
 split at h
 ·exact Eg E st _ K h
 ·rename_i j want _
  split at h
  ·split at h
   ·rename_i b _
    by_cases hb:b=want
    ·obtain ⟨v,h1,h2⟩:=Eg E st _ K (h.1 hb)
     exact ⟨v,h1,λ_=>h2,λh'=>by subst hb;cases b<;>simp at h'⟩
    ·exact ⟨.un,h.2 (by cases b<;>cases want<;>simp_all),λh'=>absurd h' hb,λ_=>rfl⟩
   ·exact ⟨_,h,rfl⟩
   ·exact h.elim
  ·exact h.elim
def fX (o:Oper):List Nat:=o.op.operands.toList.filterMap λ| .tmp t=>some t|_=>none
def l0 (all:List Oper) (o:Oper):List Nat:=
 match o.guard with
 |some (j,_)=>(ju all j).toList
 |none=>[]
theorem Kz {st st':ASt} {x:Operand} (h:∀ t,x=.tmp t->aW st'.t t=aW st.t t):st'.ev x=st.ev x:=by
 cases x with
 |tmp t=>exact h t rfl
 |_=>rfl
theorem FF {E:Env} {st st':ASt} {op:Op} {K:AV->Prop} (he:∀ x∈op.operands,st'.ev x=st.ev x) (hh:st'.h=st.h) (h:gw E st op K):gw E st' op K:=by
 unfold gw at h ⊢
 split at h
 ·rename_i c
  have ha:∀ x∈c.args.toList,st'.ev x=st.ev x:=λx hx=>he x (by simp only [Op.operands,Call.operands,Array.mem_append];exact .inr (by simpa using hx))
  split at h
  ·rename_i x T _ hargs _
   rw [ha x (by rw [hargs];simp)];exact h
  ·rename_i x y _ hargs
   rw [ha x (by rw [hargs];simp),ha y (by rw [hargs];simp)];exact h
  ·rename_i x y _ hargs
   rw [ha x (by rw [hargs];simp),ha y (by rw [hargs];simp)];exact h
  ·rw [hh,List.map_congr_left ha];exact h
  ·exact h.elim
 ·unfold u7 at h ⊢
  split at h
  all_goals first
   |exact h.elim
   |(simp only [Op.operands,List.mem_toArray,List.mem_cons,List.not_mem_nil,or_false,forall_eq_or_imp,forall_eq] at he;first|rw [he];exact h|(rw [he,hh];exact h)|(rw [he.1,he.2];exact h)|(rw [he.1,he.2.1,he.2.2];exact h))
   |skip
  ·rename_i T parts _
   have:(parts.toList.map λq=>(q.1,st'.ev q.2))=parts.toList.map λq=>(q.1,st.ev q.2):=by
    refine List.map_congr_left λq hq=>?_
    rw [he q.2 (by simp only [Op.operands,List.mem_toArray,List.mem_map];exact ⟨q,hq,rfl⟩)]
   rw [this];exact h
  ·rename_i f first caps _
   have:caps.toList.map st'.ev=caps.toList.map st.ev:=List.map_congr_left λx hx=>he x (by simp only [Op.operands,Array.mem_append];exact .inr (by simpa using hx))
   rw [this];exact h
  ·rename_i T x lo hi _
   rw [he x (by simp [Op.operands])]
   have h1:lo.map st'.ev=lo.map st.ev:=by
    cases lo with
    |none=>rfl
    |some y=>simp only [Option.map_some];rw [he y (by simp [Op.operands])]
   have h2:hi.map st'.ev=hi.map st.ev:=by
    cases hi with
    |none=>rfl
    |some y=>simp only [Option.map_some];rw [he y (by simp [Op.operands])]
   rw [h1,h2];exact h
theorem C8 {o:Oper} {x:Operand} (hx:x∈o.op.operands) {t:Nat} (ht:x=.tmp t):t∈fX o:=by
 unfold fX;rw [List.mem_filterMap];exact ⟨x,by simpa using hx,by rw [ht]⟩
theorem lP {E:Env} {all:List Oper} {o:Oper} {st st':ASt} {K:AV->Prop} (he:∀ s,s∈fX o\/s∈l0 all o->aW st'.t s=aW st.t s) (hh:st'.h=st.h) (h:ez E all o st K):ez E all o st' K:=by
 have key:gw E st o.op K->gw E st' o.op K:=FF (λx hx=>Kz λt ht=>he t (.inl (C8 hx ht))) hh;unfold ez at h ⊢
 split at h
 ·exact key h
 ·rename_i j want hg
  split at h
  ·rename_i d hd
   have:aW st'.t d=aW st.t d:=he d (.inr (by simp [l0,hg,hd]));rw [this]
   split at h
   ·exact ⟨λhb=>key (h.1 hb),h.2⟩
   ·exact h
   ·exact h.elim
  ·exact h.elim
theorem j7.rd {w:World} {S:Nat->Prop} {v:Value} {t:CD×Nat} (h:j7 w S v t):Rd w true S v t.1:=by
 obtain ⟨d,sz⟩:=t
 cases d with
 |v u=>obtain ⟨rfl,hp⟩:=h;exact .plain hp
 |h=>exact h.elim
 | s rows =>
   obtain ⟨h1,h2,h3⟩:=h;rcases h3 with ⟨rfl,a,rfl⟩|⟨b,off,cap,cs,T,F,rfl,g2,g3,g4,g5,g6,g7,g8,g9⟩
   ·exact .empty _ _ (λ_=>rfl)
   ·exact .slice b off cap sz cs T (0,0) rows F g4 g5 h1 g2 g3 (by have:=Nat.mul_le_mul_right sz g4;omega) (λ_=>⟨rfl,g6⟩) (λi j c hc=>⟨(g7 i j c hc).1,λ_=>(g7 i j c hc).2⟩) (λ_=>g8) h2 g9
theorem F9 {w:World} {M S:Nat->Prop} {v:Value} {r:RV} (h:nH w S v r) (hM:∀ c,S c->¬ M c):VRel w M (roV r) v:=by
 cases r with
 |c d sz=>exact ig ((j7.rd h).weaken.map (λ_ _ _=>rfl) (λc hc _=>hM c hc))
 | agg ts =>
   obtain ⟨xs,F,rfl,h2,h3,h4,h5⟩:=h;refine .agg _ _ (by simp [h2]) (λi av hi=>?_);simp only [List.getElem?_map,Option.map_eq_some_iff] at hi;obtain ⟨t,ht,rfl⟩:=hi;exact ig ((j7.rd (h5 i t ht)).weaken.map (λ_ _ _=>rfl) (λc hc _=>hM c (h3 i c hc)))
theorem Be {w:World} {M S:Nat->Prop} {v:Value} {r:RR} (h:Ep w S v r) (hM:∀ c,S c->¬ M c):VRel w M (roR r) v:=by
 cases r with
 |one r=>exact F9 h hM
 | tup l =>
   obtain ⟨xs,F,rfl,h2,h3,h4,h5⟩:=h;refine .tup _ _ (by simp [h2]) (λi av hi=>?_);simp only [List.getElem?_map,Option.map_eq_some_iff] at hi;obtain ⟨t,ht,rfl⟩:=hi;exact F9 (h5 i t ht) (λc hc=>hM c (h3 i c hc))
structure Quiet (base:Bs) (h:AH) (w w':World) (v:AV) (r:Value):Prop where
 rel:∃ E,HRel base h w' E
 tr:Tr h.M w h.M w'
 same:Same w w'
 val:VRel w' h.M v r
theorem Ix {E:Env} (hE:EOk E) {st:ASt} {a:Act} {w:World} (hR:Rep E.w0 E.base st a w) {o:Oper} {v:AV} (h:gw E st o.op (λv'=>v'=v)) {next:Act->World->Prop} {Q:Exit->Act->World->Prop}
 (hn:∀ r w',Quiet E.base st.h w w' v r->next (a.put o.dst r) w'):o.wp E.P a w next Q:=by
 have hv:=λx=>VRel.ev hR x
 obtain ⟨Es,hH⟩:=hR.heap
 have put:∀ {r:Value} {av:AV},VRel w st.h.M av r->av=v->next (a.put o.dst r) w:=by
  rintro r av h1 rfl
  exact hn _ _ ⟨⟨Es,hH⟩,Tr.refl _ _,⟨rfl,rfl,rfl⟩,h1⟩
 unfold gw at h;unfold Oper.wp
 split at h
 ·rename_i c ho
  split at h
  ·rename_i x T hc ha ht
   obtain ⟨r,av,h1,h2,h3⟩:=yh hE (ty:=o.type) (hv x) h;have ha':c.args = #[x]:=by cases hq:c.args;simp_all
   have ht':c.argTypes = #[T]:=by cases hq:c.argTypes;simp_all
   simp [execOp,ho,resolve,hc,ha',ht',invoke,builtin,h1];exact put h2 h3
  ·rename_i x y hc ha
   unfold Cc at h
   split at h
   ·rename_i k p k' q hx hy
    have ha':c.args = #[x,y]:=by cases hq:c.args;simp_all
    have h1:=hv x;rw [hx] at h1;have h2:=hv y;rw [hy] at h2;generalize hu:a.eval x=u at h1;generalize hu':a.eval y=u' at h2
    cases h1;cases h2
    simp [execOp,ho,resolve,hc,ha',invoke,builtin,hu,hu',run_min_int2];exact put (.v _ rfl) h
   ·exact h.elim
  ·rename_i x y hc ha
   unfold FH at h
   split at h
   ·rename_i k p k' q hx hy
    have ha':c.args = #[x,y]:=by cases hq:c.args;simp_all
    have h1:=hv x;rw [hx] at h1;have h2:=hv y;rw [hy] at h2;generalize hu:a.eval x=u at h1;generalize hu':a.eval y=u' at h2
    cases h1;cases h2
    simp [execOp,ho,resolve,hc,ha',invoke,builtin,hu,hu',run_max_int2];exact put (.v _ rfl) h
   ·exact h.elim
  ·rename_i f hc
   obtain ⟨args,rr,hpc,hin,hv'⟩:=h
   have hrun:(execOp a.eval o).run E.P w=.ok (.enter f (c.args.map a.eval)) w:=by
    simp [execOp,ho,resolve,hc,Act.eval,Deferred.ofValue,invoke,kD hpc.1]
   rw [hrun,Oper.upon_enter];obtain ⟨hl,hr⟩:=iX hH hR.rd _ args (sT hR c.args.toList (c.args.map a.eval) (vS _ _)) hin;refine (hpc.2 w (hE.2 w hR.below) _ (by simp at hl ⊢;exact hl) hr).mono ?_
   rintro e w' ⟨u,rfl,hb,hrr⟩
   have t:Tr st.h.M w st.h.M w':=⟨hb.size,λb hlt _=>hb.block b hlt,λb _ h=>h⟩;refine hn _ _ ⟨⟨Es,λk=>(hH.obj k).tr t (λb hk=>hb.block b (hH.lt hk)) (λc hc _=>hc),hH.inj,hH.low,λk c hc=>⟨(hH.elow k c hc).1,Nat.lt_of_lt_of_le (hH.elow k c hc).2 hb.size⟩,hH.einj,hH.em⟩,t,⟨hb.os,hb.tape,hb.output⟩,?_⟩;subst hv';exact Be hrr (λc hc ⟨k,hk⟩=>by have:=hH.lt hk;omega)
  ·exact h.elim
 ·obtain ⟨r,av,h1,h2,h3⟩:=u6 hE hR h
  rw [h1];exact put h2 h3
def cg (o:Oper) (k:Nat):Bool:=o.after.any λe=>Region.binds .any e && e.on == k
def aE (ops:List Oper) (i:Nat):Oper:=ops.getD i default
def lv:List Nat->Bool
 |a::b::l=>decide (a<b) && lv (b::l)
 |_=>true
def qN (ops:List Oper):List Nat->Bool
 |a::b::l=>cg (aE ops b) a && qN ops (b::l)
 |_=>true
def BU (ops:List Oper) (pre tail:List Nat):Bool:=
 (List.range ops.length).all (λi=>pre.contains i || tail.contains i) &&
 pre.all (λi=>decide (i<ops.length) && !tail.contains i) && tail.all (λi=>decide (i<ops.length)) && lv pre && lv tail &&
 (List.range ops.length).all (λi=>(aE ops i).after.all λe=>!Region.binds .any e || decide (e.on<i)) &&
 (List.range ops.length).all (λi=>(List.range ops.length).all λk=>i == k || (aE ops i).dst == none || (aE ops i).dst != (aE ops k).dst) &&
 pre.all (λi=>(aE ops i).dst.isSome && (fX (aE ops i)++l0 ops (aE ops i)).all λs=>(List.range ops.length).all λk=>
  (aE ops k).dst != some s || (if pre.contains k then cg (aE ops i) k else cg (aE ops k) i)) &&
 tail.all (λt=>(aE ops t).guard.isNone && (fX (aE ops t)).all λs=>pre.all λk=>(aE ops k).dst != some s || cg (aE ops t) k)
def rq (ops:List Oper) (pre tail:List Nat):Bool:=BU ops pre tail && qN ops tail
abbrev PV:=List (Nat×Oper×AV)
def pvT (pv:PV):List (Nat×AV):=pv.filterMap λp=>p.2.1.dst.map λd=>(d,p.2.2)
def dY (pv:PV):List (Nat×AV):=pv.filterMap λp=>p.2.1.dst.map λd=>(d,AV.any)
def ry (E:Env) (all:List Oper) (st:ASt) (pv:PV):List (Nat×Oper)->(PV->Prop)->Prop
 | [],K=>K pv
 |(i,o)::rest,K=>ez E all o { st with t:=pvT pv++st.t } λv=>ry E all st ((i,o,v)::pv) rest K
def u4 (E:Env) (all:List Oper) (st:ASt) (pv:PV):List Nat->List (Nat×Oper)->ASt->(ASt->Prop)->Prop
 |G,[],st2,K=>K { st2 with t:=pvT (pv.filter λp=>!G.contains p.1)++st2.t }
 | G, (_, o) :: rest, st2, K =>
   aOp E o { st2 with t:=pvT (pv.filter λp=>cg o p.1 && !G.contains p.1)++st2.t } λst3=>
    (∀ p ∈ pv.filter (λp => !cg o p.1 && !G.contains p.1),ez E all p.2.1 { st with t := pvT pv++st.t,h := st3.h } λv => v=p.2.2) /\
    u4 E all st pv ((pv.filter λp=>cg o p.1 && !G.contains p.1).map (·.1)++G) rest st3 K
def SB (E:Env) (ops:List Oper) (pre tail:List Nat) (K:ASt->Prop) (st:ASt):Prop:=
 ry E ops st [] (pre.map λi => (i,aE ops i)) λpv => (∀ p ∈ pv,∀ d,p.2.1.dst=some d -> d<st.n) /\
  u4 E ops st pv [] (tail.map λi=>(i,aE ops i)) { st with t:=dY pv++st.t } K
theorem gK {l t:List (Nat×AV)} {s:Nat} (h:∀ p∈l,p.1≠s):aW (l++t) s=aW t s:=by
 induction l with
 |nil=>rfl
 | cons p l ih =>
   obtain ⟨k,v⟩:=p;simp only [List.cons_append,aW];rw [if_neg (λhe=>h _ (List.mem_cons_self ..) he.symm)];exact ih (λp hp=>h p (List.mem_cons_of_mem _ hp))
theorem e8 {l t:List (Nat×AV)} {s:Nat} {v:AV} (h:(s,v)∈l) (hu:∀ p∈l,p.1=s->p.2=v):aW (l++t) s=v:=by
 induction l with
 |nil=>simp at h
 | cons p l ih =>
   obtain ⟨k,u⟩:=p;simp only [List.cons_append,aW];by_cases hk:s=k
   ·rw [if_pos hk]
    exact hu _ (List.mem_cons_self ..) hk.symm
   ·rw [if_neg hk]
    refine ih ?_ (λp hp=>hu p (List.mem_cons_of_mem _ hp));rcases List.mem_cons.1 h with h|h
    ·simp at h;exact absurd h.1 hk
    ·exact h
structure PvOk (ops:List Oper) (pre:List Nat) (pv:PV):Prop where
 op:∀ p∈pv,p.1∈pre/\p.2.1=aE ops p.1
 one:∀ p∈pv,∀ q∈pv,p.1=q.1->p=q
structure DrawOk (ops:List Oper) (pre tail:List Nat):Prop where
 all:∀ i,i<ops.length->i∈pre\/i∈tail
 hpre:∀ i∈pre,i<ops.length/\i ∉ tail
 htail:∀ i∈tail,i<ops.length
 ipre:lv pre=true
 itail:lv tail=true
 back:∀ i,i<ops.length->∀ e∈(aE ops i).after,Region.binds .any e=true->e.on<i
 dst:∀ i,i<ops.length->∀ k,k<ops.length->∀ d,(aE ops i).dst=some d->(aE ops k).dst=some d->i=k
 has:∀ i∈pre,∃ d,(aE ops i).dst=some d
 use:∀ i∈pre,∀ s,s∈fX (aE ops i)\/s∈l0 ops (aE ops i)->∀ k,k<ops.length->(aE ops k).dst=some s->(k∈pre/\cg (aE ops i) k=true)\/(k ∉ pre/\cg (aE ops k) i=true)
 grd:∀ t∈tail,(aE ops t).guard=none
 tuse:∀ t∈tail,∀ s∈fX (aE ops t),∀ k∈pre,(aE ops k).dst=some s->cg (aE ops t) k=true
theorem zi {ops:List Oper} {pre tail:List Nat} (h:BU ops pre tail=true):DrawOk ops pre tail:=by
 simp only [BU,Bool.and_eq_true,List.all_eq_true,List.mem_range,Bool.or_eq_true,decide_eq_true_eq,List.contains_iff_mem,Array.all_eq_true',Bool.not_eq_true',List.mem_append,beq_iff_eq,bne_iff_ne,Option.isSome_iff_exists] at h;obtain ⟨⟨⟨⟨⟨⟨⟨⟨h1,h2⟩,h3⟩,h4⟩,h5⟩,h6⟩,h7⟩,h8⟩,h9⟩:=h;refine ⟨h1,λi hi=>⟨(h2 i hi).1,λht=>by have:=(h2 i hi).2;simp [ht] at this⟩,h3,h4,h5,λi hi e he hb=>?_,λi hi k hk d hd hd'=>?_,λi hi=>(h8 i hi).1,λi hi s hs k hk hd=>?_,λt ht=>?_,λt ht s hs k hk hd=>?_⟩
 ·rcases h6 i hi e he with h|h
  ·simp [hb] at h
  ·exact h
 ·rcases h7 i hi k hk with (h|h)|h
  ·exact h
  ·rw [hd] at h;cases h
  ·rw [hd,hd'] at h;exact absurd rfl h
 ·rcases (h8 i hi).2 s hs k hk with h|h
  ·exact absurd hd h
  ·split at h
   ·rename_i hp;exact .inl ⟨hp,h⟩
   ·rename_i hp;exact .inr ⟨hp,h⟩
 ·have:=(h9 t ht).1
  cases hg:(aE ops t).guard with
  |none=>rfl
  |some g=>simp [hg] at this
 ·rcases (h9 t ht).2 s hs k hk with h|h
  ·exact absurd hd h
  ·exact h
theorem BS {ops:List Oper} {pre tail:List Nat} (h:rq ops pre tail=true):DrawOk ops pre tail:=zi (by unfold rq at h;simp only [Bool.and_eq_true] at h;exact h.1)
theorem BT {ops:List Oper} {pre tail:List Nat} (h:rq ops pre tail=true):qN ops tail=true:=by unfold rq at h;simp only [Bool.and_eq_true] at h;exact h.2
theorem Bv:∀ (l:List Nat),lv l=true->∀ a∈l.head?,∀ b∈l.tail,a<b
 | [],_,a,ha,_,_=>by simp at ha
 | [_],_,a,_,b,hb=>by simp at hb
 | a :: b :: l, h, x, hx, y, hy => by
   simp only [lv,Bool.and_eq_true,decide_eq_true_eq] at h;simp at hx;subst hx;rcases List.mem_cons.1 hy with rfl|hy
   ·exact h.1
   ·exact Nat.lt_trans h.1 (Bv (b::l) h.2 b (by simp) y hy)
theorem Aj {a:Nat} {l:List Nat} (h:lv (a::l)=true):lv l=true:=by
 cases l with
 |nil=>rfl
 |cons b l=>simp only [lv,Bool.and_eq_true] at h;exact h.2
theorem Bl {pv:PV} {s:Nat} {v:AV}:(s,v)∈pvT pv ↔ ∃ p∈pv,p.2.1.dst=some s/\p.2.2=v:=by
 unfold pvT;rw [List.mem_filterMap]
 constructor
 ·rintro ⟨p,hp,h⟩
  rw [Option.map_eq_some_iff] at h;obtain ⟨d,hd,he⟩:=h
  cases he
  exact ⟨p,hp,hd,rfl⟩
 ·rintro ⟨p,hp,hd,rfl⟩
  exact ⟨p,hp,by rw [hd];rfl⟩
section
variable {ops:List Oper} {pre tail:List Nat} (D:DrawOk ops pre tail) {pv:PV} (hpv:PvOk ops pre pv)
include D hpv
theorem EM {p q:Nat×Oper×AV} (hp:p∈pv) (hq:q∈pv) {d:Nat} (h1:p.2.1.dst=some d) (h2:q.2.1.dst=some d):p=q:=by
 obtain ⟨a1,a2⟩:=hpv.op p hp;obtain ⟨b1,b2⟩:=hpv.op q hq;rw [a2] at h1;rw [b2] at h2;exact hpv.one p hp q hq (D.dst _ (D.hpre _ a1).1 _ (D.hpre _ b1).1 d h1 h2)
theorem Gv {p:Nat×Oper×AV} (hp:p∈pv) {d:Nat} (hd:p.2.1.dst=some d) (t:List (Nat×AV)):aW (pvT pv++t) d=p.2.2:=by
 refine e8 (Bl.2 ⟨p,hp,hd,rfl⟩) (λq hq he=>?_);obtain ⟨k,v⟩:=q;obtain ⟨q',hq',hd',rfl⟩:=Bl.1 hq;simp only at he;subst he;rw [EM D hpv hq' hp hd' hd]
end
theorem np {pv:PV} {s:Nat} (h:∀ p∈pv,p.2.1.dst≠some s) (t:List (Nat×AV)):aW (pvT pv++t) s=aW t s:=by
 refine gK (λq hq he=>?_);obtain ⟨k,v⟩:=q;obtain ⟨p,hp,hd,-⟩:=Bl.1 hq;simp only at he;subst he;exact h p hp hd
theorem AK {E:Env} {ops:List Oper} {pre tail:List Nat} (D:DrawOk ops pre tail) {st:ASt}:∀ (l done:List Nat) (pv:PV) {K:PV -> Prop},pre=done++l -> PvOk ops pre pv -> (∀ p ∈ pv,p.1 ∈ done) -> (∀ i ∈ done,∃ p ∈ pv,p.1=i) ->
 (∀ p ∈ pv,ez E ops p.2.1 { st with t := pvT pv++st.t } λv => v=p.2.2) -> ry E ops st pv (l.map λi => (i,aE ops i)) K ->
 ∃ pv',K pv'/\PvOk ops pre pv'/\(∀ i∈pre,∃ p∈pv',p.1=i)/\∀ p∈pv',ez E ops p.2.1 { st with t:=pvT pv'++st.t } λv=>v=p.2.2
 | [],done,pv,K,he,hpv,hdone,hall,hval,h=>⟨pv,h,hpv,λi hi=>hall i (by simpa [he] using hi),hval⟩
 | i :: l, done, pv, K, he, hpv, hdone, hall, hval, h => by
   simp only [List.map_cons,ry] at h;obtain ⟨v,h1,h2⟩:=AJ E ops _ _ _ h;have hip:i∈pre:=by rw [he];simp
   have hlt:∀ j∈done,j<i:=by
    have hinc:=D.ipre;rw [he] at hinc
    clear h h1 h2 hval hall hdone hpv he
    induction done with
    |nil=>simp
    | cons a done ih =>
      intro j hj;rcases List.mem_cons.1 hj with rfl|hj
      ·exact Bv _ hinc j (by simp) i (by simp)
      ·exact ih (Aj hinc) j hj
   have hpv':PvOk ops pre ((i,aE ops i,v)::pv):=by
    refine ⟨λp hp=>?_,λp hp q hq heq=>?_⟩
    ·rcases List.mem_cons.1 hp with rfl|hp
     ·exact ⟨hip,rfl⟩
     ·exact hpv.op p hp
    ·rcases List.mem_cons.1 hp with rfl|hp<;>rcases List.mem_cons.1 hq with rfl|hq
     ·rfl
     ·have:=hlt _ (hdone q hq);simp only at heq;omega
     ·have:=hlt _ (hdone p hp);simp only at heq;omega
     ·exact hpv.one p hp q hq heq
   have key:∀ p:Nat×Oper×AV,p.1 ∈ pre -> p.2.1=aE ops p.1 -> p.1 <= i -> ez E ops p.2.1 { st with t := pvT pv++st.t } (λv => v=p.2.2) ->
    ez E ops p.2.1 { st with t:=pvT ((i,aE ops i,v)::pv)++st.t } (λv=>v=p.2.2):=by
    intro p hp1 hp2 hple hp;refine lP (st:={ st with t:=pvT pv++st.t }) (λs hs=>?_) rfl hp;obtain ⟨d,hd⟩:=D.has i hip
    have hne:d≠s:=by
     rintro rfl
     rw [hp2] at hs;rcases D.use _ hp1 d hs i (D.hpre i hip).1 hd with ⟨-,hdep⟩|⟨hn,-⟩
     ·simp only [cg,Array.any_eq_true',Bool.and_eq_true,beq_iff_eq] at hdep
      obtain ⟨e,he1,he2,he3⟩:=hdep;have:=D.back _ (D.hpre _ hp1).1 e he1 he2;omega
     ·exact hn hip
    show aW (pvT ((i,aE ops i,v)::pv)++st.t) s=aW (pvT pv++st.t) s
    have:pvT ((i,aE ops i,v)::pv)=(d,v)::pvT pv:=by simp [pvT,hd]
    rw [this];simp only [List.cons_append,aW];rw [if_neg (λh=>hne h.symm)]
   refine AK D l (done++[i]) ((i,aE ops i,v)::pv) (by simp [he]) hpv' (λp hp=>?_) (λj hj=>?_) (λp hp=>?_) h1
   ·rcases List.mem_cons.1 hp with rfl|hp
    ·simp
    ·simp [hdone p hp]
   ·rcases List.mem_append.1 hj with hj|hj
    ·obtain ⟨p,hp,rfl⟩:=hall j hj
     exact ⟨p,List.mem_cons_of_mem _ hp,rfl⟩
    ·simp at hj;subst hj;exact ⟨_,List.mem_cons_self ..,rfl⟩
   ·rcases List.mem_cons.1 hp with rfl|hp
    ·exact key _ hip rfl (Nat.le_refl _) h2
    ·exact key p (hpv.op p hp).1 (hpv.op p hp).2 (Nat.le_of_lt (hlt _ (hdone p hp))) (hval p hp)
open Go.RowKit
theorem tW {l:List Nat} {p q:Nat->Bool} (h:∀ x∈l,q x=true->p x=true) {i:Nat} (hi:i∈l) (hp:p i=true) (hq:q i=false):(l.filter q).length<(l.filter p).length:=by
 induction l with
 |nil=>simp at hi
 | cons a l ih =>
   have hle:∀ l:List Nat,(∀ x∈l,q x=true->p x=true)->(l.filter q).length<=(l.filter p).length:=by
    intro l h
    induction l with
    |nil=>simp
    | cons b l ih =>
      have h1:=ih (λx hx=>h x (List.mem_cons_of_mem _ hx));have h2:=h b (List.mem_cons_self ..)
      cases hqb:q b<;>cases hpb:p b<;>simp [hqb,hpb] at h2 ⊢<;>omega
   have hl:∀ x∈l,q x=true->p x=true:=λx hx=>h x (List.mem_cons_of_mem _ hx)
   rcases List.mem_cons.1 hi with rfl|hi
   ·have:=hle l hl
    simp [hp,hq];omega
   ·have h1:=ih hl hi
    have h2:=h a (List.mem_cons_self ..)
    cases hqb:q a<;>cases hpb:p a<;>simp [hqb,hpb] at h2 ⊢<;>omega
def on (L:Array Bool) (i:Nat):Bool:=L.getD i false
theorem ER {L:Array Bool} {i j:Nat} (hi:i<L.size):on (L.setIfInBounds i true) j=if j=i then true else on L j:=by
 unfold on;simp only [Array.getD_eq_getD_getElem?,Array.getElem?_setIfInBounds];by_cases h:i=j
 ·subst h;simp [hi]
 ·simp [h,Ne.symm h]
theorem jA {ops:List Oper} {L:Array Bool} (hL:L.size=ops.length) {i:Nat}:i∈Region.ready .any ops.toArray L ↔ i<ops.length/\on L i=false/\∀ k,cg (aE ops i) k=true->on L k=true:=by
 unfold Region.ready;rw [List.mem_filter,List.mem_range];simp only [List.size_toArray,List.getElem?_toArray,Bool.and_eq_true,Bool.not_eq_true']
 constructor
 ·rintro ⟨h1,h2,h3⟩
  have hsz:i<L.size:=by omega
  have hop:aE ops i=ops[i]:=by simp [aE,h1]
  refine ⟨h1,?_,λk hk=>?_⟩
  ·unfold on
   simp only [Array.getD_eq_getD_getElem?] at h2 ⊢;rw [Array.getElem?_eq_getElem hsz] at h2 ⊢
   simpa using h2
  ·rw [List.getElem?_eq_getElem h1] at h3
   simp only [Option.map_some,Option.getD_some,Array.all_eq_true',Bool.or_eq_true,Bool.not_eq_true'] at h3;rw [hop] at hk;simp only [cg,Array.any_eq_true',Bool.and_eq_true,beq_iff_eq] at hk;obtain ⟨e,he,hb,rfl⟩:=hk;rcases h3 e he with h|h
   ·simp [hb] at h
   ·exact h
 ·rintro ⟨h1,h2,h3⟩
  have hsz:i<L.size:=by omega
  have hop:aE ops i=ops[i]:=by simp [aE,h1]
  refine ⟨h1,?_,?_⟩
  ·unfold on at h2
   simp only [Array.getD_eq_getD_getElem?] at h2 ⊢;rw [Array.getElem?_eq_getElem hsz] at h2 ⊢
   simpa using h2
  ·rw [List.getElem?_eq_getElem h1]
   simp only [Option.map_some,Option.getD_some,Array.all_eq_true',Bool.or_eq_true,Bool.not_eq_true'];intro e he
   cases hb:Region.binds .any e with
   |false=>exact .inl rfl
   | true =>
     right
     refine h3 e.on ?_;rw [hop];simp only [cg,Array.any_eq_true',Bool.and_eq_true,beq_iff_eq];exact ⟨e,he,hb,rfl⟩
theorem yq {w0:World} {base:Bs} {st:ASt} {a:Act} {w:World} (hR:Rep w0 base st a w) {d:Option Nat} (r:Value) (h:∀ s,d=some s->aW st.t s=.any):Rep w0 base st (a.put d r) w:=by
 cases d with
 |none=>exact hR
 | some d =>
   refine ⟨hR.dfr,by simp [Act.put,hR.size],λi=>?_,hR.heap,hR.below,hR.base_le⟩;by_cases hi:i=d
   ·subst hi;rw [h i rfl];exact .any _
   ·have:(a.put (some d) r).tmps.getD i undef=a.tmps.getD i undef:=by
     simp [Act.put,Ne.symm hi]
    rw [this];exact hR.tmp i
theorem lI {a:Act} {d:Option Nat} {r:Value} {s:Nat} (h:d≠some s):(a.put d r).tmps.getD s undef=a.tmps.getD s undef:=by
 cases d with
 |none=>rfl
 | some d =>
   have:d≠s:=λhe=>h (by rw [he])
   simp [Act.put,this]
theorem C3 {a:Act} {d:Nat} {r:Value} (h:d<a.tmps.size):(a.put (some d) r).tmps.getD d undef=r:=by simp [Act.put,h]
theorem yc {E:Env} (hE:EOk E) {ops:List Oper} {st:ASt} {a:Act} {w:World} (hR:Rep E.w0 E.base st a w) {o:Oper} {v:AV} (h:ez E ops o st (λv'=>v'=v)) {next:Act->World->Prop} {Q:Exit->Act->World->Prop}
 (hn:∀ r w',Quiet E.base st.h w w' v r->next (a.put o.dst r) w') :
 if Region.wanted o (yielded ops.toArray a.tmps) then o.wp E.P a w next Q\/(o.asks E.P a w/\LetsOut Q) else next (a.put o.dst undef) w:=by
 have run:gw E st o.op (λv'=>v'=v)->o.wp E.P a w next Q:=λh=>Ix hE hR h hn
 have skip:AV.un=v->next (a.put o.dst undef) w:=by
  rintro rfl
  obtain ⟨Es,hH⟩:=hR.heap;exact hn _ _ ⟨⟨Es,hH⟩,Tr.refl _ _,⟨rfl,rfl,rfl⟩,.un⟩
 unfold ez at h
 split at h
 ·rename_i hg
  rw [if_pos (by simp [Region.wanted,hg])];exact .inl (run h)
 ·rename_i j want hg
  split at h
  ·rename_i d hd
   have hd':(ops.toArray[j]?).bind (·.dst)=some d:=by simpa [ju] using hd
   split at h
   ·rename_i b hb
    have hv:=hR.tmp d;rw [hb] at hv;generalize hu:a.tmps.getD d undef=u at hv
    cases hv
    have hy:yielded ops.toArray a.tmps j=some b:=by simp only [yielded,hd',Option.bind_some,getD_some hu]
    by_cases hbw:b=want
    ·rw [if_pos (by simp [Region.wanted,hg,hy,hbw])]
     exact .inl (run (h.1 hbw))
    ·rw [if_neg (by simp [Region.wanted,hg,hy,hbw])]
     exact skip (h.2 (by cases b<;>cases want<;>simp_all))
   ·rename_i hb
    have hv:=hR.tmp d;rw [hb] at hv;generalize hu:a.tmps.getD d undef=u at hv
    cases hv
    have hy:yielded ops.toArray a.tmps j=none:=by
     simp only [yielded,hd',Option.bind_some];simp only [Array.getD_eq_getD_getElem?] at hu
     cases hx:a.tmps[d]? with
     |none=>rfl
     |some v=>rw [hx] at hu;simp at hu;subst hu;rfl
    rw [if_neg (by simp [Region.wanted,hg,hy])];exact skip h
   ·exact h.elim
  ·exact h.elim
theorem oU (f:Nat->AV):∀ (l:List Nat) (i:Nat),aW (l.map λs=>(s,f s)) i=if i∈l then f i else .any
 | [],i=>by simp [aW]
 | s :: l, i => by
   simp only [List.map_cons,aW];by_cases h:i=s
   ·subst h;simp
   ·rw [if_neg h,oU f l i]
    simp [h]
theorem xW {ops:List Oper}:∀ (l:List Nat),qN ops l=true->∀ t∈l.tail,∃ p∈l,cg (aE ops t) p=true
 | [],_,t,ht=>by simp at ht
 | [_],_,t,ht=>by simp at ht
 | a :: b :: l, h, t, ht => by
   simp only [qN,Bool.and_eq_true] at h;rcases List.mem_cons.1 ht with rfl|ht
   ·exact ⟨a,by simp,h.1⟩
   ·obtain ⟨p,hp,hd⟩:=xW (b::l) h.2 t ht
    exact ⟨p,List.mem_cons_of_mem _ hp,hd⟩
theorem xX {ops:List Oper}:∀ (done rem:List Nat),qN ops (done++rem)=true->qN ops rem=true
 | [],rem,h=>h
 | [a],[],_=>rfl
 | [a],b::l,h=>by simp only [List.cons_append,List.nil_append,qN,Bool.and_eq_true] at h;exact h.2
 | a :: b :: l, rem, h => by
   simp only [List.cons_append,qN,Bool.and_eq_true] at h;exact xX (b::l) rem h.2
theorem Ak:∀ (done rem:List Nat),lv (done++rem)=true->lv rem=true
 | [],_,h=>h
 |_::done,rem,h=>Ak done rem (Aj h)
structure DInv (E:Env) (ops:List Oper) (pre tail:List Nat) (st:ASt) (pv:PV) (K:ASt->Prop) (L:Array Bool) (a:Act) (w:World) (G done rem:List Nat) (st2:ASt):Prop where
 split:tail=done++rem
 don:∀ t∈done,on L t=true
 roff:∀ t∈rem,on L t=false
 obl:u4 E ops st pv G (rem.map λi=>(i,aE ops i)) st2 K
 rep:Rep E.w0 E.base st2 a w
 n:st2.n=st.n
 g:∀ i∈G,on L i=true
 val:∀ p∈pv,on L p.1=true->∀ d,p.2.1.dst=some d->VRel w st2.h.M p.2.2 (a.tmps.getD d undef)
 pend:∀ p∈pv,p.1 ∉ G->ez E ops p.2.1 { st with t:=pvT pv++st.t,h:=st2.h } λv=>v=p.2.2
 mask:∀ p∈pv,p.1 ∉ G->∀ d,p.2.1.dst=some d->aW st2.t d=.any
 frame:∀ s,(∀ k,k<ops.length->on L k=true->(aE ops k).dst≠some s)->VRel w st2.h.M (aW st.t s) (a.tmps.getD s undef)
 edges:∀ t∈done,∀ i,cg (aE ops t) i=true->on L i=true
theorem PvOk.filter {ops:List Oper} {pre:List Nat} {pv:PV} (h:PvOk ops pre pv) (f:Nat×Oper×AV->Bool):PvOk ops pre (pv.filter f):=
 ⟨λp hp=>h.op p ((List.mem_filter.1 hp).1),λp hp q hq=>h.one p ((List.mem_filter.1 hp).1) q ((List.mem_filter.1 hq).1)⟩
theorem AP {w0:World} {base:Bs} {ops:List Oper} {pre tail:List Nat} (D:DrawOk ops pre tail) {pv:PV} (hpv:PvOk ops pre pv) {st:ASt} {a:Act} {w:World} (hR:Rep w0 base st a w)
 (hv:∀ p∈pv,∀ d,p.2.1.dst=some d->VRel w st.h.M p.2.2 (a.tmps.getD d undef)):Rep w0 base { st with t:=pvT pv++st.t } a w:=by
 refine ⟨hR.dfr,hR.size,λs=>?_,hR.heap,hR.below,hR.base_le⟩;by_cases h:∃ p∈pv,p.2.1.dst=some s
 ·obtain ⟨p,hp,hd⟩:=h
  show VRel w st.h.M (aW (pvT pv++st.t) s) _
  rw [Gv D hpv hp hd];exact hv p hp s hd
 ·show VRel w st.h.M (aW (pvT pv++st.t) s) _
  rw [np (λp hp hd=>h ⟨p,hp,hd⟩)];exact hR.tmp s
theorem Fx {E:Env} (hE:EOk E) {ops:List Oper} {pre tail:List Nat} (D:DrawOk ops pre tail) (hch0:qN ops tail=true) {st:ASt} {pv:PV} (hpv:PvOk ops pre pv) (hall:∀ i∈pre,∃ p∈pv,p.1=i) (hdn:∀ p∈pv,∀ d,p.2.1.dst=some d->d<st.n) (hlo:tail=[]\/E.base.loose=false) {K:ASt->Prop} {Qc:Exit->Act->World->Prop}
 (hK:∀ st' a' w',K st'->Rep E.w0 E.base st' a' w'->Qc .normal a' w') :
 ∀ (fuel:Nat) (L:Array Bool) (a:Act) (w:World) (G done rem:List Nat) (st2:ASt),L.size=ops.length -> ((List.range ops.length).filter λi => !on L i).length <= fuel -> DInv E ops pre tail st pv K L a w G done rem st2 ->
 wpAny E.P .any ops.toArray Qc fuel L a w:=by
 have opget:∀ i,i<ops.length->ops.toArray[i]? = some (aE ops i):=λi hi=>by simp [aE,hi]
 have fin:∀ (L:Array Bool) (a:Act) (w:World) (G done rem:List Nat) (st2:ASt),L.size=ops.length->DInv E ops pre tail st pv K L a w G done rem st2->Region.ready .any ops.toArray L=[]->Qc .normal a w:=by
  intro L a w G done rem st2 hL I hr
  have hon:∀ n i,i<n->i<ops.length->on L i=true:=by
   intro n
   induction n with
   |zero=>intro i h;omega
   | succ n ih =>
     intro i hi hlt
     cases ho:on L i with
     |true=>rfl
     | false =>
       exfalso
       have:i∈Region.ready .any ops.toArray L:=(jA hL).2 ⟨hlt,ho,λk hk=>by
        simp only [cg,Array.any_eq_true',Bool.and_eq_true,beq_iff_eq] at hk;obtain ⟨e,he,hb,rfl⟩:=hk;have:=D.back i hlt e he hb;exact ih e.on (by omega) (by omega)⟩
       rw [hr] at this;simp at this
  have hrem:rem=[]:=by
   cases hq:rem with
   |nil=>rfl
   | cons t r =>
     have ht:t∈rem:=by rw [hq];simp
     have h1:=I.roff t ht;have h2:=hon (t+1) t (by omega) (D.htail t (by rw [I.split];simp [ht]));rw [h1] at h2;simp at h2
  have hobl:=I.obl;rw [hrem] at hobl;simp only [List.map_nil,u4] at hobl;refine hK _ a w hobl (AP D (hpv.filter _) I.rep (λp hp d hd=>?_));have hp':=(List.mem_filter.1 hp).1;have hlt:=(D.hpre _ (hpv.op p hp').1).1;exact I.val p hp' (hon (p.1+1) p.1 (by omega) hlt) d hd
 intro fuel
 induction fuel with
 | zero =>
   intro L a w G done rem st2 hL hf I
   have hr:Region.ready .any ops.toArray L=[]:=by
    cases hq:Region.ready .any ops.toArray L with
    |nil=>rfl
    | cons i l =>
      obtain ⟨h1,h2,-⟩:=(jA hL).1 (show i∈Region.ready .any ops.toArray L by rw [hq];simp);have:i∈(List.range ops.length).filter λi=>!on L i:=List.mem_filter.2 ⟨List.mem_range.2 h1,by simp [h2]⟩
      have:=List.length_pos_of_mem this;omega
   exact ⟨hr,fin L a w G done rem st2 hL I hr⟩
 | succ fuel ih =>
   intro L a w G done rem st2 hL hf I;refine ⟨fin L a w G done rem st2 hL I,λi hi=>?_⟩;obtain ⟨hilt,hioff,hidep⟩:=(jA hL).1 hi;have hL':(L.setIfInBounds i true).size=ops.length:=by simp [hL]
   have hset:∀ j,on (L.setIfInBounds i true) j=if j=i then true else on L j:=λj=>ER (by omega)
   have hmono:∀ j,on L j=true->on (L.setIfInBounds i true) j=true:=λj hj=>by rw [hset];split<;>simp [hj]
   have hf':((List.range ops.length).filter λj=>!on (L.setIfInBounds i true) j).length<=fuel:=by
    have:=tW (l:=List.range ops.length) (p:=λj=>!on L j) (q:=λj=>!on (L.setIfInBounds i true) j) (λx _ hx=>by
     simp only [Bool.not_eq_true'] at hx ⊢;rw [hset] at hx
     split at hx
     ·simp at hx
     ·exact hx) (List.mem_range.2 hilt) (by simp [hioff]) (by simp [hset])
    omega
   unfold wpOp;rw [opget i hilt];simp only;by_cases hip:i∈pre
   ·obtain ⟨p,hp,hpi⟩:=hall i hip
    have hpo:p.2.1=aE ops i:=by rw [<- hpi];exact (hpv.op p hp).2
    have hiG:p.1 ∉ G:=λhg=>by have:=I.g _ hg;rw [hpi,hioff] at this;simp at this
    obtain ⟨d,hd⟩:=D.has i hip;have hpd:p.2.1.dst=some d:=by rw [hpo];exact hd
    let full:=pvT pv++st.t
    let sl:=fX (aE ops i)++l0 ops (aE ops i)
    let sts:ASt:={ n:=st.n,kb:=st.kb,t:=sl.map λs=>(s,aW full s),h:=st2.h }
    have hRs:Rep E.w0 E.base sts a w:=by
     refine ⟨I.rep.dfr,I.rep.size.trans I.n,λs=>?_,I.rep.heap,I.rep.below,I.rep.base_le⟩
     show VRel w st2.h.M (aW (sl.map λs=>(s,aW full s)) s) _
     rw [oU]
     split
     ·rename_i hs
      have hs':s∈fX (aE ops i)\/s∈l0 ops (aE ops i):=List.mem_append.1 hs;by_cases hq:∃ q∈pv,q.2.1.dst=some s
      ·obtain ⟨q,hq,hqd⟩:=hq
       rw [show full=pvT pv++st.t from rfl,Gv D hpv hq hqd];obtain ⟨q1,q2⟩:=hpv.op q hq;rcases D.use i hip s hs' q.1 (D.hpre _ q1).1 (by rw [<- q2];exact hqd) with ⟨-,h⟩|⟨h,-⟩
       ·exact I.val q hq (hidep _ h) s hqd
       ·exact absurd q1 h
      ·rw [show full=pvT pv++st.t from rfl,np (λq hq' hqd=>hq ⟨q,hq',hqd⟩)]
       refine I.frame s (λk hk hkon hkd=>?_);rcases D.use i hip s hs' k hk hkd with ⟨hkp,-⟩|⟨hkn,hkdep⟩
       ·obtain ⟨q,hq',hqk⟩:=hall k hkp
        exact hq ⟨q,hq',by rw [(hpv.op q hq').2,hqk];exact hkd⟩
       ·rcases D.all k hk with h|h
        ·exact hkn h
        ·rw [I.split] at h
         rcases List.mem_append.1 h with h|h
         ·have:=I.edges k h i hkdep
          rw [hioff] at this;simp at this
         ·have:=I.roff k h
          rw [hkon] at this;simp at this
     ·exact .any _
    have hval:ez E ops (aE ops i) sts (λv=>v=p.2.2):=by
     have h:=I.pend p hp hiG;rw [hpo] at h;refine lP (st:={ st with t:=pvT pv++st.t,h:=st2.h }) (λs hs=>?_) rfl h
     show aW (sl.map λs=>(s,aW full s)) s=aW full s
     rw [oU,if_pos (List.mem_append.2 hs)]
    refine yc hE hRs hval (λr w' q=>?_);obtain ⟨Es,hrel⟩:=q.rel;have hdlt:d<a.tmps.size:=by rw [I.rep.size,I.n];exact hdn p hp d hpd
    refine ih _ _ _ G done rem st2 hL' hf' ⟨I.split,λt ht=>hmono t (I.don t ht),λt ht=>?_,I.obl,?_,I.n,λj hj=>hmono j (I.g j hj),λq' hq' hon d' hd'=>?_,I.pend,I.mask,λs hs=>?_,λt ht j hj=>hmono j (I.edges t ht j hj)⟩
    ·rw [hset]
     split
     ·rename_i h;subst h
      exact absurd (by rw [I.split];simp [ht]) (D.hpre _ hip).2
     ·exact I.roff t ht
    ·refine yq (I.rep.move hrel q.tr q.same).rep r (λs hs=>?_)
     rw [hd] at hs;cases hs;exact I.mask p hp hiG d hpd
    ·rw [hset] at hon
     by_cases hqi:q'.1=i
     ·have:q'=p:=hpv.one q' hq' p hp (by rw [hqi,hpi])
      subst this;rw [hpd] at hd';cases hd';rw [hd,C3 hdlt];exact q.val
     ·rw [if_neg hqi] at hon
      rw [lI]
      ·exact (I.val q' hq' hon d' hd').tr q.tr
      ·rw [hd]
       intro he
       cases he
       have:=EM D hpv hq' hp hd' hpd;exact hqi (by rw [this,hpi])
    ·rw [lI (hs i hilt (by rw [hset];simp))]
     exact (I.frame s (λk hk hkon=>hs k hk (hmono k hkon))).tr q.tr
   ·have hit:i∈rem:=by
     rcases D.all i hilt with h|h
     ·exact absurd h hip
     ·rw [I.split] at h
      rcases List.mem_append.1 h with h|h
      ·have:=I.don i h;rw [hioff] at this;simp at this
      ·exact h
    have hitail:i∈tail:=by rw [I.split];simp [hit]
    obtain ⟨rest,hrem⟩:∃ rest,rem=i::rest:=by
     cases hq:rem with
     |nil=>rw [hq] at hit;simp at hit
     | cons b rest =>
       by_cases hb:b=i
       ·exact ⟨rest,by rw [hb]⟩
       ·exfalso
        have hch:=xX done rem (by rw [<- I.split];exact hch0);rw [hq] at hch
        have:i∈(b::rest).tail:=by
         rw [hq] at hit;rcases List.mem_cons.1 hit with h|h
         ·exact absurd h.symm hb
         ·exact h
        obtain ⟨q,hq1,hq2⟩:=xW _ hch i this;have h1:=hidep q hq2;have h2:=I.roff q (by rw [hq];exact hq1);rw [h1] at h2;simp at h2
    have hobl:=I.obl;rw [hrem] at hobl;simp only [List.map_cons,u4] at hobl;rw [if_pos (by simp [Region.wanted,D.grd i hitail])];refine .inl (p8 hE (AP D (hpv.filter _) I.rep (λq hq d hd=>?_)) hobl (λr w' hs=>?_))
    ·have hq':=(List.mem_filter.1 hq).1
     have hq2:=(List.mem_filter.1 hq).2;simp only [Bool.and_eq_true] at hq2;exact I.val q hq' (hidep _ hq2.1) d hd
    ·obtain ⟨av,h',⟨hpend,hobl'⟩,hrep,htr,hvr⟩:=hs
     have htr:=htr (hlo.resolve_left (λh0=>by rw [h0] at hitail;simp at hitail));have hh:∀ s2:ASt,(s2.aft (aE ops i).dst av h').h=h':=λs2=>by unfold ASt.aft;split<;>rfl
     have hnn:∀ s2:ASt,(s2.aft (aE ops i).dst av h').n=s2.n:=λs2=>by unfold ASt.aft;split<;>rfl
     have haft:∀ (s2:ASt) (s:Nat),(aE ops i).dst≠some s->aW (s2.aft (aE ops i).dst av h').t s=aW s2.t s:=by
      intro s2 s hne;unfold ASt.aft
      split
      ·rfl
      ·rename_i d hd
       simp only [aW];rw [if_neg (λhe=>hne (by rw [hd,he]))]
     have hdp:∀ q∈pv,∀ d,q.2.1.dst=some d->(aE ops i).dst≠some d:=by
      intro q hq d hd he;obtain ⟨q1,q2⟩:=hpv.op q hq;rw [q2] at hd;have:=D.dst _ (D.hpre _ q1).1 i hilt d hd he;exact hip (this ▸ q1)
     refine ih _ _ _ _ (done++[i]) rest _ hL' hf' ⟨by rw [I.split,hrem];simp,λt ht=>?_,λt ht=>?_,hobl',hrep,(hnn _).trans I.n,λj hj=>?_,λq hq hon d hd=>?_,λq hq hqG=>?_,λq hq hqG d hd=>?_,λs hs=>?_,λt ht j hj=>?_⟩
     ·rw [hset]
      rcases List.mem_append.1 ht with ht|ht
      ·split
       ·rfl
       ·exact I.don t ht
      ·simp at ht;rw [if_pos ht]
     ·rw [hset]
      have hinc:=D.itail;rw [I.split,hrem] at hinc;have hinc':lv (i::rest)=true:=Ak done _ hinc;have:=Bv _ hinc' i (by simp) t (by simpa using ht);rw [if_neg (by omega)];exact I.roff t (by rw [hrem];simp [ht])
     ·rcases List.mem_append.1 hj with hj|hj
      ·obtain ⟨q,hq,rfl⟩:=List.mem_map.1 hj
       have hq2:=(List.mem_filter.1 hq).2;simp only [Bool.and_eq_true] at hq2;exact hmono _ (hidep _ hq2.1)
      ·exact hmono j (I.g j hj)
     ·rw [hh,lI (hdp q hq d hd)]
      rw [hset] at hon
      split at hon
      ·rename_i he
       exact absurd (he ▸ (hpv.op q hq).1) hip
      ·exact (I.val q hq hon d hd).tr htr
     ·have:=hpend q (List.mem_filter.2 ⟨hq,by
       simp only [Bool.and_eq_true,Bool.not_eq_true'];refine ⟨?_,?_⟩
       ·cases hdep:cg (aE ops i) q.1 with
        |false=>rfl
        | true =>
          exfalso
          by_cases hg:q.1∈G
          ·exact hqG (List.mem_append.2 (.inr hg))
          ·exact hqG (List.mem_append.2 (.inl (List.mem_map.2 ⟨q,List.mem_filter.2 ⟨hq,by simp [hdep,hg]⟩,rfl⟩)))
       ·cases hg:G.contains q.1 with
        |false=>rfl
        |true=>exact absurd (List.mem_append.2 (.inr (by simpa using hg))) hqG⟩)
      exact this
     ·rw [haft _ _ (hdp q hq d hd)]
      show aW (pvT _++st2.t) d=_
      rw [np (λq' hq' hd'=>?_)]
      ·exact I.mask q hq (λhg=>hqG (List.mem_append.2 (.inr hg))) d hd
      ·have:=EM D hpv ((List.mem_filter.1 hq').1) hq hd' hd
       subst this;exact hqG (List.mem_append.2 (.inl (List.mem_map.2 ⟨q',hq',rfl⟩)))
     ·rw [hh,lI (hs i hilt (by rw [hset];simp))]
      exact (I.frame s (λk hk hkon=>hs k hk (hmono k hkon))).tr htr
     ·rcases List.mem_append.1 ht with ht|ht
      ·exact hmono j (I.edges t ht j hj)
      ·simp at ht;subst ht;exact hmono j (hidep j hj)
theorem tg {E:Env} (hE:EOk E) (hm:E.P.follows .mixedOrders=true) {id:Nat} {ops:List Oper} {Q:Exit->ASt->Prop} {st:ASt} (pre tail:List Nat) (hlo:tail=[]\/E.base.loose=false) (hok:rq ops pre tail=true) (K:PV->ASt->Prop)
 (h:ry E ops st [] (pre.map λi=>(i,aE ops i)) λpv=>(∀ p∈pv,∀ d,p.2.1.dst=some d->d<st.n)/\u4 E ops st pv [] (tail.map λi=>(i,aE ops i)) { st with t:=dY pv++st.t } (K pv))
 (hfin:∀ pv st' a w,K pv st'->Rep E.w0 E.base st' a w->∃ st'',Q .normal st''/\Rep E.w0 E.base st'' a w):be E id ops Q st:=by
 intro a w hR;have D:=BS hok;obtain ⟨pv,⟨hdn,hobl⟩,hpv,hall,hval⟩:=AK D pre [] [] (by simp) ⟨by simp,by simp⟩ (by simp) (by simp) (by simp) h;refine wp_region_any hm ?_
 have hR':Rep E.w0 E.base { st with t:=dY pv++st.t } a { w with drawn:=w.drawn+1 }:=by
  obtain ⟨Es,H⟩:=hR.heap;have t:Tr st.h.M w st.h.M { w with drawn:=w.drawn+1 }:=⟨Nat.le_refl _,λ_ _ _=>rfl,λ_ _ h=>h⟩;have hR1:Rep E.w0 E.base st a { w with drawn:=w.drawn+1 }:=(hR.move (h':=st.h) (E':=Es) ⟨λk=>(H.obj k).tr t (λ_ _=>rfl) (λ_ hc _=>hc),H.inj,H.low,H.elow,H.einj,H.em⟩ t ⟨rfl,rfl,rfl⟩).rep;refine ⟨hR1.dfr,hR1.size,λs=>?_,hR1.heap,hR1.below,hR1.base_le⟩;by_cases hs:∃ p∈dY pv,p.1=s
  ·obtain ⟨p,hp,rfl⟩:=hs
   have hany:∀ q∈dY pv,q.2=.any:=by
    intro q hq;unfold dY at hq;rw [List.mem_filterMap] at hq;obtain ⟨x,-,hx⟩:=hq;rw [Option.map_eq_some_iff] at hx;obtain ⟨d,-,rfl⟩:=hx;rfl
   show VRel _ st.h.M (aW (dY pv++st.t) p.1) _
   rw [e8 (v:=.any) (by have:=hany p hp;rw [<- this];exact hp) (λq hq _=>hany q hq)];exact .any _
  ·show VRel _ st.h.M (aW (dY pv++st.t) s) _
   rw [gK (λp hp he=>hs ⟨p,hp,he⟩)];exact hR1.tmp s
 have hoff:∀ i,on (Array.replicate ops.toArray.size false) i=false:=by
  intro i;unfold on;simp only [Array.getD_eq_getD_getElem?,Array.getElem?_replicate]
  split<;>rfl
 refine Fx hE D (BT hok) hpv hall hdn hlo (K:=K pv) (λst' a' w' h1 h2=>hfin pv st' a' w' h1 h2) ops.toArray.size (Array.replicate ops.toArray.size false) a _ [] [] tail { st with t:=dY pv++st.t } (by simp) ?_
  ⟨rfl,by simp,λt _=>hoff t,hobl,hR',rfl,by simp,λp _ hon=>by rw [hoff] at hon;simp at hon,λp hp _=>hval p hp,λp hp _ d hd=>?_,λs _=>?_,by simp⟩
 ·have:=List.length_filter_le (λi=>!on (Array.replicate ops.toArray.size false) i) (List.range ops.length)
  simpa using this
 ·show aW (dY pv++st.t) d=_
  refine e8 ?_ (λq hq _=>?_)
  ·unfold dY;rw [List.mem_filterMap];exact ⟨p,hp,by rw [hd];rfl⟩
  ·unfold dY at hq
   rw [List.mem_filterMap] at hq;obtain ⟨x,-,hx⟩:=hq;rw [Option.map_eq_some_iff] at hx;obtain ⟨d,-,rfl⟩:=hx;rfl
 ·exact (hR.tmp s).tr ⟨Nat.le_refl _,λ_ _ _=>rfl,λ_ _ h=>h⟩
def Env.tight (E:Env):Env:=⟨E.P,E.T,E.w0,⟨E.base.F,E.base.G,false,E.base.L⟩⟩
theorem Rep.loose {w0:World} {F G:Nat->Prop} {l l':Bool} {L:World->Prop} {st:ASt} {a:Act} {w:World} (hR:Rep w0 ⟨F,G,l,L⟩ st a w):Rep w0 ⟨F,G,l',L⟩ st a w:=by
 obtain ⟨h1,h2,h3,⟨E,h4⟩,h5,h6⟩:=hR;exact ⟨h1,h2,h3,⟨E,h4.obj,h4.inj,h4.low,h4.elow,h4.einj,h4.em⟩,h5,h6⟩
theorem be.intro {E:Env} (hE:EOk E) (hm:E.P.follows .mixedOrders=true) {id:Nat} {ops:List Oper} {Q:Exit->ASt->Prop} {st:ASt} (pre tail:List Nat) (hok:rq ops pre tail=true) (h:SB E.tight ops pre tail (Q .normal) st):be E id ops Q st:=by
 obtain ⟨P,T,w0,⟨F,G,l,L⟩⟩:=E;have h1:=tg (E:=⟨P,T,w0,⟨F,G,false,L⟩⟩) hE hm (id:=id) (Q:=Q) pre tail (.inr rfl) hok (λ_=>Q .normal) h (λ_ st' _ _ h1 h2=>⟨st',h1,h2⟩);intro a w hR;refine wp_mono (h1 a w hR.loose) ?_
 rintro e a' w' ⟨st',hq,hR'⟩
 exact ⟨st',hq,hR'.loose⟩
end Go.AM
