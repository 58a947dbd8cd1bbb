import Derived.Test.YtdeimojjhhdeaaaGreatDoorPM
import Derived.Test.YtdeimojjhhdeaaaGreatDoorPJ
import Derived.Test.YtdeimojjhhdeaaaGreatDoorPI
import Derived.Test.YtdeimojjhhdeaaaGreatDoorPH
import Derived.Test.YtdeimojjhhdeaaaGreatDoorPK
import Derived.Test.YtdeimojjhhdeaaaGreatDoorPL
import Derived.Test.YtdeimojjhhdeaaaGreatDoorPG
import Derived.LaidMore
import Derived.Lay
import Derived.HandedShaped
import Derived.Stop.LaidErr
import Derived.MakeChecks
import Derived.SevenTiedAt
import Derived.Lib.LaidTab
import Derived.Shelf.Vars
import GoSem.ClaimGoes
namespace Go.AM
open Go.RowKit
theorem Qo{E:Env}{st:ASt}{S:ASt->Prop}{k i j k' sz sz' b1 o1 C1 off len:Nat}{H H':Hd}{rows srows:List (List CD)}{row:List CD}(hk:st.h.get k=.rows H sz rows true)
 (hi:rows[i]? = some row) (hj:row[j]? = some (.h k' H' sz' len)) (hk':st.h.get k'=.rows (some (b1,o1,C1)) sz' srows true) (hH:H'=some (b1,o1+off*sz',C1-off)\/len=0/\H'=none) (hln:off+len<=srows.length) (h7:70000<=k') (hne:k≠k')
 (h:Ent E { st with h:=(k',.dead)::(k,.rows H sz (pE rows i j (.s (cut srows off len))) true)::st.h } S):Ent E st S:=by
 intro a w hR;obtain⟨Es,HH⟩:=hR.heap;have ho:=HH.obj k;rw[hk]at ho;have ho':=HH.obj k';rw[hk']at ho'
 cases H with
 |none=>rw[show rows=[]from ho]at hi;simp at hi
 | some q =>
   obtain⟨b,o,C⟩:=q;obtain⟨cs,T,F,hb,hl,hC,hsz,hfit,hrl,hF,hd,hrd⟩:=ho;have hu:=hrd i j row _ hi hj;obtain⟨u,hud⟩:∃u,cs.getD (o+(i*sz+j)) undef=u:=⟨_,rfl⟩;rw[hud]at hu;have hblkk:(st.h.get k).blk=some b:=by rw[hk];rfl
   have hread:∃S1,Rd w true S1 u (.s (cut srows off len))/\∀c,S1 c->F i j c\/(st.h.get k').blk=some c\/(Es k' c/\¬st.h.M c):=by
    cases hu with
    | h _ _ _ _ _ h1 h2 =>
      have hs:=h1 (.free h7);have hsl:srows.length<=C1:=by obtain⟨_,_,_,_,h,_⟩:=ho';exact h
      rcases hH with rfl|⟨rfl,rfl⟩
      ·have hs':SlV (some (b1,o1,C1)) sz' off len u:=by
        rcases hs with⟨rfl,h3⟩|⟨-,h3,-⟩
        ·exact y9
        ·omega
       obtain⟨S1,hr1,hS1⟩:=kn ho' ⟨k',by rw[hk'];rfl⟩ hs' hln;refine⟨S1,hr1,λc hc=>.inr ?_⟩;exact R9
      ·obtain⟨⟨a',hu'⟩,-⟩:=hs
       rw[show cut srows off 0=[]from aF (kZ _ _ _ hln),hu'];exact⟨λ_=>False,.empty _ _ (λ_=>rfl),λc hc=>hc.elim⟩
   obtain⟨S1,hr1,hS1⟩:=hread;have hstep:∀h2:AH,HRel E.base h2 w (λx c=>if x=k' then False else if x=k then Es k c\/Es k' c\/(st.h.get k').blk=some c else Es x c)->(∀c,h2.M c->st.h.M c)->Rep E.w0 E.base { st with h:=h2 } a w:=λh2 HH2 hm=>(hR.move HH2 ⟨aC _,λ_ _ _=>rfl,λc _ hc=>hm c hc⟩ ⟨rfl,rfl,rfl⟩).rep
   refine h a w (hstep _ ?_ ?_);rotate_left
   ·rintro c ⟨x,hx⟩
    rw[bU,bU]at hx
    split at hx
    ·simp[AObj.blk]at hx
    ·split at hx
     ·rename_i e;subst e;exact⟨x,by rw[hk];exact hx⟩
     ·exact⟨x,hx⟩
   have hget:∀x,AH.get ((k',AObj.dead)::(k,AObj.rows (some (b,o,C)) sz (pE rows i j (.s (cut srows off len))) true)::st.h) x =
    if x=k' then AObj.dead else if x=k then AObj.rows (some (b,o,C)) sz (pE rows i j (.s (cut srows off len))) true else st.h.get x:=λx=>rfl
   generalize hgen:(((k',AObj.dead)::(k,AObj.rows (some (b,o,C)) sz (pE rows i j (.s (cut srows off len))) true)::st.h):AH)=h2 at hget⊢
   change AH at h2
   have hblk:∀x c,(h2.get x).blk=some c->x≠k'/\(st.h.get x).blk=some c:=by
    exact TY
   have hM:∀c,h2.M c->st.h.M c/\(st.h.get k').blk≠some c:=by
    exact SJ
   have hnk:∀c,(st.h.get k').blk=some c->∀x,¬Es x c:=λc hc x hx=>HH.em x c hx ⟨k',hc⟩
   refine⟨λx=>?_,λx x' c h1 h2=>HH.inj x x' c (hblk x c h1).2 (hblk x' c h2).2,λx c h1=>HH.low x c (hblk x c h1).2,λx c hc=>?_,λx x' c hc hc'=>?_,λx c hc hm=>?_⟩
   ·rw[hget]
    by_cases hx:x=k'
    ·simp only[al hx];trivial
    ·simp only[ak hx]
     by_cases hxk:x=k
     ·exact Ve
     ·simp only[ak hxk]
      exact(HH.obj x).mono (λc _ hm=>(hM c hm).1) (λc hc=>hc)
   ·exact Uc
   ·exact UV
   ·exact Ud
def acU(h:AH)(d d':CD):Prop:=
 d=d'\/∃(k:Nat) (H':Hd) (sz len b o C off C':Nat) (rows:List (List CD)) (own:Bool),d=.h k H' sz len/\70000<=k/\h.get k=.rows (some (b,o,C)) sz rows own/\(H'=some (b,o+off*sz,C')\/len=0/\H'=none)/\C'+off<=C/\off+len<=rows.length/\d'=.s (cut rows off len)
def agF(h:AH)(d d':CD):Prop:=
 acU h d d'\/∃rows rows':List (List CD),d=.s rows/\d'=.s rows'/\rows.length=rows'.length/\(∀(i:Nat) (row row':List CD),rows[i]? = some row->rows'[i]? = some row'->row.length=row'.length/\∀(j:Nat) (d d':CD),row[j]? = some d->row'[j]? = some d'->acU h d d')
theorem yr{base:Bs}{h:AH}{w:World}{E:Nat->Nat->Prop}(H:HRel base h w E){u:Value}{S:Nat->Prop}{d d':CD}(hr:Rd w false S u d)(hc:acU h d d'):Rd w false (λ_=>True) u d':=by
 rcases hc with rfl|⟨k,H',sz,len,b,o,C,off,C',rows,own,rfl,h7,hk,hH,hC,hln,rfl⟩
 ·exact hr.map (λ_ _ _=>rfl) (λ_ _ _=>trivial)
 ·cases hr with
  | h _ _ _ _ _ h1 h2 =>
    have hs:=h1 (.free h7);rcases hH with rfl|⟨rfl,rfl⟩
    ·rcases hs with⟨rfl,h3⟩|⟨-,h3,-⟩
     ·have ho:=H.obj k
      rw[hk]at ho;obtain⟨S1,hr1,-⟩:=kn ho ⟨k,by rw[hk];rfl⟩ (u:=.slice (some ⟨b,o+off*sz,none⟩) len (C-off)) (.inl ⟨rfl,aa⟩) hln;have:=(hr1.weaken.map (λ_ _ _=>rfl) (S':=λ_=>True) (λ_ _ _=>trivial)).shrink (cap':=C') aa aa;exact lr
     ·omega
    ·obtain⟨⟨a',rfl⟩,-⟩:=hs
     rw[show cut rows off 0=[]from aF (kZ _ _ _ hln)];exact Kh
theorem OJ{base:Bs}{h:AH}{w:World}{E:Nat->Nat->Prop}(H:HRel base h w E){u:Value}{S:Nat->Prop}{d d':CD}(hr:Rd w false S u d)(hc:agF h d d'):Rd w false (λ_=>True) u d':=by
 rcases hc with hc|⟨rows,rows',rfl,rfl,hl,hrr⟩
 ·exact yr H hr hc
 ·cases hr with
  | empty a cap hc =>
    have:rows'=[]:=aF (by rw[<-hl];rfl);subst this;exact Kh
  | slice b off cap sz cs T fr _ F hcap hmax hsz hS hb hfit hown hF hd hlen hr =>
    rw[hl];refine .slice b off cap sz cs T fr rows' (λ_ _ _=>True) aa hmax hsz trivial hb (by rw[<-hl];exact hfit) fI (λ_ _ _ _=>⟨trivial,fI⟩) fI (λrow' hm=>?_) (λi j row' d' h1 h2=>?_)
    ·obtain⟨i,hi⟩:=fp hm
     have hlt:i<rows.length:=by rw[hl];exact(aw.1 hi).1
     have:=(hrr i _ _ (au hlt) hi).1;rw[<-this];exact hlen _ (ao hlt)
    ·have hlt:i<rows.length:=by rw[hl];exact(aw.1 h1).1
     obtain⟨h3,h4⟩:=hrr i _ _ (au hlt) h1;have hj:j<(rows[i]).length:=by rw[h3];exact(aw.1 h2).1
     have h5:=au hj;exact yr H (hr i j _ _ (au hlt) h5) (h4 j _ _ h5 h2)
def ab0(R:Value->CD->Prop)(h:AH)(x:AV)(d:CD):Prop:=
 (∃d0,aIn R h x d0/\agF h d0 d)\/∃k H sz len,x=.ml k H sz len/\70000<=k/\acU h (.h k H sz len) d
def abZ(R:Value->CD->Prop)(h:AH):List AV->List CD->Prop
 | [],[]=>True
 |a::l,d::ds=>ab0 R h a d/\abZ R h l ds
 |_,_=>False
def ae3(R:Value->CD->Prop)(h:AH)(x:AV)(v:VD):Prop:=
 match v with
 | .c d=>ab0 R h x d
 | .agg ds => match x with
   | .agg l=>abZ R h l ds
   |_=>False
def abY(R:Value->CD->Prop)(h:AH):List AV->List VD->Prop
 | [],[]=>True
 |a::l,d::ds=>ae3 R h a d/\abY R h l ds
 |_,_=>False
theorem WH{h:AH}{d:CD}:agF h d d:=.inl (.inl rfl)
theorem Pu{R:Value->CD->Prop}{h:AH}{x:AV}{d:CD}(hi:aIn R h x d):ab0 R h x d:=.inl ⟨d,hi,WH⟩
theorem ahr{R:Value->CD->Prop}{h:AH}{k b o C off C' sz len:Nat}{H:Hd}{rows:List (List CD)}{own:Bool}(h7:70000<=k)(hk:h.get k=.rows (some (b,o,C)) sz rows own)(hH:H=some (b,o+off*sz,C')\/len=0/\H=none)
 (hC:C'+off<=C) (hl:off+len<=rows.length):ab0 R h (.ml k H sz len) (.s (cut rows off len)):=
 .inr ⟨k,H,sz,len,rfl,h7,.inr ⟨k,H,sz,len,b,o,C,off,C',rows,own,rfl,h7,hk,hH,hC,hl,rfl⟩⟩
theorem GL{base:Bs}{h:AH}{w:World}{E:Nat->Nat->Prop}(H:HRel base h w E){R:Value->CD->Prop}(hR:∀u d,R u d->Rd w false (λ_=>True) u d){x:AV}{u:Value}(hv:VRel w h.M x u){d:CD}(hi:ab0 R h x d):Rd w false (λ_=>True) u d:=by
 rcases hi with⟨d0,h1,h2⟩|⟨k,Hk,sz,len,rfl,h7,hc⟩
 ·have:=(jR H hR [x] [.c d0] (us:=λ_=>u) (λi av hi=>by
   rcases i with _|i
   ·simp at hi;subst hi;exact hv
   ·simp at hi) ⟨h1,trivial⟩).2 0 (.c d0) rfl
  exact OJ H this h2
 ·cases hv with
  | ml _ _ _ _ _ hx =>
    have hs:SlV Hk sz 0 len u:=hx.elim (λh=>h.2) (λh=>absurd (.free h7) h.2.1);exact yr H (S:=λ_=>True) (.h k Hk sz len u (λ_=>hs) (λ_ hn=>absurd (.free h7) hn)) hc
theorem CF{base:Bs}{h:AH}{w:World}{E:Nat->Nat->Prop}(H:HRel base h w E){R:Value->CD->Prop}(hR:∀u d,R u d->Rd w false (λ_=>True) u d):∀(l:List AV) (ds:List CD) {us:Nat->Value}(_:∀(i:Nat) (av:AV),l[i]? = some av->VRel w h.M av (us i)) (_:abZ R h l ds),
 l.length=ds.length/\∀(i:Nat) (d:CD),ds[i]? = some d->Rd w false (λ_=>True) (us i) d
 | [],[],_,_,_=>⟨rfl,λi d hi=>qQ⟩
 | a :: l, d :: ds, us, hv, hi => by
   obtain⟨h1,h2⟩:=CF H hR l ds (us:=λi=>us (i+1)) (λi av h=>hv (i+1) av l8) hi.2;refine⟨lj,λi x hx=>?_⟩
   cases i with
   |zero=>simp at hx;subst hx;exact GL H hR (hv 0 a rfl) hi.1
   |succ i=>exact h2 i x qP
 | [],_::_,_,_,hi=>hi.elim
 |_::_,[],_,_,hi=>hi.elim
theorem CE{base:Bs}{h:AH}{w:World}{E:Nat->Nat->Prop}(H:HRel base h w E){R:Value->CD->Prop}(hR:∀u d,R u d->Rd w false (λ_=>True) u d):∀(l:List AV) (vs:List VD) {us:Nat->Value}(_:∀(i:Nat) (av:AV),l[i]? = some av->VRel w h.M av (us i)) (_:abY R h l vs),
 l.length=vs.length/\∀(i:Nat) (v:VD),vs[i]? = some v->RdV w (us i) v
 | [],[],_,_,_=>⟨rfl,λi d hi=>qQ⟩
 | a :: l, v :: vs, us, hv, hi => by
   obtain⟨h1,h2⟩:=CE H hR l vs (us:=λi=>us (i+1)) (λi av h=>hv (i+1) av l8) hi.2;refine⟨lj,λi x hx=>?_⟩
   cases i with
   | zero =>
     simp at hx;subst hx;have ha:=hv 0 a rfl;have hd:=hi.1
     cases v with
     |c d=>exact GL H hR ha hd
     | agg ds =>
       unfold ae3 at hd;simp only at hd
       split at hd
       ·rename_i l'
        generalize us 0=u0 at ha
        cases ha with
        | agg _ xs hs hl =>
          obtain⟨g1,g2⟩:=CF H hR l' ds (us:=λi=>xs.getD i undef) hl hd;exact⟨xs,rfl,aa,g2⟩
       ·exact hd.elim
   |succ i=>exact h2 i x qP
 | [],_::_,_,_,hi=>hi.elim
 |_::_,[],_,_,hi=>hi.elim
theorem Qq{E:Env}(hE:EOk E){f:Nat}{args:List VD}{rr:RR}(hc:dt E.P E.base.L f args rr){avs:List AV}{st:ASt}{dst:Option Nat}{K:ASt->Prop}(hin:abY E.rd st.h avs args)
 (hout:cG st dst (roR rr) K):ae E f avs st dst K:=by
 refine⟨hc.1,λa w hR xs hs hx=>?_⟩;obtain⟨Es,hH⟩:=hR.heap;obtain⟨hl,hr⟩:=CE hH hR.rd avs args hx hin;refine(hc.2 w (hE.2 w hR.below) xs aa hr).mono ?_
 rintro e w' ⟨v,rfl,hb,hrr⟩
 have t:Tr st.h.M w st.h.M w':=⟨hb.size,λb hlt _=>hb.block b hlt,λb _ h=>h⟩;have H':HRel E.base st.h w' Es:=⟨λk=>(hH.obj k).tr t (λb hk=>hb.block b (hH.lt hk)) (λc hc _=>hc),hH.inj,hH.low,λk c hc=>⟨(hH.elow k c hc).1,cH (hH.elow k c hc).2 hb.size⟩,hH.einj,hH.em⟩;have hv:VRel w' st.h.M (roR rr) v:=D4 hrr (λc hc ⟨k,hk⟩=>Du);obtain⟨av',h3,h1,h2,h4,h5⟩:=(hR.move H' t ⟨hb.os,hb.tape,hb.output⟩).put hv hout;exact⟨v,av',h3,rfl,h1,h2,h4,h5⟩
theorem ae.hd{E:Env}{f:Nat}{args:List AV}{st:ASt}{dst:Option Nat}{K:ASt->Prop}(hfn:Mb E.P f){k sz:Nat}{H:Hd}{rows:List (List CD)}{own:Bool}(hk:st.h.get k=.rows H sz rows own)(hne:rows≠[])
 (h:∀b o C,H=some (b,o,C)->rows.length<=C->ae E f args st dst K):ae E f args st dst K:=by
 refine⟨hfn,λa w hR xs hs hx=>?_⟩;obtain⟨Es,hH⟩:=hR.heap;have ho:=hH.obj k;rw[hk]at ho
 cases H with
 |none=>exact absurd ho hne
 | some q =>
   obtain⟨b,o,C⟩:=q;have hC:rows.length<=C:=by obtain⟨_,_,_,_,h2,_⟩:=ho;exact h2
   exact(h b o C rfl hC).2 a w hR xs hs hx
theorem aaz{k sz len:Nat}(h:70000<=k):MlS k sz len=True:=eq_true (.free h)
theorem WJ{K:List AV->Prop}:vf [] K=K []:=(rfl)
theorem OL{a:AV}{l:List AV}{K:List AV->Prop}:vf (a::l) K=ON a λa'=>vf l λl'=>K (a'::l'):=(rfl)
theorem aab{K:List AV->Prop}:MQ [] K=K []:=(rfl)
theorem WI{a:AV}{l:List AV}{K:List AV->Prop}:MQ (a::l) K=Hn a λa'=>MQ l λl'=>K (a'::l'):=(rfl)
theorem aac{l:List AV}{K:AV->Prop}:ON (.agg l) K=MQ l λl'=>K (.agg l'):=(rfl)
theorem agI{u:Value}{K:AV->Prop}:ON (.v u) K=K (.v u):=(rfl)
theorem acY{k sz len:Nat}{H:Hd}{K:AV->Prop}:ON (.ml k H sz len) K=K (.ml k H sz len):=(rfl)
theorem agH{u:Value}{K:AV->Prop}:Hn (.v u) K=K (.v u):=(rfl)
theorem aaa{K:AV->Prop}:Hn .nil K=K .nil:=(rfl)
theorem acV{k sz len:Nat}{H:Hd}{K:AV->Prop}:Hn (.ml k H sz len) K=K (.ml k H sz len):=(rfl)
theorem acX{k b o C sz off len:Nat}{K:AV->Prop}(h:70000<=k):Hn (.sl k (some (b,o,C)) sz off len) K=∀H',(H'=some (b,o+off*sz,C-off)\/len=0/\H'=none)->K (.ml k H' sz len):=by
 show(if 70000<=k then _ else _)=_
 rw[al h]
theorem acW{k sz off len:Nat}{H:Hd}{K:AV->Prop}(h:k<70000):Hn (.sl k H sz off len) K=K (.sl k H sz off len):=by
 cases H with
 |none=>rfl
 | some q =>
   obtain⟨b,o,C⟩:=q
   show(if 70000<=k then _ else _)=_
   rw[ak aa]
theorem W0{x:AV}:uw [x]=x:=(rfl)
theorem WZ{x y:AV}{l:List AV}:uw (x::y::l)=.tup (x::y::l):=(rfl)
attribute [simp ↓] aee aed WJ OL aab WI aac agI acY agH aaa acV acX acW
attribute [simp] W0 WZ aaz
def PZ(E:Env)(rs:List ResultVar)(rr:RR):Exit->ASt->Prop
 | .normal,st=>Ent E st λst=>jw E st rs (yq st.h rr)
 | .ret,st=>Ent E st λst=>jw E st rs (yq st.h rr)
 |_,_=>False
theorem AA {P : Program} {T : Nat → Option TI} (hT : ∀ t ti, T t = some ti → TIok P t ti) {L : World → Prop} (hL : LSt L) {f : Nat} {fn : Func} {c : Code} (hf : P.funcs[f]? = some fn) (hname : (fn.name == "runtime.NumGoroutine") = false) (hb : fn.body = some c)
 {n:Nat}{rs:List ResultVar}(hnt:fn.ntmps=n) (hrs:fn.results=⟨rs⟩) {args:List VD}{res:RR}(hn:args.length<=n) (kb:Nat)
 (h:∀w0 b,EOk ⟨P,T,w0,⟨b,b,false,L⟩⟩->jA ⟨P,T,w0,⟨b,b,false,L⟩⟩ c (PZ ⟨P,T,w0,⟨b,b,false,L⟩⟩ rs res) { n:=n,kb:=kb,t:=rL 0 args,h:=[] }):dt P L f args res:=by
 subst hnt;have hrs':fn.results.toList=rs:=qO;subst hrs';refine⟨⟨fn,hf,hname,pj⟩,λw hw xs hs hx=>oc hf hb ?_⟩
 let bs:Bs:=⟨λc=>c<w.heap.size,λc=>c<w.heap.size,false,L⟩
 have hE:EOk ⟨P,T,w,bs⟩:=⟨hT,λw' hb=>hL w w' hb hw⟩;have hM:∀b,¬AH.M [] b:=JQ
 have hR:Rep w bs { n:=fn.ntmps,kb:=kb,t:=rL 0 args,h:=[] } { tmps:=xs++Array.replicate (fn.ntmps-xs.size) undef,defers:=[] } w:=by
  exact Ku
 refine kL (eW hE c _ _ _ w hR (h w (λc=>c<w.heap.size) hE)) ?_
 rintro e a' w' ⟨st0,hq,hR0⟩
 have key:(Ent ⟨P,T,w,bs⟩ st0 λst=>jw ⟨P,T,w,bs⟩ st fn.results.toList (yq st.h res))->a'.defers=[]/\∃v,(results fn a'.tmps).run P w'=.ok v w'/\∃v',Ending.returned v=.returned v'/\Below w.heap.size w w'/\Ql w' (λc=>w.heap.size<=c/\c<w'.heap.size) v' res:=by
  intro hq;obtain⟨st',hq,hR'⟩:=hq a' w' hR0;obtain⟨vs,l,h1,h2,h3,h4⟩:=jv hE hR' fn.results.toList hq;obtain⟨Es,hH⟩:=hR'.heap;refine⟨hR'.dfr,if vs.length=1 then vs.getD 0 undef else .tuple vs.toArray,?_,_,rfl,⟨hR'.below.os,hR'.below.tape,hR'.below.output,hR'.below.size,hR'.below.block⟩,?_⟩
  ·have h1':(fn.results.toList.mapM (nc a'.tmps)).run P w'=.ok vs w':=h1
   exact Ks
  ·have low:∀c,((∃k,Es k c)\/st'.h.M c)->w.heap.size<=c/\c<w'.heap.size:=by
    rintro c (⟨k,hk⟩|⟨k,hk⟩)
    ·exact⟨rT (hH.elow k c hk).1,(hH.elow k c hk).2⟩
    ·exact⟨rT (hH.low k c hk).1,hH.lt hk⟩
   cases res with
   | one r =>
     unfold yq at h4;simp only at h4
     split at h4
     ·rename_i x
      obtain⟨h',E',S,-,hr,O⟩:=wa hH (h3 0 x rfl) h4;rw[al sS];exact yM.mono hr (λc hc=>low c (O.own c hc).1)
     ·exact h4.elim
   | tup rs =>
     obtain⟨hne,h4⟩:=h4;obtain⟨h',E',S,F,-,hl,hF,hd,hr,O⟩:=ue l rs hH h3 h4;rw[ak aa];exact⟨vs.toArray,F,rfl,aI,λj c hc=>low c (O.own c (hF j c hc)).1,hd,λj t hj=>by simpa using hr j t hj⟩
 cases e with
 |normal=>exact key hq
 |ret=>exact key hq
 |_=>exact hq.elim
theorem abO{E:Env}{rs:List ResultVar}{rr:RR}{st:ASt}:PZ E rs rr .normal st=Ent E st λst=>jw E st rs (yq st.h rr):=(rfl)
theorem abN{E:Env}{rs:List ResultVar}{rr:RR}{st:ASt}:PZ E rs rr .ret st=Ent E st λst=>jw E st rs (yq st.h rr):=(rfl)
attribute [simp ↓] abO abN
end Go.AM
namespace Go.Proofs.YtdeimojjhhdeaaaGreatDoor
open Go.AM
set_option maxRecDepth 20000
set_option maxHeartbeats 6400000
theorem aj5{α:Type}{f:α->List CD}{l:List α}{k:Nat}{t:α}(hk:k<l.length)(ht:l[k]=t)(g:List CD->List CD):(l.map f).modify k g=(l.map f).set k (g (f t)):=by
 subst ht
 apply qy
 intro j;rw[iT,iX];by_cases h:k=j
 ·subst h
  simp[hk]
 ·simp[h]
def aag(r:Ring)(k:Nat)(av:AV)(hN:AH):Prop:=∃b o C H1,r.list.length<=C/\(H1=some (b,o+k*3,C-k)\/r.list.length-k=0/\H1=none) /\
 av=.tup [.agg [.v (.int .i64 r.cap),.v (.int .i64 (r.next+k)),.v (.bool false),.ml 80179 H1 3 (r.list.length-k)],.ml 80179 (some (b,o,k)) 3 k,.v (.int .i64 0)] /\
 hN=[(80179,.rows (some (b,o,C)) 3 (r.list.map Entry.row) true)]
theorem FN(r:Ring)(hl:eJ r<=2^30)(n:Nat)(c1:dw r)(c2:1<=n)(c3:r.out=false)(hne:r.list≠[]){k:Nat}(hk0:min n r.list.length=k) :
 AB Tryz.prog 231 [.agg r.row,.c (vi n)] (aag r k):=by
 refine AB.intro aq Tryz.func231 ai rfl rfl rfl (aj rfl) 80000 (λw0 base=>?_);have hnl:nL ba r.list<=2^30:=yV;have hle:=bB hnl;simp[Ring.row];intro b2 b4;refine ae.pure (qo r hl) eS ?_;simp[Ring.res];intro H b7;refine ae.hd (iz r aa).1 (k:=80179) (sz:=3) (H:=H) (rows:=r.list.map Entry.row) (own:=true) ab (by simpa using hne) ?_
 rintro b o C rfl hC
 simp at hC;refine ae.ro (iz r aa) eS ?_;have c2':¬(n:Int)<1:=aa;have hk:k<=r.list.length:=aa;have hnx:=c1.2.2.1;have ew:Go.IntKind.i64.wrap (r.next+(k:Int))=r.next+k:=ah _ aa;simp[c1,c2',c3,By,hk0,hk,ew];exact⟨⟨_,⟨b,o,C,_,hC,.inl rfl,rfl,rfl⟩,ab,ab⟩,λh0=>⟨_,⟨b,o,C,_,hC,.inr ⟨h0,rfl⟩,rfl,rfl⟩,ab,ab⟩⟩
def uQ(s:Sub)(r:Ring)(H:Hd)(len:Nat):List CD:=[.v (.int .i64 s.id),.v (.string s.doc),.v (.int .i64 r.cap),.v (.int .i64 r.next),.v (.bool r.out),.h 80179 H 3 len]
def adJ(h:Hub)(i:Nat)(s:Sub)(k:Nat)(av:AV)(hN:AH):Prop:=∃b o C H1 Hd Hs,s.r.list.length<=C/\(H1=some (b,o+k*3,C-k)\/s.r.list.length-k=0/\H1=none) /\
 av=.tup [.agg [.v (.bool h.shut),.sl 10753 Hd 5 0 h.docs.length,.sl 10754 Hs 6 0 h.subs.length,.v (.int .i64 h.last)],.ml 80179 (some (b,o,k)) 3 k,.v (.int .i64 0)] /\
 hN=[(10753,.rows Hd 5 (h.docs.map Doc.row) true),(10754,.rows Hs 6 ((h.subs.map Sub.row).set i (uQ s ⟨s.r.cap,s.r.next+k,false,[]⟩ H1 (s.r.list.length-k))) true),(80179,.rows (some (b,o,C)) 3 (s.r.list.map Entry.row) true)]
theorem HJ(h:Hub)(hl:eG h<=2^28)(id:Int)(n:Nat)(c1:bI h)(c2:1<=n){i:Nat}(hi:i<h.subs.length)(e:iL h.subs id=i){s:Sub}(hs:h.subs[i]=s)(c3:s.r.out=false)(hne:s.r.list≠[]){k:Nat}(hk0:min n s.r.list.length=k) :
 AB Tryz.prog 114 [.agg h.row,.c (vi id),.c (vi n)] (adJ h i s k):=by
 refine AB.intro aq Tryz.func114 ai rfl rfl rfl (aj rfl) 10000 (λw0 base=>?_);have hm:=eA (f:=eM) (jP hl).2 hi;rw[hs]at hm;unfold eM at hm;have hro:=(w7 c1 hi).1;rw[hs]at hro;have c2':¬(n:Int)<1:=aa;have hi0:¬(i:Int)<0:=aa;simp[Hub.row];intro b3 b6;refine ae.pure (pJ h aa id) bV ?_;simp[e];refine ae.pure (fW h aa) bV ?_;simp[c1,c2',hi0,hi,hs,Sub.row];refine we (FN s.r aa n hro c2 c3 hne hk0) eS ?_
 rintro _ _ ⟨b,o,C,H1,hC,hH1,rfl,rfl⟩
 simp;intro b10;refine ae.pure (iI h aa) bV ?_;simp[Hub.res,hi];intro Hd Hs b13;have hm2:=λg=>aj5 (f:=Sub.row) hi hs g
 refine⟨_,⟨b,o,C,H1,Hd,Hs,hC,hH1,rfl,rfl⟩,ab,?_⟩;simp[hm2,Sub.row,uQ]
 rintro a x (⟨rfl,rfl⟩|⟨rfl,rfl⟩|⟨rfl,rfl⟩)<;>simp
def ahI(h:Hub)(i:Nat)(s:Sub)(k:Nat)(av:AV)(hN:AH):Prop:=∃b o C H1 Hd Hs,s.r.list.length<=C/\(H1=some (b,o+k*3,C-k)\/s.r.list.length-k=0/\H1=none) /\
 av=.tup [.agg [.v (.bool h.shut),.sl 10753 Hd 5 0 h.docs.length,.sl 10754 Hs 6 0 h.subs.length,.v (.int .i64 h.last)],.agg [.v (.int .i64 0),.v (.int .i64 0),.nil,.ml 80179 (some (b,o,k)) 3 k]] /\
 hN=[(10753,.rows Hd 5 (h.docs.map Doc.row) true),(10754,.rows Hs 6 ((h.subs.map Sub.row).set i (uQ s ⟨s.r.cap,s.r.next+k,false,[]⟩ H1 (s.r.list.length-k))) true),(80179,.rows (some (b,o,C)) 3 (s.r.list.map Entry.row) true)]
theorem aaV(h:Hub)(hl:eG h<=2^28)(c:Call)(hc:jO c<=2^28)(n6:c.kind=6)(c1:bI h)(cc:eQ c){n:Nat}(hn:c.n=n)(c2:1<=n){i:Nat}(hi:i<h.subs.length)(e:iL h.subs c.client=i){s:Sub}(hs:h.subs[i]=s)(c3:s.r.out=false)(hne:s.r.list≠[]){k:Nat}(hk0:min n s.r.list.length=k) :
 AB Tryz.prog 30 [.agg h.row,.agg c.row] (ahI h i s k):=by
 refine AB.intro aq Tryz.func30 ai rfl rfl rfl (aj rfl) 20000 (λw0 base=>?_);have hp:=HJ h hl c.client n c1 c2 hi e hs c3 hne hk0;rw[<-hn]at hp;simp[Hub.row,Call.row];intro b2 b3 b4 b5;refine ae.ro (fW h aa) bV ?_;simp[c1];refine ae.ro (pK c aa) di ?_;simp[cc];intro b6 b7;simp[n6];refine we hp bV ?_
 rintro _ _ ⟨b,o,C,H1,Hd,Hs,hC,hH1,rfl,rfl⟩
 simp;refine drw eok mix [0,1] [2,3] (.c 2 2 2 1 (.c 2 3 1 0 (.l 2 0) .s) .s) ?_;simp
 try intros
 refine⟨_,⟨b,o,C,H1,Hd,Hs,hC,hH1,rfl,rfl⟩,ab,?_⟩;simp[uQ]
 rintro a x (⟨rfl,rfl⟩|⟨rfl,rfl⟩|⟨rfl,rfl⟩)<;>simp
theorem FO(r:Ring)(n:Nat)(c1:dw r)(c2:1<=n)(c3:r.out=false)(he:r.list=[]) :
 ar Tryz.prog 231 [.agg r.row,.c (vi n)] (.tup [.agg r.res,.c (.s []) 3,.c (vi 0) 1]):=by
 refine AA aq LSt.true Tryz.func231 ai rfl rfl rfl (aj rfl) 80000 (λw0 base _=>?_);have hnl:eJ r<=2^30:=by unfold eJ;rw[he];simp[nL,dW]
 have h1:=qo r hnl;have h2:=iz r aa;have hnx:=c1.2.2.1;obtain⟨cap,next,out,list⟩:=r;simp only at he c3 hnx;subst he c3;have c2':¬(n:Int)<1:=aa;have ew:Go.IntKind.i64.wrap next=next:=ah _ aa;have hn0:¬(n:Int)<0:=aa
 have hmin:∀F:AV->Prop,HZ (.v (.int .i64 (n:Int))) (.v (.int .i64 0)) F=F (.v (.int .i64 0)):=λF=>by
  show F (.v (.int .i64 (if(0:Int)<n then 0 else n)))=_
  rw[al aa]
 simp[Ring.row];intro b2 b4;refine ae.pure h1 eS ?_;simp[Ring.res];intro H b7;refine ae.ro h2 eS ?_
 cases H with
 | none =>
   simp[c1,c2',ew,hmin];refine Ent.refl ?_;simp
 | some q =>
   obtain⟨b,o,C⟩:=q;simp[c1,c2',ew,hmin];refine Ent.refl ?_;simp
theorem HK(h:Hub)(hl:eG h<=2^28)(id:Int)(n:Nat)(c1:bI h)(c2:1<=n){i:Nat}(hi:i<h.subs.length)(e:iL h.subs id=i){s:Sub}(hs:h.subs[i]=s)(c3:s.r.out=false)(he:s.r.list=[]) :
 ar Tryz.prog 114 [.agg h.row,.c (vi id),.c (vi n)] (.tup [.agg h.res,.c (.s []) 3,.c (vi 0) 1]):=by
 refine pci aq Tryz.func114 (λw0 base=>?_);have hro:=(w7 c1 hi).1;rw[hs]at hro;have c2':¬(n:Int)<1:=aa;have hi0:¬(i:Int)<0:=aa;have hm2:=λg=>aj5 (f:=Sub.row) hi hs g
 have hset:(h.subs.map Sub.row).set i s.row=h.subs.map Sub.row:=by
  rw[<-Oq,<-hs,Eh]
 simp[Hub.row];intro b3 b6;refine ae.ro (pJ h aa id) bV ?_;simp[e];refine ae.ro (fW h aa) bV ?_;simp[c1,c2',hi0,hi,hs,Sub.row];refine ae.pure (FO s.r n hro c2 c3 he) eS ?_;simp[Ring.res,he];intros;refine ae.pure (iI h aa) bV ?_;simp[Hub.res,hi];intros;have hr:s.row=[vi s.id,.v (.string s.doc),vi s.r.cap,vi s.r.next,.v (.bool s.r.out),.s []]:=by simp[Sub.row,he]
 rw[hr]at hset;simp[hm2,Sub.row,he,hset]
def AU(h:Hub)(c:Call):Prop:=bI h/\eQ c/\c.kind=6/\1<=c.n/\∃i:Nat,∃hi:i<h.subs.length,iL h.subs c.client=i/\h.subs[i].r.out=false/\h.subs[i].r.list≠[]
theorem Xy(h:Hub)(hl:eG h<=2^28)(c:Call)(hc:jO c<=2^28)(n6:c.kind=6)(hns:¬AU h c):ar Tryz.prog 30 [.agg h.row,.agg c.row] (.tup [.agg (fDo h c).1.res,.agg (fDo h c).2.res]):=by
 refine pci aq Tryz.func30 (λw0 base=>?_);have hcn:c.doc.size<=2^28/\nL aM c.o<=2^28/\c.text.length<=2^28:=by unfold jO at hc;omega
 simp[Hub.row,Call.row];intro b2 b3 b4 b5;refine ae.ro (fW h aa) bV ?_;by_cases c1:bI h
 rotate_left
 ·exact Tm
 simp[c1];refine ae.ro (pK c aa) di ?_;by_cases c2:eQ c
 rotate_left
 ·exact Tl
 simp[c2];intro b6 b7;have hat:=abf ⟨c1,c2⟩ n6;by_cases z:(eB h c.client c.n).2.2=0
 rotate_left
 ·rw[ak z]at hat
  have hd:=HI h aa c.client c.n;generalize eB h c.client c.n=R at hd hat z;obtain⟨X,list,code⟩:=R;simp only at hd hat z;simp[n6];refine iF hd bV ?_
  rintro _ rfl
  simp[Hub.res]
  try intros
  exact Kt
 rw[al z]at hat;have hn1:1<=c.n:=bR λq=>by rw[oP (λa=>q a.2)]at z;simp at z
 rcases mU h.subs c.client with⟨i,hi,e,-⟩|e;rotate_left
 ·rw[rH ⟨c1,hn1⟩ e]at z;simp at z
 obtain⟨n,hn⟩:∃n:Nat,c.n=n:=⟨c.n.toNat,aa⟩;obtain⟨s,hs⟩:∃s,h.subs[i]=s:=⟨_,rfl⟩;have hro:=(w7 c1 hi).1;have hpo:=rh ⟨c1,hn1⟩ hi e;rw[hs]at hpo hro
 have c3:s.r.out=false:=by
  cases ho:s.r.out with
  |false=>rfl
  | true =>
    rw[rG ⟨hro,hn1⟩ ho]at hpo;rw[hpo]at z;simp at z
 have he:s.r.list=[]:=bR λq=>hns ⟨c1,c2,n6,hn1,i,hi,e,by rw[hs];exact c3,by rw[hs];exact q⟩
 have hrp:=oz ⟨hro,hn1⟩ c3 (k:=0) (by rw[he];simp);have hre:(⟨s.r.cap,s.r.next+((0:Nat):Int),s.r.out,s.r.list.drop 0⟩:Ring)=s.r:=ab;rw[hre]at hrp;rw[hrp,al rfl]at hpo
 have hse:h.subs.set i ⟨s.id,s.doc,s.r⟩=h.subs:=by
  have:(⟨s.id,s.doc,s.r⟩:Sub)=h.subs[i]:=by rw[hs]
  rw[this,Eh]
 rw[hpo]at hat;simp only[hse,he,List.take_nil]at hat;have hp:=HK h hl c.client n c1 aa hi e hs c3 he;rw[<-hn]at hp;simp[n6];refine ae.pure hp bV ?_;simp[Hub.res];intros;exact UF
theorem Xx(h:Hub)(hl:eG h<=2^28)(c:Call)(hc:jO c<=2^28)(hns:¬AU h c):ar Tryz.prog 30 [.agg h.row,.agg c.row] (.tup [.agg (fDo h c).1.res,.agg (fDo h c).2.res]):=by
 by_cases n6:c.kind=6
 ·exact Xy h hl c hc n6 hns
 ·exact Xw h hl c hc n6
theorem Wz{h:Hub}{c:Call}(sh:AU h c):∃(n i k:Nat) (hi:i<h.subs.length),c.n=n/\1<=n/\iL h.subs c.client=i/\h.subs[i].r.out=false/\h.subs[i].r.list ≠ []/\min n h.subs[i].r.list.length=k /\
 fDo h c=(⟨h.shut,h.docs,h.subs.set i ⟨h.subs[i].id,h.subs[i].doc,⟨h.subs[i].r.cap,h.subs[i].r.next+k,false,h.subs[i].r.list.drop k⟩⟩,h.last⟩,⟨0,0,[],h.subs[i].r.list.take k⟩):=by
 obtain⟨c1,c2,n6,hn1,i,hi,e,c3,hne⟩:=sh;obtain⟨n,hn⟩:∃n:Nat,c.n=n:=⟨c.n.toNat,aa⟩;refine⟨n,i,min n h.subs[i].r.list.length,hi,hn,aa,e,c3,hne,rfl,?_⟩;have hro:=(w7 c1 hi).1;have hpo:=rh ⟨c1,hn1⟩ hi e;have hrp:=oz ⟨hro,hn1⟩ c3 (k:=min n h.subs[i].r.list.length) (by rw[hn];simp);rw[hrp,al rfl]at hpo;rw[abf ⟨c1,c2⟩ n6,hpo,al rfl,c3]
set_option maxHeartbeats 12800000
attribute [local simp] kf ia cP gM gH fo
theorem FT(d:Desk)(hb:xX d)(s:List UInt8)(hs:s.length<=2^26)(hns:¬((bI d.h/\gz d.n)/\s≠[]/\s.head?≠some 35/\(da s).2=true/\AU d.h (da s).1)):dt Tryz.prog LT 7 [.agg d.row,.c (vs s)] (.tup [.agg (sw d s).1.res,.c (.v (.string (sw d s).2)) 1]):=by
 have h1:=hb.1;have h2:=hb.2;have hnd:gW d<=2^30:=by unfold gW;omega
 refine dt.intro' aq LT.stay Tryz.func7 ai rfl rfl rfl (aj rfl) (λw0 base eok=>?_);simp[Desk.row];intro b2 b4;refine ae.pure (Gq d hb) lh ?_;simp[Desk.res];intro H1 H2 H3 H4 H5 H6 b6;refine ae.ro (zY d hnd) lh ?_;by_cases ok:bI d.h/\gz d.n
 rotate_left
 ·simp[aH ok,xV ok,KJ]
 have okd:dc (bI d.h/\gz d.n)=true:=by rw[rK];exact ok
 simp[okd];rcases s with _|⟨x,l⟩
 ·simp[nk ok (.inl rfl)]
 obtain⟨s,hs0⟩:∃s,x::l=s:=⟨_,rfl⟩;have g0:∀h:0<(bs (x::l)).size,(bs (x::l))[0]'h=x:=λh=>rfl
 have hne:¬s=[]:=wg;have hhd:s.head? = some x:=by rw[<-hs0];rfl
 have hpos:0<s.length:=wg;rw[hs0]at g0 hs hns⊢;simp[hne];refine⟨hpos,?_⟩;by_cases c35:x=35
 ·subst c35
  simp[g0,nk ok (.inr hhd)]
 have c35':¬(x.toNat:Int)=35:=λh=>c35 (YE JE)
 have hdo:sw d s=oW d s:=tW ok (by rw[hhd];simp[hne,c35]);rw[hdo]
 clear hdo
 simp[g0,c35'];refine sG eok (vu s aa) ab ?_;have htc:=@yh s;have hdc:=@vS d s;have hde:=@An d s;have hdr:=@Cq d s;generalize da s=TC at htc hdc hde hdr hns⊢;obtain⟨c,okc⟩:=TC;simp only at htc hdc hde hdr hns;simp[Call.res];intro b7
 cases okc with
 | true =>
   obtain⟨-,-,-,hcn⟩:=htc rfl;rw[hdc rfl];have hdo:=Xx d.h aa c hcn (λq=>hns ⟨ok,hne,by rw[hhd];simpa using c35,rfl,q⟩);have han:=(VP d.h c).2;generalize fDo d.h c=R at hdo han⊢;obtain⟨h',a⟩:=R;simp only at hdo han⊢;simp;refine ae.pure hdo (by simp[Hub.row,Call.row]) ?_;simp[Hub.res,Answer.res];intro G1 G2 G3 G4 b9 b10;refine drw eok mix [0,1] [2,3,4] (.c 2 2 1 2 (.c 2 3 2 0 (.c 2 4 0 0 (.l 2 0) .s) .s) .s) ?_;simp
   try intros
   refine sG eok (sj a aa) (by simp[Answer.row]) ?_;simp
   try intros
 | false =>
   simp;refine sG eok (CV s aa) ab ?_;have hte:=@BM s;generalize dL s=TE at hte hde hdr⊢;obtain⟨e,oke⟩:=TE;simp only at hte hde hdr;simp[Event.res];intro b11
   cases oke with
   | true =>
     obtain⟨-,-,-,hen⟩:=hte rfl;rw[hde ab rfl];have hnd:=oO d.n aa e hen;generalize dR d.n e=R at hnd⊢;obtain⟨n',code⟩:=R;simp only at hnd⊢;simp;refine ae.pure hnd (by simp[Net.row,Event.row]) ?_;simp[Net.res];intro G1 G2 G3 G4 b13;refine drw eok mix [0,1] [2,3,4] (.c 2 2 1 2 (.c 2 3 2 0 (.c 2 4 0 0 (.l 2 0) .s) .s) .s) ?_;simp
     try intros
     refine ae.ro (zU code) ab ?_;simp
     try intros
   | false =>
     rw[hdr ab ab];simp;refine sG eok (w5 s aa) ab ?_;have hlen:=(dO 32 s).1;have hw:=(dO 32 s).2;have hne':=lz 32 s;have hset:s=kF->bf 32 s=[kF]:=by rintro rfl;decide
     generalize bf 32 s=W at hlen hw hne' hset⊢;have hWl:W.length<=2^31:=aa;have hWw:∀w∈W,w.length<=2^31:=λw h=>Da
     obtain⟨m,hm⟩:∃m,W.length=m+1:=⟨W.length-1,by have:=bJ.2 hne';omega⟩;have ew:Go.IntKind.i64.wrap ((m:Int))=(m:Int):=gb aa;simp[hm,ew];refine aB eok (df W m aa hWl hWw) ab ?_;simp only[IU,VL,aaI];by_cases l2:W.length=2
     ·obtain⟨x0,x1,rfl⟩:∃x0 x1,W=[x0,x1]:=by
       match W,l2 with
       | [a,b],_=>exact⟨a,b,rfl⟩
      have em:m=1:=by simp at hm;omega
      subst em;have hns:¬s=kF:=λh=>C8
      rw[aeU hns];have hns':¬s=[115,101,116,116,108,101]:=hns;have n2:aL [x0,x1] 2 = -1:=by unfold aL;rw[ak ab]
      have hask:=zZ d.h h1 [x0,x1] ab hWl hWw;rw[n2]at hask;by_cases t0:x0=uM\/x0=Jx
      ·rw[al t0]
       have t0':x0=[116,101,120,116]\/x0=[119,104,111]:=t0
       clear t0
       rcases t0' with rfl|rfl
       ·simp[wR]
        exact Km
       ·simp[wR]
        exact Km
      clear hask
      rw[ak t0];have t0a:¬x0=[116,101,120,116]:=λh=>t0 (.inl h)
      have t0b:¬x0=[119,104,111]:=λh=>t0 (.inr h)
      have hqb:=MY [x0,x1] 1;obtain⟨q,hq⟩:∃q,aL [x0,x1] 1=q:=⟨_,rfl⟩;rw[hq]at hqb⊢;by_cases q0:0<=q
      rotate_left
      ·rw[ak (λh=>q0 h.2),ak (λh=>q0 h.2)]
       by_cases t1:x0=[114,101,112]
       ·simp[t1,q0,hns',wR,fZ]
       ·by_cases t2:x0=[114,101,112,115]
        ·simp[t2,q0,hns',wR,fZ]
        ·simp[t0a,t0b,t1,t2,hns',wR,fZ]
      obtain⟨k,rfl⟩:∃k:Nat,q=k:=⟨q.toNat,aa⟩;by_cases t1:x0=Ow
      ·rw[al ⟨t1,q0⟩]
       have t1':x0=[114,101,112]:=t1;by_cases hk:k<d.n.reps.length
       rotate_left
       ·have hk':(d.n.reps.length:Int)<=k:=by omega
        rw[IB hk'];simp[t1',hk',wR,jr]
       ·have hk':¬(d.n.reps.length:Int)<=k:=by omega
        rw[IC hk];obtain⟨r,hr⟩:∃r,d.n.reps[k]=r:=⟨_,rfl⟩;rw[hr];have hrn:cE r<=2^26:=by rw[<-hr];exact cT (eA (B:=2^26) (by unfold fj at h2;omega) hk) ag
        have htl:(fN r).length<=2^27:=by
         exact Sm
        have hsz:=tc (fN r);have q3:3+(mY (fN r)).size<=140737488355328:=aa;simp[t1',hk',wR];refine drw eok mix [0,1,2,3,4,5,6] [7,8,9,10,11] (.c 7 7 1 126 (.c 7 8 0 126 (.c 7 9 0 126 (.c 7 10 64 62 (.c 7 11 62 0 (.l 7 0) .s) .s) (.c 7 10 64 62 (.c 7 9 0 62 (.c 7 11 62 0 (.l 7 0) .s) .s) .s)) .s) .s) ?_;simp[hk,hr]
        try intros
        repeat' first
         |(refine ae.ro (HA r aa) dB ?_;simp;try intros)
         |(refine ae.ro (FK (fN r) aa) ab ?_;simp;try intros)
         |(rw[Trc];refine⟨?_,?_⟩<;>(try simp[q3,hk,hr])<;>try intros)
        all_goals
         simp[okS]
      rw[ak (λh=>t1 h.1)];have t1':¬x0=[114,101,112]:=t1;by_cases t2:x0=Mp
      rotate_left
      ·rw[ak (λh=>t2 h.1)]
       have t2':¬x0=[114,101,112,115]:=t2;simp[t0a,t0b,t1',t2',hns',wR,fZ]
      rw[al ⟨t2,q0⟩];have t2':x0=[114,101,112,115]:=t2;simp[t2',hns',wR];have hnn:=Lg gV ag ag [] ab ab k qJ;generalize gX gV [] k=R at hnn⊢;obtain⟨n',okn⟩:=R;simp only at hnn⊢;refine ae.pure hnn (by simp[gV]) ?_;simp[Net.res];intro G1 G2 G3 G4 b19
      cases okn with
      |true=>simp[zz]
      |false=>simp[jr]
     by_cases l3:W.length=3
     ·obtain⟨x0,x1,x2,rfl⟩:∃x0 x1 x2,W=[x0,x1,x2]:=by
       match W,l3 with
       | [a,b,c],_=>exact⟨a,b,c,rfl⟩
      have em:m=2:=by simp at hm;omega
      subst em;have hns:¬s=kF:=λh=>C8
      rw[aeT hns];have hask:=zZ d.h h1 [x0,x1,x2] ab hWl hWw;have hns':¬s=[115,101,116,116,108,101]:=hns;obtain⟨q,hq⟩:∃q,aL [x0,x1,x2] 2=q:=⟨_,rfl⟩;rw[hq]at hask⊢;by_cases t0:x0=qC
      rotate_left
      ·exact Sk
      have t0':x0=[98,97,99,107]:=t0;by_cases q0:0<=q
      rotate_left
      ·rw[ak (λh=>q0 h.2)]
       simp[t0',q0,hns',wR,fZ]
      rw[al ⟨t0,q0⟩];subst t0';simp[q0,wR];exact Km
     rw[aeS l2 l3];have l2':¬(W.length:Int)=2:=aa;have l3':¬(W.length:Int)=3:=aa;by_cases hse:s=kF
     rotate_left
     ·exact So
     rw[al hse];have hse':s=[115,101,116,116,108,101]:=hse;have hst:=Lb d.n aa;generalize jE d.n=R at hst⊢;obtain⟨n',okr⟩:=R;simp only at hst⊢;simp[l2',l3',hse'];exact Ts
end Go.Proofs.YtdeimojjhhdeaaaGreatDoor
namespace Go.Proofs.YtdeimojjhhdeaaaGreatDoor
open Go.AM
set_option maxRecDepth 20000
set_option maxHeartbeats 12800000
attribute [local simp] kf ia cP gM gH fo
theorem ad2{l:List Entry}{k:Nat}(_hk:k<=l.length):cut (l.map Entry.row) 0 k=(l.take k).map Entry.row:=by
 rw[gu,fq,eO]
theorem abu{l:List Entry}{k:Nat}:cut (l.map Entry.row) k (l.length-k)=(l.drop k).map Entry.row:=by
 rw[gu,sH];exact zb
theorem ZV{subs:List Sub}{i:Nat}(hi:i<subs.length){r:Ring}{H:Hd}{n:Nat}{l:List Entry}:pE ((subs.map Sub.row).set i (uQ subs[i] ⟨r.cap,r.next,r.out,[]⟩ H n)) i 5 (.s (l.map Entry.row))=(subs.set i ⟨subs[i].id,subs[i].doc,⟨r.cap,r.next,r.out,l⟩⟩).map Sub.row:=by
 rw[gh,Oq];rfl
theorem FS(d:Desk)(hb:xX d)(s:List UInt8)(hs:s.length<=2^26)(ok:bI d.h/\gz d.n)(hne0:s≠[])(hhd0:s.head?≠some 35)(hct:(da s).2=true)(sh:AU d.h (da s).1) :
 dt Tryz.prog LT 7 [.agg d.row,.c (vs s)] (.tup [.agg (sw d s).1.res,.c (.v (.string (sw d s).2)) 1]):=by
 have h1:=hb.1;have h2:=hb.2;have hnd:gW d<=2^30:=by unfold gW;omega
 refine AA aq LT.stay Tryz.func7 ai rfl rfl rfl (aj rfl) 0 (λw0 base eok=>?_);simp[Desk.row];intro b2 b4;refine ae.pure (Gq d hb) lh ?_;simp[Desk.res];intro H1 H2 H3 H4 H5 H6 b6;refine ae.ro (zY d hnd) lh ?_;have okd:dc (bI d.h/\gz d.n)=true:=by rw[rK];exact ok
 simp[okd];rcases s with _|⟨x,l⟩
 ·exact absurd rfl hne0
 obtain⟨s,hs0⟩:∃s,x::l=s:=⟨_,rfl⟩;have g0:∀h:0<(bs (x::l)).size,(bs (x::l))[0]'h=x:=λh=>rfl
 have hne:¬s=[]:=wg;have hhd:s.head? = some x:=by rw[<-hs0];rfl
 have hpos:0<s.length:=wg;rw[hs0]at g0 hs hct sh hhd0⊢;simp[hne];refine⟨hpos,?_⟩;have c35:¬x=35:=λh=>hhd0 (by rw[hhd,h])
 have c35':¬(x.toNat:Int)=35:=λh=>c35 (YE JE)
 have hdo:sw d s=oW d s:=tW ok (by rw[hhd];simp[hne,c35]);rw[hdo,vS hct]
 clear hdo
 simp[g0,c35'];refine sG eok (vu s aa) ab ?_;have hcn:=(yh hct).2.2.2;generalize da s=TC at hct hcn sh⊢;obtain⟨c,okc⟩:=TC;simp only at hct hcn sh;subst hct;simp[Call.res];intro b7;obtain⟨n,i,k,hi,hn,c2,e,c3,hneL,hk0,hdo⟩:=Wz sh;have hh:=aaV d.h h1 c hcn sh.2.2.1 sh.1 sh.2.1 hn c2 hi e rfl c3 hneL hk0;have hkl:k<=d.h.subs[i].r.list.length:=aa;have han:=(VP d.h c).2;have hrw:=λ(H:Hd) (n:Nat) (l:List Entry)=>ZV (subs:=d.h.subs) hi (r:=⟨d.h.subs[i].r.cap,d.h.subs[i].r.next+k,false,[]⟩) (H:=H) (n:=n) (l:=l)
 rw[hdo]at han⊢;simp only at han⊢;obtain⟨lst,hlst⟩:∃lst,d.h.subs[i].r.list=lst:=⟨_,rfl⟩;obtain⟨S,hS⟩:∃S,d.h.subs[i]=S:=⟨_,rfl⟩;rw[hS]at hh hkl han hlst hrw⊢;rw[hlst]at hkl han⊢;refine we hh (by simp[Hub.row,Call.row]) ?_
 rintro _ _ ⟨b,o,C,Hh,Hd,Hs,hC,hH1,rfl,rfl⟩
 rw[hlst]at hC hH1⊢;simp;intro b9 b10
 have hrow:(⟨0,0,[],lst.take k⟩:Answer).row=[vi 0,vi 0,.s [],.s (cut (lst.map Entry.row) 0 k)]:=by
  rw[ad2 hkl];rfl
 refine drw eok mix [0,1] [2,3,4] (.c 2 2 1 2 (.c 2 3 2 0 (.c 2 4 0 0 (.l 2 0) .s) .s) .s) ?_;simp
 try intros
 refine Qq eok (sj ⟨0,0,[],lst.take k⟩ aa) (by rw[hrow];exact⟨⟨Pu ab,Pu ab,Pu ab,ahr (own:=true) (b:=b) (o:=o) (C:=C) (C':=k) ag ab (.inl ab) aa (by simpa using hkl),trivial⟩,trivial⟩) ?_;simp
 try intros
 refine Qo (k:=10754) (i:=i) (j:=5) (k':=80179) (sz:=6) (sz':=3) (b1:=b) (o1:=o) (C1:=C) (off:=k) (len:=lst.length-k) (H:=Hs) (H':=Hh) (rows:=(d.h.subs.map Sub.row).set i (uQ S ⟨S.r.cap,S.r.next+k,false,[]⟩ Hh (lst.length-k))) (srows:=lst.map Entry.row) (row:=uQ S ⟨S.r.cap,S.r.next+k,false,[]⟩ Hh (lst.length-k)) ab (by simp[hi]) (by simp[uQ]) ab hH1 aI ag ag (Ent.refl ?_);rw[abu,hrw];simp;intro row hr;rw[<-Oq]at hr;obtain⟨x,-,rfl⟩:=cM.1 hr;rfl
theorem FV(d:Desk)(hb:xX d)(s:List UInt8)(hs:s.length<=2^26):dt Tryz.prog LT 7 [.agg d.row,.c (vs s)] (.tup [.agg (sw d s).1.res,.c (.v (.string (sw d s).2)) 1]):=by
 by_cases sh:(bI d.h/\gz d.n)/\s≠[]/\s.head?≠some 35/\(da s).2=true/\AU d.h (da s).1
 ·exact FS d hb s hs sh.1 sh.2.1 sh.2.2.1 sh.2.2.2.1 sh.2.2.2.2
 ·exact FT d hb s hs sh
end Go.Proofs.YtdeimojjhhdeaaaGreatDoor
namespace Go.Proofs.YtdeimojjhhdeaaaGreatDoor
open Go.AM
set_option maxRecDepth 20000
set_option maxHeartbeats 12800000
attribute [local simp] kf ia cP gM gH fo
theorem MZ{W:List (List UInt8)}{k:Nat}(h:k<W.length):(bc W[k]).2=true/\aL W k=(bc W[k]).1/\0<=aL W k\/(bc W[k]).2=false/\aL W k = -1:=by
 have hg:W.getD k []=W[k]:=by simp[List.getD,h]
 by_cases c:(bc W[k]).2=true
 ·have e:aL W k=(bc W[k]).1:=by unfold aL;rw[hg,al ⟨h,c⟩]
  exact .inl ⟨c,e,by rw[e];exact(BJ c).1.1⟩
 ·exact .inr ⟨by simpa using c,by unfold aL;rw[hg,ak (λq=>c q.2)]⟩
theorem Xp(d:Desk)(hb:xX d):ar Tryz.prog 13 [.agg d.row] (.one (.agg d.res)):=by
 refine pci aq Tryz.func13 (λw0 base=>?_);have h1:=hb.1;have h2:=hb.2;simp[Desk.row];intro b1 b2;refine drw eok mix [0,1,3,4] [2,5,6,7] (.c 4 2 4 11 (.c 4 5 1 10 (.c 4 6 0 10 (.c 4 7 10 0 (.l 4 0) .s) .s) .s) .s) ?_;simp
 try intros
 refine ae.pure (ja d.h aa) bV ?_;simp[Hub.res]
 try intros
 refine ae.pure (A5 d.n aa) iN ?_;simp[Net.res]
 try intros
 simp[Desk.res]
theorem Ww(d:Doc)(hl:cO d<=2^28):ar Tryz.prog 91 [.agg d.row] (.one (.c (.v (.string (bs (rY (qz (er d)))))) 1)):=by
 refine Jt rfl ?_;refine jm.intro aq Tryz.func91 ai rfl rfl rfl (aj rfl) (λw0 base o=>?_);simp[Doc.row];intro b1;refine iF (AR d aa) aS ?_
 rintro _ rfl
 simp;have hwl:=vO d;refine ae.ro (OC (er d) aa) ab ?_;have hrl:=MJ (er d);generalize qz (er d)=L at hrl⊢;simp;refine aE eok (λi:Nat=>i<=L.length) (λi=>⟨29,0,[(10,.v (.int .i64 i)),(9,.v (.int .i64 L.length)),(8,.ro (L.map oJ)),(3,.v (.string (bs (rY (L.take i)))))],phs o⟩) (λi=>L.length-i) 0 ab (by simp[rY]) (λi hi=>Ent.refl ?_);by_cases c:i<L.length
 rotate_left
 ·have he:L.take i=L:=aD aa
  simp[c,he]
 have hs:=Mn c;have hwl:=Mo (L.take i);obtain⟨r,hr⟩:∃r,L[i]=r:=⟨_,rfl⟩;rw[hr]at hs;have htl:(L.take i).length<=i:=by rw[gk];omega
 have n1:=bZ r.1;have n2:=bZ r.2;have e1:Go.IntKind.i64.wrap ((i:Int)+1)=((i+1:Nat):Int):=aZ aa;have q1:(rY (L.take i)).length+1<=140737488355328:=aa;have q2:(rY (L.take i)).length+1+(aV r.1).length<=140737488355328:=aa;have q3:(rY (L.take i)).length+(1+(aV r.1).length)+1<=140737488355328:=aa;have q4:(rY (L.take i)).length+((aV r.1).length+1+1)+(aV r.2).length<=140737488355328:=aa;have q5:(rY (L.take i)).length<=140737488355327:=aa;have q6:(rY (L.take i)).length+((aV r.1).length+1)<=140737488355327:=aa;simp[c,hr,oJ]
 refine drw eok mix [0,1,2,3,4,8,9,10] [5,6,7,11,12,13] (.c 8 5 8 247 (.c 8 6 64 183 (.c 8 7 0 183 (.c 8 11 1 182 (.c 8 12 0 182 (.c 8 13 182 0 (.l 8 0) .s) .s) .s) (.c 8 11 1 182 (.c 8 7 0 182 (.c 8 12 0 182 (.c 8 13 182 0 (.l 8 0) .s) .s) .s) .s)) (.c 8 11 1 246 (.c 8 6 64 182 (.c 8 7 0 182 (.c 8 12 0 182 (.c 8 13 182 0 (.l 8 0) .s) .s) .s) .s) .s)) .s) ?_;simp[q1]
 try intros
 refine ae.pure (bQ r.1) ab ?_;simp
 try intros
 rw[Trc];refine⟨?_,?_⟩
 ·skip
  simp[q2]
  try intros
  rw[Trc];refine⟨?_,?_⟩
  ·skip
   simp[q6]
   try intros
   refine ae.pure (bQ r.2) ab ?_;simp[q4];exact J7
  ·skip
   simp
   try intros
   refine ae.pure (bQ r.2) ab ?_;simp[q4,q6];exact J7
 ·skip
  simp[q1]
  try intros
  refine ae.pure (bQ r.2) ab ?_;simp[q2,q4,q6];exact J7
theorem zr(dk:Desk)(hb:xX dk)(W:List (List UInt8))(h2:2<=W.length)(hW:W.getD 0 []=uM\/W.getD 0 []=Jx\/W.getD 0 []=qC/\3<=W.length)(hWw:∀w∈W,w.length<=2^31) :
 ar Tryz.prog 23 [.agg dk.row,.c (.s (W.map wR))] (.one (.c (.v (.string (if W.getD 0 []=qC/\¬0<=aL W 2 then fZ else j9 dk.h (W.getD 0 []) (W.getD 1 []) (aL W 2)))) 1)):=by
 refine Jt rfl ?_;refine jm.intro aq Tryz.func23 ai rfl rfl rfl (aj rfl) (λw0 base o=>?_);obtain⟨h,net⟩:=dk;have hl:=hb.1;simp only at hl⊢;have p0:0<W.length:=aa;have p1:1<W.length:=aa;have q1:(1:Int)<W.length:=aa;obtain⟨x0,hx0⟩:∃x,W[0]=x:=⟨_,rfl⟩;obtain⟨x1,hx1⟩:∃x,W[1]=x:=⟨_,rfl⟩;have g0:W.getD 0 []=x0:=by simp[List.getD,p0,hx0]
 have g1:W.getD 1 []=x1:=by simp[List.getD,p1,hx1]
 rw[g0]at hW;rw[g0,g1];obtain⟨R,hR⟩:∃R,(if x0=qC/\¬0<=aL W 2 then fZ else j9 h x0 x1 (aL W 2))=R:=⟨_,rfl⟩;rw[hR];simp[Desk.row];intro b2;refine cg.quiet eok mix ai ?_;simp[p1,q1,hx1,wR];refine⟨_,_,jU h aa (bs x1),bV,?_⟩;simp[p0,hx0];have hidx:=gE h.docs (bs x1);by_cases t2:x0=qC
 ·have l3:3<=W.length:=by
   rcases hW with e|e|e
   ·rw[t2]at e;exact absurd e ag
   ·rw[t2]at e;exact absurd e ag
   ·exact e.2
  have p2:2<W.length:=aa;have q2:(2:Int)<W.length:=aa;have hna:=MZ (W:=W) (k:=2) p2;obtain⟨x2,hx2⟩:∃x,W[2]=x:=⟨_,rfl⟩;have hx2l:=hWw W[2] (ao p2);rw[hx2]at hna hx2l;have t2':x0=[98,97,99,107]:=t2;simp[t2',p2,q2,hx2,wR];refine ae.ro (eX x2 aa) ab ?_;obtain⟨q,hq⟩:∃q,aL W 2=q:=⟨_,rfl⟩;rw[hq]at hna hR;rcases hna with⟨tn,e,n0⟩|⟨tn,e⟩;rotate_left
  ·rw[al ⟨t2,aa⟩]at hR
   subst hR;simp[tn,fZ]
  rw[ak (λc=>c.2 n0)]at hR;rw[<-e];simp[tn];rcases hidx with⟨k,hk,ei,hd⟩|ei;rotate_left
  ·subst hR
   simp[ei,j9,zA]
  obtain⟨d,hd0⟩:∃d,h.docs[k]=d:=⟨_,rfl⟩;have hdn:cO d<=2^28:=JF;have hget:h.docs.getD k Doc.zero=d:=by simp[List.getD,hk,hd0]
  have hsay:j9 h x0 x1 q=jF d x0 q:=by
   unfold j9;rw[ei,ak aa,bm,hget]
  rw[hsay]at hR;have hk0:¬(k:Int)<0:=aa;simp[ei,hk0,hk,hd0,Doc.row,p0,hx0,wR];intro b8;have t0:¬x0=uM:=by rw[t2];decide
  have t1:¬x0=Jx:=by rw[t2];decide
  have e0:jF d x0 q=if(fv d q).2=true then okS (bs (jH (cD (fv d q).1)))else E7:=by unfold jF;rw[ak t0,ak t1]
  rw[e0]at hR;have hrn:=Fa d q;have hrv:=EO d aa q;generalize fv d q=RR at hrn hrv hR⊢;obtain⟨r,ok⟩:=RR;simp only at hrn hrv hR⊢;simp[t2'];refine iF hrv aS ?_
  rintro _ rfl
  cases ok with
  | false =>
    subst hR;simp[E7]
  | true =>
    subst hR;have hle:=kt r;simp;refine ae.ro (qW r hrn) ab ?_;simp[okS];omega
 have t2':¬x0=[98,97,99,107]:=t2;have e0:¬(x0=qC/\¬0<=aL W 2):=λq=>t2 q.1
 rw[ak e0]at hR;simp[t2'];rcases hidx with⟨k,hk,e,hd⟩|e;rotate_left
 ·subst hR
  simp[e,j9,zA]
 obtain⟨d,hd0⟩:∃d,h.docs[k]=d:=⟨_,rfl⟩;have hdn:cO d<=2^28:=JF;have hget:h.docs.getD k Doc.zero=d:=by simp[List.getD,hk,hd0]
 have hsay:j9 h x0 (x1) (aL W 2)=jF d x0 (aL W 2):=by
  unfold j9;rw[e,ak aa,bm,hget]
 rw[hsay]at hR;have hk0:¬(k:Int)<0:=aa;simp[e,hk0,hk,hd0,Doc.row,p0,hx0,wR];intro b8;by_cases t0:x0=uM
 ·have e0:jF d x0 (aL W 2)=okS (mY (cS d)):=by unfold jF;rw[al t0]
  rw[e0]at hR;subst hR;have hlen:(cS d).length<=2^30:=nK d _;have hsz:=tc (cS d);rw[uM]at t0;simp[t0];refine ae.ro (kS d aa) aS ?_;simp;refine ae.ro (EK (cS d) aa) ab ?_;simp[okS];omega
 have t0':¬x0=[116,101,120,116]:=t0;have t1:x0=Jx:=hW.elim (λh=>absurd h t0) (λh=>h.elim id (λh=>absurd h.1 t2));have e0:jF d x0 (aL W 2)=bs (rY (qz (er d))):=by unfold jF;rw[ak t0,al t1]
 rw[e0]at hR;subst hR;have t1':x0=[119,104,111]:=t1;simp[t1'];refine ae.ro (Ww d hdn) aS ?_;simp
noncomputable def A2(d:Desk)(x0:List UInt8)(q:Int):Desk×ByteArray:=
 if ¬0<=q then(d,fZ)else if x0=Ow then(d,vc d.n q)
 else if(gX gV [] q).2=true then(⟨d.h,(gX gV [] q).1⟩,zz)else(d,jr)
end Go.Proofs.YtdeimojjhhdeaaaGreatDoor
namespace Go.Proofs.YtdeimojjhhdeaaaGreatDoor
open Go.AM
set_option maxRecDepth 20000
set_option maxHeartbeats 12800000
attribute [local simp] kf ia cP gM gH fo
theorem EY(d:Desk)(hb:xX d)(s:List UInt8)(hs:s.length<=2^26):ar Tryz.prog 5 [.agg d.row,.c (vs s)] (.tup [.agg (sw d s).1.res,.c (.v (.string (sw d s).2)) 1]):=by
 have h1:=hb.1;have h2:=hb.2;have hnd:gW d<=2^30:=by unfold gW;omega
 refine pci aq Tryz.func5 (λw0 base=>?_);simp[Desk.row];intro b2 b4;refine ae.pure (Xp d hb) lh ?_;simp[Desk.res];intro H1 H2 H3 H4 H5 H6 b6;refine ae.ro (KG d hnd) lh ?_;by_cases ok:bI d.h/\gz d.n
 rotate_left
 ·simp[aH ok,xV ok,KJ]
 have okd:dc (bI d.h/\gz d.n)=true:=by rw[rK];exact ok
 simp[okd];rcases s with _|⟨x,l⟩
 ·simp[nk ok (.inl rfl)]
 obtain⟨s,hs0⟩:∃s,x::l=s:=⟨_,rfl⟩;have g0:∀h:0<(bs (x::l)).size,(bs (x::l))[0]'h=x:=λh=>rfl
 have hne:¬s=[]:=wg;have hhd:s.head? = some x:=by rw[<-hs0];rfl
 have hpos:0<s.length:=wg;rw[hs0]at g0 hs⊢;simp[hne];refine⟨hpos,?_⟩;by_cases c35:x=35
 ·subst c35
  simp[g0,nk ok (.inr hhd)]
 have c35':¬(x.toNat:Int)=35:=λh=>c35 (YE JE)
 have hdo:sw d s=oW d s:=tW ok (by rw[hhd];simp[hne,c35]);rw[hdo]
 clear hdo
 simp[g0,c35'];refine ae.ro (EJ s aa) ab ?_;have htc:=@yh s;have hdc:=@vS d s;have hde:=@An d s;have hdr:=@Cq d s;generalize da s=TC at htc hdc hde hdr⊢;obtain⟨c,okc⟩:=TC;simp only at htc hdc hde hdr;simp[Call.res];intro b7
 cases okc with
 | true =>
   obtain⟨-,-,-,hcn⟩:=htc rfl;rw[hdc rfl];have hdo:=ZW d.h aa c hcn;have han:=(VP d.h c).2;generalize fDo d.h c=R at hdo han⊢;obtain⟨h',a⟩:=R;simp only at hdo han⊢;simp;refine ae.pure hdo (by simp[Hub.row,Call.row]) ?_;simp[Hub.res,Answer.res];intro G1 G2 G3 G4 b9 b10;refine drw eok mix [0,1] [2,3,4] (.c 2 2 1 2 (.c 2 3 2 0 (.c 2 4 0 0 (.l 2 0) .s) .s) .s) ?_;simp
   try intros
   refine ae.ro (AT a aa) (by simp[Answer.row]) ?_;simp
   try intros
 | false =>
   simp;refine ae.ro (CN s aa) ab ?_;have hte:=@BM s;generalize dL s=TE at hte hde hdr⊢;obtain⟨e,oke⟩:=TE;simp only at hte hde hdr;simp[Event.res];intro b11
   cases oke with
   | true =>
     obtain⟨-,-,-,hen⟩:=hte rfl;rw[hde ab rfl];have hnd:=oH d.n aa e hen;generalize dR d.n e=R at hnd⊢;obtain⟨n',code⟩:=R;simp only at hnd⊢;simp;refine ae.pure hnd (by simp[Net.row,Event.row]) ?_;simp[Net.res];intro G1 G2 G3 G4 b13;refine drw eok mix [0,1] [2,3,4] (.c 2 2 1 2 (.c 2 3 2 0 (.c 2 4 0 0 (.l 2 0) .s) .s) .s) ?_;simp
     try intros
     refine ae.ro (zo code) ab ?_;simp
     try intros
   | false =>
     rw[hdr ab ab];simp;refine ae.ro (wI s aa) ab ?_;have hlen:=(dO 32 s).1;have hw:=(dO 32 s).2;have hne':=lz 32 s;have hset:s=kF->bf 32 s=[kF]:=by rintro rfl;decide
     generalize bf 32 s=W at hlen hw hne' hset⊢;have hWl:W.length<=2^31:=aa;have hWw:∀w∈W,w.length<=2^31:=λw h=>Da
     by_cases l2:W.length=2
     ·obtain⟨x0,x1,rfl⟩:∃x0 x1,W=[x0,x1]:=by
       match W,l2 with
       | [a,b],_=>exact⟨a,b,rfl⟩
      have hns:¬s=kF:=λh=>C8
      rw[aeU hns];have hns':¬s=[115,101,116,116,108,101]:=hns;have n2:aL [x0,x1] 2 = -1:=by unfold aL;rw[ak ab]
      by_cases t0:x0=uM\/x0=Jx
      ·rw[al t0]
       have hask:=zr d hb [x0,x1] ab (t0.elim .inl (λh=>.inr (.inl h))) hWw
       have nb:¬(x0=qC/\¬0<=aL [x0,x1] 2):=by
        rintro⟨h,-⟩
        rcases t0 with e|e<;>rw[h]at e<;>exact absurd e ag
       rw[n2]at hask nb;rw[show([x0,x1]:List (List UInt8)).getD 0 []=x0 from rfl,show([x0,x1]:List (List UInt8)).getD 1 []=x1 from rfl,ak nb]at hask;have t0':x0=[116,101,120,116]\/x0=[119,104,111]:=t0
       clear t0 nb
       rcases t0' with rfl|rfl
       ·exact Kn
       ·exact Kn
      rw[ak t0];have t0a:¬x0=[116,101,120,116]:=λh=>t0 (.inl h)
      have t0b:¬x0=[119,104,111]:=λh=>t0 (.inr h)
      by_cases t1:x0=Ow\/x0=Mp
      rotate_left
      ·rw[ak (λh=>t1 (.inl h.1)),ak (λh=>t1 (.inr h.1))]
       have t1a:¬x0=[114,101,112]:=λh=>t1 (.inl h)
       have t1b:¬x0=[114,101,112,115]:=λh=>t1 (.inr h)
       simp[t0a,t0b,t1a,t1b,hns',wR,fZ]
      have hsay:(if x0=Ow/\0<=aL [x0,x1] 1 then(d,vc d.n (aL [x0,x1] 1))else if x0=Mp/\0<=aL [x0,x1] 1 then(if(gX gV [] (aL [x0,x1] 1)).2=true then(⟨d.h,(gX gV [] (aL [x0,x1] 1)).1⟩,zz)else(d,jr))else(d,fZ))=A2 d x0 (aL [x0,x1] 1):=by
       unfold A2;by_cases q0:0<=aL [x0,x1] 1
       ·rw[ak (λc:¬0<=aL [x0,x1] 1=>c q0)]
        rcases t1 with e|e
        ·rw[al ⟨e,q0⟩,al e]
        ·have ne:¬x0=Ow:=by rw[e];decide
         rw[ak (λc=>ne c.1),al ⟨e,q0⟩,ak ne]
       ·rw[ak (λc=>q0 c.2),ak (λc=>q0 c.2),al q0]
      rw[hsay]
      clear hsay
      have hx1:=hWw x1 ab;have hna:=MZ (W:=[x0,x1]) (k:=1) ab;have hqb:=MY [x0,x1] 1;obtain⟨q,hq⟩:∃q,aL [x0,x1] 1=q:=⟨_,rfl⟩;rw[hq]at hna hqb⊢;simp at hna;obtain⟨R,hR⟩:∃R,A2 d x0 q=R:=⟨_,rfl⟩;rw[hR];rcases t1 with t|t
      ·have t':x0=[114,101,112]:=t
       simp[t',hns',wR];refine inl aq Tryz.func24 20000 (λw1 F=>?_);simp;intro b32 b34;refine ae.ro (eX x1 aa) ab ?_;rcases hna with⟨tn,e,n0⟩|⟨tn,e⟩;rotate_left
       ·exact SC
       rw[<-e];unfold A2 at hR;rw[ak (λc=>c n0)]at hR;obtain⟨k,rfl⟩:∃k:Nat,q=k:=⟨q.toNat,aa⟩;simp[tn];rw[al t]at hR;by_cases hk:k<d.n.reps.length
       rotate_left
       ·have hk':(d.n.reps.length:Int)<=k:=by omega
        have hk2:d.n.reps.length<=k:=aa;rw[IB hk']at hR;subst hR;simp[hk2,jr]
       have hk2:¬d.n.reps.length<=k:=aa;rw[IC hk]at hR;obtain⟨r,hr⟩:∃r,d.n.reps[k]=r:=⟨_,rfl⟩;rw[hr]at hR;subst hR;have hrn:cE r<=2^26:=by rw[<-hr];exact cT (eA (B:=2^26) (by unfold fj at h2;omega) hk) ag
       have htl:(fN r).length<=2^27:=by
        exact Sm
       have hsz:=tc (fN r);have q3:3+(mY (fN r)).size<=140737488355328:=aa;simp[hk2];refine drw eok mix [0,1,2,3,4,5,6] [7,8,9,10,11] (.c 7 7 1 126 (.c 7 8 0 126 (.c 7 9 0 126 (.c 7 10 64 62 (.c 7 11 62 0 (.l 7 0) .s) .s) (.c 7 10 64 62 (.c 7 9 0 62 (.c 7 11 62 0 (.l 7 0) .s) .s) .s)) .s) .s) ?_;simp[hk,hr]
       try intros
       repeat' first
        |(refine ae.ro (G7 r aa) dB ?_;simp;try intros)
        |(refine ae.ro (EK (fN r) aa) ab ?_;simp;try intros)
        |(rw[Trc];refine⟨?_,?_⟩<;>(try simp[q3,hk])<;>try intros)
       all_goals
        simp[okS]
      have t':x0=[114,101,112,115]:=t;simp[t',hns',wR];refine inl aq Tryz.func24 20000 (λw1 F=>?_);simp;intro b32 b34;refine ae.ro (eX x1 aa) ab ?_;rcases hna with⟨tn,e,n0⟩|⟨tn,e⟩;rotate_left
      ·exact SC
      rw[<-e];unfold A2 at hR;rw[ak (λc=>c n0)]at hR;obtain⟨k,rfl⟩:∃k:Nat,q=k:=⟨q.toNat,aa⟩;simp[tn];rw[ak (by rw[t];decide)]at hR;have hnn:=KE gV ag ag [] ab ab k qJ;generalize gX gV [] k=RR at hnn hR⊢;obtain⟨n',okn⟩:=RR;simp only at hnn hR⊢;refine ae.pure hnn (by simp[gV]) ?_;simp[Net.res];intro G1 G2 G3 G4 b39
      cases okn with
      |true=>subst hR;simp[zz]
      |false=>subst hR;simp[jr]
     by_cases l3:W.length=3
     ·obtain⟨x0,x1,x2,rfl⟩:∃x0 x1 x2,W=[x0,x1,x2]:=by
       match W,l3 with
       | [a,b,c],_=>exact⟨a,b,c,rfl⟩
      have hns:¬s=kF:=λh=>C8
      rw[aeT hns];have hns':¬s=[115,101,116,116,108,101]:=hns;by_cases t0:x0=qC
      rotate_left
      ·exact Sk
      have hask:=zr d hb [x0,x1,x2] ab (.inr (.inr ⟨t0,ab⟩)) hWw
      have hsay:(if x0=qC/\0<=aL [x0,x1,x2] 2 then(d,j9 d.h x0 x1 (aL [x0,x1,x2] 2))else(d,fZ))=(d,if x0=qC/\¬0<=aL [x0,x1,x2] 2 then fZ else j9 d.h x0 x1 (aL [x0,x1,x2] 2)):=by
       by_cases q0:0<=aL [x0,x1,x2] 2
       ·rw[al ⟨t0,q0⟩,ak (λc=>c.2 q0)]
       ·rw[ak (λc=>q0 c.2),al ⟨t0,q0⟩]
      rw[hsay]
      clear hsay
      rw[show([x0,x1,x2]:List (List UInt8)).getD 0 []=x0 from rfl,show([x0,x1,x2]:List (List UInt8)).getD 1 []=x1 from rfl]at hask;generalize (if x0=qC/\¬0<=aL [x0,x1,x2] 2 then fZ else j9 d.h x0 x1 (aL [x0,x1,x2] 2))=R at hask⊢;have t0':x0=[98,97,99,107]:=t0
      clear t0
      subst t0';exact Kn
     rw[aeS l2 l3];have l2':¬(W.length:Int)=2:=aa;have l3':¬(W.length:Int)=3:=aa;by_cases hse:s=kF
     rotate_left
     ·exact So
     rw[al hse];have hse':s=[115,101,116,116,108,101]:=hse;have hst:=Ky d.n aa;generalize jE d.n=R at hst⊢;obtain⟨n',okr⟩:=R;simp only at hst⊢;simp[hse'];exact Ts
end Go.Proofs.YtdeimojjhhdeaaaGreatDoor
namespace Go.Proofs.YtdeimojjhhdeaaaGreatDoor
open Go.AM
set_option maxRecDepth 20000
set_option maxHeartbeats 3200000
noncomputable def nX(d:Desk)(s:ByteArray):Desk×ByteArray:=sw d s.data.toList
theorem Gk{d:Desk}(n:gW d<=2^20):xX d:=by unfold gW at n;exact⟨aa,aa⟩
theorem EX(d:Desk)(_:d.fits)(n:gW d<=2^20)(s:ByteArray)(_:s.size<=9223372036854775807)(m:s.size<=2^20):ar Tryz.prog 5 [.agg d.row,.c (.v (.string s))] (.tup [.agg (nX d s).1.res,.c (.v (.string (nX d s).2)) 1]):=by
 have h:=EY d (Gk n) s.data.toList (by rw[Is];omega);simp only[vs,oA]at h;exact h
theorem FU(d:Desk)(_:d.fits)(n:gW d<=2^20)(s:ByteArray)(_:s.size<=9223372036854775807)(m:s.size<=2^20):dt Tryz.prog LT 7 [.agg d.row,.c (.v (.string s))] (.tup [.agg (nX d s).1.res,.c (.v (.string (nX d s).2)) 1]):=by
 have h:=FV d (Gk n) s.data.toList (by rw[Is];omega);simp only[vs,oA]at h;exact h
theorem NJ(d:Desk)(_:d.fits)(n:gW d<=2^20)(s:ByteArray)(_:s.size<=9223372036854775807)(_:s.size<=2^20):gW (nX d s).1<=2^36:=by
 obtain⟨h1,h2⟩:=NK s.data.toList (Gk n);unfold nX gW;omega
open Go.AM Go.ChangeShapes Go.WideShapes Go.ChangeAt Go.RowKit
theorem Z6{H:Type}{enc:TypeId×Value->H}{a:Assume}{C:Checked}{os:Os}{f:FuncId}{fn:Func}{s:ChangeSpec}{conds:List PathCond}{apart fresh handsOn again:Bool}{X:World->Array Value->Prop}
 (hX:∀(w w':World) (args:Array Value),w.heap=w'.heap->X w args->X w' args)
 (own:ownKnob C.prog.godebug=none) (started:os.Started) (noInit:C.prog.inits.idxOf? f=none) (hfn:C.prog.funcs[f]? = some fn)
 (witness:∃(w:World) (tape:Tape) (i:Input),w.os=os/\(w.forCall tape i).Shaped C.prog/\i.vars=[]/\Input.okWide C.prog (w.forCall tape i) .any w.heap.size f i /\
  ((s.pre enc C.prog fn conds apart (w.forCall tape i).memory i.args/\X (w.forCall tape i).memory i.args)/\sizedMet enc C.prog fn (OpenSpec.ofChange s) apart (w.forCall tape i).memory i.args)/\a.holds C.prog (lone (Frame.enter C.prog f i.args .normal) [] (w.forCall tape i)))
 (contract:∀(W:World) (base:Nat) (args:Array Value) (ds gs:List (DataW H)) (before:List MemPlace),
  (∀(j:Nat) t v,fn.params[j]? = some t->args[j]? = some v->Value.okWide C.prog W .any base t v) ->
  DataW.Whole enc C.prog fn.params.toList s.vars apart W args.toList ds gs before->X W args->W.ShapedOpen C.prog ->
  Calls C.prog f args W λe W'=>∃v,e=.returned v/\s.post enc C.prog fn apart fresh handsOn again W args v W') :
 ReturnsInHanded a C os f .any (λw args=>(s.pre enc C.prog fn conds apart w args/\X w args)/\sizedMet enc C.prog fn (OpenSpec.ofChange s) apart w args) (s.post enc C.prog fn apart fresh handsOn again):=by
 refine returnsInHanded_of_calls own started noInit witness ?_;intro w tape i _ hsh _ hok hpre hholds;obtain⟨_,_,_,fn',hfn',_,_,_,_,hval⟩:=hok;have e:fn'=fn:=ie (hfn'.symm.trans hfn);subst e;obtain⟨⟨⟨ds,gs,before,hw,hc⟩,hx⟩,hz⟩:=hpre;have hw':=DataW.Whole.of_heap (w':=w.forCall tape i) (by rfl) hw;refine(contract (w.forCall tape i) w.heap.size i.args ds gs before hval hw' (hX _ _ _ (by rfl) hx) hsh).mono λe W' ⟨v,he,hp⟩=>?_
 subst he;exact ChangeSpec.post_blind hp
theorem ac3 : Tryz.prog.globalNamed "internal/strconv.uint64pow10" = some 5 := ai
theorem ac2:(Tryz.prog.globals[5]?).map (·.type)=some 362:=ai
theorem aj8 {a b : String × DataW Unit} {r : List (String × DataW Unit)} {W : World} (h : laidMet Tryz.prog (a :: b :: ("internal/strconv.uint64pow10", Lib.tabData .u64 Lib.pow10Tab) :: r) W) (hsh : W.ShapedOpen Tryz.prog) (he : Yz W) : LT W :=
 ⟨Lib.tabIs_of_head (t:=362) (e:=341) (n:=20) ac3 ac2 ai ai ai ai h.tail.tail,cell_of_shapedOpen_int (zero:=#[.int .i64 0]) (t:=3) hsh (of_decide_eq_true ai) ai rfl ai ai Tryz.underlying3,he⟩
theorem adv{l:List (String×DataW Unit)}{os:Os}(args:Array Value)(hp:(l.all λx=>x.2.handleName?.isNone)=true)
 (hf:(World.holding Tryz.prog os ⟨#[],#[],[]⟩).layFits Tryz.prog l []=true) (hi:(World.holding Tryz.prog os ⟨#[],#[],[]⟩).layIfaces Tryz.prog l (World.laidAll Tryz.prog os l)=true) :
 laidMetH Tryz.prog l ((World.laidAll Tryz.prog os l).forCall (λ_ _=>0) ⟨#[],args,[]⟩).memory:=by
 rw[aiP _ _ _ hp];exact laidMet_laidAll args hf hi
theorem abk : Tryz.prog.globalNamed "strconv.ErrSyntax" = some 1 := ai
theorem abl : Tryz.prog.globalNamed "strconv.ErrRange" = some 2 := ai
theorem NP : ("*" ++ "errors.errorString" : String) = "*errors.errorString" := ag
theorem VQ : ∀ u, Tryz.prog.typeName? 3 u = some "*errors.errorString" → u = 368 := fun u h => typeName_ptr_named (nm := "errors.errorString") (by rw [NP]; kernel_rfl) ai ag u (by rw [NP]; exact h)
theorem adw{l1 l2:List UInt8}{r:List (String×DataW Unit)}{W:World}
 (h : laidMet Tryz.prog (("strconv.ErrRange", .iface "*errors.errorString" (.ptr (.agg [.lit (.string l1)]))) :: ("strconv.ErrSyntax", .iface "*errors.errorString" (.ptr (.agg [.lit (.string l2)]))) :: r) W) : Yz W := by
 obtain⟨a,s,hv,-,-,-⟩:=laid_sentinel h abl ai Tryz.underlying236 VQ Tryz.underlying368 Tryz.underlying370 rfl rfl Tryz.underlying9 ai ai;obtain⟨a',s',hv',-,-,-⟩:=laid_sentinel h.tail abk ai Tryz.underlying236 VQ Tryz.underlying368 Tryz.underlying370 rfl rfl Tryz.underlying9 ai ai;exact⟨⟨_,World.var?_cell abk hv' 0,.inr ⟨_,_,rfl⟩⟩,⟨_,World.var?_cell abl hv 0,.inr ⟨_,_,rfl⟩⟩⟩
theorem adM{P:Program}(h:(P.funcs.toList.any Func.goes)=false)(f:FuncId):P.goes f=false:=by
 have h1:P.funcs.any Func.goes=false:=by rw[<-Array.any_toList];exact h
 have h2:((P.closure f).any λg=>(P.funcs[g]?).any Func.goes)=false:=by
  rw[Bool.eq_false_iff];intro hc;obtain⟨g,-,hg⟩:=Wk.1 hc
  cases he:P.funcs[g]? with
  |none=>rw[he]at hg;cases hg
  | some fn =>
    rw[he]at hg;have:P.funcs.toList.any Func.goes=true:=Wk.2 ⟨fn,by rw[Array.mem_toList_iff];exact Array.mem_of_getElem? he,hg⟩;rw[h]at this
    cases this
 unfold Program.goes;rw[h1,h2];simp
theorem XD{P:Program}(h:(P.funcs.toList.any Func.goes)=false){c:OpenClaim}(hs:c.start=.entering):false=c.goesBy P:=by
 unfold OpenClaim.goesBy Program.goesAt Program.goesFrom;rw[hs]
 cases P.funcNamed c.func with
 |none=>rfl
 | some f =>
   show false=(P.goes f || false)
   rw[adM h f];rfl
end Go.Proofs.YtdeimojjhhdeaaaGreatDoor
