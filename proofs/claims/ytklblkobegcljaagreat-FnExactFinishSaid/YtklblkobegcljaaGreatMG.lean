import Derived.Test.YtklblkobegcljaaGreatMF
import Derived.Test.YtklblkobegcljaaGreatME
namespace Go.AM
open Go.RowKit
def wb(E:Env)(all:List Oper)(o:Oper)(st:ASt)(K:ASt->Prop):Prop:=
 match o.guard with
 |none=>aOp E o st K
 | some (j, want) => match lE all j with
   | some d => match bM st.t d with
     | .v (.bool b)=>(b=want->aOp E o st K)/\(b = !want->bQ st o.dst .un K)
     | .un=>bQ st o.dst .un K
     |_=>False
   |none=>False
theorem Rs{E:Env}{all:List Oper}{o:Oper}{st:ASt}{K:ASt->Prop}(h:o.guard=none):wb E all o st K=aOp E o st K:=by unfold wb;rw[h]
theorem Rt{E:Env}(hE:EOk E){ops:List Oper}{st:ASt}{a:Act}{w:World}(hR:Rep E.w0 E.base st a w){o:Oper}{K:ASt->Prop}(h:wb E ops o st K){next:Act->World->Prop}{Q:Exit->Act->World->Prop}
 (hn:∀r w',qU E.w0 E.base st a w o.dst r w' K->next (a.put o.dst r) w') :
 if Region.wanted o (yielded ops.toArray a.tmps)then o.wp E.P a w next Q\/(o.asks E.P a w/\LetsOut Q)else next (a.put o.dst undef) w:=by
 have skip:bQ st o.dst .un K->next (a.put o.dst undef) w:=by
  intro hp;obtain⟨h3,h4⟩:=hR.put .un hp;exact hn _ _ ⟨_,_,h3,h4,λ_=>Tr.refl _ _,.un⟩
 unfold wb at h
 split at h
 ·rename_i hg
  rw[an yY];exact .inl (tB hE hR h hn)
 ·rename_i j want hg
  split at h
  ·rename_i d hd
   have hd':(ops.toArray[j]?).bind (·.dst)=some d:=by simpa[lE]using hd
   split at h
   ·rename_i b hb
    have hv:=hR.tmp d;rw[hb]at hv;generalize hu:a.tmps.getD d undef=u at hv
    cases hv
    have hy:yielded ops.toArray a.tmps j=some b:=Lb;by_cases hbw:b=want
    ·rw[an sG]
     exact .inl (tB hE hR (h.1 hbw) hn)
    ·rw[aq sG]
     exact skip (h.2 yX)
   ·rename_i hb
    have hv:=hR.tmp d;rw[hb]at hv;generalize hu:a.tmps.getD d undef=u at hv
    cases hv
    have hy:yielded ops.toArray a.tmps j=none:=by
     exact EP
    rw[aq DU];exact skip h
   ·exact h.elim
  ·exact h.elim
def nH(ops:List Oper)(pre tail:List Nat):Bool:=
 (List.range ops.length).all (λi=>pre.contains i || tail.contains i) &&
 pre.all (λi=>decide (i<ops.length) && !tail.contains i)&&tail.all (λi=>decide (i<ops.length))&&oV pre&&oV tail &&
 (List.range ops.length).all (λi=>(bg ops i).after.all λe=>!Region.binds .any e || decide (e.on<i)) &&
 (List.range ops.length).all (λi=>(List.range ops.length).all λk=>i==k || (bg ops i).dst==none || (bg ops i).dst != (bg ops k).dst) &&
 pre.all (λi=>(bg ops i).dst.isSome&&(iC (bg ops i)++oZ ops (bg ops i)).all λs=>(List.range ops.length).all λk=>
  (bg ops k).dst != some s || (if pre.contains k then da (bg ops i) k else da (bg ops k) i)) &&
 tail.all (λt=>(iC (bg ops t)).all λs=>pre.all λk=>(bg ops k).dst != some s || da (bg ops t) k)
structure DrawOkg(ops:List Oper)(pre tail:List Nat):Prop where
 all:∀i,i<ops.length->i∈pre\/i∈tail
 hpre:∀i∈pre,i<ops.length/\i∉tail
 htail:∀i∈tail,i<ops.length
 ipre:oV pre=true
 itail:oV tail=true
 back:∀i,i<ops.length->∀e∈(bg ops i).after,Region.binds .any e=true->e.on<i
 dst:∀i,i<ops.length->∀k,k<ops.length->∀d,(bg ops i).dst=some d->(bg ops k).dst=some d->i=k
 has:∀i∈pre,∃d,(bg ops i).dst=some d
 use:∀i∈pre,∀s,s∈iC (bg ops i)\/s∈oZ ops (bg ops i)->∀k,k<ops.length->(bg ops k).dst=some s->(k∈pre/\da (bg ops i) k=true)\/(k∉pre/\da (bg ops k) i=true)
 tuse:∀t∈tail,∀s∈iC (bg ops t),∀k∈pre,(bg ops k).dst=some s->da (bg ops t) k=true
theorem A2{ops:List Oper}{pre tail:List Nat}(h:nH ops pre tail=true):DrawOkg ops pre tail:=by
 simp only[nH,aI,cB,fw,gF,cf,pb,tF,cz,aP,mJ,bne_iff_ne,mw]at h;obtain⟨⟨⟨⟨⟨⟨⟨⟨h1,h2⟩,h3⟩,h4⟩,h5⟩,h6⟩,h7⟩,h8⟩,h9⟩:=h;refine⟨h1,λi hi=>⟨(h2 i hi).1,λht=>by have:=(h2 i hi).2;simp[ht]at this⟩,h3,h4,h5,λi hi e he hb=>?_,λi hi k hk d hd hd'=>?_,λi hi=>(h8 i hi).1,λi hi s hs k hk hd=>?_,λt ht s hs k hk hd=>?_⟩
 ·rcases h6 i hi e he with h|h
  ·simp[hb]at h
  ·exact h
 ·exact MJ
 ·exact Nl
 ·rcases h9 t ht s hs k hk with h|h
  ·exact absurd hd h
  ·exact h
theorem Ii:∀(l:List Nat),oV l=true->∀a∈l.head?,∀b∈l.tail,a<b
 | [],_,a,ha,_,_=>by simp at ha
 | [_],_,a,_,b,hb=>by simp at hb
 | a :: b :: l, h, x, hx, y, hy => by
   simp only[oV,aI,cf]at h;simp at hx;subst hx;rcases aX.1 hy with rfl|hy
   ·exact h.1
   ·exact Nat.lt_trans h.1 (Ii (b::l) h.2 b ab y hy)
theorem J2{a:Nat}{l:List Nat}(h:oV (a::l)=true):oV l=true:=by
 exact Mj
theorem Ax{pv:PV}{s:Nat}{v:AV}:(s,v)∈pvT pv↔∃p∈pv,p.2.1.dst=some s/\p.2.2=v:=by
 exact NN
section
variable {ops:List Oper}{pre tail:List Nat}(D:DrawOkg ops pre tail) {pv:PV}(hpv:PvOk ops pre pv)
include D hpv
theorem Fx{p q:Nat×Oper×AV}(hp:p∈pv)(hq:q∈pv){d:Nat}(h1:p.2.1.dst=some d)(h2:q.2.1.dst=some d):p=q:=by
 exact Nv
theorem Iv{p:Nat×Oper×AV}(hp:p∈pv){d:Nat}(hd:p.2.1.dst=some d)(t:List (Nat×AV)):bM (pvT pv++t) d=p.2.2:=by
 refine iK (Ax.2 ⟨p,hp,hd,rfl⟩) (λq hq he=>?_);obtain⟨k,v⟩:=q;obtain⟨q',hq',hd',rfl⟩:=Ax.1 hq;simp only at he;subst he;rw[Fx D hpv hq' hp hd' hd]
end
theorem oY{pv:PV}{s:Nat}(h:∀p∈pv,p.2.1.dst≠some s)(t:List (Nat×AV)):bM (pvT pv++t) s=bM t s:=by
 refine kG (λq hq he=>?_);obtain⟨k,v⟩:=q;obtain⟨p,hp,hd,-⟩:=Ax.1 hq;simp only at he;subst he;exact h p hp hd
theorem Bk{E:Env}{ops:List Oper}{pre tail:List Nat}(D:DrawOkg ops pre tail){st:ASt}:∀(l done:List Nat) (pv:PV) {K:PV->Prop},pre=done++l->PvOk ops pre pv->(∀p∈pv,p.1∈done)->(∀i∈done,∃p∈pv,p.1=i) ->
 (∀p∈pv,fG E ops p.2.1 { st with t:=pvT pv++st.t } λv=>v=p.2.2)->uM E ops st pv (l.map λi=>(i,bg ops i)) K ->
 ∃pv',K pv'/\PvOk ops pre pv'/\(∀i∈pre,∃p∈pv',p.1=i)/\∀p∈pv',fG E ops p.2.1 { st with t:=pvT pv'++st.t } λv=>v=p.2.2
 | [],done,pv,K,he,hpv,hdone,hall,hval,h=>⟨pv,h,hpv,λi hi=>hall i (by simpa[he]using hi),hval⟩
 | i :: l, done, pv, K, he, hpv, hdone, hall, hval, h => by
   simp only[bL,uM]at h;obtain⟨v,h1,h2⟩:=Dl E ops _ _ _ h;have hip:i∈pre:=by rw[he];simp
   have hlt:∀j∈done,j<i:=by
    have hinc:=D.ipre;rw[he]at hinc
    clear h h1 h2 hval hall hdone hpv he
    induction done with
    |nil=>simp
    | cons a done ih =>
      intro j hj;rcases aX.1 hj with rfl|hj
      ·exact Ii _ hinc j ab i ab
      ·exact ih (J2 hinc) j hj
   have hpv':PvOk ops pre ((i,bg ops i,v)::pv):=by
    exact Oa
   have key:∀p:Nat×Oper×AV,p.1∈pre->p.2.1=bg ops p.1->p.1<=i->fG E ops p.2.1 { st with t:=pvT pv++st.t } (λv=>v=p.2.2) ->
    fG E ops p.2.1 { st with t:=pvT ((i,bg ops i,v)::pv)++st.t } (λv=>v=p.2.2):=by
    intro p hp1 hp2 hple hp;refine r8 (st:={ st with t:=pvT pv++st.t }) (λs hs=>?_) rfl hp;obtain⟨d,hd⟩:=D.has i hip
    have hne:d≠s:=by
     exact N3
    show bM (pvT ((i,bg ops i,v)::pv)++st.t) s=bM (pvT pv++st.t) s
    have:pvT ((i,bg ops i,v)::pv)=(d,v)::pvT pv:=by simp[pvT,hd]
    rw[this];simp only[dn,bM];rw[aq (λh=>hne h.symm)]
   refine Bk D l (done++[i]) ((i,bg ops i,v)::pv) (by simp[he]) hpv' (λp hp=>?_) (λj hj=>?_) (λp hp=>?_) h1
   ·rcases aX.1 hp with rfl|hp
    ·simp
    ·simp[hdone p hp]
   ·exact NB
   ·exact Nw
theorem uP{w0:World}{base:Bs}{ops:List Oper}{pre tail:List Nat}(D:DrawOkg ops pre tail){pv:PV}(hpv:PvOk ops pre pv){st:ASt}{a:Act}{w:World}(hR:Rep w0 base st a w)
 (hv:∀p∈pv,∀d,p.2.1.dst=some d->VRel w st.h.M p.2.2 (a.tmps.getD d undef)):Rep w0 base { st with t:=pvT pv++st.t } a w:=by
 refine⟨hR.dfr,hR.size,λs=>?_,hR.heap,hR.below,hR.base_le⟩;by_cases h:∃p∈pv,p.2.1.dst=some s
 ·obtain⟨p,hp,hd⟩:=h
  show VRel w st.h.M (bM (pvT pv++st.t) s) _
  rw[Iv D hpv hp hd];exact hv p hp s hd
 ·show VRel w st.h.M (bM (pvT pv++st.t) s) _
  rw[oY (λp hp hd=>h ⟨p,hp,hd⟩)];exact hR.tmp s
def kf(E:Env)(all:List Oper)(pre tail:List Nat)(st:ASt)(pv:PV):Nat->List Nat->List Nat->ASt->(ASt->Prop)->Prop
 |0,G,_,st2,K=>K { st2 with t:=pvT (pv.filter λp=>!G.contains p.1)++st2.t }
 | n + 1, G, rem, st2, K => (rem = [] -> K { st2 with t := pvT (pv.filter λp => !G.contains p.1) ++ st2.t }) /\
   ∀ i ∈ qN all pre tail rem, wb E all (bg all i) { st2 with t := pvT (pv.filter λp => da (bg all i) p.1 && !G.contains p.1) ++ st2.t } λst3 =>
     (∀p∈pv.filter (λp => !da (bg all i) p.1 && !G.contains p.1),fG E all p.2.1 { st with t:=pvT pv++st.t,h:=st3.h } λv=>v=p.2.2) /\
     kf E all pre tail st pv n ((pv.filter λp=>da (bg all i) p.1 && !G.contains p.1).map (·.1)++G) (rem.filter (· != i)) st3 K
structure DInvLg(E:Env)(ops:List Oper)(pre tail:List Nat)(st:ASt)(pv:PV)(K:ASt->Prop)(L:Array Bool)(a:Act)(w:World)(G done rem:List Nat)(m:Nat)(st2:ASt):Prop where
 tm:∀t∈tail,t∈done\/t∈rem
 rs:∀t∈rem,t∈tail
 nl:rem.length<=m
 don:∀t∈done,on L t=true
 roff:∀t∈rem,on L t=false
 obl:kf E ops pre tail st pv m G rem st2 K
 rep:Rep E.w0 E.base st2 a w
 n:st2.n=st.n
 g:∀i∈G,on L i=true
 val:∀p∈pv,on L p.1=true->∀d,p.2.1.dst=some d->VRel w st2.h.M p.2.2 (a.tmps.getD d undef)
 pend:∀p∈pv,p.1∉G->fG E ops p.2.1 { st with t:=pvT pv++st.t,h:=st2.h } λv=>v=p.2.2
 mask:∀p∈pv,p.1∉G->∀d,p.2.1.dst=some d->bM st2.t d=.any
 frame:∀s,(∀k,k<ops.length->on L k=true->(bg ops k).dst≠some s)->VRel w st2.h.M (bM st.t s) (a.tmps.getD s undef)
 edges:∀t∈done,∀i,da (bg ops t) i=true->on L i=true
theorem Gm{E:Env}(hE:EOk E){ops:List Oper}{pre tail:List Nat}(D:DrawOkg ops pre tail){st:ASt}{pv:PV}(hpv:PvOk ops pre pv)(hall:∀i∈pre,∃p∈pv,p.1=i)(hdn:∀p∈pv,∀d,p.2.1.dst=some d->d<st.n)(hlo:tail=[]\/E.base.loose=false){K:ASt->Prop}{Qc:Exit->Act->World->Prop}
 (hK:∀st' a' w',K st'->Rep E.w0 E.base st' a' w'->Qc .normal a' w') (hQp:∀c a w,¬Qc (.panic c) a w) (hns:Region.noSelect ops.toArray=true) :
 ∀(fuel:Nat) (L:Array Bool) (a:Act) (w:World) (G done rem:List Nat) (m:Nat) (st2:ASt),L.size=ops.length->((List.range ops.length).filter λi => !on L i).length<=fuel->DInvLg E ops pre tail st pv K L a w G done rem m st2 ->
 wpAny E.P .any ops.toArray Qc fuel L a w:=by
 have opget:∀i,i<ops.length->ops.toArray[i]? = some (bg ops i):=λi hi=>by simp[bg,hi]
 have fin:∀(L:Array Bool) (a:Act) (w:World) (G done rem:List Nat) (m:Nat) (st2:ASt),L.size=ops.length->DInvLg E ops pre tail st pv K L a w G done rem m st2->Region.ready .any ops.toArray L=[]->Qc .normal a w:=by
  intro L a w G done rem m st2 hL I hr
  have hon:∀n i,i<n->i<ops.length->on L i=true:=by
   exact Og
  have hrem:rem=[]:=by
   cases hq:rem with
   |nil=>rfl
   | cons t r =>
     have ht:t∈rem:=by rw[hq];simp
     have h1:=I.roff t ht;have h2:=hon (t+1) t aa (D.htail t (I.rs t ht));rw[h1]at h2;simp at h2
  have hobl:K { st2 with t:=pvT (pv.filter λp=>!G.contains p.1)++st2.t }:=by
   have hobl:=I.obl
   cases m with
   |zero=>exact hobl
   |succ m=>exact hobl.1 hrem
  refine hK _ a w hobl (uP D (hpv.filter _) I.rep (λp hp d hd=>?_));exact M8
 intro fuel
 induction fuel with
 | zero =>
   intro L a w G done rem m st2 hL hf I
   have hr:Region.ready .any ops.toArray L=[]:=by
    exact N6
   exact⟨hr,fin L a w G done rem m st2 hL I hr⟩
 | succ fuel ih =>
   intro L a w G done rem m st2 hL hf I
   have stepT:∀(i:Nat),i<ops.length->on L i=false->(∀k,da (bg ops i) k=true->on L k=true)->i∈rem->i∉pre->i∈tail->∀m',m=m'+1->∀(r:Value) (w':World),
    qU E.w0 E.base { st2 with t:=pvT (pv.filter λp=>da (bg ops i) p.1 && !G.contains p.1)++st2.t } a w (bg ops i).dst r w' (λst3=>
     (∀p∈pv.filter (λp => !da (bg ops i) p.1 && !G.contains p.1),fG E ops p.2.1 { st with t:=pvT pv++st.t,h:=st3.h } λv=>v=p.2.2) /\
     kf E ops pre tail st pv m' ((pv.filter λp=>da (bg ops i) p.1 && !G.contains p.1).map (·.1)++G) (rem.filter (· != i)) st3 K) ->
    wpAny E.P .any ops.toArray Qc fuel (L.setIfInBounds i true) (a.put (bg ops i).dst r) w':=by
    intro i hilt hioff hidep hit hip hitail m' hm' r w' hs;subst hm';have hL':(L.setIfInBounds i true).size=ops.length:=by simp[hL]
    have hset:∀j,on (L.setIfInBounds i true) j=if j=i then true else on L j:=λj=>JI aa
    have hmono:∀j,on L j=true->on (L.setIfInBounds i true) j=true:=λj hj=>DR
    have hf':((List.range ops.length).filter λj=>!on (L.setIfInBounds i true) j).length<=fuel:=by
     exact EW
    obtain⟨av,h',⟨hpend,hobl'⟩,hrep,htr,hvr⟩:=hs;have htr:=htr (hlo.resolve_left (λh0=>by rw[h0]at hitail;simp at hitail));have hh:∀s2:ASt,(s2.aft (bg ops i).dst av h').h=h':=λs2=>yU
    have hnn:∀s2:ASt,(s2.aft (bg ops i).dst av h').n=s2.n:=λs2=>yU
    have haft:∀(s2:ASt) (s:Nat),(bg ops i).dst≠some s->bM (s2.aft (bg ops i).dst av h').t s=bM s2.t s:=by
     exact MY
    have hdp:∀q∈pv,∀d,q.2.1.dst=some d->(bg ops i).dst≠some d:=by
     exact M9
    refine ih _ _ _ _ (done++[i]) (rem.filter (· != i)) m' _ hL' hf' ⟨λt ht=>?_,λt ht=>I.rs t (cl.1 ht).1,?_,λt ht=>?_,λt ht=>?_,hobl',hrep,(hnn _).trans I.n,λj hj=>?_,λq hq hon d hd=>?_,λq hq hqG=>?_,λq hq hqG d hd=>?_,λs hs=>?_,λt ht j hj=>?_⟩
    ·rcases I.tm t ht with h|h
     ·exact .inl (List.mem_append_left _ h)
     ·by_cases he:t=i
      ·exact .inl (by rw[he];simp)
      ·exact .inr (cl.2 ⟨h,by simpa using he⟩)
    ·have h1:(rem.filter (· != i)).length<rem.length:=by
      rw[BC];exact⟨i,hit,ab⟩
     have:=I.nl;omega
    ·rw[hset]
     rcases aP.1 ht with ht|ht
     ·split
      ·rfl
      ·exact I.don t ht
     ·simp at ht;rw[an ht]
    ·rw[hset]
     have ht2:=cl.1 ht;rw[aq (by simpa using ht2.2)];exact I.roff t ht2.1
    ·rcases aP.1 hj with hj|hj
     ·obtain⟨q,hq,rfl⟩:=cE.1 hj
      have hq2:=(cl.1 hq).2;simp only[aI]at hq2;exact hmono _ (hidep _ hq2.1)
     ·exact hmono j (I.g j hj)
    ·rw[hh,p9 (hdp q hq d hd)]
     rw[hset]at hon
     split at hon
     ·rename_i he
      exact absurd (he ▸ (hpv.op q hq).1) hip
     ·exact(I.val q hq hon d hd).tr htr
    ·have:=hpend q (cl.2 ⟨hq,by
      simp only[aI,cz];refine⟨?_,?_⟩
      ·exact NX
      ·cases hg:G.contains q.1 with
       |false=>rfl
       |true=>exact absurd (aP.2 (.inr (by simpa using hg))) hqG⟩)
     exact this
    ·rw[haft _ _ (hdp q hq d hd)]
     show bM (pvT _++st2.t) d=_
     rw[oY (λq' hq' hd'=>?_)]
     ·exact I.mask q hq (λhg=>hqG (aP.2 (.inr hg))) d hd
     ·have:=Fx D hpv ((cl.1 hq').1) hq hd' hd
      subst this;exact hqG (aP.2 (.inl (cE.2 ⟨q',hq',rfl⟩)))
    ·rw[hh,p9 (hs i hilt (by rw[hset];simp))]
     exact(I.frame s (λk hk hkon=>hs k hk (hmono k hkon))).tr htr
    ·rcases aP.1 ht with ht|ht
     ·exact hmono j (I.edges t ht j hj)
     ·simp at ht;subst ht;exact hmono j (hidep j hj)
   by_cases hlt:∃i,rem.find? (Is ops pre tail rem)=some i
   ·obtain⟨i,hfi⟩:=hlt
    have hheads:qN ops pre tail rem=[i]:=by unfold qN;rw[hfi]
    have hit:i∈rem:=X9 hfi;have hhd:=List.find?_some hfi;simp only[Is,aI]at hhd;obtain⟨⟨⟨hrd,hli⟩,hfr⟩,hpr⟩:=hhd;have hitail:i∈tail:=I.rs i hit;have hilt:i<ops.length:=D.htail i hitail;have hioff:on L i=false:=I.roff i hit;have hip:i∉pre:=λh=>(D.hpre i h).2 hitail
    have hidep:∀k,da (bg ops i) k=true->on L k=true:=by
     intro k hk
     have hklt:k<ops.length:=by
      have hk':=hk;simp only[da,GX,aI,mJ]at hk';obtain⟨e,he,hb,rfl⟩:=hk';have:=D.back i hilt e he hb;omega
     rcases D.all k hklt with h|h
     ·have h1:=cB.1 hpr k h
      simp only[hk,Bool.not_true,Bool.false_or,List.any_eq_true,aI,cz]at h1;obtain⟨t,ht,htr,htd⟩:=h1;rcases I.tm t ht with h2|h2
      ·exact I.edges t h2 k htd
      ·have:rem.contains t=true:=by simpa using h2
       rw[this]at htr;cases htr
     ·rcases I.tm k h with h2|h2
      ·exact I.don k h2
      ·have h3:=cB.1 hrd k h2
       rw[hk]at h3;simp at h3
    have hready:i∈Region.ready .any ops.toArray L:=(pq hL).2 ⟨hilt,hioff,hidep⟩
    have hfree:Region.free .any ops.toArray L i=true:=by
     unfold Region.free;rw[opget i hilt];simp only[cB,fw];intro j hj;have hj:j<ops.length:=jC;rw[opget j hj];have h1:=cB.1 hfr j (fw.2 hj);simp only[gF]at h1⊢;rcases h1 with((h1|h1)|h1)|h1
     ·exact .inl (.inl h1)
     ·exact .inr (.inl h1)
     ·refine .inl (.inr ?_)
      have h2:=hidep j h1;unfold on at h2;have hjl:j<L.size:=aa;simp only[aW,Yb hjl,lH]at h2⊢;exact h2
     ·exact .inr (.inr h1)
    have hlen:=nT hit;obtain⟨m',rfl⟩:∃k,m=k+1:=⟨m-1,by have:=I.nl;omega⟩;have hobl:=I.obl.2 i (by rw[hheads];simp)
    have hR1:Rep E.w0 E.base { st2 with t:=pvT (pv.filter λp=>da (bg ops i) p.1 && !G.contains p.1)++st2.t } a w:=uP D (hpv.filter _) I.rep (λq hq d hd=>by
     have hq':=(cl.1 hq).1;have hq2:=(cl.1 hq).2;simp only[aI]at hq2;exact I.val q hq' (hidep _ hq2.1) d hd)
    have hgn:(bg ops i).guard=none:=by
     have h:=hli;unfold FJ at h;simp only[aI,Option.isNone_iff_eq_none]at h;exact h.1.1
    rw[Rs hgn]at hobl;obtain⟨v,hy,hs⟩:=HS hE hR1 hli hobl;exact wpAny_take (opget i hilt) hns hfree (by simpa using hready) (λc a w h=>absurd h (hQp c _ _)) (.inl ⟨by simp[Region.wanted,hgn],hy⟩) (stepT i hilt hioff hidep hit hip hitail m' rfl v w hs)
   have hnone:rem.find? (Is ops pre tail rem)=none:=by
    cases h:rem.find? (Is ops pre tail rem)with
    |none=>rfl
    |some i=>exact absurd ⟨i,h⟩ hlt
   have hheads:qN ops pre tail rem=rem.filter (Ae ops rem):=by unfold qN;rw[hnone]
   refine⟨fin L a w G done rem m st2 hL I,λi hi=>?_⟩;obtain⟨hilt,hioff,hidep⟩:=(pq hL).1 hi;have hL':(L.setIfInBounds i true).size=ops.length:=by simp[hL]
   have hset:∀j,on (L.setIfInBounds i true) j=if j=i then true else on L j:=λj=>JI aa
   have hmono:∀j,on L j=true->on (L.setIfInBounds i true) j=true:=λj hj=>DR
   have hf':((List.range ops.length).filter λj=>!on (L.setIfInBounds i true) j).length<=fuel:=by
    exact EW
   unfold wpOp;rw[opget i hilt];simp only;by_cases hip:i∈pre
   ·obtain⟨p,hp,hpi⟩:=hall i hip
    have hpo:p.2.1=bg ops i:=by rw[<-hpi];exact(hpv.op p hp).2
    have hiG:p.1∉G:=λhg=>La
    obtain⟨d,hd⟩:=D.has i hip;have hpd:p.2.1.dst=some d:=by rw[hpo];exact hd
    let full:=pvT pv++st.t
    let sl:=iC (bg ops i)++oZ ops (bg ops i)
    let sts:ASt:={ n:=st.n,kb:=st.kb,t:=sl.map λs=>(s,bM full s),h:=st2.h }
    have hRs:Rep E.w0 E.base sts a w:=by
     refine⟨I.rep.dfr,I.rep.size.trans I.n,λs=>?_,I.rep.heap,I.rep.below,I.rep.base_le⟩
     show VRel w st2.h.M (bM (sl.map λs=>(s,bM full s)) s) _
     rw[vO]
     split
     ·rename_i hs
      have hs':s∈iC (bg ops i)\/s∈oZ ops (bg ops i):=aP.1 hs;by_cases hq:∃q∈pv,q.2.1.dst=some s
      ·obtain⟨q,hq,hqd⟩:=hq
       rw[show full=pvT pv++st.t from rfl,Iv D hpv hq hqd];exact NC
      ·rw[show full=pvT pv++st.t from rfl,oY (λq hq' hqd=>hq ⟨q,hq',hqd⟩)]
       refine I.frame s (λk hk hkon hkd=>?_);rcases D.use i hip s hs' k hk hkd with⟨hkp,-⟩|⟨hkn,hkdep⟩
       ·exact Mv
       ·rcases D.all k hk with h|h
        ·exact hkn h
        ·rcases I.tm k h with h|h
         ·have:=I.edges k h i hkdep
          rw[hioff]at this;simp at this
         ·have:=I.roff k h
          rw[hkon]at this;simp at this
     ·exact .any _
    have hval:fG E ops (bg ops i) sts (λv=>v=p.2.2):=by
     exact NO
    refine Bj hE hRs hval (λr w' q=>?_);obtain⟨Es,hrel⟩:=q.rel;have hdlt:d<a.tmps.size:=by rw[I.rep.size,I.n];exact hdn p hp d hpd
    refine ih _ _ _ G done rem m st2 hL' hf' ⟨I.tm,I.rs,I.nl,λt ht=>hmono t (I.don t ht),λt ht=>?_,I.obl,?_,I.n,λj hj=>hmono j (I.g j hj),λq' hq' hon d' hd'=>?_,I.pend,I.mask,λs hs=>?_,λt ht j hj=>hmono j (I.edges t ht j hj)⟩
    ·rw[hset]
     split
     ·rename_i h;subst h
      exact absurd (I.rs _ ht) (D.hpre _ hip).2
     ·exact I.roff t ht
    ·exact MX
    ·rw[hset]at hon
     by_cases hqi:q'.1=i
     ·exact M1
     ·rw[aq hqi]at hon
      rw[p9]
      ·exact(I.val q' hq' hon d' hd').tr q.tr
      ·rw[hd]
       intro he
       cases he
       have:=Fx D hpv hq' hp hd' hpd;exact hqi (by rw[this,hpi])
    ·exact MH
   ·have hit:i∈rem:=by
     rcases D.all i hilt with h|h
     ·exact absurd h hip
     ·rcases I.tm i h with h|h
      ·have:=I.don i h;rw[hioff]at this;simp at this
      ·exact h
    have hitail:i∈tail:=I.rs i hit
    have hready:Ae ops rem i=true:=by
     unfold Ae;rw[cB];intro q hq
     cases hd:da (bg ops i) q with
     |false=>rfl
     | true =>
       have h1:=hidep q hd;have h2:=I.roff q hq;rw[h1]at h2;simp at h2
    have hlen:=nT hit;obtain⟨m,rfl⟩:∃k,m=k+1:=⟨m-1,by have:=I.nl;omega⟩;have hobl:=I.obl.2 i (by rw[hheads];exact cl.2 ⟨hit,hready⟩);refine Rt hE (uP D (hpv.filter _) I.rep (λq hq d hd=>?_)) hobl (λr w' hs=>?_)
    ·exact Nh
    ·exact stepT i hilt hioff hidep hit hip hitail m rfl r w' hs
theorem BA{E:Env}(hE:EOk E)(hm:E.P.follows .mixedOrders=true){id:Nat}{ops:List Oper}{Q:Exit->ASt->Prop}{st:ASt}(pre tail:List Nat)(hlo:tail=[]\/E.base.loose=false)(hok:nH ops pre tail=true)(hns:Region.noSelect ops.toArray=true)(K:PV->ASt->Prop)
 (X:PV->Prop) (hX:∀pv,X pv->kf E ops pre tail st pv tail.length [] tail { st with t:=gg pv++st.t } (K pv))
 (h:uM E ops st [] (pre.map λi=>(i,bg ops i)) λpv=>(∀p∈pv,∀d,p.2.1.dst=some d->d<st.n)/\X pv)
 (hfin:∀pv st' a w,K pv st'->Rep E.w0 E.base st' a w->∃st'',Q .normal st''/\Rep E.w0 E.base st'' a w):aY E id ops Q st:=by
 intro a w hR;have D:=A2 hok;obtain⟨pv,⟨hdn,hobl0⟩,hpv,hall,hval⟩:=Bk D pre [] [] ab ⟨ab,ab⟩ ab ab ab h;have hobl:=hX pv hobl0;refine gT (?_:(Code.region id ops.toArray true).wp E.P (λe a' w'=>e=.normal/\∃st',Q e st'/\Rep E.w0 E.base st' a' w') a w) (λe a' w' h=>h.2);refine wp_region_any hm ?_
 have hR':Rep E.w0 E.base { st with t:=gg pv++st.t } a { w with drawn:=w.drawn+1 }:=by
  exact Oz
 have hoff:∀i,on (Array.replicate ops.toArray.size false) i=false:=by
  exact Mp
 refine Gm hE D hpv hall hdn hlo (K:=K pv) (λst' a' w' h1 h2=>⟨rfl,hfin pv st' a' w' h1 h2⟩) (λc a w h=>by cases h.1) hns ops.toArray.size (Array.replicate ops.toArray.size false) a _ [] [] tail tail.length { st with t:=gg pv++st.t } ab ?_
  ⟨λt ht=>.inr ht,λ_ h=>h,aH _,ab,λt _=>hoff t,hobl,hR',rfl,ab,λp _ hon=>by rw[hoff]at hon;simp at hon,λp hp _=>hval p hp,λp hp _ d hd=>?_,λs _=>?_,ab⟩
 ·have:=zD (λi=>!on (Array.replicate ops.toArray.size false) i) (List.range ops.length)
  simpa using this
 ·show bM (gg pv++st.t) d=_
  refine iK ?_ (λq hq _=>?_)
  ·unfold gg;rw[gj];exact⟨p,hp,by rw[hd];rfl⟩
  ·unfold gg at hq
   rw[gj]at hq;obtain⟨x,-,hx⟩:=hq;rw[aU]at hx;obtain⟨d,-,rfl⟩:=hx;rfl
 ·exact(hR.tmp s).tr ⟨aH _,λ_ _ _=>rfl,λ_ _ h=>h⟩
def fp(E:Env)(all:List Oper)(n kb:Nat)(vt:List (Nat×AV))(pv:List (Oper×Nat×AV))(K:ASt->Prop):OT->ASt->Prop
 | .leaf R,st2=>svT (pick R (pv.map λp=>(p.2.1,p.2.2))++st2.t) λt'=>K { st2 with t:=t' }
 | .stop,_=>True
 | .child i D N sub next,st2=>(svT (pick D (pv.map λp=>(p.2.1,p.2.2))++st2.t) λt'=>
  wb E all (bg all i) { st2 with t:=t' } λst3=>wa (pick N pv) (λo v0=>fG E all o ⟨n,kb,vt,st3.h⟩ λv=>v=v0)/\fp E all n kb vt pv K sub st3)/\fp E all n kb vt pv K next st2
theorem Cg{E:Env}(hE:EOk E)(hm:E.P.follows .mixedOrders=true){id:Nat}{ops:List Oper}{Q:Exit->ASt->Prop}{st:ASt}(pre tail:List Nat)(hok:nH ops pre tail=true)(hns:Region.noSelect ops.toArray=true)
 (X:PV->Prop) (hX:∀pv,X pv->kf E.tight ops pre tail st pv tail.length [] tail { st with t:=gg pv++st.t } (Q .normal))
 (h:uM E.tight ops st [] (pre.map λi=>(i,bg ops i)) λpv=>(∀p∈pv,∀d,p.2.1.dst=some d->d<st.n)/\X pv):aY E id ops Q st:=by
 obtain⟨P,T,w0,⟨F,G,l,L⟩⟩:=E;have h1:=BA (E:=⟨P,T,w0,⟨F,G,false,L⟩⟩) hE hm (id:=id) (Q:=Q) pre tail (.inr rfl) hok hns (λ_=>Q .normal) X hX h (λ_ st' _ _ h1 h2=>⟨st',h1,h2⟩);intro a w hR;refine gT (h1 a w hR.loose) ?_
 rintro e a' w' ⟨st',hq,hR'⟩
 exact⟨st',hq,hR'.loose⟩
def kT(ops:List Oper)(pre tail:List Nat):OT->List Nat->List Nat->List Nat->Bool
 | .leaf R,rem,G,_=>rem == []&&R==pre.reverse.map λi=>!G.contains i
 | .stop,rem,_,tried=>rem != []&&(qN ops pre tail rem).all λi=>tried.contains i
 | .child i D N sub next,rem,G,tried=>(qN ops pre tail rem).contains i && !tried.contains i&&(D==pre.reverse.map λk=>da (bg ops i) k && !G.contains k)&&(N==pre.reverse.map λk=>!da (bg ops i) k && !G.contains k) &&
  kT ops pre tail sub (rem.filter (· != i)) (pick D pre.reverse++G) []&&kT ops pre tail next rem G (i::tried)
def Vj(E:Env)(all:List Oper)(pre tail:List Nat)(st:ASt)(pv:PV)(n:Nat)(G rem:List Nat)(st2:ASt)(K:ASt->Prop)(i:Nat):Prop:=
 wb E all (bg all i) { st2 with t:=pvT (pv.filter λp=>da (bg all i) p.1 && !G.contains p.1)++st2.t } λst3=>
  (∀p∈pv.filter (λp => !da (bg all i) p.1 && !G.contains p.1),fG E all p.2.1 { st with t:=pvT pv++st.t,h:=st3.h } λv=>v=p.2.2) /\
  kf E all pre tail st pv n ((pv.filter λp=>da (bg all i) p.1 && !G.contains p.1).map (·.1)++G) (rem.filter (· != i)) st3 K
theorem J9{all:List Oper}{pre tail rem:List Nat}{i:Nat}(h:i∈qN all pre tail rem):i∈rem:=by
 unfold qN at h
 split at h
 ·rename_i j hj
  simp at h;subst h;exact X9 hj
 ·exact(cl.1 h).1
@[simp] theorem aa2 {all:List Oper} {pre tail:List Nat}:qN all pre tail []=[]:=(rfl)
theorem uK{E:Env}{ops:List Oper}{n kb:Nat}{t:List (Nat×AV)}{h0:AH}{pre tail:List Nat}{pv:PV}(hix:ixs pv=pre.reverse)(hsome:∀p∈pv,p.2.1.dst.isSome=true){K:ASt->Prop} :
 ∀(T:OT) (rem G tried:List Nat) (st2:ASt) (m:Nat),rem.length<=m->kT ops pre tail T rem G tried=true ->
 fp E ops n kb (pvT pv++t) (nV pv) K T st2 =
  ((rem=[]->K { st2 with t:=pvT (pv.filter λp=>!G.contains p.1)++st2.t })/\∀i∈qN ops pre tail rem,i∉tried->Vj E ops pre tail ⟨n,kb,t,h0⟩ pv (m-1) G rem st2 K i)
 | .leaf R, rem, G, tried, st2, m, hm, hok => by
   simp only[kT,aI,mJ]at hok;obtain⟨rfl,hR⟩:=hok;simp only[fp,svT];rw[OL,Cy,hix,<-hR]
   have:pvT (pick R pv)=pick R ((nV pv).map λp=>(p.2.1,p.2.2)):=by
    exact Mz
   rw[this];simp
 | .stop, rem, G, tried, st2, m, hm, hok => by
   simp only[kT,aI,bne_iff_ne,cB,pb]at hok;obtain⟨h1,h2⟩:=hok;simp only[fp]
   apply propext
   constructor
   ·intro _
    exact⟨λh=>absurd h h1,λi hi ht=>absurd (h2 i hi) ht⟩
   ·intro _;trivial
 | .child i D N sub next, rem, G, tried, st2, m, hm, hok => by
   simp only[kT,aI,mJ,cz,pb]at hok;obtain⟨⟨⟨⟨⟨hih,ht⟩,hD0⟩,hN0⟩,hs⟩,hnx⟩:=hok;have hi:=J9 hih;have ht:i∉tried:=by simpa using ht
   have hD:pv.filter (λp=>da (bg ops i) p.1 && !G.contains p.1)=pick D pv:=by rw[ON,CA,hix,<-hD0]
   have hN:pv.filter (λp=>!da (bg ops i) p.1 && !G.contains p.1)=pick N pv:=by rw[OM,Cz,hix,<-hN0]
   have e1:pvT (pick D pv)=pick D ((nV pv).map λp=>(p.2.1,p.2.2)):=by
    exact Mz
   have e2:(pick D pv).map (·.1)=pick D pre.reverse:=by rw[<-hix];unfold ixs;rw[pr]
   have hlen:=wY hi hm
   have hbr:Vj E ops pre tail ⟨n,kb,t,h0⟩ pv (m-1) G rem st2 K i=(svT (pick D ((nV pv).map λp=>(p.2.1,p.2.2))++st2.t) λt'=>
    wb E ops (bg ops i) { st2 with t:=t' } λst3=>wa (pick N (nV pv)) (λo v0=>fG E ops o ⟨n,kb,pvT pv++t,st3.h⟩ λv=>v=v0)/\fp E ops n kb (pvT pv++t) (nV pv) K sub st3):=by
    unfold Vj;rw[hD,hN,e1,e2];simp only[svT];refine nP _ ?_
    funext st3
    have hsub:=uK (E:=E) (t:=t) (h0:=h0) (kb:=kb) (n:=n) hix hsome (K:=K) sub (rem.filter (· != i)) (pick D pre.reverse++G) [] st3 (m-1) hlen hs
    have hN2:kf E ops pre tail ⟨n,kb,t,h0⟩ pv (m-1) (pick D pre.reverse++G) (rem.filter (· != i)) st3 K=fp E ops n kb (pvT pv++t) (nV pv) K sub st3:=by
     rw[hsub]
     cases hm1:m-1 with
     | zero =>
       have h0':rem.filter (· != i)=[]:=aA aa;simp only[kf,h0'];simp
     | succ k =>
       simp only[kf]
       apply propext
       constructor
       ·rintro⟨h1,h2⟩
        exact⟨h1,λj hj _=>h2 j hj⟩
       ·rintro⟨h1,h2⟩
        exact⟨h1,λj hj=>h2 j hj ab⟩
    rw[hN2];refine nP (·/\_) ?_;have e3:pick N (nV pv)=nV (pick N pv):=by unfold nV;rw[pr]
    rw[e3,Pu]
    apply propext
    constructor
    ·intro hh p hp
     unfold nV at hp;rw[cE]at hp;obtain⟨q,hq,rfl⟩:=hp;exact hh q hq
    ·intro hh q hq
     exact hh _ (by unfold nV;exact ra hq)
   have hnext:=uK (E:=E) (t:=t) (h0:=h0) (kb:=kb) (n:=n) hix hsome (K:=K) next rem G (i::tried) st2 m hm hnx;simp only[fp];rw[hnext,<-hbr]
   apply propext
   constructor
   ·rintro⟨h1,h2,h3⟩
    refine⟨h2,λj hj hjt=>?_⟩;by_cases hji:j=i
    ·subst hji;exact h1
    ·exact h3 j hj (by simp[hji,hjt])
   ·rintro⟨h2,h3⟩
    exact⟨h3 i hih ht,h2,λj hj hjt=>h3 j hj (λh=>hjt (aC _ h))⟩
theorem Ce{E:Env}(hE:EOk E)(hm:E.P.follows .mixedOrders=true){id:Nat}{ops:List Oper}{Q:Exit->ASt->Prop}{n kb:Nat}{t:List (Nat×AV)}{h:AH}(pre tail:List Nat)(T:OT)
 (hok:(nH ops pre tail&&kT ops pre tail T tail [] []&&Kp n ops pre&&Region.noSelect ops.toArray)=true)
 (hx:oK E.tight ops n kb h (pre.map (bg ops)) t [] λvt lp=>svT ((lp.map λp=>(p.2.1,AV.any))++t) λtm=>fp E.tight ops n kb vt lp (Q .normal) T ⟨n,kb,tm,h⟩):aY E id ops Q ⟨n,kb,t,h⟩:=by
 simp only[aI]at hok;obtain⟨⟨⟨h1,h2⟩,h3⟩,hns⟩:=hok
 have hd:∀i∈pre,∃d,(bg ops i).dst=some d/\d<n:=by
  intro i hi;have:=cB.1 h3 i hi;exact LX
 refine Cg hE hm pre tail h1 hns (λpv=>kf E.tight ops pre tail ⟨n,kb,t,h⟩ pv tail.length [] tail ⟨n,kb,gg pv++t,h⟩ (Q .normal)) (λpv hpv=>hpv) ?_;rw[IZ (K':=λvt lp=>svT ((lp.map λp=>(p.2.1,AV.any))++t) λtm=>fp E.tight ops n kb vt lp (Q .normal) T ⟨n,kb,tm,h⟩) pre [] ab (λi hi=>by obtain⟨d,hd,_⟩:=hd i hi;rw[hd];rfl) (λpv' e1 e2=>?_)]
 ·exact hx
 ·have hix:ixs pv'=pre.reverse:=by rw[e1];simp[ixs]
  have hmem:∀p∈pv',p.1∈pre:=λp hp=>by
   have:p.1∈ixs pv':=ra hp;rw[hix]at this;simpa using this
  have hsome:∀p∈pv',p.2.1.dst.isSome=true:=λp hp=>by
   obtain⟨d,hd,_⟩:=hd p.1 (hmem p hp);rw[e2 p hp,hd];rfl
  have hc:(∀p∈pv',∀d,p.2.1.dst=some d->d<n)=True:=by
   simp only[yi,iff_true];intro p hp d hpd;obtain⟨d',hd',hlt⟩:=hd p.1 (hmem p hp);rw[e2 p hp,hd']at hpd
   cases hpd
   exact hlt
  have hmask:gg pv'=(nV pv').map λp=>(p.2.1,AV.any):=by
   have:∀l:PV,(∀p∈l,p.2.1.dst.isSome=true)->gg l=(nV l).map λp=>(p.2.1,AV.any):=by
    intro l
    induction l with
    |nil=>intro _;rfl
    | cons p l ih =>
      intro hl;have g1:=hl p (aJ ..);have g2:=ih (λq hq=>hl q (aC _ hq));obtain⟨i,o,v⟩:=p
      cases hdo:o.dst with
      |none=>simp[hdo]at g1
      | some d =>
        unfold gg at g2⊢;simp only[List.filterMap_cons,hdo,fQ,g2,nV,bL,lH]
   exact this pv' hsome
  simp only[hc,true_and,svT];have key:=uK (E:=E.tight) (t:=t) (h0:=h) (kb:=kb) (n:=n) hix hsome (K:=Q .normal) T tail [] [] ⟨n,kb,gg pv'++t,h⟩ tail.length (aH _) h2;rw[<-hmask,key]
  cases hl:tail.length with
  | zero =>
    have h0':tail=[]:=aA hl;subst h0';simp[kf]
  | succ k =>
    simp only[kf,Nat.add_one_sub_one]
    apply propext
    constructor
    ·rintro⟨a1,a2⟩
     exact⟨a1,λj hj _=>a2 j hj⟩
    ·rintro⟨a1,a2⟩
     exact⟨a1,λj hj=>a2 j hj ab⟩
section rules
variable {E:Env}{all:List Oper}{n kb:Nat}{vt:List (Nat×AV)}{pv:List (Oper×Nat×AV)}{K:ASt->Prop}{st:ASt}{R D N:List Bool}{i:Nat}{sub next:OT}
theorem Vr:fp E all n kb vt pv K (.child i D N sub .stop) st=svT (pick D (pv.map λp=>(p.2.1,p.2.2))++st.t) λt'=>
 wb E all (bg all i) { st with t:=t' } λst3=>wa (pick N pv) (λo v0=>fG E all o ⟨n,kb,vt,st3.h⟩ λv=>v=v0)/\fp E all n kb vt pv K sub st3:=by
 simp only[fp,and_true]
end rules
section rules
variable {E:Env}{all:List Oper}{st:ASt}{K:ASt->Prop}{dd:Option Nat}{op:Op}{ty:TypeId}{p:String}{af:Array Edge}
theorem X0:wb E all ⟨dd,op,ty,p,af,none⟩ st K=aOp E ⟨dd,op,ty,p,af,none⟩ st K:=(rfl)
theorem XZ{j:Nat}{b:Bool}:wb E all ⟨dd,op,ty,p,af,some (j,b)⟩ st K=GC (lE all j) λs=>yz (bM st.t s) b (ph (aOp E ⟨dd,op,ty,p,af,some (j,b)⟩ st K)) (ph (bQ st dd .un K)):=by
 simp only[wb,GC,yz]
 cases lE all j<;>rfl
end rules
attribute [simp ↓] X0 XZ
theorem Cf{E:Env}(hE:EOk E)(hm:E.P.follows .mixedOrders=true){id:Nat}{ops:List Oper}{Q:Exit->ASt->Prop}{n kb:Nat}{t:List (Nat×AV)}{h:AH}(pre tail:List Nat)(T:OT)
 (hok:(nH ops pre tail&&kT ops pre tail T tail [] []&&Kp n ops pre&&Region.noSelect ops.toArray)=true)
 (hx:oK E.tight ops n kb h (pre.map (bg ops)) t [] λvt lp=>svT ((lp.map λp=>(p.2.1,AV.any))++t) λtm=>fp E.tight ops n kb vt lp (Q .normal) T ⟨n,kb,tm,h⟩):aY E id ops Q ⟨n,kb,t,h⟩:=
 Ce hE hm pre tail T hok hx
open Go.RowKit
def sLt(s u:ByteArray):Prop:=Op.bytesLess s.toList u.toList=true
theorem aec(b:Bool):b=dc (b=true):=by cases b<;>simp[dc]
section
variable {tb:Prop}{F:AV->Prop}{s u:ByteArray}
theorem ab3:iL tb .lss (.string s) (.string u) F=F (.v (.bool (dc (sLt s u)))):=by
 simp only[iL];rw[aec (Op.bytesLess s.toList u.toList)];rfl
theorem ab4:iL tb .geq (.string s) (.string u) F=F (.v (.bool (!dc (sLt s u)))):=by
 simp only[iL];rw[aec (Op.bytesLess s.toList u.toList)];rfl
end
attribute [simp ↓] ab3 ab4
open Go.RowKit
def bl:Nat->Nat->List Bool
 |0,_=>[]
 |n+1,x=>(x % 2==1)::bl n (x / 2)
theorem agA{x:Nat}:bl 0 x=[]:=rfl
theorem agB{n x:Nat}:bl (n+1) x=(x % 2==1)::bl n (x / 2):=rfl
def OT.c(n i a b:Nat)(s r:OT):OT:=.child i (bl n a) (bl n b) s r
def OT.l(n a:Nat):OT:=.leaf (bl n a)
def OT.s:OT:=.stop
section rules
variable {E:Env}{all:List Oper}{n kb m:Nat}{vt:List (Nat×AV)}{pv:List (Oper×Nat×AV)}{K:ASt->Prop}{st:ASt}{R D N i:Nat}{sub next:OT}
theorem Trl:fp E all n kb vt pv K (.l m R) st=svT (pick (bl m R) (pv.map λp=>(p.2.1,p.2.2))++st.t) λt'=>K { st with t:=t' }:=(rfl)
theorem Trs:fp E all n kb vt pv K (.c m i D N sub .s) st=svT (pick (bl m D) (pv.map λp=>(p.2.1,p.2.2))++st.t) λt'=>
 wb E all (bg all i) { st with t:=t' } λst3=>wa (pick (bl m N) pv) (λo v0=>fG E all o ⟨n,kb,vt,st3.h⟩ λv=>v=v0)/\fp E all n kb vt pv K sub st3:=Vr
theorem Trc:fp E all n kb vt pv K (.c m i D N sub next) st=((svT (pick (bl m D) (pv.map λp=>(p.2.1,p.2.2))++st.t) λt'=>
 wb E all (bg all i) { st with t:=t' } λst3=>wa (pick (bl m N) pv) (λo v0=>fG E all o ⟨n,kb,vt,st3.h⟩ λv=>v=v0)/\fp E all n kb vt pv K sub st3)/\fp E all n kb vt pv K next st):=(rfl)
end rules
attribute [simp ↓] Trl Trs
attribute [simp] agA agB
theorem drw{E:Env}(hE:EOk E)(hm:E.P.follows .mixedOrders=true){id:Nat}{ops:List Oper}{Q:Exit->ASt->Prop}{n kb:Nat}{t:List (Nat×AV)}{h:AH}(pre tail:List Nat)(T:OT)
 (hx:oK E.tight ops n kb h (pre.map (bg ops)) t [] λvt lp=>svT ((lp.map λp=>(p.2.1,AV.any))++t) λtm=>fp E.tight ops n kb vt lp (Q .normal) T ⟨n,kb,tm,h⟩)
 (hok:(nH ops pre tail&&kT ops pre tail T tail [] []&&Kp n ops pre&&Region.noSelect ops.toArray)=true:=by kernel_rfl):aY E id ops Q ⟨n,kb,t,h⟩:=
 Cf hE hm pre tail T hok hx
theorem pci{P:Program}{T:Nat->Option TI}(hT:∀t ti,T t=some ti->TIok P t ti){f:Nat}{fn:Func}{c:Code}(hf:P.funcs[f]? = some fn)
 {n:Nat}{rs:List ResultVar}{args:List VD}{res:RR}
 (h:∀w0 base,ic ⟨P,T,w0,⟨base,base,false,λ_=>True⟩⟩ c (xU ⟨P,T,w0,⟨base,base,false,λ_=>True⟩⟩ rs res) { n:=n,kb:=0,t:=nW 0 args,h:=[] })
 (hname : (fn.name == "runtime.NumGoroutine") = false := by kernel_rfl) (hb : fn.body = some c := by exact rfl) (hn : fn.ntmps = n := by exact rfl) (hrs : fn.results = ⟨rs⟩ := by exact rfl) (ha : args.length ≤ n := by exact ai rfl) : ar P f args res :=
 aF hT hf hname hb hn hrs ha h
theorem inl{P:Program}{T:Nat->Option TI}(hT:∀t ti,T t=some ti->TIok P t ti){w0:World}{base:Bs}{f:Nat}{fn:Func}{c:Code}(hf:P.funcs[f]? = some fn)
 {n:Nat}{rs:List ResultVar}{args:List AV}(kb':Nat) {st:ASt}{dst:Option Nat}{K:ASt->Prop}
 (h:∀w1 F,ic ⟨P,T,w1,⟨F,base.G,base.loose,base.L⟩⟩ c (Ih ⟨P,T,w1,⟨F,base.G,base.loose,base.L⟩⟩ rs λav h'=>bQ ⟨st.n,st.kb,st.t,h'⟩ dst av K) ⟨n,kb',uJ 0 args,st.h⟩)
 (hname : (fn.name == "runtime.NumGoroutine") = false := by kernel_rfl) (hb : fn.body = some c := by exact rfl) (hnt : fn.ntmps = n := by exact rfl) (hrs : fn.results = ⟨rs⟩ := by exact rfl) (hn : args.length ≤ n := by exact ai rfl)
 (hL:base.L=λ_=>True:=by exact rfl):ag ⟨P,T,w0,base⟩ f args st dst K:=
 GQ hT hf hname hb hnt hrs hn kb' h hL
end Go.AM
