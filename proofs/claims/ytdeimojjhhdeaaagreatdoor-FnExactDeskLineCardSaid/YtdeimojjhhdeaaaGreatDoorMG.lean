import Derived.Test.YtdeimojjhhdeaaaGreatDoorMF
import Derived.Test.YtdeimojjhhdeaaaGreatDoorME
namespace Go.AM
open Go.RowKit
def Aw(E:Env)(all:List Oper)(o:Oper)(st:ASt)(K:ASt->Prop):Prop:=
 match o.guard with
 |none=>aOp E o st K
 | some (j, want) => match nz all j with
   | some d => match cm st.t d with
     | .v (.bool b)=>(b=want->aOp E o st K)/\(b = !want->cG st o.dst .un K)
     | .un=>cG st o.dst .un K
     |_=>False
   |none=>False
theorem Ym{E:Env}{all:List Oper}{o:Oper}{st:ASt}{K:ASt->Prop}(h:o.guard=none):Aw E all o st K=aOp E o st K:=by unfold Aw;rw[h]
theorem Yn{E:Env}(hE:EOk E){ops:List Oper}{st:ASt}{a:Act}{w:World}(hR:Rep E.w0 E.base st a w){o:Oper}{K:ASt->Prop}(h:Aw E ops o st K){next:Act->World->Prop}{Q:Exit->Act->World->Prop}
 (hn:∀r w',uG E.w0 E.base st a w o.dst r w' K->next (a.put o.dst r) w') :
 if Region.wanted o (yielded ops.toArray a.tmps)then o.wp E.P a w next Q\/(o.asks E.P a w/\LetsOut Q)else next (a.put o.dst undef) w:=by
 have skip:cG st o.dst .un K->next (a.put o.dst undef) w:=by
  intro hp;obtain⟨h3,h4⟩:=hR.put .un hp;exact hn _ _ ⟨_,_,h3,h4,λ_=>Tr.refl _ _,.un⟩
 unfold Aw at h
 split at h
 ·rename_i hg
  rw[al (by simp[Region.wanted,hg])];exact .inl (xo hE hR h hn)
 ·rename_i j want hg
  split at h
  ·rename_i d hd
   have hd':(ops.toArray[j]?).bind (·.dst)=some d:=by simpa[nz]using hd
   split at h
   ·rename_i b hb
    have hv:=hR.tmp d;rw[hb]at hv;generalize hu:a.tmps.getD d undef=u at hv
    cases hv
    have hy:yielded ops.toArray a.tmps j=some b:=QD;by_cases hbw:b=want
    ·rw[al wv]
     exact .inl (xo hE hR (h.1 hbw) hn)
    ·rw[ak wv]
     exact skip (h.2 Dw)
   ·rename_i hb
    have hv:=hR.tmp d;rw[hb]at hv;generalize hu:a.tmps.getD d undef=u at hv
    cases hv
    have hy:yielded ops.toArray a.tmps j=none:=by
     exact Kl
    rw[ak JR];exact skip h
   ·exact h.elim
  ·exact h.elim
def qn(ops:List Oper)(pre tail:List Nat):Bool:=
 (List.range ops.length).all (λi=>pre.contains i || tail.contains i) &&
 pre.all (λi=>decide (i<ops.length) && !tail.contains i)&&tail.all (λi=>decide (i<ops.length))&&ry pre&&ry tail &&
 (List.range ops.length).all (λi=>(bo ops i).after.all λe=>!Region.binds .any e || decide (e.on<i)) &&
 (List.range ops.length).all (λi=>(List.range ops.length).all λk=>i==k || (bo ops i).dst==none || (bo ops i).dst != (bo ops k).dst) &&
 pre.all (λi=>(bo ops i).dst.isSome&&(jY (bo ops i)++rB ops (bo ops i)).all λs=>(List.range ops.length).all λk=>
  (bo ops k).dst != some s || (if pre.contains k then dV (bo ops i) k else dV (bo ops k) i)) &&
 tail.all (λt=>(jY (bo ops t)).all λs=>pre.all λk=>(bo ops k).dst != some s || dV (bo ops t) k)
structure DrawOkg(ops:List Oper)(pre tail:List Nat):Prop where
 all:∀i,i<ops.length->i∈pre\/i∈tail
 hpre:∀i∈pre,i<ops.length/\i∉tail
 htail:∀i∈tail,i<ops.length
 ipre:ry pre=true
 itail:ry tail=true
 back:∀i,i<ops.length->∀e∈(bo ops i).after,Region.binds .any e=true->e.on<i
 dst:∀i,i<ops.length->∀k,k<ops.length->∀d,(bo ops i).dst=some d->(bo ops k).dst=some d->i=k
 has:∀i∈pre,∃d,(bo ops i).dst=some d
 use:∀i∈pre,∀s,s∈jY (bo ops i)\/s∈rB ops (bo ops i)->∀k,k<ops.length->(bo ops k).dst=some s->(k∈pre/\dV (bo ops i) k=true)\/(k∉pre/\dV (bo ops k) i=true)
 tuse:∀t∈tail,∀s∈jY (bo ops t),∀k∈pre,(bo ops k).dst=some s->dV (bo ops t) k=true
theorem Gh{ops:List Oper}{pre tail:List Nat}(h:qn ops pre tail=true):DrawOkg ops pre tail:=by
 simp only[qn,aJ,dp,gP,kl,dj,rR,xr,dm,aO,lR,bne_iff_ne,oR]at h;obtain⟨⟨⟨⟨⟨⟨⟨⟨h1,h2⟩,h3⟩,h4⟩,h5⟩,h6⟩,h7⟩,h8⟩,h9⟩:=h;refine⟨h1,λi hi=>⟨(h2 i hi).1,λht=>by have:=(h2 i hi).2;simp[ht]at this⟩,h3,h4,h5,λi hi e he hb=>?_,λi hi k hk d hd hd'=>?_,λi hi=>(h8 i hi).1,λi hi s hs k hk hd=>?_,λt ht s hs k hk hd=>?_⟩
 ·rcases h6 i hi e he with h|h
  ·simp[hb]at h
  ·exact h
 ·exact SG
 ·exact TL
 ·rcases h9 t ht s hs k hk with h|h
  ·exact absurd hd h
  ·exact h
theorem Nn:∀(l:List Nat),ry l=true->∀a∈l.head?,∀b∈l.tail,a<b
 | [],_,a,ha,_,_=>by simp at ha
 | [_],_,a,_,b,hb=>by simp at hb
 | a :: b :: l, h, x, hx, y, hy => by
   simp only[ry,aJ,dj]at h;simp at hx;subst hx;rcases aR.1 hy with rfl|hy
   ·exact h.1
   ·exact Nat.lt_trans h.1 (Nn (b::l) h.2 b ab y hy)
theorem Pt{a:Nat}{l:List Nat}(h:ry (a::l)=true):ry l=true:=by
 exact RK
theorem Fw{pv:PV}{s:Nat}{v:AV}:(s,v)∈pvT pv↔∃p∈pv,p.2.1.dst=some s/\p.2.2=v:=by
 exact Uo
section
variable {ops:List Oper}{pre tail:List Nat}(D:DrawOkg ops pre tail) {pv:PV}(hpv:PvOk ops pre pv)
include D hpv
theorem KO{p q:Nat×Oper×AV}(hp:p∈pv)(hq:q∈pv){d:Nat}(h1:p.2.1.dst=some d)(h2:q.2.1.dst=some d):p=q:=by
 exact TZ
theorem Nx{p:Nat×Oper×AV}(hp:p∈pv){d:Nat}(hd:p.2.1.dst=some d)(t:List (Nat×AV)):cm (pvT pv++t) d=p.2.2:=by
 refine ke (Fw.2 ⟨p,hp,hd,rfl⟩) (λq hq he=>?_);obtain⟨k,v⟩:=q;obtain⟨q',hq',hd',rfl⟩:=Fw.1 hq;simp only at he;subst he;rw[KO D hpv hq' hp hd' hd]
end
theorem rA{pv:PV}{s:Nat}(h:∀p∈pv,p.2.1.dst≠some s)(t:List (Nat×AV)):cm (pvT pv++t) s=cm t s:=by
 refine mE (λq hq he=>?_);obtain⟨k,v⟩:=q;obtain⟨p,hp,hd,-⟩:=Fw.1 hq;simp only at he;subst he;exact h p hp hd
theorem GE{E:Env}{ops:List Oper}{pre tail:List Nat}(D:DrawOkg ops pre tail){st:ASt}:∀(l done:List Nat) (pv:PV) {K:PV->Prop},pre=done++l->PvOk ops pre pv->(∀p∈pv,p.1∈done)->(∀i∈done,∃p∈pv,p.1=i) ->
 (∀p∈pv,gZ E ops p.2.1 { st with t:=pvT pv++st.t } λv=>v=p.2.2)->yI E ops st pv (l.map λi=>(i,bo ops i)) K ->
 ∃pv',K pv'/\PvOk ops pre pv'/\(∀i∈pre,∃p∈pv',p.1=i)/\∀p∈pv',gZ E ops p.2.1 { st with t:=pvT pv'++st.t } λv=>v=p.2.2
 | [],done,pv,K,he,hpv,hdone,hall,hval,h=>⟨pv,h,hpv,λi hi=>hall i (by simpa[he]using hi),hval⟩
 | i :: l, done, pv, K, he, hpv, hdone, hall, hval, h => by
   simp only[bK,yI]at h;obtain⟨v,h1,h2⟩:=Jn E ops _ _ _ h;have hip:i∈pre:=by rw[he];simp
   have hlt:∀j∈done,j<i:=by
    have hinc:=D.ipre;rw[he]at hinc
    clear h h1 h2 hval hall hdone hpv he
    induction done with
    |nil=>simp
    | cons a done ih =>
      intro j hj;rcases aR.1 hj with rfl|hj
      ·exact Nn _ hinc j ab i ab
      ·exact ih (Pt hinc) j hj
   have hpv':PvOk ops pre ((i,bo ops i,v)::pv):=by
    exact UJ
   have key:∀p:Nat×Oper×AV,p.1∈pre->p.2.1=bo ops p.1->p.1<=i->gZ E ops p.2.1 { st with t:=pvT pv++st.t } (λv=>v=p.2.2) ->
    gZ E ops p.2.1 { st with t:=pvT ((i,bo ops i,v)::pv)++st.t } (λv=>v=p.2.2):=by
    intro p hp1 hp2 hple hp;refine v7 (st:={ st with t:=pvT pv++st.t }) (λs hs=>?_) rfl hp;obtain⟨d,hd⟩:=D.has i hip
    have hne:d≠s:=by
     exact UC
    show cm (pvT ((i,bo ops i,v)::pv)++st.t) s=cm (pvT pv++st.t) s
    have:pvT ((i,bo ops i,v)::pv)=(d,v)::pvT pv:=by simp[pvT,hd]
    rw[this];simp only[dE,cm];rw[ak (λh=>hne h.symm)]
   refine GE D l (done++[i]) ((i,bo ops i,v)::pv) (by simp[he]) hpv' (λp hp=>?_) (λj hj=>?_) (λp hp=>?_) h1
   ·rcases aR.1 hp with rfl|hp
    ·simp
    ·simp[hdone p hp]
   ·exact T9
   ·exact T3
theorem yL{w0:World}{base:Bs}{ops:List Oper}{pre tail:List Nat}(D:DrawOkg ops pre tail){pv:PV}(hpv:PvOk ops pre pv){st:ASt}{a:Act}{w:World}(hR:Rep w0 base st a w)
 (hv:∀p∈pv,∀d,p.2.1.dst=some d->VRel w st.h.M p.2.2 (a.tmps.getD d undef)):Rep w0 base { st with t:=pvT pv++st.t } a w:=by
 refine⟨hR.dfr,hR.size,λs=>?_,hR.heap,hR.below,hR.base_le⟩;by_cases h:∃p∈pv,p.2.1.dst=some s
 ·obtain⟨p,hp,hd⟩:=h
  show VRel w st.h.M (cm (pvT pv++st.t) s) _
  rw[Nx D hpv hp hd];exact hv p hp s hd
 ·show VRel w st.h.M (cm (pvT pv++st.t) s) _
  rw[rA (λp hp hd=>h ⟨p,hp,hd⟩)];exact hR.tmp s
def mh(E:Env)(all:List Oper)(pre tail:List Nat)(st:ASt)(pv:PV):Nat->List Nat->List Nat->ASt->(ASt->Prop)->Prop
 |0,G,_,st2,K=>K { st2 with t:=pvT (pv.filter λp=>!G.contains p.1)++st2.t }
 | n + 1, G, rem, st2, K => (rem = [] -> K { st2 with t := pvT (pv.filter λp => !G.contains p.1) ++ st2.t }) /\
   ∀ i ∈ uA all pre tail rem, Aw E all (bo all i) { st2 with t := pvT (pv.filter λp => dV (bo all i) p.1 && !G.contains p.1) ++ st2.t } λst3 =>
     (∀p∈pv.filter (λp => !dV (bo all i) p.1 && !G.contains p.1),gZ E all p.2.1 { st with t:=pvT pv++st.t,h:=st3.h } λv=>v=p.2.2) /\
     mh E all pre tail st pv n ((pv.filter λp=>dV (bo all i) p.1 && !G.contains p.1).map (·.1)++G) (rem.filter (· != i)) st3 K
structure DInvLg(E:Env)(ops:List Oper)(pre tail:List Nat)(st:ASt)(pv:PV)(K:ASt->Prop)(L:Array Bool)(a:Act)(w:World)(G done rem:List Nat)(m:Nat)(st2:ASt):Prop where
 tm:∀t∈tail,t∈done\/t∈rem
 rs:∀t∈rem,t∈tail
 nl:rem.length<=m
 don:∀t∈done,on L t=true
 roff:∀t∈rem,on L t=false
 obl:mh E ops pre tail st pv m G rem st2 K
 rep:Rep E.w0 E.base st2 a w
 n:st2.n=st.n
 g:∀i∈G,on L i=true
 val:∀p∈pv,on L p.1=true->∀d,p.2.1.dst=some d->VRel w st2.h.M p.2.2 (a.tmps.getD d undef)
 pend:∀p∈pv,p.1∉G->gZ E ops p.2.1 { st with t:=pvT pv++st.t,h:=st2.h } λv=>v=p.2.2
 mask:∀p∈pv,p.1∉G->∀d,p.2.1.dst=some d->cm st2.t d=.any
 frame:∀s,(∀k,k<ops.length->on L k=true->(bo ops k).dst≠some s)->VRel w st2.h.M (cm st.t s) (a.tmps.getD s undef)
 edges:∀t∈done,∀i,dV (bo ops t) i=true->on L i=true
theorem Ly{E:Env}(hE:EOk E){ops:List Oper}{pre tail:List Nat}(D:DrawOkg ops pre tail){st:ASt}{pv:PV}(hpv:PvOk ops pre pv)(hall:∀i∈pre,∃p∈pv,p.1=i)(hdn:∀p∈pv,∀d,p.2.1.dst=some d->d<st.n)(hlo:tail=[]\/E.base.loose=false){K:ASt->Prop}{Qc:Exit->Act->World->Prop}
 (hK:∀st' a' w',K st'->Rep E.w0 E.base st' a' w'->Qc .normal a' w') (hQp:∀c a w,¬Qc (.panic c) a w) (hns:Region.noSelect ops.toArray=true) :
 ∀(fuel:Nat) (L:Array Bool) (a:Act) (w:World) (G done rem:List Nat) (m:Nat) (st2:ASt),L.size=ops.length->((List.range ops.length).filter λi => !on L i).length<=fuel->DInvLg E ops pre tail st pv K L a w G done rem m st2 ->
 wpAny E.P .any ops.toArray Qc fuel L a w:=by
 have opget:∀i,i<ops.length->ops.toArray[i]? = some (bo ops i):=λi hi=>by simp[bo,hi]
 have fin:∀(L:Array Bool) (a:Act) (w:World) (G done rem:List Nat) (m:Nat) (st2:ASt),L.size=ops.length->DInvLg E ops pre tail st pv K L a w G done rem m st2->Region.ready .any ops.toArray L=[]->Qc .normal a w:=by
  intro L a w G done rem m st2 hL I hr
  have hon:∀n i,i<n->i<ops.length->on L i=true:=by
   exact UP
  have hrem:rem=[]:=by
   cases hq:rem with
   |nil=>rfl
   | cons t r =>
     have ht:t∈rem:=by rw[hq];simp
     have h1:=I.roff t ht;have h2:=hon (t+1) t aa (D.htail t (I.rs t ht));rw[h1]at h2;simp at h2
  have hobl:K { st2 with t:=pvT (pv.filter λp=>!G.contains p.1)++st2.t }:=by
   have hobl:=I.obl
   cases m with
   |zero=>exact hobl
   |succ m=>exact hobl.1 hrem
  refine hK _ a w hobl (yL D (hpv.filter _) I.rep (λp hp d hd=>?_));exact Td
 intro fuel
 induction fuel with
 | zero =>
   intro L a w G done rem m st2 hL hf I
   have hr:Region.ready .any ops.toArray L=[]:=by
    exact UG
   exact⟨hr,fin L a w G done rem m st2 hL I hr⟩
 | succ fuel ih =>
   intro L a w G done rem m st2 hL hf I
   have stepT:∀(i:Nat),i<ops.length->on L i=false->(∀k,dV (bo ops i) k=true->on L k=true)->i∈rem->i∉pre->i∈tail->∀m',m=m'+1->∀(r:Value) (w':World),
    uG E.w0 E.base { st2 with t:=pvT (pv.filter λp=>dV (bo ops i) p.1 && !G.contains p.1)++st2.t } a w (bo ops i).dst r w' (λst3=>
     (∀p∈pv.filter (λp => !dV (bo ops i) p.1 && !G.contains p.1),gZ E ops p.2.1 { st with t:=pvT pv++st.t,h:=st3.h } λv=>v=p.2.2) /\
     mh E ops pre tail st pv m' ((pv.filter λp=>dV (bo ops i) p.1 && !G.contains p.1).map (·.1)++G) (rem.filter (· != i)) st3 K) ->
    wpAny E.P .any ops.toArray Qc fuel (L.setIfInBounds i true) (a.put (bo ops i).dst r) w':=by
    intro i hilt hioff hidep hit hip hitail m' hm' r w' hs;subst hm';have hL':(L.setIfInBounds i true).size=ops.length:=by simp[hL]
    have hset:∀j,on (L.setIfInBounds i true) j=if j=i then true else on L j:=λj=>OW aa
    have hmono:∀j,on L j=true->on (L.setIfInBounds i true) j=true:=λj hj=>JP
    have hf':((List.range ops.length).filter λj=>!on (L.setIfInBounds i true) j).length<=fuel:=by
     exact Kr
    obtain⟨av,h',⟨hpend,hobl'⟩,hrep,htr,hvr⟩:=hs;have htr:=htr (hlo.resolve_left (λh0=>by rw[h0]at hitail;simp at hitail));have hh:∀s2:ASt,(s2.aft (bo ops i).dst av h').h=h':=λs2=>Dt
    have hnn:∀s2:ASt,(s2.aft (bo ops i).dst av h').n=s2.n:=λs2=>Dt
    have haft:∀(s2:ASt) (s:Nat),(bo ops i).dst≠some s->cm (s2.aft (bo ops i).dst av h').t s=cm s2.t s:=by
     exact SZ
    have hdp:∀q∈pv,∀d,q.2.1.dst=some d->(bo ops i).dst≠some d:=by
     exact Tf
    refine ih _ _ _ _ (done++[i]) (rem.filter (· != i)) m' _ hL' hf' ⟨λt ht=>?_,λt ht=>I.rs t (du.1 ht).1,?_,λt ht=>?_,λt ht=>?_,hobl',hrep,(hnn _).trans I.n,λj hj=>?_,λq hq hon d hd=>?_,λq hq hqG=>?_,λq hq hqG d hd=>?_,λs hs=>?_,λt ht j hj=>?_⟩
    ·rcases I.tm t ht with h|h
     ·exact .inl (List.mem_append_left _ h)
     ·by_cases he:t=i
      ·exact .inl (by rw[he];simp)
      ·exact .inr (du.2 ⟨h,by simpa using he⟩)
    ·have h1:(rem.filter (· != i)).length<rem.length:=by
      rw[GS];exact⟨i,hit,ab⟩
     have:=I.nl;omega
    ·rw[hset]
     rcases aO.1 ht with ht|ht
     ·split
      ·rfl
      ·exact I.don t ht
     ·simp at ht;rw[al ht]
    ·rw[hset]
     have ht2:=du.1 ht;rw[ak (by simpa using ht2.2)];exact I.roff t ht2.1
    ·rcases aO.1 hj with hj|hj
     ·obtain⟨q,hq,rfl⟩:=cM.1 hj
      have hq2:=(du.1 hq).2;simp only[aJ]at hq2;exact hmono _ (hidep _ hq2.1)
     ·exact hmono j (I.g j hj)
    ·rw[hh,tg (hdp q hq d hd)]
     rw[hset]at hon
     split at hon
     ·rename_i he
      exact absurd (he ▸ (hpv.op q hq).1) hip
     ·exact(I.val q hq hon d hd).tr htr
    ·have:=hpend q (du.2 ⟨hq,by
      simp only[aJ,dm];refine⟨?_,?_⟩
      ·exact Uw
      ·cases hg:G.contains q.1 with
       |false=>rfl
       |true=>exact absurd (aO.2 (.inr (by simpa using hg))) hqG⟩)
     exact this
    ·rw[haft _ _ (hdp q hq d hd)]
     show cm (pvT _++st2.t) d=_
     rw[rA (λq' hq' hd'=>?_)]
     ·exact I.mask q hq (λhg=>hqG (aO.2 (.inr hg))) d hd
     ·have:=KO D hpv ((du.1 hq').1) hq hd' hd
      subst this;exact hqG (aO.2 (.inl (cM.2 ⟨q',hq',rfl⟩)))
    ·rw[hh,tg (hs i hilt (by rw[hset];simp))]
     exact(I.frame s (λk hk hkon=>hs k hk (hmono k hkon))).tr htr
    ·rcases aO.1 ht with ht|ht
     ·exact hmono j (I.edges t ht j hj)
     ·simp at ht;subst ht;exact hmono j (hidep j hj)
   by_cases hlt:∃i,rem.find? (Nu ops pre tail rem)=some i
   ·obtain⟨i,hfi⟩:=hlt
    have hheads:uA ops pre tail rem=[i]:=by unfold uA;rw[hfi]
    have hit:i∈rem:=aeH hfi;have hhd:=List.find?_some hfi;simp only[Nu,aJ]at hhd;obtain⟨⟨⟨hrd,hli⟩,hfr⟩,hpr⟩:=hhd;have hitail:i∈tail:=I.rs i hit;have hilt:i<ops.length:=D.htail i hitail;have hioff:on L i=false:=I.roff i hit;have hip:i∉pre:=λh=>(D.hpre i h).2 hitail
    have hidep:∀k,dV (bo ops i) k=true->on L k=true:=by
     intro k hk
     have hklt:k<ops.length:=by
      have hk':=hk;simp only[dV,Mj,aJ,lR]at hk';obtain⟨e,he,hb,rfl⟩:=hk';have:=D.back i hilt e he hb;omega
     rcases D.all k hklt with h|h
     ·have h1:=dp.1 hpr k h
      simp only[hk,Bool.not_true,Bool.false_or,Wk,aJ,dm]at h1;obtain⟨t,ht,htr,htd⟩:=h1;rcases I.tm t ht with h2|h2
      ·exact I.edges t h2 k htd
      ·have:rem.contains t=true:=by simpa using h2
       rw[this]at htr;cases htr
     ·rcases I.tm k h with h2|h2
      ·exact I.don k h2
      ·have h3:=dp.1 hrd k h2
       rw[hk]at h3;simp at h3
    have hready:i∈Region.ready .any ops.toArray L:=(r7 hL).2 ⟨hilt,hioff,hidep⟩
    have hfree:Region.free .any ops.toArray L i=true:=by
     unfold Region.free;rw[opget i hilt];simp only[dp,gP];intro j hj;have hj:j<ops.length:=ln;rw[opget j hj];have h1:=dp.1 hfr j (gP.2 hj);simp only[kl]at h1⊢;rcases h1 with((h1|h1)|h1)|h1
     ·exact .inl (.inl h1)
     ·exact .inr (.inl h1)
     ·refine .inl (.inr ?_)
      have h2:=hidep j h1;unfold on at h2;have hjl:j<L.size:=aa;simp only[aT,yd hjl,nD]at h2⊢;exact h2
     ·exact .inr (.inr h1)
    have hlen:=qx hit;obtain⟨m',rfl⟩:∃k,m=k+1:=⟨m-1,by have:=I.nl;omega⟩;have hobl:=I.obl.2 i (by rw[hheads];simp)
    have hR1:Rep E.w0 E.base { st2 with t:=pvT (pv.filter λp=>dV (bo ops i) p.1 && !G.contains p.1)++st2.t } a w:=yL D (hpv.filter _) I.rep (λq hq d hd=>by
     have hq':=(du.1 hq).1;have hq2:=(du.1 hq).2;simp only[aJ]at hq2;exact I.val q hq' (hidep _ hq2.1) d hd)
    have hgn:(bo ops i).guard=none:=by
     have h:=hli;unfold KX at h;simp only[aJ,Option.isNone_iff_eq_none]at h;exact h.1.1
    rw[Ym hgn]at hobl;obtain⟨v,hy,hs⟩:=Nc hE hR1 hli hobl;exact wpAny_take (opget i hilt) hns hfree (by simpa using hready) (λc a w h=>absurd h (hQp c _ _)) (.inl ⟨by simp[Region.wanted,hgn],hy⟩) (stepT i hilt hioff hidep hit hip hitail m' rfl v w hs)
   have hnone:rem.find? (Nu ops pre tail rem)=none:=by
    cases h:rem.find? (Nu ops pre tail rem)with
    |none=>rfl
    |some i=>exact absurd ⟨i,h⟩ hlt
   have hheads:uA ops pre tail rem=rem.filter (Fb ops rem):=by unfold uA;rw[hnone]
   refine⟨fin L a w G done rem m st2 hL I,λi hi=>?_⟩;obtain⟨hilt,hioff,hidep⟩:=(r7 hL).1 hi;have hL':(L.setIfInBounds i true).size=ops.length:=by simp[hL]
   have hset:∀j,on (L.setIfInBounds i true) j=if j=i then true else on L j:=λj=>OW aa
   have hmono:∀j,on L j=true->on (L.setIfInBounds i true) j=true:=λj hj=>JP
   have hf':((List.range ops.length).filter λj=>!on (L.setIfInBounds i true) j).length<=fuel:=by
    exact Kr
   unfold wpOp;rw[opget i hilt];simp only;by_cases hip:i∈pre
   ·obtain⟨p,hp,hpi⟩:=hall i hip
    have hpo:p.2.1=bo ops i:=by rw[<-hpi];exact(hpv.op p hp).2
    have hiG:p.1∉G:=λhg=>QC
    obtain⟨d,hd⟩:=D.has i hip;have hpd:p.2.1.dst=some d:=by rw[hpo];exact hd
    let full:=pvT pv++st.t
    let sl:=jY (bo ops i)++rB ops (bo ops i)
    let sts:ASt:={ n:=st.n,kb:=st.kb,t:=sl.map λs=>(s,cm full s),h:=st2.h }
    have hRs:Rep E.w0 E.base sts a w:=by
     refine⟨I.rep.dfr,I.rep.size.trans I.n,λs=>?_,I.rep.heap,I.rep.below,I.rep.base_le⟩
     show VRel w st2.h.M (cm (sl.map λs=>(s,cm full s)) s) _
     rw[z8]
     split
     ·rename_i hs
      have hs':s∈jY (bo ops i)\/s∈rB ops (bo ops i):=aO.1 hs;by_cases hq:∃q∈pv,q.2.1.dst=some s
      ·obtain⟨q,hq,hqd⟩:=hq
       rw[show full=pvT pv++st.t from rfl,Nx D hpv hq hqd];exact Ua
      ·rw[show full=pvT pv++st.t from rfl,rA (λq hq' hqd=>hq ⟨q,hq',hqd⟩)]
       refine I.frame s (λk hk hkon hkd=>?_);rcases D.use i hip s hs' k hk hkd with⟨hkp,-⟩|⟨hkn,hkdep⟩
       ·exact Sl
       ·rcases D.all k hk with h|h
        ·exact hkn h
        ·rcases I.tm k h with h|h
         ·have:=I.edges k h i hkdep
          rw[hioff]at this;simp at this
         ·have:=I.roff k h
          rw[hkon]at this;simp at this
     ·exact .any _
    have hval:gZ E ops (bo ops i) sts (λv=>v=p.2.2):=by
     exact Up
    refine GD hE hRs hval (λr w' q=>?_);obtain⟨Es,hrel⟩:=q.rel;have hdlt:d<a.tmps.size:=by rw[I.rep.size,I.n];exact hdn p hp d hpd
    refine ih _ _ _ G done rem m st2 hL' hf' ⟨I.tm,I.rs,I.nl,λt ht=>hmono t (I.don t ht),λt ht=>?_,I.obl,?_,I.n,λj hj=>hmono j (I.g j hj),λq' hq' hon d' hd'=>?_,I.pend,I.mask,λs hs=>?_,λt ht j hj=>hmono j (I.edges t ht j hj)⟩
    ·rw[hset]
     split
     ·rename_i h;subst h
      exact absurd (I.rs _ ht) (D.hpre _ hip).2
     ·exact I.roff t ht
    ·exact SY
    ·rw[hset]at hon
     by_cases hqi:q'.1=i
     ·exact S7
     ·rw[ak hqi]at hon
      rw[tg]
      ·exact(I.val q' hq' hon d' hd').tr q.tr
      ·rw[hd]
       intro he
       cases he
       have:=KO D hpv hq' hp hd' hpd;exact hqi (by rw[this,hpi])
    ·exact SD
   ·have hit:i∈rem:=by
     rcases D.all i hilt with h|h
     ·exact absurd h hip
     ·rcases I.tm i h with h|h
      ·have:=I.don i h;rw[hioff]at this;simp at this
      ·exact h
    have hitail:i∈tail:=I.rs i hit
    have hready:Fb ops rem i=true:=by
     unfold Fb;rw[dp];intro q hq
     cases hd:dV (bo ops i) q with
     |false=>rfl
     | true =>
       have h1:=hidep q hd;have h2:=I.roff q hq;rw[h1]at h2;simp at h2
    have hlen:=qx hit;obtain⟨m,rfl⟩:∃k,m=k+1:=⟨m-1,by have:=I.nl;omega⟩;have hobl:=I.obl.2 i (by rw[hheads];exact du.2 ⟨hit,hready⟩);refine Yn hE (yL D (hpv.filter _) I.rep (λq hq d hd=>?_)) hobl (λr w' hs=>?_)
    ·exact Tx
    ·exact stepT i hilt hioff hidep hit hip hitail m rfl r w' hs
theorem GQ{E:Env}(hE:EOk E)(hm:E.P.follows .mixedOrders=true){id:Nat}{ops:List Oper}{Q:Exit->ASt->Prop}{st:ASt}(pre tail:List Nat)(hlo:tail=[]\/E.base.loose=false)(hok:qn ops pre tail=true)(hns:Region.noSelect ops.toArray=true)(K:PV->ASt->Prop)
 (X:PV->Prop) (hX:∀pv,X pv->mh E ops pre tail st pv tail.length [] tail { st with t:=iC pv++st.t } (K pv))
 (h:yI E ops st [] (pre.map λi=>(i,bo ops i)) λpv=>(∀p∈pv,∀d,p.2.1.dst=some d->d<st.n)/\X pv)
 (hfin:∀pv st' a w,K pv st'->Rep E.w0 E.base st' a w->∃st'',Q .normal st''/\Rep E.w0 E.base st'' a w):cg E id ops Q st:=by
 intro a w hR;have D:=Gh hok;obtain⟨pv,⟨hdn,hobl0⟩,hpv,hall,hval⟩:=GE D pre [] [] ab ⟨ab,ab⟩ ab ab ab h;have hobl:=hX pv hobl0;refine kL (?_:(Code.region id ops.toArray true).wp E.P (λe a' w'=>e=.normal/\∃st',Q e st'/\Rep E.w0 E.base st' a' w') a w) (λe a' w' h=>h.2);refine wp_region_any hm ?_
 have hR':Rep E.w0 E.base { st with t:=iC pv++st.t } a { w with drawn:=w.drawn+1 }:=by
  exact U7
 have hoff:∀i,on (Array.replicate ops.toArray.size false) i=false:=by
  exact Sa
 refine Ly hE D hpv hall hdn hlo (K:=K pv) (λst' a' w' h1 h2=>⟨rfl,hfin pv st' a' w' h1 h2⟩) (λc a w h=>by cases h.1) hns ops.toArray.size (Array.replicate ops.toArray.size false) a _ [] [] tail tail.length { st with t:=iC pv++st.t } ab ?_
  ⟨λt ht=>.inr ht,λ_ h=>h,aC _,ab,λt _=>hoff t,hobl,hR',rfl,ab,λp _ hon=>by rw[hoff]at hon;simp at hon,λp hp _=>hval p hp,λp hp _ d hd=>?_,λs _=>?_,ab⟩
 ·have:=List.length_filter_le (λi=>!on (Array.replicate ops.toArray.size false) i) (List.range ops.length)
  simpa using this
 ·show cm (iC pv++st.t) d=_
  refine ke ?_ (λq hq _=>?_)
  ·unfold iC;rw[iH];exact⟨p,hp,by rw[hd];rfl⟩
  ·unfold iC at hq
   rw[iH]at hq;obtain⟨x,-,hx⟩:=hq;rw[a7]at hx;obtain⟨d,-,rfl⟩:=hx;rfl
 ·exact(hR.tmp s).tr ⟨aC _,λ_ _ _=>rfl,λ_ _ h=>h⟩
def gF(E:Env)(all:List Oper)(n kb:Nat)(vt:List (Nat×AV))(pv:List (Oper×Nat×AV))(K:ASt->Prop):OT->ASt->Prop
 | .leaf R,st2=>svT (pick R (pv.map λp=>(p.2.1,p.2.2))++st2.t) λt'=>K { st2 with t:=t' }
 | .stop,_=>True
 | .child i D N sub next,st2=>(svT (pick D (pv.map λp=>(p.2.1,p.2.2))++st2.t) λt'=>
  Aw E all (bo all i) { st2 with t:=t' } λst3=>Av (pick N pv) (λo v0=>gZ E all o ⟨n,kb,vt,st3.h⟩ λv=>v=v0)/\gF E all n kb vt pv K sub st3)/\gF E all n kb vt pv K next st2
theorem If{E:Env}(hE:EOk E)(hm:E.P.follows .mixedOrders=true){id:Nat}{ops:List Oper}{Q:Exit->ASt->Prop}{st:ASt}(pre tail:List Nat)(hok:qn ops pre tail=true)(hns:Region.noSelect ops.toArray=true)
 (X:PV->Prop) (hX:∀pv,X pv->mh E.tight ops pre tail st pv tail.length [] tail { st with t:=iC pv++st.t } (Q .normal))
 (h:yI E.tight ops st [] (pre.map λi=>(i,bo ops i)) λpv=>(∀p∈pv,∀d,p.2.1.dst=some d->d<st.n)/\X pv):cg E id ops Q st:=by
 obtain⟨P,T,w0,⟨F,G,l,L⟩⟩:=E;have h1:=GQ (E:=⟨P,T,w0,⟨F,G,false,L⟩⟩) hE hm (id:=id) (Q:=Q) pre tail (.inr rfl) hok hns (λ_=>Q .normal) X hX h (λ_ st' _ _ h1 h2=>⟨st',h1,h2⟩);intro a w hR;refine kL (h1 a w hR.loose) ?_
 rintro e a' w' ⟨st',hq,hR'⟩
 exact⟨st',hq,hR'.loose⟩
def mQ(ops:List Oper)(pre tail:List Nat):OT->List Nat->List Nat->List Nat->Bool
 | .leaf R,rem,G,_=>rem == []&&R==pre.reverse.map λi=>!G.contains i
 | .stop,rem,_,tried=>rem != []&&(uA ops pre tail rem).all λi=>tried.contains i
 | .child i D N sub next,rem,G,tried=>(uA ops pre tail rem).contains i && !tried.contains i&&(D==pre.reverse.map λk=>dV (bo ops i) k && !G.contains k)&&(N==pre.reverse.map λk=>!dV (bo ops i) k && !G.contains k) &&
  mQ ops pre tail sub (rem.filter (· != i)) (pick D pre.reverse++G) []&&mQ ops pre tail next rem G (i::tried)
def ab3(E:Env)(all:List Oper)(pre tail:List Nat)(st:ASt)(pv:PV)(n:Nat)(G rem:List Nat)(st2:ASt)(K:ASt->Prop)(i:Nat):Prop:=
 Aw E all (bo all i) { st2 with t:=pvT (pv.filter λp=>dV (bo all i) p.1 && !G.contains p.1)++st2.t } λst3=>
  (∀p∈pv.filter (λp => !dV (bo all i) p.1 && !G.contains p.1),gZ E all p.2.1 { st with t:=pvT pv++st.t,h:=st3.h } λv=>v=p.2.2) /\
  mh E all pre tail st pv n ((pv.filter λp=>dV (bo all i) p.1 && !G.contains p.1).map (·.1)++G) (rem.filter (· != i)) st3 K
theorem PD{all:List Oper}{pre tail rem:List Nat}{i:Nat}(h:i∈uA all pre tail rem):i∈rem:=by
 unfold uA at h
 split at h
 ·rename_i j hj
  simp at h;subst h;exact aeH hj
 ·exact(du.1 h).1
@[simp] theorem ahx {all:List Oper} {pre tail:List Nat}:uA all pre tail []=[]:=(rfl)
theorem yG{E:Env}{ops:List Oper}{n kb:Nat}{t:List (Nat×AV)}{h0:AH}{pre tail:List Nat}{pv:PV}(hix:ixs pv=pre.reverse)(hsome:∀p∈pv,p.2.1.dst.isSome=true){K:ASt->Prop} :
 ∀(T:OT) (rem G tried:List Nat) (st2:ASt) (m:Nat),rem.length<=m->mQ ops pre tail T rem G tried=true ->
 gF E ops n kb (pvT pv++t) (qA pv) K T st2 =
  ((rem=[]->K { st2 with t:=pvT (pv.filter λp=>!G.contains p.1)++st2.t })/\∀i∈uA ops pre tail rem,i∉tried->ab3 E ops pre tail ⟨n,kb,t,h0⟩ pv (m-1) G rem st2 K i)
 | .leaf R, rem, G, tried, st2, m, hm, hok => by
   simp only[mQ,aJ,lR]at hok;obtain⟨rfl,hR⟩:=hok;simp only[gF,svT];rw[Vm,Iu,hix,<-hR]
   have:pvT (pick R pv)=pick R ((qA pv).map λp=>(p.2.1,p.2.2)):=by
    exact Ss
   rw[this];simp
 | .stop, rem, G, tried, st2, m, hm, hok => by
   simp only[mQ,aJ,bne_iff_ne,dp,rR]at hok;obtain⟨h1,h2⟩:=hok;simp only[gF]
   apply propext
   constructor
   ·intro _
    exact⟨λh=>absurd h h1,λi hi ht=>absurd (h2 i hi) ht⟩
   ·intro _;trivial
 | .child i D N sub next, rem, G, tried, st2, m, hm, hok => by
   simp only[mQ,aJ,lR,dm,rR]at hok;obtain⟨⟨⟨⟨⟨hih,ht⟩,hD0⟩,hN0⟩,hs⟩,hnx⟩:=hok;have hi:=PD hih;have ht:i∉tried:=by simpa using ht
   have hD:pv.filter (λp=>dV (bo ops i) p.1 && !G.contains p.1)=pick D pv:=by rw[Vo,Iw,hix,<-hD0]
   have hN:pv.filter (λp=>!dV (bo ops i) p.1 && !G.contains p.1)=pick N pv:=by rw[Vn,Iv,hix,<-hN0]
   have e1:pvT (pick D pv)=pick D ((qA pv).map λp=>(p.2.1,p.2.2)):=by
    exact Ss
   have e2:(pick D pv).map (·.1)=pick D pre.reverse:=by rw[<-hix];unfold ixs;rw[r8]
   have hlen:=Be hi hm
   have hbr:ab3 E ops pre tail ⟨n,kb,t,h0⟩ pv (m-1) G rem st2 K i=(svT (pick D ((qA pv).map λp=>(p.2.1,p.2.2))++st2.t) λt'=>
    Aw E ops (bo ops i) { st2 with t:=t' } λst3=>Av (pick N (qA pv)) (λo v0=>gZ E ops o ⟨n,kb,pvT pv++t,st3.h⟩ λv=>v=v0)/\gF E ops n kb (pvT pv++t) (qA pv) K sub st3):=by
    unfold ab3;rw[hD,hN,e1,e2];simp only[svT];refine aK _ ?_
    funext st3
    have hsub:=yG (E:=E) (t:=t) (h0:=h0) (kb:=kb) (n:=n) hix hsome (K:=K) sub (rem.filter (· != i)) (pick D pre.reverse++G) [] st3 (m-1) hlen hs
    have hN2:mh E ops pre tail ⟨n,kb,t,h0⟩ pv (m-1) (pick D pre.reverse++G) (rem.filter (· != i)) st3 K=gF E ops n kb (pvT pv++t) (qA pv) K sub st3:=by
     rw[hsub]
     cases hm1:m-1 with
     | zero =>
       have h0':rem.filter (· != i)=[]:=aF aa;simp only[mh,h0'];simp
     | succ k =>
       simp only[mh]
       apply propext
       constructor
       ·rintro⟨h1,h2⟩
        exact⟨h1,λj hj _=>h2 j hj⟩
       ·rintro⟨h1,h2⟩
        exact⟨h1,λj hj=>h2 j hj ab⟩
    rw[hN2];refine aK (·/\_) ?_;have e3:pick N (qA pv)=qA (pick N pv):=by unfold qA;rw[r8]
    rw[e3,Wd]
    apply propext
    constructor
    ·intro hh p hp
     unfold qA at hp;rw[cM]at hp;obtain⟨q,hq,rfl⟩:=hp;exact hh q hq
    ·intro hh q hq
     exact hh _ (by unfold qA;exact uJ hq)
   have hnext:=yG (E:=E) (t:=t) (h0:=h0) (kb:=kb) (n:=n) hix hsome (K:=K) next rem G (i::tried) st2 m hm hnx;simp only[gF];rw[hnext,<-hbr]
   apply propext
   constructor
   ·rintro⟨h1,h2,h3⟩
    refine⟨h2,λj hj hjt=>?_⟩;by_cases hji:j=i
    ·subst hji;exact h1
    ·exact h3 j hj (by simp[hji,hjt])
   ·rintro⟨h2,h3⟩
    exact⟨h3 i hih ht,h2,λj hj hjt=>h3 j hj (λh=>hjt (aG _ h))⟩
theorem Ic{E:Env}(hE:EOk E)(hm:E.P.follows .mixedOrders=true){id:Nat}{ops:List Oper}{Q:Exit->ASt->Prop}{n kb:Nat}{t:List (Nat×AV)}{h:AH}(pre tail:List Nat)(T:OT)
 (hok:(qn ops pre tail&&mQ ops pre tail T tail [] []&&PQ n ops pre&&Region.noSelect ops.toArray)=true)
 (hx:rk E.tight ops n kb h (pre.map (bo ops)) t [] λvt lp=>svT ((lp.map λp=>(p.2.1,AV.any))++t) λtm=>gF E.tight ops n kb vt lp (Q .normal) T ⟨n,kb,tm,h⟩):cg E id ops Q ⟨n,kb,t,h⟩:=by
 simp only[aJ]at hok;obtain⟨⟨⟨h1,h2⟩,h3⟩,hns⟩:=hok
 have hd:∀i∈pre,∃d,(bo ops i).dst=some d/\d<n:=by
  intro i hi;have:=dp.1 h3 i hi;exact Rr
 refine If hE hm pre tail h1 hns (λpv=>mh E.tight ops pre tail ⟨n,kb,t,h⟩ pv tail.length [] tail ⟨n,kb,iC pv++t,h⟩ (Q .normal)) (λpv hpv=>hpv) ?_;rw[Oa (K':=λvt lp=>svT ((lp.map λp=>(p.2.1,AV.any))++t) λtm=>gF E.tight ops n kb vt lp (Q .normal) T ⟨n,kb,tm,h⟩) pre [] ab (λi hi=>by obtain⟨d,hd,_⟩:=hd i hi;rw[hd];rfl) (λpv' e1 e2=>?_)]
 ·exact hx
 ·have hix:ixs pv'=pre.reverse:=by rw[e1];simp[ixs]
  have hmem:∀p∈pv',p.1∈pre:=λp hp=>by
   have:p.1∈ixs pv':=uJ hp;rw[hix]at this;simpa using this
  have hsome:∀p∈pv',p.2.1.dst.isSome=true:=λp hp=>by
   obtain⟨d,hd,_⟩:=hd p.1 (hmem p hp);rw[e2 p hp,hd];rfl
  have hc:(∀p∈pv',∀d,p.2.1.dst=some d->d<n)=True:=by
   simp only[eq_iff_iff,iff_true];intro p hp d hpd;obtain⟨d',hd',hlt⟩:=hd p.1 (hmem p hp);rw[e2 p hp,hd']at hpd
   cases hpd
   exact hlt
  have hmask:iC pv'=(qA pv').map λp=>(p.2.1,AV.any):=by
   have:∀l:PV,(∀p∈l,p.2.1.dst.isSome=true)->iC l=(qA l).map λp=>(p.2.1,AV.any):=by
    intro l
    induction l with
    |nil=>intro _;rfl
    | cons p l ih =>
      intro hl;have g1:=hl p (aP ..);have g2:=ih (λq hq=>hl q (aG _ hq));obtain⟨i,o,v⟩:=p
      cases hdo:o.dst with
      |none=>simp[hdo]at g1
      | some d =>
        unfold iC at g2⊢;simp only[List.filterMap_cons,hdo,eg,g2,qA,bK,nD]
   exact this pv' hsome
  simp only[hc,true_and,svT];have key:=yG (E:=E.tight) (t:=t) (h0:=h) (kb:=kb) (n:=n) hix hsome (K:=Q .normal) T tail [] [] ⟨n,kb,iC pv'++t,h⟩ tail.length (aC _) h2;rw[<-hmask,key]
  cases hl:tail.length with
  | zero =>
    have h0':tail=[]:=aF hl;subst h0';simp[mh]
  | succ k =>
    simp only[mh,Nat.add_one_sub_one]
    apply propext
    constructor
    ·rintro⟨a1,a2⟩
     exact⟨a1,λj hj _=>a2 j hj⟩
    ·rintro⟨a1,a2⟩
     exact⟨a1,λj hj=>a2 j hj ab⟩
section rules
variable {E:Env}{all:List Oper}{n kb:Nat}{vt:List (Nat×AV)}{pv:List (Oper×Nat×AV)}{K:ASt->Prop}{st:ASt}{R D N:List Bool}{i:Nat}{sub next:OT}
theorem acb:gF E all n kb vt pv K (.child i D N sub .stop) st=svT (pick D (pv.map λp=>(p.2.1,p.2.2))++st.t) λt'=>
 Aw E all (bo all i) { st with t:=t' } λst3=>Av (pick N pv) (λo v0=>gZ E all o ⟨n,kb,vt,st3.h⟩ λv=>v=v0)/\gF E all n kb vt pv K sub st3:=by
 simp only[gF,and_true]
end rules
section rules
variable {E:Env}{all:List Oper}{st:ASt}{K:ASt->Prop}{dd:Option Nat}{op:Op}{ty:TypeId}{p:String}{af:Array Edge}
theorem aeE:Aw E all ⟨dd,op,ty,p,af,none⟩ st K=aOp E ⟨dd,op,ty,p,af,none⟩ st K:=(rfl)
theorem aeD{j:Nat}{b:Bool}:Aw E all ⟨dd,op,ty,p,af,some (j,b)⟩ st K=LR (nz all j) λs=>C3 (cm st.t s) b (ph (aOp E ⟨dd,op,ty,p,af,some (j,b)⟩ st K)) (ph (cG st dd .un K)):=by
 simp only[Aw,LR,C3]
 cases nz all j<;>rfl
end rules
attribute [simp ↓] aeE aeD
theorem Ie{E:Env}(hE:EOk E)(hm:E.P.follows .mixedOrders=true){id:Nat}{ops:List Oper}{Q:Exit->ASt->Prop}{n kb:Nat}{t:List (Nat×AV)}{h:AH}(pre tail:List Nat)(T:OT)
 (hok:(qn ops pre tail&&mQ ops pre tail T tail [] []&&PQ n ops pre&&Region.noSelect ops.toArray)=true)
 (hx:rk E.tight ops n kb h (pre.map (bo ops)) t [] λvt lp=>svT ((lp.map λp=>(p.2.1,AV.any))++t) λtm=>gF E.tight ops n kb vt lp (Q .normal) T ⟨n,kb,tm,h⟩):cg E id ops Q ⟨n,kb,t,h⟩:=
 Ic hE hm pre tail T hok hx
open Go.RowKit
def sLt(s u:ByteArray):Prop:=Op.bytesLess s.toList u.toList=true
theorem akz(b:Bool):b=dc (b=true):=by cases b<;>simp[dc]
section
variable {tb:Prop}{F:AV->Prop}{s u:ByteArray}
theorem aiw:kg tb .lss (.string s) (.string u) F=F (.v (.bool (dc (sLt s u)))):=by
 simp only[kg];rw[akz (Op.bytesLess s.toList u.toList)];rfl
theorem aix:kg tb .geq (.string s) (.string u) F=F (.v (.bool (!dc (sLt s u)))):=by
 simp only[kg];rw[akz (Op.bytesLess s.toList u.toList)];rfl
end
attribute [simp ↓] aiw aix
open Go.RowKit
def bl:Nat->Nat->List Bool
 |0,_=>[]
 |n+1,x=>(x % 2==1)::bl n (x / 2)
theorem amG{x:Nat}:bl 0 x=[]:=rfl
theorem amH{n x:Nat}:bl (n+1) x=(x % 2==1)::bl n (x / 2):=rfl
def OT.c(n i a b:Nat)(s r:OT):OT:=.child i (bl n a) (bl n b) s r
def OT.l(n a:Nat):OT:=.leaf (bl n a)
def OT.s:OT:=.stop
section rules
variable {E:Env}{all:List Oper}{n kb m:Nat}{vt:List (Nat×AV)}{pv:List (Oper×Nat×AV)}{K:ASt->Prop}{st:ASt}{R D N i:Nat}{sub next:OT}
theorem Trl:gF E all n kb vt pv K (.l m R) st=svT (pick (bl m R) (pv.map λp=>(p.2.1,p.2.2))++st.t) λt'=>K { st with t:=t' }:=(rfl)
theorem Trs:gF E all n kb vt pv K (.c m i D N sub .s) st=svT (pick (bl m D) (pv.map λp=>(p.2.1,p.2.2))++st.t) λt'=>
 Aw E all (bo all i) { st with t:=t' } λst3=>Av (pick (bl m N) pv) (λo v0=>gZ E all o ⟨n,kb,vt,st3.h⟩ λv=>v=v0)/\gF E all n kb vt pv K sub st3:=acb
theorem Trc:gF E all n kb vt pv K (.c m i D N sub next) st=((svT (pick (bl m D) (pv.map λp=>(p.2.1,p.2.2))++st.t) λt'=>
 Aw E all (bo all i) { st with t:=t' } λst3=>Av (pick (bl m N) pv) (λo v0=>gZ E all o ⟨n,kb,vt,st3.h⟩ λv=>v=v0)/\gF E all n kb vt pv K sub st3)/\gF E all n kb vt pv K next st):=(rfl)
end rules
attribute [simp ↓] Trl Trs
attribute [simp] amG amH
theorem drw{E:Env}(hE:EOk E)(hm:E.P.follows .mixedOrders=true){id:Nat}{ops:List Oper}{Q:Exit->ASt->Prop}{n kb:Nat}{t:List (Nat×AV)}{h:AH}(pre tail:List Nat)(T:OT)
 (hx:rk E.tight ops n kb h (pre.map (bo ops)) t [] λvt lp=>svT ((lp.map λp=>(p.2.1,AV.any))++t) λtm=>gF E.tight ops n kb vt lp (Q .normal) T ⟨n,kb,tm,h⟩)
 (hok:(qn ops pre tail&&mQ ops pre tail T tail [] []&&PQ n ops pre&&Region.noSelect ops.toArray)=true:=by kernel_rfl):cg E id ops Q ⟨n,kb,t,h⟩:=
 Ie hE hm pre tail T hok hx
theorem pci{P:Program}{T:Nat->Option TI}(hT:∀t ti,T t=some ti->TIok P t ti){f:Nat}{fn:Func}{c:Code}(hf:P.funcs[f]? = some fn)
 {n:Nat}{rs:List ResultVar}{args:List VD}{res:RR}
 (h:∀w0 base,jA ⟨P,T,w0,⟨base,base,false,λ_=>True⟩⟩ c (As ⟨P,T,w0,⟨base,base,false,λ_=>True⟩⟩ rs res) { n:=n,kb:=0,t:=rL 0 args,h:=[] })
 (hname : (fn.name == "runtime.NumGoroutine") = false := by kernel_rfl) (hb : fn.body = some c := by exact rfl) (hn : fn.ntmps = n := by exact rfl) (hrs : fn.results = ⟨rs⟩ := by exact rfl) (ha : args.length ≤ n := by exact aj rfl) : ar P f args res :=
 ar.intro' hT hf hname hb hn hrs ha h
theorem inl{P:Program}{T:Nat->Option TI}(hT:∀t ti,T t=some ti->TIok P t ti){w0:World}{base:Bs}{f:Nat}{fn:Func}{c:Code}(hf:P.funcs[f]? = some fn)
 {n:Nat}{rs:List ResultVar}{args:List AV}(kb':Nat) {st:ASt}{dst:Option Nat}{K:ASt->Prop}
 (h:∀w1 F,jA ⟨P,T,w1,⟨F,base.G,base.loose,base.L⟩⟩ c (Ps ⟨P,T,w1,⟨F,base.G,base.loose,base.L⟩⟩ rs λav h'=>cG ⟨st.n,st.kb,st.t,h'⟩ dst av K) ⟨n,kb',Bv 0 args,st.h⟩)
 (hname : (fn.name == "runtime.NumGoroutine") = false := by kernel_rfl) (hb : fn.body = some c := by exact rfl) (hnt : fn.ntmps = n := by exact rfl) (hrs : fn.results = ⟨rs⟩ := by exact rfl) (hn : args.length ≤ n := by exact aj rfl)
 (hL:base.L=λ_=>True:=by exact rfl):ae ⟨P,T,w0,base⟩ f args st dst K:=
 Me hT hf hname hb hnt hrs hn kb' h hL
end Go.AM
