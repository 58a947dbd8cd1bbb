import Derived.Test.YtmfcmlldnjffeaaMF
import Derived.Test.YtmfcmlldnjffeaaME
namespace Go.AM
open Go.RowKit
def fY (E:Env) (all:List Oper) (o:Oper) (st:ASt) (K:ASt->Prop):Prop:=
 match o.guard with
 |none=>aOp E o st K
 | some (j, want) => match bY all j with
   | some d => match al st.t d with
     | .v (.bool b)=>(b=want->aOp E o st K)/\(b = !want->ax st o.dst .un K)
     | .un=>ax st o.dst .un K
     |_=>False
   |none=>False
theorem pe {E:Env} {all:List Oper} {o:Oper} {st:ASt} {K:ASt->Prop} (h:o.guard=none):fY E all o st K=aOp E o st K:=by unfold fY;rw [h]
theorem pf {E:Env} (hE:EOk E) {ops:List Oper} {st:ASt} {a:Act} {w:World} (hR:Rep E.w0 E.base st a w) {o:Oper} {K:ASt->Prop} (h:fY E ops o st K) {next:Act->World->Prop} {Q:Exit->Act->World->Prop}
 (hn:∀ r w',dT E.w0 E.base st a w o.dst r w' K->next (a.put o.dst r) w') :
 if Region.wanted o (yielded ops.toArray a.tmps) then o.wp E.P a w next Q\/(o.asks E.P a w/\LetsOut Q) else next (a.put o.dst undef) w:=by
 have skip:ax st o.dst .un K->next (a.put o.dst undef) w:=by
  intro hp;obtain ⟨h3,h4⟩:=hR.put .un hp;exact hn _ _ ⟨_,_,h3,h4,λ_=>Tr.refl _ _,.un⟩
 unfold fY at h
 split at h
 ·rename_i hg
  rw [if_pos (by simp [Region.wanted,hg])];exact .inl (eF hE hR h hn)
 ·rename_i j want hg
  split at h
  ·rename_i d hd
   have hd':(ops.toArray[j]?).bind (·.dst)=some d:=by simpa [bY] using hd
   split at h
   ·rename_i b hb
    have hv:=hR.tmp d;rw [hb] at hv;generalize hu:a.tmps.getD d undef=u at hv
    cases hv
    have hy:yielded ops.toArray a.tmps j=some b:=by simp only [yielded,hd',Option.bind_some,getD_some hu]
    by_cases hbw:b=want
    ·rw [if_pos (by simp [Region.wanted,hg,hy,hbw])]
     exact .inl (eF hE hR (h.1 hbw) hn)
    ·rw [if_neg (by simp [Region.wanted,hg,hy,hbw])]
     exact skip (h.2 (by cases b<;>cases want<;>simp_all))
   ·rename_i hb
    have hv:=hR.tmp d;rw [hb] at hv;generalize hu:a.tmps.getD d undef=u at hv
    cases hv
    have hy:yielded ops.toArray a.tmps j=none:=by
     simp only [yielded,hd',Option.bind_some];simp only [Array.getD_eq_getD_getElem?] at hu
     cases hx:a.tmps[d]? with
     |none=>rfl
     |some v=>rw [hx] at hu;simp at hu;subst hu;rfl
    rw [if_neg (by simp [Region.wanted,hg,hy])];exact skip h
   ·exact h.elim
  ·exact h.elim
def cW (ops:List Oper) (pre tail:List Nat):Bool:=
 (List.range ops.length).all (λi=>pre.contains i || tail.contains i) &&
 pre.all (λi=>decide (i<ops.length) && !tail.contains i) && tail.all (λi=>decide (i<ops.length)) && c7 pre && c7 tail &&
 (List.range ops.length).all (λi=>(ah ops i).after.all λe=>!Region.binds .any e || decide (e.on<i)) &&
 (List.range ops.length).all (λi=>(List.range ops.length).all λk=>i == k || (ah ops i).dst == none || (ah ops i).dst != (ah ops k).dst) &&
 pre.all (λi=>(ah ops i).dst.isSome && (bp (ah ops i)++dp ops (ah ops i)).all λs=>(List.range ops.length).all λk=>
  (ah ops k).dst != some s || (if pre.contains k then aq (ah ops i) k else aq (ah ops k) i)) &&
 tail.all (λt=>(bp (ah ops t)).all λs=>pre.all λk=>(ah ops k).dst != some s || aq (ah ops t) k)
structure DrawOkg (ops:List Oper) (pre tail:List Nat):Prop where
 all:∀ i,i<ops.length->i∈pre\/i∈tail
 hpre:∀ i∈pre,i<ops.length/\i ∉ tail
 htail:∀ i∈tail,i<ops.length
 ipre:c7 pre=true
 itail:c7 tail=true
 back:∀ i,i<ops.length->∀ e∈(ah ops i).after,Region.binds .any e=true->e.on<i
 dst:∀ i,i<ops.length->∀ k,k<ops.length->∀ d,(ah ops i).dst=some d->(ah ops k).dst=some d->i=k
 has:∀ i∈pre,∃ d,(ah ops i).dst=some d
 use:∀ i∈pre,∀ s,s∈bp (ah ops i)\/s∈dp ops (ah ops i)->∀ k,k<ops.length->(ah ops k).dst=some s->(k∈pre/\aq (ah ops i) k=true)\/(k ∉ pre/\aq (ah ops k) i=true)
 tuse:∀ t∈tail,∀ s∈bp (ah ops t),∀ k∈pre,(ah ops k).dst=some s->aq (ah ops t) k=true
theorem ii {ops:List Oper} {pre tail:List Nat} (h:cW ops pre tail=true):DrawOkg ops pre tail:=by
 simp only [cW,Bool.and_eq_true,List.all_eq_true,List.mem_range,Bool.or_eq_true,decide_eq_true_eq,List.contains_iff_mem,Array.all_eq_true',Bool.not_eq_true',List.mem_append,beq_iff_eq,bne_iff_ne,Option.isSome_iff_exists] at h;obtain ⟨⟨⟨⟨⟨⟨⟨⟨h1,h2⟩,h3⟩,h4⟩,h5⟩,h6⟩,h7⟩,h8⟩,h9⟩:=h;refine ⟨h1,λi hi=>⟨(h2 i hi).1,λht=>by have:=(h2 i hi).2;simp [ht] at this⟩,h3,h4,h5,λi hi e he hb=>?_,λi hi k hk d hd hd'=>?_,λi hi=>(h8 i hi).1,λi hi s hs k hk hd=>?_,λt ht s hs k hk hd=>?_⟩
 ·rcases h6 i hi e he with h|h
  ·simp [hb] at h
  ·exact h
 ·rcases h7 i hi k hk with (h|h)|h
  ·exact h
  ·rw [hd] at h;cases h
  ·rw [hd,hd'] at h;exact absurd rfl h
 ·rcases (h8 i hi).2 s hs k hk with h|h
  ·exact absurd hd h
  ·split at h
   ·rename_i hp;exact .inl ⟨hp,h⟩
   ·rename_i hp;exact .inr ⟨hp,h⟩
 ·rcases h9 t ht s hs k hk with h|h
  ·exact absurd hd h
  ·exact h
theorem kR:∀ (l:List Nat),c7 l=true->∀ a∈l.head?,∀ b∈l.tail,a<b
 | [],_,a,ha,_,_=>by simp at ha
 | [_],_,a,_,b,hb=>by simp at hb
 | a :: b :: l, h, x, hx, y, hy => by
   simp only [c7,Bool.and_eq_true,decide_eq_true_eq] at h;simp at hx;subst hx;rcases List.mem_cons.1 hy with rfl|hy
   ·exact h.1
   ·exact Nat.lt_trans h.1 (kR (b::l) h.2 b (by simp) y hy)
theorem me {a:Nat} {l:List Nat} (h:c7 (a::l)=true):c7 l=true:=by
 cases l with
 |nil=>rfl
 |cons b l=>simp only [c7,Bool.and_eq_true] at h;exact h.2
theorem hJ {pv:PV} {s:Nat} {v:AV}:(s,v)∈pvT pv ↔ ∃ p∈pv,p.2.1.dst=some s/\p.2.2=v:=by
 unfold pvT;rw [List.mem_filterMap]
 constructor
 ·rintro ⟨p,hp,h⟩
  rw [Option.map_eq_some_iff] at h;obtain ⟨d,hd,he⟩:=h
  cases he
  exact ⟨p,hp,hd,rfl⟩
 ·rintro ⟨p,hp,hd,rfl⟩
  exact ⟨p,hp,by rw [hd];rfl⟩
section
variable {ops:List Oper} {pre tail:List Nat} (D:DrawOkg ops pre tail) {pv:PV} (hpv:PvOk ops pre pv)
include D hpv
theorem jI {p q:Nat×Oper×AV} (hp:p∈pv) (hq:q∈pv) {d:Nat} (h1:p.2.1.dst=some d) (h2:q.2.1.dst=some d):p=q:=by
 obtain ⟨a1,a2⟩:=hpv.op p hp;obtain ⟨b1,b2⟩:=hpv.op q hq;rw [a2] at h1;rw [b2] at h2;exact hpv.one p hp q hq (D.dst _ (D.hpre _ a1).1 _ (D.hpre _ b1).1 d h1 h2)
theorem kW {p:Nat×Oper×AV} (hp:p∈pv) {d:Nat} (hd:p.2.1.dst=some d) (t:List (Nat×AV)):al (pvT pv++t) d=p.2.2:=by
 refine bf (hJ.2 ⟨p,hp,hd,rfl⟩) (λq hq he=>?_);obtain ⟨k,v⟩:=q;obtain ⟨q',hq',hd',rfl⟩:=hJ.1 hq;simp only at he;subst he;rw [jI D hpv hq' hp hd' hd]
end
theorem dn {pv:PV} {s:Nat} (h:∀ p∈pv,p.2.1.dst≠some s) (t:List (Nat×AV)):al (pvT pv++t) s=al t s:=by
 refine bH (λq hq he=>?_);obtain ⟨k,v⟩:=q;obtain ⟨p,hp,hd,-⟩:=hJ.1 hq;simp only at he;subst he;exact h p hp hd
theorem iA {E:Env} {ops:List Oper} {pre tail:List Nat} (D:DrawOkg ops pre tail) {st:ASt}:∀ (l done:List Nat) (pv:PV) {K:PV -> Prop},pre=done++l -> PvOk ops pre pv -> (∀ p ∈ pv,p.1 ∈ done) -> (∀ i ∈ done,∃ p ∈ pv,p.1=i) ->
 (∀ p ∈ pv,aP E ops p.2.1 { st with t := pvT pv++st.t } λv => v=p.2.2) -> fc E ops st pv (l.map λi => (i,ah ops i)) K ->
 ∃ pv',K pv'/\PvOk ops pre pv'/\(∀ i∈pre,∃ p∈pv',p.1=i)/\∀ p∈pv',aP E ops p.2.1 { st with t:=pvT pv'++st.t } λv=>v=p.2.2
 | [],done,pv,K,he,hpv,hdone,hall,hval,h=>⟨pv,h,hpv,λi hi=>hall i (by simpa [he] using hi),hval⟩
 | i :: l, done, pv, K, he, hpv, hdone, hall, hval, h => by
   simp only [List.map_cons,fc] at h;obtain ⟨v,h1,h2⟩:=jx E ops _ _ _ h;have hip:i∈pre:=by rw [he];simp
   have hlt:∀ j∈done,j<i:=by
    have hinc:=D.ipre;rw [he] at hinc
    clear h h1 h2 hval hall hdone hpv he
    induction done with
    |nil=>simp
    | cons a done ih =>
      intro j hj;rcases List.mem_cons.1 hj with rfl|hj
      ·exact kR _ hinc j (by simp) i (by simp)
      ·exact ih (me hinc) j hj
   have hpv':PvOk ops pre ((i,ah ops i,v)::pv):=by
    refine ⟨λp hp=>?_,λp hp q hq heq=>?_⟩
    ·rcases List.mem_cons.1 hp with rfl|hp
     ·exact ⟨hip,rfl⟩
     ·exact hpv.op p hp
    ·rcases List.mem_cons.1 hp with rfl|hp<;>rcases List.mem_cons.1 hq with rfl|hq
     ·rfl
     ·have:=hlt _ (hdone q hq);simp only at heq;omega
     ·have:=hlt _ (hdone p hp);simp only at heq;omega
     ·exact hpv.one p hp q hq heq
   have key:∀ p:Nat×Oper×AV,p.1 ∈ pre -> p.2.1=ah ops p.1 -> p.1 <= i -> aP E ops p.2.1 { st with t := pvT pv++st.t } (λv => v=p.2.2) ->
    aP E ops p.2.1 { st with t:=pvT ((i,ah ops i,v)::pv)++st.t } (λv=>v=p.2.2):=by
    intro p hp1 hp2 hple hp;refine dg (st:={ st with t:=pvT pv++st.t }) (λs hs=>?_) rfl hp;obtain ⟨d,hd⟩:=D.has i hip
    have hne:d≠s:=by
     rintro rfl
     rw [hp2] at hs;rcases D.use _ hp1 d hs i (D.hpre i hip).1 hd with ⟨-,hdep⟩|⟨hn,-⟩
     ·simp only [aq,Array.any_eq_true',Bool.and_eq_true,beq_iff_eq] at hdep
      obtain ⟨e,he1,he2,he3⟩:=hdep;have:=D.back _ (D.hpre _ hp1).1 e he1 he2;omega
     ·exact hn hip
    show al (pvT ((i,ah ops i,v)::pv)++st.t) s=al (pvT pv++st.t) s
    have:pvT ((i,ah ops i,v)::pv)=(d,v)::pvT pv:=by simp [pvT,hd]
    rw [this];simp only [List.cons_append,al];rw [if_neg (λh=>hne h.symm)]
   refine iA D l (done++[i]) ((i,ah ops i,v)::pv) (by simp [he]) hpv' (λp hp=>?_) (λj hj=>?_) (λp hp=>?_) h1
   ·rcases List.mem_cons.1 hp with rfl|hp
    ·simp
    ·simp [hdone p hp]
   ·rcases List.mem_append.1 hj with hj|hj
    ·obtain ⟨p,hp,rfl⟩:=hall j hj
     exact ⟨p,List.mem_cons_of_mem _ hp,rfl⟩
    ·simp at hj;subst hj;exact ⟨_,List.mem_cons_self ..,rfl⟩
   ·rcases List.mem_cons.1 hp with rfl|hp
    ·exact key _ hip rfl (Nat.le_refl _) h2
    ·exact key p (hpv.op p hp).1 (hpv.op p hp).2 (Nat.le_of_lt (hlt _ (hdone p hp))) (hval p hp)
theorem fe {w0:World} {base:Bs} {ops:List Oper} {pre tail:List Nat} (D:DrawOkg ops pre tail) {pv:PV} (hpv:PvOk ops pre pv) {st:ASt} {a:Act} {w:World} (hR:Rep w0 base st a w)
 (hv:∀ p∈pv,∀ d,p.2.1.dst=some d->VRel w st.h.M p.2.2 (a.tmps.getD d undef)):Rep w0 base { st with t:=pvT pv++st.t } a w:=by
 refine ⟨hR.dfr,hR.size,λs=>?_,hR.heap,hR.below,hR.base_le⟩;by_cases h:∃ p∈pv,p.2.1.dst=some s
 ·obtain ⟨p,hp,hd⟩:=h
  show VRel w st.h.M (al (pvT pv++st.t) s) _
  rw [kW D hpv hp hd];exact hv p hp s hd
 ·show VRel w st.h.M (al (pvT pv++st.t) s) _
  rw [dn (λp hp hd=>h ⟨p,hp,hd⟩)];exact hR.tmp s
def bR (E:Env) (all:List Oper) (pre tail:List Nat) (st:ASt) (pv:PV):Nat->List Nat->List Nat->ASt->(ASt->Prop)->Prop
 |0,G,_,st2,K=>K { st2 with t:=pvT (pv.filter λp=>!G.contains p.1)++st2.t }
 | n + 1, G, rem, st2, K => (rem = [] -> K { st2 with t := pvT (pv.filter λp => !G.contains p.1) ++ st2.t }) /\
   ∀ i ∈ dR all pre tail rem, fY E all (ah all i) { st2 with t := pvT (pv.filter λp => aq (ah all i) p.1 && !G.contains p.1) ++ st2.t } λst3 =>
     (∀ p ∈ pv.filter (λp => !aq (ah all i) p.1 && !G.contains p.1),aP E all p.2.1 { st with t := pvT pv++st.t,h := st3.h } λv => v=p.2.2) /\
     bR E all pre tail st pv n ((pv.filter λp=>aq (ah all i) p.1 && !G.contains p.1).map (·.1)++G) (rem.filter (· != i)) st3 K
structure DInvLg (E:Env) (ops:List Oper) (pre tail:List Nat) (st:ASt) (pv:PV) (K:ASt->Prop) (L:Array Bool) (a:Act) (w:World) (G done rem:List Nat) (m:Nat) (st2:ASt):Prop where
 tm:∀ t∈tail,t∈done\/t∈rem
 rs:∀ t∈rem,t∈tail
 nl:rem.length<=m
 don:∀ t∈done,on L t=true
 roff:∀ t∈rem,on L t=false
 obl:bR E ops pre tail st pv m G rem st2 K
 rep:Rep E.w0 E.base st2 a w
 n:st2.n=st.n
 g:∀ i∈G,on L i=true
 val:∀ p∈pv,on L p.1=true->∀ d,p.2.1.dst=some d->VRel w st2.h.M p.2.2 (a.tmps.getD d undef)
 pend:∀ p∈pv,p.1 ∉ G->aP E ops p.2.1 { st with t:=pvT pv++st.t,h:=st2.h } λv=>v=p.2.2
 mask:∀ p∈pv,p.1 ∉ G->∀ d,p.2.1.dst=some d->al st2.t d=.any
 frame:∀ s,(∀ k,k<ops.length->on L k=true->(ah ops k).dst≠some s)->VRel w st2.h.M (al st.t s) (a.tmps.getD s undef)
 edges:∀ t∈done,∀ i,aq (ah ops t) i=true->on L i=true
theorem jX {E:Env} (hE:EOk E) {ops:List Oper} {pre tail:List Nat} (D:DrawOkg ops pre tail) {st:ASt} {pv:PV} (hpv:PvOk ops pre pv) (hall:∀ i∈pre,∃ p∈pv,p.1=i) (hdn:∀ p∈pv,∀ d,p.2.1.dst=some d->d<st.n) (hlo:tail=[]\/E.base.loose=false) {K:ASt->Prop} {Qc:Exit->Act->World->Prop}
 (hK:∀ st' a' w',K st'->Rep E.w0 E.base st' a' w'->Qc .normal a' w') (hQp:∀ c a w,¬ Qc (.panic c) a w) (hns:Region.noSelect ops.toArray=true) :
 ∀ (fuel:Nat) (L:Array Bool) (a:Act) (w:World) (G done rem:List Nat) (m:Nat) (st2:ASt),L.size=ops.length -> ((List.range ops.length).filter λi => !on L i).length <= fuel -> DInvLg E ops pre tail st pv K L a w G done rem m st2 ->
 wpAny E.P .any ops.toArray Qc fuel L a w:=by
 have opget:∀ i,i<ops.length->ops.toArray[i]? = some (ah ops i):=λi hi=>by simp [ah,hi]
 have fin:∀ (L:Array Bool) (a:Act) (w:World) (G done rem:List Nat) (m:Nat) (st2:ASt),L.size=ops.length->DInvLg E ops pre tail st pv K L a w G done rem m st2->Region.ready .any ops.toArray L=[]->Qc .normal a w:=by
  intro L a w G done rem m st2 hL I hr
  have hon:∀ n i,i<n->i<ops.length->on L i=true:=by
   intro n
   induction n with
   |zero=>intro i h;omega
   | succ n ih =>
     intro i hi hlt
     cases ho:on L i with
     |true=>rfl
     | false =>
       exfalso
       have:i∈Region.ready .any ops.toArray L:=(cu hL).2 ⟨hlt,ho,λk hk=>by
        simp only [aq,Array.any_eq_true',Bool.and_eq_true,beq_iff_eq] at hk;obtain ⟨e,he,hb,rfl⟩:=hk;have:=D.back i hlt e he hb;exact ih e.on (by omega) (by omega)⟩
       rw [hr] at this;simp at this
  have hrem:rem=[]:=by
   cases hq:rem with
   |nil=>rfl
   | cons t r =>
     have ht:t∈rem:=by rw [hq];simp
     have h1:=I.roff t ht;have h2:=hon (t+1) t (by omega) (D.htail t (I.rs t ht));rw [h1] at h2;simp at h2
  have hobl:K { st2 with t:=pvT (pv.filter λp=>!G.contains p.1)++st2.t }:=by
   have hobl:=I.obl
   cases m with
   |zero=>exact hobl
   |succ m=>exact hobl.1 hrem
  refine hK _ a w hobl (fe D (hpv.filter _) I.rep (λp hp d hd=>?_));have hp':=(List.mem_filter.1 hp).1;have hlt:=(D.hpre _ (hpv.op p hp').1).1;exact I.val p hp' (hon (p.1+1) p.1 (by omega) hlt) d hd
 intro fuel
 induction fuel with
 | zero =>
   intro L a w G done rem m st2 hL hf I
   have hr:Region.ready .any ops.toArray L=[]:=by
    cases hq:Region.ready .any ops.toArray L with
    |nil=>rfl
    | cons i l =>
      obtain ⟨h1,h2,-⟩:=(cu hL).1 (show i∈Region.ready .any ops.toArray L by rw [hq];simp);have:i∈(List.range ops.length).filter λi=>!on L i:=List.mem_filter.2 ⟨List.mem_range.2 h1,by simp [h2]⟩
      have:=List.length_pos_of_mem this;omega
   exact ⟨hr,fin L a w G done rem m st2 hL I hr⟩
 | succ fuel ih =>
   intro L a w G done rem m st2 hL hf I
   have stepT:∀ (i:Nat),i<ops.length->on L i=false->(∀ k,aq (ah ops i) k=true->on L k=true)->i∈rem->i ∉ pre->i∈tail->∀ m',m=m'+1->∀ (r:Value) (w':World),
    dT E.w0 E.base { st2 with t:=pvT (pv.filter λp=>aq (ah ops i) p.1 && !G.contains p.1)++st2.t } a w (ah ops i).dst r w' (λst3=>
     (∀ p ∈ pv.filter (λp => !aq (ah ops i) p.1 && !G.contains p.1),aP E ops p.2.1 { st with t := pvT pv++st.t,h := st3.h } λv => v=p.2.2) /\
     bR E ops pre tail st pv m' ((pv.filter λp => aq (ah ops i) p.1 && !G.contains p.1).map (·.1)++G) (rem.filter (· != i)) st3 K) ->
    wpAny E.P .any ops.toArray Qc fuel (L.setIfInBounds i true) (a.put (ah ops i).dst r) w':=by
    intro i hilt hioff hidep hit hip hitail m' hm' r w' hs;subst hm';have hL':(L.setIfInBounds i true).size=ops.length:=by simp [hL]
    have hset:∀ j,on (L.setIfInBounds i true) j=if j=i then true else on L j:=λj=>lT (by omega)
    have hmono:∀ j,on L j=true->on (L.setIfInBounds i true) j=true:=λj hj=>by rw [hset];split<;>simp [hj]
    have hf':((List.range ops.length).filter λj=>!on (L.setIfInBounds i true) j).length<=fuel:=by
     have:=fU (l:=List.range ops.length) (p:=λj=>!on L j) (q:=λj=>!on (L.setIfInBounds i true) j) (λx _ hx=>by
      simp only [Bool.not_eq_true'] at hx ⊢;rw [hset] at hx
      split at hx
      ·simp at hx
      ·exact hx) (List.mem_range.2 hilt) (by simp [hioff]) (by simp [hset])
     omega
    obtain ⟨av,h',⟨hpend,hobl'⟩,hrep,htr,hvr⟩:=hs;have htr:=htr (hlo.resolve_left (λh0=>by rw [h0] at hitail;simp at hitail));have hh:∀ s2:ASt,(s2.aft (ah ops i).dst av h').h=h':=λs2=>by unfold ASt.aft;split<;>rfl
    have hnn:∀ s2:ASt,(s2.aft (ah ops i).dst av h').n=s2.n:=λs2=>by unfold ASt.aft;split<;>rfl
    have haft:∀ (s2:ASt) (s:Nat),(ah ops i).dst≠some s->al (s2.aft (ah ops i).dst av h').t s=al s2.t s:=by
     intro s2 s hne;unfold ASt.aft
     split
     ·rfl
     ·rename_i d hd
      simp only [al];rw [if_neg (λhe=>hne (by rw [hd,he]))]
    have hdp:∀ q∈pv,∀ d,q.2.1.dst=some d->(ah ops i).dst≠some d:=by
     intro q hq d hd he;obtain ⟨q1,q2⟩:=hpv.op q hq;rw [q2] at hd;have:=D.dst _ (D.hpre _ q1).1 i hilt d hd he;exact hip (this ▸ q1)
    refine ih _ _ _ _ (done++[i]) (rem.filter (· != i)) m' _ hL' hf' ⟨λt ht=>?_,λt ht=>I.rs t (List.mem_filter.1 ht).1,?_,λt ht=>?_,λt ht=>?_,hobl',hrep,(hnn _).trans I.n,λj hj=>?_,λq hq hon d hd=>?_,λq hq hqG=>?_,λq hq hqG d hd=>?_,λs hs=>?_,λt ht j hj=>?_⟩
    ·rcases I.tm t ht with h|h
     ·exact .inl (List.mem_append_left _ h)
     ·by_cases he:t=i
      ·exact .inl (by rw [he];simp)
      ·exact .inr (List.mem_filter.2 ⟨h,by simpa using he⟩)
    ·have h1:(rem.filter (· != i)).length<rem.length:=by
      rw [List.length_filter_lt_length_iff_exists];exact ⟨i,hit,by simp⟩
     have:=I.nl;omega
    ·rw [hset]
     rcases List.mem_append.1 ht with ht|ht
     ·split
      ·rfl
      ·exact I.don t ht
     ·simp at ht;rw [if_pos ht]
    ·rw [hset]
     have ht2:=List.mem_filter.1 ht;rw [if_neg (by simpa using ht2.2)];exact I.roff t ht2.1
    ·rcases List.mem_append.1 hj with hj|hj
     ·obtain ⟨q,hq,rfl⟩:=List.mem_map.1 hj
      have hq2:=(List.mem_filter.1 hq).2;simp only [Bool.and_eq_true] at hq2;exact hmono _ (hidep _ hq2.1)
     ·exact hmono j (I.g j hj)
    ·rw [hh,da (hdp q hq d hd)]
     rw [hset] at hon
     split at hon
     ·rename_i he
      exact absurd (he ▸ (hpv.op q hq).1) hip
     ·exact (I.val q hq hon d hd).tr htr
    ·have:=hpend q (List.mem_filter.2 ⟨hq,by
      simp only [Bool.and_eq_true,Bool.not_eq_true'];refine ⟨?_,?_⟩
      ·cases hdep:aq (ah ops i) q.1 with
       |false=>rfl
       | true =>
         exfalso
         by_cases hg:q.1∈G
         ·exact hqG (List.mem_append.2 (.inr hg))
         ·exact hqG (List.mem_append.2 (.inl (List.mem_map.2 ⟨q,List.mem_filter.2 ⟨hq,by simp [hdep,hg]⟩,rfl⟩)))
      ·cases hg:G.contains q.1 with
       |false=>rfl
       |true=>exact absurd (List.mem_append.2 (.inr (by simpa using hg))) hqG⟩)
     exact this
    ·rw [haft _ _ (hdp q hq d hd)]
     show al (pvT _++st2.t) d=_
     rw [dn (λq' hq' hd'=>?_)]
     ·exact I.mask q hq (λhg=>hqG (List.mem_append.2 (.inr hg))) d hd
     ·have:=jI D hpv ((List.mem_filter.1 hq').1) hq hd' hd
      subst this;exact hqG (List.mem_append.2 (.inl (List.mem_map.2 ⟨q',hq',rfl⟩)))
    ·rw [hh,da (hs i hilt (by rw [hset];simp))]
     exact (I.frame s (λk hk hkon=>hs k hk (hmono k hkon))).tr htr
    ·rcases List.mem_append.1 ht with ht|ht
     ·exact hmono j (I.edges t ht j hj)
     ·simp at ht;subst ht;exact hmono j (hidep j hj)
   by_cases hlt:∃ i,rem.find? (kV ops pre tail rem)=some i
   ·obtain ⟨i,hfi⟩:=hlt
    have hheads:dR ops pre tail rem=[i]:=by unfold dR;rw [hfi]
    have hit:i∈rem:=List.mem_of_find?_eq_some hfi;have hhd:=List.find?_some hfi;simp only [kV,Bool.and_eq_true] at hhd;obtain ⟨⟨⟨hrd,hli⟩,hfr⟩,hpr⟩:=hhd;have hitail:i∈tail:=I.rs i hit;have hilt:i<ops.length:=D.htail i hitail;have hioff:on L i=false:=I.roff i hit;have hip:i ∉ pre:=λh=>(D.hpre i h).2 hitail
    have hidep:∀ k,aq (ah ops i) k=true->on L k=true:=by
     intro k hk
     have hklt:k<ops.length:=by
      have hk':=hk;simp only [aq,Array.any_eq_true',Bool.and_eq_true,beq_iff_eq] at hk';obtain ⟨e,he,hb,rfl⟩:=hk';have:=D.back i hilt e he hb;omega
     rcases D.all k hklt with h|h
     ·have h1:=List.all_eq_true.1 hpr k h
      simp only [hk,Bool.not_true,Bool.false_or,List.any_eq_true,Bool.and_eq_true,Bool.not_eq_true'] at h1;obtain ⟨t,ht,htr,htd⟩:=h1;rcases I.tm t ht with h2|h2
      ·exact I.edges t h2 k htd
      ·have:rem.contains t=true:=by simpa using h2
       rw [this] at htr;cases htr
     ·rcases I.tm k h with h2|h2
      ·exact I.don k h2
      ·have h3:=List.all_eq_true.1 hrd k h2
       rw [hk] at h3;simp at h3
    have hready:i∈Region.ready .any ops.toArray L:=(cu hL).2 ⟨hilt,hioff,hidep⟩
    have hfree:Region.free .any ops.toArray L i=true:=by
     unfold Region.free;rw [opget i hilt];simp only [List.all_eq_true,List.mem_range];intro j hj;have hj:j<ops.length:=by simpa using hj
     rw [opget j hj];have h1:=List.all_eq_true.1 hfr j (List.mem_range.2 hj);simp only [Bool.or_eq_true] at h1 ⊢;rcases h1 with ((h1|h1)|h1)|h1
     ·exact .inl (.inl h1)
     ·exact .inr (.inl h1)
     ·refine .inl (.inr ?_)
      have h2:=hidep j h1;unfold on at h2;have hjl:j<L.size:=by omega
      simp only [Array.getD_eq_getD_getElem?,Array.getElem?_eq_getElem hjl,Option.getD_some] at h2 ⊢;exact h2
     ·exact .inr (.inr h1)
    have hlen:=List.length_pos_of_mem hit;obtain ⟨m',rfl⟩:∃ k,m=k+1:=⟨m - 1,by have:=I.nl;omega⟩;have hobl:=I.obl.2 i (by rw [hheads];simp)
    have hR1:Rep E.w0 E.base { st2 with t:=pvT (pv.filter λp=>aq (ah ops i) p.1 && !G.contains p.1)++st2.t } a w:=fe D (hpv.filter _) I.rep (λq hq d hd=>by
     have hq':=(List.mem_filter.1 hq).1;have hq2:=(List.mem_filter.1 hq).2;simp only [Bool.and_eq_true] at hq2;exact I.val q hq' (hidep _ hq2.1) d hd)
    have hgn:(ah ops i).guard=none:=by
     have h:=hli;unfold jO at h;simp only [Bool.and_eq_true,Option.isNone_iff_eq_none] at h;exact h.1.1
    rw [pe hgn] at hobl;obtain ⟨v,hy,hs⟩:=kL hE hR1 hli hobl;exact wpAny_take (opget i hilt) hns hfree (by simpa using hready) (λc a w h=>absurd h (hQp c _ _)) (.inl ⟨by simp [Region.wanted,hgn],hy⟩) (stepT i hilt hioff hidep hit hip hitail m' rfl v w hs)
   have hnone:rem.find? (kV ops pre tail rem)=none:=by
    cases h:rem.find? (kV ops pre tail rem) with
    |none=>rfl
    |some i=>exact absurd ⟨i,h⟩ hlt
   have hheads:dR ops pre tail rem=rem.filter (gT ops rem):=by unfold dR;rw [hnone]
   refine ⟨fin L a w G done rem m st2 hL I,λi hi=>?_⟩;obtain ⟨hilt,hioff,hidep⟩:=(cu hL).1 hi;have hL':(L.setIfInBounds i true).size=ops.length:=by simp [hL]
   have hset:∀ j,on (L.setIfInBounds i true) j=if j=i then true else on L j:=λj=>lT (by omega)
   have hmono:∀ j,on L j=true->on (L.setIfInBounds i true) j=true:=λj hj=>by rw [hset];split<;>simp [hj]
   have hf':((List.range ops.length).filter λj=>!on (L.setIfInBounds i true) j).length<=fuel:=by
    have:=fU (l:=List.range ops.length) (p:=λj=>!on L j) (q:=λj=>!on (L.setIfInBounds i true) j) (λx _ hx=>by
     simp only [Bool.not_eq_true'] at hx ⊢;rw [hset] at hx
     split at hx
     ·simp at hx
     ·exact hx) (List.mem_range.2 hilt) (by simp [hioff]) (by simp [hset])
    omega
   unfold wpOp;rw [opget i hilt];simp only;by_cases hip:i∈pre
   ·obtain ⟨p,hp,hpi⟩:=hall i hip
    have hpo:p.2.1=ah ops i:=by rw [<- hpi];exact (hpv.op p hp).2
    have hiG:p.1 ∉ G:=λhg=>by have:=I.g _ hg;rw [hpi,hioff] at this;simp at this
    obtain ⟨d,hd⟩:=D.has i hip;have hpd:p.2.1.dst=some d:=by rw [hpo];exact hd
    let full:=pvT pv++st.t
    let sl:=bp (ah ops i)++dp ops (ah ops i)
    let sts:ASt:={ n:=st.n,kb:=st.kb,t:=sl.map λs=>(s,al full s),h:=st2.h }
    have hRs:Rep E.w0 E.base sts a w:=by
     refine ⟨I.rep.dfr,I.rep.size.trans I.n,λs=>?_,I.rep.heap,I.rep.below,I.rep.base_le⟩
     show VRel w st2.h.M (al (sl.map λs=>(s,al full s)) s) _
     rw [eh]
     split
     ·rename_i hs
      have hs':s∈bp (ah ops i)\/s∈dp ops (ah ops i):=List.mem_append.1 hs;by_cases hq:∃ q∈pv,q.2.1.dst=some s
      ·obtain ⟨q,hq,hqd⟩:=hq
       rw [show full=pvT pv++st.t from rfl,kW D hpv hq hqd];obtain ⟨q1,q2⟩:=hpv.op q hq;rcases D.use i hip s hs' q.1 (D.hpre _ q1).1 (by rw [<- q2];exact hqd) with ⟨-,h⟩|⟨h,-⟩
       ·exact I.val q hq (hidep _ h) s hqd
       ·exact absurd q1 h
      ·rw [show full=pvT pv++st.t from rfl,dn (λq hq' hqd=>hq ⟨q,hq',hqd⟩)]
       refine I.frame s (λk hk hkon hkd=>?_);rcases D.use i hip s hs' k hk hkd with ⟨hkp,-⟩|⟨hkn,hkdep⟩
       ·obtain ⟨q,hq',hqk⟩:=hall k hkp
        exact hq ⟨q,hq',by rw [(hpv.op q hq').2,hqk];exact hkd⟩
       ·rcases D.all k hk with h|h
        ·exact hkn h
        ·rcases I.tm k h with h|h
         ·have:=I.edges k h i hkdep
          rw [hioff] at this;simp at this
         ·have:=I.roff k h
          rw [hkon] at this;simp at this
     ·exact .any _
    have hval:aP E ops (ah ops i) sts (λv=>v=p.2.2):=by
     have h:=I.pend p hp hiG;rw [hpo] at h;refine dg (st:={ st with t:=pvT pv++st.t,h:=st2.h }) (λs hs=>?_) rfl h
     show al (sl.map λs=>(s,al full s)) s=al full s
     rw [eh,if_pos (List.mem_append.2 hs)]
    refine iz hE hRs hval (λr w' q=>?_);obtain ⟨Es,hrel⟩:=q.rel;have hdlt:d<a.tmps.size:=by rw [I.rep.size,I.n];exact hdn p hp d hpd
    refine ih _ _ _ G done rem m st2 hL' hf' ⟨I.tm,I.rs,I.nl,λt ht=>hmono t (I.don t ht),λt ht=>?_,I.obl,?_,I.n,λj hj=>hmono j (I.g j hj),λq' hq' hon d' hd'=>?_,I.pend,I.mask,λs hs=>?_,λt ht j hj=>hmono j (I.edges t ht j hj)⟩
    ·rw [hset]
     split
     ·rename_i h;subst h
      exact absurd (I.rs _ ht) (D.hpre _ hip).2
     ·exact I.roff t ht
    ·refine iK (I.rep.move hrel q.tr q.same).rep r (λs hs=>?_)
     rw [hd] at hs;cases hs;exact I.mask p hp hiG d hpd
    ·rw [hset] at hon
     by_cases hqi:q'.1=i
     ·have:q'=p:=hpv.one q' hq' p hp (by rw [hqi,hpi])
      subst this;rw [hpd] at hd';cases hd';rw [hd,kx hdlt];exact q.val
     ·rw [if_neg hqi] at hon
      rw [da]
      ·exact (I.val q' hq' hon d' hd').tr q.tr
      ·rw [hd]
       intro he
       cases he
       have:=jI D hpv hq' hp hd' hpd;exact hqi (by rw [this,hpi])
    ·rw [da (hs i hilt (by rw [hset];simp))]
     exact (I.frame s (λk hk hkon=>hs k hk (hmono k hkon))).tr q.tr
   ·have hit:i∈rem:=by
     rcases D.all i hilt with h|h
     ·exact absurd h hip
     ·rcases I.tm i h with h|h
      ·have:=I.don i h;rw [hioff] at this;simp at this
      ·exact h
    have hitail:i∈tail:=I.rs i hit
    have hready:gT ops rem i=true:=by
     unfold gT;rw [List.all_eq_true];intro q hq
     cases hd:aq (ah ops i) q with
     |false=>rfl
     | true =>
       have h1:=hidep q hd;have h2:=I.roff q hq;rw [h1] at h2;simp at h2
    have hlen:=List.length_pos_of_mem hit;obtain ⟨m,rfl⟩:∃ k,m=k+1:=⟨m - 1,by have:=I.nl;omega⟩;have hobl:=I.obl.2 i (by rw [hheads];exact List.mem_filter.2 ⟨hit,hready⟩);refine pf hE (fe D (hpv.filter _) I.rep (λq hq d hd=>?_)) hobl (λr w' hs=>?_)
    ·have hq':=(List.mem_filter.1 hq).1
     have hq2:=(List.mem_filter.1 hq).2;simp only [Bool.and_eq_true] at hq2;exact I.val q hq' (hidep _ hq2.1) d hd
    ·exact stepT i hilt hioff hidep hit hip hitail m rfl r w' hs
theorem iL {E:Env} (hE:EOk E) (hm:E.P.follows .mixedOrders=true) {id:Nat} {ops:List Oper} {Q:Exit->ASt->Prop} {st:ASt} (pre tail:List Nat) (hlo:tail=[]\/E.base.loose=false) (hok:cW ops pre tail=true) (hns:Region.noSelect ops.toArray=true) (K:PV->ASt->Prop)
 (X:PV->Prop) (hX:∀ pv,X pv->bR E ops pre tail st pv tail.length [] tail { st with t:=aN pv++st.t } (K pv))
 (h:fc E ops st [] (pre.map λi=>(i,ah ops i)) λpv=>(∀ p∈pv,∀ d,p.2.1.dst=some d->d<st.n)/\X pv)
 (hfin:∀ pv st' a w,K pv st'->Rep E.w0 E.base st' a w->∃ st'',Q .normal st''/\Rep E.w0 E.base st'' a w):aD E id ops Q st:=by
 intro a w hR;have D:=ii hok;obtain ⟨pv,⟨hdn,hobl0⟩,hpv,hall,hval⟩:=iA D pre [] [] (by simp) ⟨by simp,by simp⟩ (by simp) (by simp) (by simp) h;have hobl:=hX pv hobl0;refine wp_mono (?_:(Code.region id ops.toArray true).wp E.P (λe a' w'=>e=.normal/\∃ st',Q e st'/\Rep E.w0 E.base st' a' w') a w) (λe a' w' h=>h.2);refine wp_region_any hm ?_
 have hR':Rep E.w0 E.base { st with t:=aN pv++st.t } a { w with drawn:=w.drawn+1 }:=by
  obtain ⟨Es,H⟩:=hR.heap;have t:Tr st.h.M w st.h.M { w with drawn:=w.drawn+1 }:=⟨Nat.le_refl _,λ_ _ _=>rfl,λ_ _ h=>h⟩;have hR1:Rep E.w0 E.base st a { w with drawn:=w.drawn+1 }:=(hR.move (h':=st.h) (E':=Es) ⟨λk=>(H.obj k).tr t (λ_ _=>rfl) (λ_ hc _=>hc),H.inj,H.low,H.elow,H.einj,H.em⟩ t ⟨rfl,rfl,rfl⟩).rep;refine ⟨hR1.dfr,hR1.size,λs=>?_,hR1.heap,hR1.below,hR1.base_le⟩;by_cases hs:∃ p∈aN pv,p.1=s
  ·obtain ⟨p,hp,rfl⟩:=hs
   have hany:∀ q∈aN pv,q.2=.any:=by
    intro q hq;unfold aN at hq;rw [List.mem_filterMap] at hq;obtain ⟨x,-,hx⟩:=hq;rw [Option.map_eq_some_iff] at hx;obtain ⟨d,-,rfl⟩:=hx;rfl
   show VRel _ st.h.M (al (aN pv++st.t) p.1) _
   rw [bf (v:=.any) (by have:=hany p hp;rw [<- this];exact hp) (λq hq _=>hany q hq)];exact .any _
  ·show VRel _ st.h.M (al (aN pv++st.t) s) _
   rw [bH (λp hp he=>hs ⟨p,hp,he⟩)];exact hR1.tmp s
 have hoff:∀ i,on (Array.replicate ops.toArray.size false) i=false:=by
  intro i;unfold on;simp only [Array.getD_eq_getD_getElem?,Array.getElem?_replicate]
  split<;>rfl
 refine jX hE D hpv hall hdn hlo (K:=K pv) (λst' a' w' h1 h2=>⟨rfl,hfin pv st' a' w' h1 h2⟩) (λc a w h=>by cases h.1) hns ops.toArray.size (Array.replicate ops.toArray.size false) a _ [] [] tail tail.length { st with t:=aN pv++st.t } (by simp) ?_
  ⟨λt ht=>.inr ht,λ_ h=>h,Nat.le_refl _,by simp,λt _=>hoff t,hobl,hR',rfl,by simp,λp _ hon=>by rw [hoff] at hon;simp at hon,λp hp _=>hval p hp,λp hp _ d hd=>?_,λs _=>?_,by simp⟩
 ·have:=List.length_filter_le (λi=>!on (Array.replicate ops.toArray.size false) i) (List.range ops.length)
  simpa using this
 ·show al (aN pv++st.t) d=_
  refine bf ?_ (λq hq _=>?_)
  ·unfold aN;rw [List.mem_filterMap];exact ⟨p,hp,by rw [hd];rfl⟩
  ·unfold aN at hq
   rw [List.mem_filterMap] at hq;obtain ⟨x,-,hx⟩:=hq;rw [Option.map_eq_some_iff] at hx;obtain ⟨d,-,rfl⟩:=hx;rfl
 ·exact (hR.tmp s).tr ⟨Nat.le_refl _,λ_ _ _=>rfl,λ_ _ h=>h⟩
def ba (E:Env) (all:List Oper) (n kb:Nat) (vt:List (Nat×AV)) (pv:List (Oper×Nat×AV)) (K:ASt->Prop):OT->ASt->Prop
 | .leaf R,st2=>svT (pick R (pv.map λp=>(p.2.1,p.2.2))++st2.t) λt'=>K { st2 with t:=t' }
 | .stop,_=>True
 | .child i D N sub next,st2=>(svT (pick D (pv.map λp=>(p.2.1,p.2.2))++st2.t) λt'=>
  fY E all (ah all i) { st2 with t:=t' } λst3=>fX (pick N pv) (λo v0=>aP E all o ⟨n,kb,vt,st3.h⟩ λv=>v=v0)/\ba E all n kb vt pv K sub st3)/\ba E all n kb vt pv K next st2
theorem i7 {E:Env} (hE:EOk E) (hm:E.P.follows .mixedOrders=true) {id:Nat} {ops:List Oper} {Q:Exit->ASt->Prop} {st:ASt} (pre tail:List Nat) (hok:cW ops pre tail=true) (hns:Region.noSelect ops.toArray=true)
 (X:PV->Prop) (hX:∀ pv,X pv->bR E.tight ops pre tail st pv tail.length [] tail { st with t:=aN pv++st.t } (Q .normal))
 (h:fc E.tight ops st [] (pre.map λi=>(i,ah ops i)) λpv=>(∀ p∈pv,∀ d,p.2.1.dst=some d->d<st.n)/\X pv):aD E id ops Q st:=by
 obtain ⟨P,T,w0,⟨F,G,l,L⟩⟩:=E;have h1:=iL (E:=⟨P,T,w0,⟨F,G,false,L⟩⟩) hE hm (id:=id) (Q:=Q) pre tail (.inr rfl) hok hns (λ_=>Q .normal) X hX h (λ_ st' _ _ h1 h2=>⟨st',h1,h2⟩);intro a w hR;refine wp_mono (h1 a w hR.loose) ?_
 rintro e a' w' ⟨st',hq,hR'⟩
 exact ⟨st',hq,hR'.loose⟩
def cb (ops:List Oper) (pre tail:List Nat):OT->List Nat->List Nat->List Nat->Bool
 | .leaf R,rem,G,_=>rem == [] && R == pre.reverse.map λi=>!G.contains i
 | .stop,rem,_,tried=>rem != [] && (dR ops pre tail rem).all λi=>tried.contains i
 | .child i D N sub next,rem,G,tried=>(dR ops pre tail rem).contains i && !tried.contains i && (D == pre.reverse.map λk=>aq (ah ops i) k && !G.contains k) && (N == pre.reverse.map λk=>!aq (ah ops i) k && !G.contains k) &&
  cb ops pre tail sub (rem.filter (· != i)) (pick D pre.reverse++G) [] && cb ops pre tail next rem G (i::tried)
def sE (E:Env) (all:List Oper) (pre tail:List Nat) (st:ASt) (pv:PV) (n:Nat) (G rem:List Nat) (st2:ASt) (K:ASt->Prop) (i:Nat):Prop:=
 fY E all (ah all i) { st2 with t:=pvT (pv.filter λp=>aq (ah all i) p.1 && !G.contains p.1)++st2.t } λst3=>
  (∀ p ∈ pv.filter (λp => !aq (ah all i) p.1 && !G.contains p.1),aP E all p.2.1 { st with t := pvT pv++st.t,h := st3.h } λv => v=p.2.2) /\
  bR E all pre tail st pv n ((pv.filter λp=>aq (ah all i) p.1 && !G.contains p.1).map (·.1)++G) (rem.filter (· != i)) st3 K
theorem mf {all:List Oper} {pre tail rem:List Nat} {i:Nat} (h:i∈dR all pre tail rem):i∈rem:=by
 unfold dR at h
 split at h
 ·rename_i j hj
  simp at h;subst h;exact List.mem_of_find?_eq_some hj
 ·exact (List.mem_filter.1 h).1
@[simp] theorem xZ {all:List Oper} {pre tail:List Nat}:dR all pre tail []=[]:=(rfl)
theorem eZ {E:Env} {ops:List Oper} {n kb:Nat} {t:List (Nat×AV)} {h0:AH} {pre tail:List Nat} {pv:PV} (hix:ixs pv=pre.reverse) (hsome:∀ p∈pv,p.2.1.dst.isSome=true) {K:ASt->Prop} :
 ∀ (T:OT) (rem G tried:List Nat) (st2:ASt) (m:Nat),rem.length <= m -> cb ops pre tail T rem G tried=true ->
 ba E ops n kb (pvT pv++t) (cV pv) K T st2 =
  ((rem=[]->K { st2 with t:=pvT (pv.filter λp=>!G.contains p.1)++st2.t })/\∀ i∈dR ops pre tail rem,i ∉ tried->sE E ops pre tail ⟨n,kb,t,h0⟩ pv (m - 1) G rem st2 K i)
 | .leaf R, rem, G, tried, st2, m, hm, hok => by
   simp only [cb,Bool.and_eq_true,beq_iff_eq] at hok;obtain ⟨rfl,hR⟩:=hok;simp only [ba,svT];rw [mW,jd,hix,<- hR]
   have:pvT (pick R pv)=pick R ((cV pv).map λp=>(p.2.1,p.2.2)):=by
    rw [gU _ (λp hp=>hsome p (fh _ _ hp)),cB];unfold cV;rw [cB,List.map_map]
   rw [this];simp
 | .stop, rem, G, tried, st2, m, hm, hok => by
   simp only [cb,Bool.and_eq_true,bne_iff_ne,List.all_eq_true,List.contains_iff_mem] at hok;obtain ⟨h1,h2⟩:=hok;simp only [ba]
   apply propext
   constructor
   ·intro _
    exact ⟨λh=>absurd h h1,λi hi ht=>absurd (h2 i hi) ht⟩
   ·intro _;trivial
 | .child i D N sub next, rem, G, tried, st2, m, hm, hok => by
   simp only [cb,Bool.and_eq_true,beq_iff_eq,Bool.not_eq_true',List.contains_iff_mem] at hok;obtain ⟨⟨⟨⟨⟨hih,ht⟩,hD0⟩,hN0⟩,hs⟩,hnx⟩:=hok;have hi:=mf hih;have ht:i ∉ tried:=by simpa using ht
   have hD:pv.filter (λp=>aq (ah ops i) p.1 && !G.contains p.1)=pick D pv:=by rw [mY,jf,hix,<- hD0]
   have hN:pv.filter (λp=>!aq (ah ops i) p.1 && !G.contains p.1)=pick N pv:=by rw [mX,je,hix,<- hN0]
   have e1:pvT (pick D pv)=pick D ((cV pv).map λp=>(p.2.1,p.2.2)):=by
    rw [gU _ (λp hp=>hsome p (fh _ _ hp)),cB];unfold cV;rw [cB,List.map_map]
   have e2:(pick D pv).map (·.1)=pick D pre.reverse:=by rw [<- hix];unfold ixs;rw [cB]
   have hlen:=fT hi hm
   have hbr:sE E ops pre tail ⟨n,kb,t,h0⟩ pv (m - 1) G rem st2 K i=(svT (pick D ((cV pv).map λp=>(p.2.1,p.2.2))++st2.t) λt'=>
    fY E ops (ah ops i) { st2 with t:=t' } λst3=>fX (pick N (cV pv)) (λo v0=>aP E ops o ⟨n,kb,pvT pv++t,st3.h⟩ λv=>v=v0)/\ba E ops n kb (pvT pv++t) (cV pv) K sub st3):=by
    unfold sE;rw [hD,hN,e1,e2];simp only [svT];refine congrArg _ ?_
    funext st3
    have hsub:=eZ (E:=E) (t:=t) (h0:=h0) (kb:=kb) (n:=n) hix hsome (K:=K) sub (rem.filter (· != i)) (pick D pre.reverse++G) [] st3 (m - 1) hlen hs
    have hN2:bR E ops pre tail ⟨n,kb,t,h0⟩ pv (m - 1) (pick D pre.reverse++G) (rem.filter (· != i)) st3 K=ba E ops n kb (pvT pv++t) (cV pv) K sub st3:=by
     rw [hsub]
     cases hm1:m - 1 with
     | zero =>
       have h0':rem.filter (· != i)=[]:=List.eq_nil_of_length_eq_zero (by omega);simp only [bR,h0'];simp
     | succ k =>
       simp only [bR]
       apply propext
       constructor
       ·rintro ⟨h1,h2⟩
        exact ⟨h1,λj hj _=>h2 j hj⟩
       ·rintro ⟨h1,h2⟩
        exact ⟨h1,λj hj=>h2 j hj (by simp)⟩
    rw [hN2];refine congrArg (·/\_) ?_;have e3:pick N (cV pv)=cV (pick N pv):=by unfold cV;rw [cB]
    rw [e3,ny]
    apply propext
    constructor
    ·intro hh p hp
     unfold cV at hp;rw [List.mem_map] at hp;obtain ⟨q,hq,rfl⟩:=hp;exact hh q hq
    ·intro hh q hq
     exact hh _ (by unfold cV;exact List.mem_map_of_mem hq)
   have hnext:=eZ (E:=E) (t:=t) (h0:=h0) (kb:=kb) (n:=n) hix hsome (K:=K) next rem G (i::tried) st2 m hm hnx;simp only [ba];rw [hnext,<- hbr]
   apply propext
   constructor
   ·rintro ⟨h1,h2,h3⟩
    refine ⟨h2,λj hj hjt=>?_⟩;by_cases hji:j=i
    ·subst hji;exact h1
    ·exact h3 j hj (by simp [hji,hjt])
   ·rintro ⟨h2,h3⟩
    exact ⟨h3 i hih ht,h2,λj hj hjt=>h3 j hj (λh=>hjt (List.mem_cons_of_mem _ h))⟩
theorem i5 {E:Env} (hE:EOk E) (hm:E.P.follows .mixedOrders=true) {id:Nat} {ops:List Oper} {Q:Exit->ASt->Prop} {n kb:Nat} {t:List (Nat×AV)} {h:AH} (pre tail:List Nat) (T:OT)
 (hok:(cW ops pre tail && cb ops pre tail T tail [] [] && ms n ops pre && Region.noSelect ops.toArray)=true)
 (hx:dh E.tight ops n kb h (pre.map (ah ops)) t [] λvt lp=>svT ((lp.map λp=>(p.2.1,AV.any))++t) λtm=>ba E.tight ops n kb vt lp (Q .normal) T ⟨n,kb,tm,h⟩):aD E id ops Q ⟨n,kb,t,h⟩:=by
 simp only [Bool.and_eq_true] at hok;obtain ⟨⟨⟨h1,h2⟩,h3⟩,hns⟩:=hok
 have hd:∀ i∈pre,∃ d,(ah ops i).dst=some d/\d<n:=by
  intro i hi;have:=List.all_eq_true.1 h3 i hi
  split at this
  ·rename_i d hd;exact ⟨d,hd,by simpa using this⟩
  ·simp at this
 refine i7 hE hm pre tail h1 hns (λpv=>bR E.tight ops pre tail ⟨n,kb,t,h⟩ pv tail.length [] tail ⟨n,kb,aN pv++t,h⟩ (Q .normal)) (λpv hpv=>hpv) ?_;rw [lq (K':=λvt lp=>svT ((lp.map λp=>(p.2.1,AV.any))++t) λtm=>ba E.tight ops n kb vt lp (Q .normal) T ⟨n,kb,tm,h⟩) pre [] (by simp) (λi hi=>by obtain ⟨d,hd,_⟩:=hd i hi;rw [hd];rfl) (λpv' e1 e2=>?_)]
 ·exact hx
 ·have hix:ixs pv'=pre.reverse:=by rw [e1];simp [ixs]
  have hmem:∀ p∈pv',p.1∈pre:=λp hp=>by
   have:p.1∈ixs pv':=List.mem_map_of_mem hp;rw [hix] at this;simpa using this
  have hsome:∀ p∈pv',p.2.1.dst.isSome=true:=λp hp=>by
   obtain ⟨d,hd,_⟩:=hd p.1 (hmem p hp);rw [e2 p hp,hd];rfl
  have hc:(∀ p∈pv',∀ d,p.2.1.dst=some d->d<n)=True:=by
   simp only [eq_iff_iff,iff_true];intro p hp d hpd;obtain ⟨d',hd',hlt⟩:=hd p.1 (hmem p hp);rw [e2 p hp,hd'] at hpd
   cases hpd
   exact hlt
  have hmask:aN pv'=(cV pv').map λp=>(p.2.1,AV.any):=by
   have:∀ l:PV,(∀ p∈l,p.2.1.dst.isSome=true)->aN l=(cV l).map λp=>(p.2.1,AV.any):=by
    intro l
    induction l with
    |nil=>intro _;rfl
    | cons p l ih =>
      intro hl;have g1:=hl p (List.mem_cons_self ..);have g2:=ih (λq hq=>hl q (List.mem_cons_of_mem _ hq));obtain ⟨i,o,v⟩:=p
      cases hdo:o.dst with
      |none=>simp [hdo] at g1
      | some d =>
        unfold aN at g2 ⊢;simp only [List.filterMap_cons,hdo,Option.map_some,g2,cV,List.map_cons,Option.getD_some]
   exact this pv' hsome
  simp only [hc,true_and,svT];have key:=eZ (E:=E.tight) (t:=t) (h0:=h) (kb:=kb) (n:=n) hix hsome (K:=Q .normal) T tail [] [] ⟨n,kb,aN pv'++t,h⟩ tail.length (Nat.le_refl _) h2;rw [<- hmask,key]
  cases hl:tail.length with
  | zero =>
    have h0':tail=[]:=List.eq_nil_of_length_eq_zero hl;subst h0';simp [bR]
  | succ k =>
    simp only [bR,Nat.add_one_sub_one]
    apply propext
    constructor
    ·rintro ⟨a1,a2⟩
     exact ⟨a1,λj hj _=>a2 j hj⟩
    ·rintro ⟨a1,a2⟩
     exact ⟨a1,λj hj=>a2 j hj (by simp)⟩
section rules
variable {E:Env} {all:List Oper} {n kb:Nat} {vt:List (Nat×AV)} {pv:List (Oper×Nat×AV)} {K:ASt->Prop} {st:ASt} {R D N:List Bool} {i:Nat} {sub next:OT}
theorem sN:ba E all n kb vt pv K (.child i D N sub .stop) st=svT (pick D (pv.map λp=>(p.2.1,p.2.2))++st.t) λt'=>
 fY E all (ah all i) { st with t:=t' } λst3=>fX (pick N pv) (λo v0=>aP E all o ⟨n,kb,vt,st3.h⟩ λv=>v=v0)/\ba E all n kb vt pv K sub st3:=by
 simp only [ba,and_true]
end rules
section rules
variable {E:Env} {all:List Oper} {st:ASt} {K:ASt->Prop} {dd:Option Nat} {op:Op} {ty:TypeId} {p:String} {af:Array Edge}
theorem ve:fY E all ⟨dd,op,ty,p,af,none⟩ st K=aOp E ⟨dd,op,ty,p,af,none⟩ st K:=(rfl)
theorem vc {j:Nat} {b:Bool}:fY E all ⟨dd,op,ty,p,af,some (j,b)⟩ st K=iy (bY all j) λs=>fC (al st.t s) b (ph (aOp E ⟨dd,op,ty,p,af,some (j,b)⟩ st K)) (ph (ax st dd .un K)):=by
 simp only [fY,iy,fC]
 cases bY all j<;>rfl
end rules
attribute [simp ↓] ve vc
theorem i6 {E:Env} (hE:EOk E) (hm:E.P.follows .mixedOrders=true) {id:Nat} {ops:List Oper} {Q:Exit->ASt->Prop} {n kb:Nat} {t:List (Nat×AV)} {h:AH} (pre tail:List Nat) (T:OT)
 (hok:(cW ops pre tail && cb ops pre tail T tail [] [] && ms n ops pre && Region.noSelect ops.toArray)=true)
 (hx:dh E.tight ops n kb h (pre.map (ah ops)) t [] λvt lp=>svT ((lp.map λp=>(p.2.1,AV.any))++t) λtm=>ba E.tight ops n kb vt lp (Q .normal) T ⟨n,kb,tm,h⟩):aD E id ops Q ⟨n,kb,t,h⟩:=
 i5 hE hm pre tail T hok hx
open Go.RowKit
def sLt (s u:ByteArray):Prop:=Op.bytesLess s.toList u.toList=true
theorem Ba (b:Bool):b=dc (b=true):=by cases b<;>simp [dc]
section
variable {tb:Prop} {F:AV->Prop} {s u:ByteArray}
theorem y6:aQ tb .lss (.string s) (.string u) F=F (.v (.bool (dc (sLt s u)))):=by
 simp only [aQ];rw [Ba (Op.bytesLess s.toList u.toList)];rfl
theorem y7:aQ tb .geq (.string s) (.string u) F=F (.v (.bool (!dc (sLt s u)))):=by
 simp only [aQ];rw [Ba (Op.bytesLess s.toList u.toList)];rfl
end
attribute [simp ↓] y6 y7
open Go.RowKit
def bl:Nat->Nat->List Bool
 |0,_=>[]
 |n+1,x=>(x % 2 == 1)::bl n (x / 2)
theorem Do {x:Nat}:bl 0 x=[]:=rfl
theorem Dp {n x:Nat}:bl (n+1) x=(x % 2 == 1)::bl n (x / 2):=rfl
def OT.c (n i a b:Nat) (s r:OT):OT:=.child i (bl n a) (bl n b) s r
def OT.l (n a:Nat):OT:=.leaf (bl n a)
def OT.s:OT:=.stop
section rules
variable {E:Env} {all:List Oper} {n kb m:Nat} {vt:List (Nat×AV)} {pv:List (Oper×Nat×AV)} {K:ASt->Prop} {st:ASt} {R D N i:Nat} {sub next:OT}
theorem Trl:ba E all n kb vt pv K (.l m R) st=svT (pick (bl m R) (pv.map λp=>(p.2.1,p.2.2))++st.t) λt'=>K { st with t:=t' }:=(rfl)
theorem Trs:ba E all n kb vt pv K (.c m i D N sub .s) st=svT (pick (bl m D) (pv.map λp=>(p.2.1,p.2.2))++st.t) λt'=>
 fY E all (ah all i) { st with t:=t' } λst3=>fX (pick (bl m N) pv) (λo v0=>aP E all o ⟨n,kb,vt,st3.h⟩ λv=>v=v0)/\ba E all n kb vt pv K sub st3:=sN
end rules
attribute [simp ↓] Trl Trs
attribute [simp] Do Dp
theorem drw {E:Env} (hE:EOk E) (hm:E.P.follows .mixedOrders=true) {id:Nat} {ops:List Oper} {Q:Exit->ASt->Prop} {n kb:Nat} {t:List (Nat×AV)} {h:AH} (pre tail:List Nat) (T:OT)
 (hx:dh E.tight ops n kb h (pre.map (ah ops)) t [] λvt lp=>svT ((lp.map λp=>(p.2.1,AV.any))++t) λtm=>ba E.tight ops n kb vt lp (Q .normal) T ⟨n,kb,tm,h⟩)
 (hok:(cW ops pre tail && cb ops pre tail T tail [] [] && ms n ops pre && Region.noSelect ops.toArray)=true:=by kernel_rfl):aD E id ops Q ⟨n,kb,t,h⟩:=
 i6 hE hm pre tail T hok hx
theorem pci {P:Program} {T:Nat->Option TI} (hT:∀ t ti,T t=some ti->TIok P t ti) {f:Nat} {fn:Func} {c:Code} (hf:P.funcs[f]? = some fn)
 {n:Nat} {rs:List ResultVar} {args:List VD} {res:RR}
 (h:∀ w0 base,bx ⟨P,T,w0,⟨base,base,false,λ_=>True⟩⟩ c (gq ⟨P,T,w0,⟨base,base,false,λ_=>True⟩⟩ rs res) { n:=n,kb:=0,t:=dI 0 args,h:=[] })
 (hname : (fn.name == "runtime.NumGoroutine") = false := by kernel_rfl) (hb : fn.body = some c := by exact rfl) (hn : fn.ntmps = n := by exact rfl) (hrs : fn.results = ⟨rs⟩ := by exact rfl) (ha : args.length ≤ n := by exact Nat.le_of_ble_eq_true rfl) : ae P f args res :=
 aa hT hf hname hb hn hrs ha h
theorem inl {P:Program} {T:Nat->Option TI} (hT:∀ t ti,T t=some ti->TIok P t ti) {w0:World} {base:Bs} {f:Nat} {fn:Func} {c:Code} (hf:P.funcs[f]? = some fn)
 {n:Nat} {rs:List ResultVar} {args:List AV} (kb':Nat) {st:ASt} {dst:Option Nat} {K:ASt->Prop}
 (h:∀ w1 F,bx ⟨P,T,w1,⟨F,base.G,base.loose,base.L⟩⟩ c (rv ⟨P,T,w1,⟨F,base.G,base.loose,base.L⟩⟩ rs λav h'=>ax ⟨st.n,st.kb,st.t,h'⟩ dst av K) ⟨n,kb',iW 0 args,st.h⟩)
 (hname : (fn.name == "runtime.NumGoroutine") = false := by kernel_rfl) (hb : fn.body = some c := by exact rfl) (hnt : fn.ntmps = n := by exact rfl) (hrs : fn.results = ⟨rs⟩ := by exact rfl) (hn : args.length ≤ n := by exact Nat.le_of_ble_eq_true rfl)
 (hL:base.L=λ_=>True:=by exact rfl):ag ⟨P,T,w0,base⟩ f args st dst K:=
 kn hT hf hname hb hnt hrs hn kb' h hL
end Go.AM
