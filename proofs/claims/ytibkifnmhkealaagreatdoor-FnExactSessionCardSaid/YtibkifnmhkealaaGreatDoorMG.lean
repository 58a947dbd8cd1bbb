import Derived.Test.YtibkifnmhkealaaGreatDoorMF
import Derived.Test.YtibkifnmhkealaaGreatDoorME
namespace Go.AM
open Go.RowKit
def s9 (E:Env) (all:List Oper) (o:Oper) (st:ASt) (K:ASt->Prop):Prop:=
 match o.guard with
 |none=>aOp E o st K
 | some (j, want) => match ju all j with
   | some d => match aW st.t d with
     | .v (.bool b)=>(b=want->aOp E o st K)/\(b = !want->bk st o.dst .un K)
     | .un=>bk st o.dst .un K
     |_=>False
   |none=>False
theorem Iz {E:Env} {all:List Oper} {o:Oper} {st:ASt} {K:ASt->Prop} (h:o.guard=none):s9 E all o st K=aOp E o st K:=by unfold s9;rw [h]
theorem IA {E:Env} (hE:EOk E) {ops:List Oper} {st:ASt} {a:Act} {w:World} (hR:Rep E.w0 E.base st a w) {o:Oper} {K:ASt->Prop} (h:s9 E ops o st K) {next:Act->World->Prop} {Q:Exit->Act->World->Prop}
 (hn:∀ r w',n8 E.w0 E.base st a w o.dst r w' K->next (a.put o.dst r) w') :
 if Region.wanted o (yielded ops.toArray a.tmps) then o.wp E.P a w next Q\/(o.asks E.P a w/\LetsOut Q) else next (a.put o.dst undef) w:=by
 have skip:bk st o.dst .un K->next (a.put o.dst undef) w:=by
  intro hp;obtain ⟨h3,h4⟩:=hR.put .un hp;exact hn _ _ ⟨_,_,h3,h4,λ_=>Tr.refl _ _,.un⟩
 unfold s9 at h
 split at h
 ·rename_i hg
  rw [if_pos (by simp [Region.wanted,hg])];exact .inl (p8 hE hR h hn)
 ·rename_i j want hg
  split at h
  ·rename_i d hd
   have hd':(ops.toArray[j]?).bind (·.dst)=some d:=by simpa [ju] using hd
   split at h
   ·rename_i b hb
    have hv:=hR.tmp d;rw [hb] at hv;generalize hu:a.tmps.getD d undef=u at hv
    cases hv
    have hy:yielded ops.toArray a.tmps j=some b:=by simp only [yielded,hd',Option.bind_some,getD_some hu]
    by_cases hbw:b=want
    ·rw [if_pos (by simp [Region.wanted,hg,hy,hbw])]
     exact .inl (p8 hE hR (h.1 hbw) hn)
    ·rw [if_neg (by simp [Region.wanted,hg,hy,hbw])]
     exact skip (h.2 (by cases b<;>cases want<;>simp_all))
   ·rename_i hb
    have hv:=hR.tmp d;rw [hb] at hv;generalize hu:a.tmps.getD d undef=u at hv
    cases hv
    have hy:yielded ops.toArray a.tmps j=none:=by
     simp only [yielded,hd',Option.bind_some];simp only [Array.getD_eq_getD_getElem?] at hu
     cases hx:a.tmps[d]? with
     |none=>rfl
     |some v=>rw [hx] at hu;simp at hu;subst hu;rfl
    rw [if_neg (by simp [Region.wanted,hg,hy])];exact skip h
   ·exact h.elim
  ·exact h.elim
def lj (ops:List Oper) (pre tail:List Nat):Bool:=
 (List.range ops.length).all (λi=>pre.contains i || tail.contains i) &&
 pre.all (λi=>decide (i<ops.length) && !tail.contains i) && tail.all (λi=>decide (i<ops.length)) && lv pre && lv tail &&
 (List.range ops.length).all (λi=>(aE ops i).after.all λe=>!Region.binds .any e || decide (e.on<i)) &&
 (List.range ops.length).all (λi=>(List.range ops.length).all λk=>i == k || (aE ops i).dst == none || (aE ops i).dst != (aE ops k).dst) &&
 pre.all (λi=>(aE ops i).dst.isSome && (fX (aE ops i)++l0 ops (aE ops i)).all λs=>(List.range ops.length).all λk=>
  (aE ops k).dst != some s || (if pre.contains k then cg (aE ops i) k else cg (aE ops k) i)) &&
 tail.all (λt=>(fX (aE ops t)).all λs=>pre.all λk=>(aE ops k).dst != some s || cg (aE ops t) k)
structure DrawOkg (ops:List Oper) (pre tail:List Nat):Prop where
 all:∀ i,i<ops.length->i∈pre\/i∈tail
 hpre:∀ i∈pre,i<ops.length/\i ∉ tail
 htail:∀ i∈tail,i<ops.length
 ipre:lv pre=true
 itail:lv tail=true
 back:∀ i,i<ops.length->∀ e∈(aE ops i).after,Region.binds .any e=true->e.on<i
 dst:∀ i,i<ops.length->∀ k,k<ops.length->∀ d,(aE ops i).dst=some d->(aE ops k).dst=some d->i=k
 has:∀ i∈pre,∃ d,(aE ops i).dst=some d
 use:∀ i∈pre,∀ s,s∈fX (aE ops i)\/s∈l0 ops (aE ops i)->∀ k,k<ops.length->(aE ops k).dst=some s->(k∈pre/\cg (aE ops i) k=true)\/(k ∉ pre/\cg (aE ops k) i=true)
 tuse:∀ t∈tail,∀ s∈fX (aE ops t),∀ k∈pre,(aE ops k).dst=some s->cg (aE ops t) k=true
theorem xP {ops:List Oper} {pre tail:List Nat} (h:lj ops pre tail=true):DrawOkg ops pre tail:=by
 simp only [lj,Bool.and_eq_true,List.all_eq_true,List.mem_range,Bool.or_eq_true,decide_eq_true_eq,List.contains_iff_mem,Array.all_eq_true',Bool.not_eq_true',List.mem_append,beq_iff_eq,bne_iff_ne,Option.isSome_iff_exists] at h;obtain ⟨⟨⟨⟨⟨⟨⟨⟨h1,h2⟩,h3⟩,h4⟩,h5⟩,h6⟩,h7⟩,h8⟩,h9⟩:=h;refine ⟨h1,λi hi=>⟨(h2 i hi).1,λht=>by have:=(h2 i hi).2;simp [ht] at this⟩,h3,h4,h5,λi hi e he hb=>?_,λi hi k hk d hd hd'=>?_,λi hi=>(h8 i hi).1,λi hi s hs k hk hd=>?_,λt ht s hs k hk hd=>?_⟩
 ·rcases h6 i hi e he with h|h
  ·simp [hb] at h
  ·exact h
 ·rcases h7 i hi k hk with (h|h)|h
  ·exact h
  ·rw [hd] at h;cases h
  ·rw [hd,hd'] at h;exact absurd rfl h
 ·rcases (h8 i hi).2 s hs k hk with h|h
  ·exact absurd hd h
  ·split at h
   ·rename_i hp;exact .inl ⟨hp,h⟩
   ·rename_i hp;exact .inr ⟨hp,h⟩
 ·rcases h9 t ht s hs k hk with h|h
  ·exact absurd hd h
  ·exact h
theorem Dw:∀ (l:List Nat),lv l=true->∀ a∈l.head?,∀ b∈l.tail,a<b
 | [],_,a,ha,_,_=>by simp at ha
 | [_],_,a,_,b,hb=>by simp at hb
 | a :: b :: l, h, x, hx, y, hy => by
   simp only [lv,Bool.and_eq_true,decide_eq_true_eq] at h;simp at hx;subst hx;rcases List.mem_cons.1 hy with rfl|hy
   ·exact h.1
   ·exact Nat.lt_trans h.1 (Dw (b::l) h.2 b (by simp) y hy)
theorem Fe {a:Nat} {l:List Nat} (h:lv (a::l)=true):lv l=true:=by
 cases l with
 |nil=>rfl
 |cons b l=>simp only [lv,Bool.and_eq_true] at h;exact h.2
theorem xd {pv:PV} {s:Nat} {v:AV}:(s,v)∈pvT pv ↔ ∃ p∈pv,p.2.1.dst=some s/\p.2.2=v:=by
 unfold pvT;rw [List.mem_filterMap]
 constructor
 ·rintro ⟨p,hp,h⟩
  rw [Option.map_eq_some_iff] at h;obtain ⟨d,hd,he⟩:=h
  cases he
  exact ⟨p,hp,hd,rfl⟩
 ·rintro ⟨p,hp,hd,rfl⟩
  exact ⟨p,hp,by rw [hd];rfl⟩
section
variable {ops:List Oper} {pre tail:List Nat} (D:DrawOkg ops pre tail) {pv:PV} (hpv:PvOk ops pre pv)
include D hpv
theorem Bh {p q:Nat×Oper×AV} (hp:p∈pv) (hq:q∈pv) {d:Nat} (h1:p.2.1.dst=some d) (h2:q.2.1.dst=some d):p=q:=by
 obtain ⟨a1,a2⟩:=hpv.op p hp;obtain ⟨b1,b2⟩:=hpv.op q hq;rw [a2] at h1;rw [b2] at h2;exact hpv.one p hp q hq (D.dst _ (D.hpre _ a1).1 _ (D.hpre _ b1).1 d h1 h2)
theorem DF {p:Nat×Oper×AV} (hp:p∈pv) {d:Nat} (hd:p.2.1.dst=some d) (t:List (Nat×AV)):aW (pvT pv++t) d=p.2.2:=by
 refine e8 (xd.2 ⟨p,hp,hd,rfl⟩) (λq hq he=>?_);obtain ⟨k,v⟩:=q;obtain ⟨q',hq',hd',rfl⟩:=xd.1 hq;simp only at he;subst he;rw [Bh D hpv hq' hp hd' hd]
end
theorem lZ {pv:PV} {s:Nat} (h:∀ p∈pv,p.2.1.dst≠some s) (t:List (Nat×AV)):aW (pvT pv++t) s=aW t s:=by
 refine gK (λq hq he=>?_);obtain ⟨k,v⟩:=q;obtain ⟨p,hp,hd,-⟩:=xd.1 hq;simp only at he;subst he;exact h p hp hd
theorem yd {E:Env} {ops:List Oper} {pre tail:List Nat} (D:DrawOkg ops pre tail) {st:ASt}:∀ (l done:List Nat) (pv:PV) {K:PV -> Prop},pre=done++l -> PvOk ops pre pv -> (∀ p ∈ pv,p.1 ∈ done) -> (∀ i ∈ done,∃ p ∈ pv,p.1=i) ->
 (∀ p ∈ pv,ez E ops p.2.1 { st with t := pvT pv++st.t } λv => v=p.2.2) -> ry E ops st pv (l.map λi => (i,aE ops i)) K ->
 ∃ pv',K pv'/\PvOk ops pre pv'/\(∀ i∈pre,∃ p∈pv',p.1=i)/\∀ p∈pv',ez E ops p.2.1 { st with t:=pvT pv'++st.t } λv=>v=p.2.2
 | [],done,pv,K,he,hpv,hdone,hall,hval,h=>⟨pv,h,hpv,λi hi=>hall i (by simpa [he] using hi),hval⟩
 | i :: l, done, pv, K, he, hpv, hdone, hall, hval, h => by
   simp only [List.map_cons,ry] at h;obtain ⟨v,h1,h2⟩:=AJ E ops _ _ _ h;have hip:i∈pre:=by rw [he];simp
   have hlt:∀ j∈done,j<i:=by
    have hinc:=D.ipre;rw [he] at hinc
    clear h h1 h2 hval hall hdone hpv he
    induction done with
    |nil=>simp
    | cons a done ih =>
      intro j hj;rcases List.mem_cons.1 hj with rfl|hj
      ·exact Dw _ hinc j (by simp) i (by simp)
      ·exact ih (Fe hinc) j hj
   have hpv':PvOk ops pre ((i,aE ops i,v)::pv):=by
    refine ⟨λp hp=>?_,λp hp q hq heq=>?_⟩
    ·rcases List.mem_cons.1 hp with rfl|hp
     ·exact ⟨hip,rfl⟩
     ·exact hpv.op p hp
    ·rcases List.mem_cons.1 hp with rfl|hp<;>rcases List.mem_cons.1 hq with rfl|hq
     ·rfl
     ·have:=hlt _ (hdone q hq);simp only at heq;omega
     ·have:=hlt _ (hdone p hp);simp only at heq;omega
     ·exact hpv.one p hp q hq heq
   have key:∀ p:Nat×Oper×AV,p.1 ∈ pre -> p.2.1=aE ops p.1 -> p.1 <= i -> ez E ops p.2.1 { st with t := pvT pv++st.t } (λv => v=p.2.2) ->
    ez E ops p.2.1 { st with t:=pvT ((i,aE ops i,v)::pv)++st.t } (λv=>v=p.2.2):=by
    intro p hp1 hp2 hple hp;refine lP (st:={ st with t:=pvT pv++st.t }) (λs hs=>?_) rfl hp;obtain ⟨d,hd⟩:=D.has i hip
    have hne:d≠s:=by
     rintro rfl
     rw [hp2] at hs;rcases D.use _ hp1 d hs i (D.hpre i hip).1 hd with ⟨-,hdep⟩|⟨hn,-⟩
     ·simp only [cg,Array.any_eq_true',Bool.and_eq_true,beq_iff_eq] at hdep
      obtain ⟨e,he1,he2,he3⟩:=hdep;have:=D.back _ (D.hpre _ hp1).1 e he1 he2;omega
     ·exact hn hip
    show aW (pvT ((i,aE ops i,v)::pv)++st.t) s=aW (pvT pv++st.t) s
    have:pvT ((i,aE ops i,v)::pv)=(d,v)::pvT pv:=by simp [pvT,hd]
    rw [this];simp only [List.cons_append,aW];rw [if_neg (λh=>hne h.symm)]
   refine yd D l (done++[i]) ((i,aE ops i,v)::pv) (by simp [he]) hpv' (λp hp=>?_) (λj hj=>?_) (λp hp=>?_) h1
   ·rcases List.mem_cons.1 hp with rfl|hp
    ·simp
    ·simp [hdone p hp]
   ·rcases List.mem_append.1 hj with hj|hj
    ·obtain ⟨p,hp,rfl⟩:=hall j hj
     exact ⟨p,List.mem_cons_of_mem _ hp,rfl⟩
    ·simp at hj;subst hj;exact ⟨_,List.mem_cons_self ..,rfl⟩
   ·rcases List.mem_cons.1 hp with rfl|hp
    ·exact key _ hip rfl (Nat.le_refl _) h2
    ·exact key p (hpv.op p hp).1 (hpv.op p hp).2 (Nat.le_of_lt (hlt _ (hdone p hp))) (hval p hp)
theorem rB {w0:World} {base:Bs} {ops:List Oper} {pre tail:List Nat} (D:DrawOkg ops pre tail) {pv:PV} (hpv:PvOk ops pre pv) {st:ASt} {a:Act} {w:World} (hR:Rep w0 base st a w)
 (hv:∀ p∈pv,∀ d,p.2.1.dst=some d->VRel w st.h.M p.2.2 (a.tmps.getD d undef)):Rep w0 base { st with t:=pvT pv++st.t } a w:=by
 refine ⟨hR.dfr,hR.size,λs=>?_,hR.heap,hR.below,hR.base_le⟩;by_cases h:∃ p∈pv,p.2.1.dst=some s
 ·obtain ⟨p,hp,hd⟩:=h
  show VRel w st.h.M (aW (pvT pv++st.t) s) _
  rw [DF D hpv hp hd];exact hv p hp s hd
 ·show VRel w st.h.M (aW (pvT pv++st.t) s) _
  rw [lZ (λp hp hd=>h ⟨p,hp,hd⟩)];exact hR.tmp s
def iB (E:Env) (all:List Oper) (pre tail:List Nat) (st:ASt) (pv:PV):Nat->List Nat->List Nat->ASt->(ASt->Prop)->Prop
 |0,G,_,st2,K=>K { st2 with t:=pvT (pv.filter λp=>!G.contains p.1)++st2.t }
 | n + 1, G, rem, st2, K => (rem = [] -> K { st2 with t := pvT (pv.filter λp => !G.contains p.1) ++ st2.t }) /\
   ∀ i ∈ nW all pre tail rem, s9 E all (aE all i) { st2 with t := pvT (pv.filter λp => cg (aE all i) p.1 && !G.contains p.1) ++ st2.t } λst3 =>
     (∀ p ∈ pv.filter (λp => !cg (aE all i) p.1 && !G.contains p.1),ez E all p.2.1 { st with t := pvT pv++st.t,h := st3.h } λv => v=p.2.2) /\
     iB E all pre tail st pv n ((pv.filter λp=>cg (aE all i) p.1 && !G.contains p.1).map (·.1)++G) (rem.filter (· != i)) st3 K
structure DInvLg (E:Env) (ops:List Oper) (pre tail:List Nat) (st:ASt) (pv:PV) (K:ASt->Prop) (L:Array Bool) (a:Act) (w:World) (G done rem:List Nat) (m:Nat) (st2:ASt):Prop where
 tm:∀ t∈tail,t∈done\/t∈rem
 rs:∀ t∈rem,t∈tail
 nl:rem.length<=m
 don:∀ t∈done,on L t=true
 roff:∀ t∈rem,on L t=false
 obl:iB E ops pre tail st pv m G rem st2 K
 rep:Rep E.w0 E.base st2 a w
 n:st2.n=st.n
 g:∀ i∈G,on L i=true
 val:∀ p∈pv,on L p.1=true->∀ d,p.2.1.dst=some d->VRel w st2.h.M p.2.2 (a.tmps.getD d undef)
 pend:∀ p∈pv,p.1 ∉ G->ez E ops p.2.1 { st with t:=pvT pv++st.t,h:=st2.h } λv=>v=p.2.2
 mask:∀ p∈pv,p.1 ∉ G->∀ d,p.2.1.dst=some d->aW st2.t d=.any
 frame:∀ s,(∀ k,k<ops.length->on L k=true->(aE ops k).dst≠some s)->VRel w st2.h.M (aW st.t s) (a.tmps.getD s undef)
 edges:∀ t∈done,∀ i,cg (aE ops t) i=true->on L i=true
theorem BR {E:Env} (hE:EOk E) {ops:List Oper} {pre tail:List Nat} (D:DrawOkg ops pre tail) {st:ASt} {pv:PV} (hpv:PvOk ops pre pv) (hall:∀ i∈pre,∃ p∈pv,p.1=i) (hdn:∀ p∈pv,∀ d,p.2.1.dst=some d->d<st.n) (hlo:tail=[]\/E.base.loose=false) {K:ASt->Prop} {Qc:Exit->Act->World->Prop}
 (hK:∀ st' a' w',K st'->Rep E.w0 E.base st' a' w'->Qc .normal a' w') (hQp:∀ c a w,¬ Qc (.panic c) a w) (hns:Region.noSelect ops.toArray=true) :
 ∀ (fuel:Nat) (L:Array Bool) (a:Act) (w:World) (G done rem:List Nat) (m:Nat) (st2:ASt),L.size=ops.length -> ((List.range ops.length).filter λi => !on L i).length <= fuel -> DInvLg E ops pre tail st pv K L a w G done rem m st2 ->
 wpAny E.P .any ops.toArray Qc fuel L a w:=by
 have opget:∀ i,i<ops.length->ops.toArray[i]? = some (aE ops i):=λi hi=>by simp [aE,hi]
 have fin:∀ (L:Array Bool) (a:Act) (w:World) (G done rem:List Nat) (m:Nat) (st2:ASt),L.size=ops.length->DInvLg E ops pre tail st pv K L a w G done rem m st2->Region.ready .any ops.toArray L=[]->Qc .normal a w:=by
  intro L a w G done rem m st2 hL I hr
  have hon:∀ n i,i<n->i<ops.length->on L i=true:=by
   intro n
   induction n with
   |zero=>intro i h;omega
   | succ n ih =>
     intro i hi hlt
     cases ho:on L i with
     |true=>rfl
     | false =>
       exfalso
       have:i∈Region.ready .any ops.toArray L:=(jA hL).2 ⟨hlt,ho,λk hk=>by
        simp only [cg,Array.any_eq_true',Bool.and_eq_true,beq_iff_eq] at hk;obtain ⟨e,he,hb,rfl⟩:=hk;have:=D.back i hlt e he hb;exact ih e.on (by omega) (by omega)⟩
       rw [hr] at this;simp at this
  have hrem:rem=[]:=by
   cases hq:rem with
   |nil=>rfl
   | cons t r =>
     have ht:t∈rem:=by rw [hq];simp
     have h1:=I.roff t ht;have h2:=hon (t+1) t (by omega) (D.htail t (I.rs t ht));rw [h1] at h2;simp at h2
  have hobl:K { st2 with t:=pvT (pv.filter λp=>!G.contains p.1)++st2.t }:=by
   have hobl:=I.obl
   cases m with
   |zero=>exact hobl
   |succ m=>exact hobl.1 hrem
  refine hK _ a w hobl (rB D (hpv.filter _) I.rep (λp hp d hd=>?_));have hp':=(List.mem_filter.1 hp).1;have hlt:=(D.hpre _ (hpv.op p hp').1).1;exact I.val p hp' (hon (p.1+1) p.1 (by omega) hlt) d hd
 intro fuel
 induction fuel with
 | zero =>
   intro L a w G done rem m st2 hL hf I
   have hr:Region.ready .any ops.toArray L=[]:=by
    cases hq:Region.ready .any ops.toArray L with
    |nil=>rfl
    | cons i l =>
      obtain ⟨h1,h2,-⟩:=(jA hL).1 (show i∈Region.ready .any ops.toArray L by rw [hq];simp);have:i∈(List.range ops.length).filter λi=>!on L i:=List.mem_filter.2 ⟨List.mem_range.2 h1,by simp [h2]⟩
      have:=List.length_pos_of_mem this;omega
   exact ⟨hr,fin L a w G done rem m st2 hL I hr⟩
 | succ fuel ih =>
   intro L a w G done rem m st2 hL hf I
   have stepT:∀ (i:Nat),i<ops.length->on L i=false->(∀ k,cg (aE ops i) k=true->on L k=true)->i∈rem->i ∉ pre->i∈tail->∀ m',m=m'+1->∀ (r:Value) (w':World),
    n8 E.w0 E.base { st2 with t:=pvT (pv.filter λp=>cg (aE ops i) p.1 && !G.contains p.1)++st2.t } a w (aE ops i).dst r w' (λst3=>
     (∀ p ∈ pv.filter (λp => !cg (aE ops i) p.1 && !G.contains p.1),ez E ops p.2.1 { st with t := pvT pv++st.t,h := st3.h } λv => v=p.2.2) /\
     iB E ops pre tail st pv m' ((pv.filter λp => cg (aE ops i) p.1 && !G.contains p.1).map (·.1)++G) (rem.filter (· != i)) st3 K) ->
    wpAny E.P .any ops.toArray Qc fuel (L.setIfInBounds i true) (a.put (aE ops i).dst r) w':=by
    intro i hilt hioff hidep hit hip hitail m' hm' r w' hs;subst hm';have hL':(L.setIfInBounds i true).size=ops.length:=by simp [hL]
    have hset:∀ j,on (L.setIfInBounds i true) j=if j=i then true else on L j:=λj=>ER (by omega)
    have hmono:∀ j,on L j=true->on (L.setIfInBounds i true) j=true:=λj hj=>by rw [hset];split<;>simp [hj]
    have hf':((List.range ops.length).filter λj=>!on (L.setIfInBounds i true) j).length<=fuel:=by
     have:=tW (l:=List.range ops.length) (p:=λj=>!on L j) (q:=λj=>!on (L.setIfInBounds i true) j) (λx _ hx=>by
      simp only [Bool.not_eq_true'] at hx ⊢;rw [hset] at hx
      split at hx
      ·simp at hx
      ·exact hx) (List.mem_range.2 hilt) (by simp [hioff]) (by simp [hset])
     omega
    obtain ⟨av,h',⟨hpend,hobl'⟩,hrep,htr,hvr⟩:=hs;have htr:=htr (hlo.resolve_left (λh0=>by rw [h0] at hitail;simp at hitail));have hh:∀ s2:ASt,(s2.aft (aE ops i).dst av h').h=h':=λs2=>by unfold ASt.aft;split<;>rfl
    have hnn:∀ s2:ASt,(s2.aft (aE ops i).dst av h').n=s2.n:=λs2=>by unfold ASt.aft;split<;>rfl
    have haft:∀ (s2:ASt) (s:Nat),(aE ops i).dst≠some s->aW (s2.aft (aE ops i).dst av h').t s=aW s2.t s:=by
     intro s2 s hne;unfold ASt.aft
     split
     ·rfl
     ·rename_i d hd
      simp only [aW];rw [if_neg (λhe=>hne (by rw [hd,he]))]
    have hdp:∀ q∈pv,∀ d,q.2.1.dst=some d->(aE ops i).dst≠some d:=by
     intro q hq d hd he;obtain ⟨q1,q2⟩:=hpv.op q hq;rw [q2] at hd;have:=D.dst _ (D.hpre _ q1).1 i hilt d hd he;exact hip (this ▸ q1)
    refine ih _ _ _ _ (done++[i]) (rem.filter (· != i)) m' _ hL' hf' ⟨λt ht=>?_,λt ht=>I.rs t (List.mem_filter.1 ht).1,?_,λt ht=>?_,λt ht=>?_,hobl',hrep,(hnn _).trans I.n,λj hj=>?_,λq hq hon d hd=>?_,λq hq hqG=>?_,λq hq hqG d hd=>?_,λs hs=>?_,λt ht j hj=>?_⟩
    ·rcases I.tm t ht with h|h
     ·exact .inl (List.mem_append_left _ h)
     ·by_cases he:t=i
      ·exact .inl (by rw [he];simp)
      ·exact .inr (List.mem_filter.2 ⟨h,by simpa using he⟩)
    ·have h1:(rem.filter (· != i)).length<rem.length:=by
      rw [List.length_filter_lt_length_iff_exists];exact ⟨i,hit,by simp⟩
     have:=I.nl;omega
    ·rw [hset]
     rcases List.mem_append.1 ht with ht|ht
     ·split
      ·rfl
      ·exact I.don t ht
     ·simp at ht;rw [if_pos ht]
    ·rw [hset]
     have ht2:=List.mem_filter.1 ht;rw [if_neg (by simpa using ht2.2)];exact I.roff t ht2.1
    ·rcases List.mem_append.1 hj with hj|hj
     ·obtain ⟨q,hq,rfl⟩:=List.mem_map.1 hj
      have hq2:=(List.mem_filter.1 hq).2;simp only [Bool.and_eq_true] at hq2;exact hmono _ (hidep _ hq2.1)
     ·exact hmono j (I.g j hj)
    ·rw [hh,lI (hdp q hq d hd)]
     rw [hset] at hon
     split at hon
     ·rename_i he
      exact absurd (he ▸ (hpv.op q hq).1) hip
     ·exact (I.val q hq hon d hd).tr htr
    ·have:=hpend q (List.mem_filter.2 ⟨hq,by
      simp only [Bool.and_eq_true,Bool.not_eq_true'];refine ⟨?_,?_⟩
      ·cases hdep:cg (aE ops i) q.1 with
       |false=>rfl
       | true =>
         exfalso
         by_cases hg:q.1∈G
         ·exact hqG (List.mem_append.2 (.inr hg))
         ·exact hqG (List.mem_append.2 (.inl (List.mem_map.2 ⟨q,List.mem_filter.2 ⟨hq,by simp [hdep,hg]⟩,rfl⟩)))
      ·cases hg:G.contains q.1 with
       |false=>rfl
       |true=>exact absurd (List.mem_append.2 (.inr (by simpa using hg))) hqG⟩)
     exact this
    ·rw [haft _ _ (hdp q hq d hd)]
     show aW (pvT _++st2.t) d=_
     rw [lZ (λq' hq' hd'=>?_)]
     ·exact I.mask q hq (λhg=>hqG (List.mem_append.2 (.inr hg))) d hd
     ·have:=Bh D hpv ((List.mem_filter.1 hq').1) hq hd' hd
      subst this;exact hqG (List.mem_append.2 (.inl (List.mem_map.2 ⟨q',hq',rfl⟩)))
    ·rw [hh,lI (hs i hilt (by rw [hset];simp))]
     exact (I.frame s (λk hk hkon=>hs k hk (hmono k hkon))).tr htr
    ·rcases List.mem_append.1 ht with ht|ht
     ·exact hmono j (I.edges t ht j hj)
     ·simp at ht;subst ht;exact hmono j (hidep j hj)
   by_cases hlt:∃ i,rem.find? (DD ops pre tail rem)=some i
   ·obtain ⟨i,hfi⟩:=hlt
    have hheads:nW ops pre tail rem=[i]:=by unfold nW;rw [hfi]
    have hit:i∈rem:=List.mem_of_find?_eq_some hfi;have hhd:=List.find?_some hfi;simp only [DD,Bool.and_eq_true] at hhd;obtain ⟨⟨⟨hrd,hli⟩,hfr⟩,hpr⟩:=hhd;have hitail:i∈tail:=I.rs i hit;have hilt:i<ops.length:=D.htail i hitail;have hioff:on L i=false:=I.roff i hit;have hip:i ∉ pre:=λh=>(D.hpre i h).2 hitail
    have hidep:∀ k,cg (aE ops i) k=true->on L k=true:=by
     intro k hk
     have hklt:k<ops.length:=by
      have hk':=hk;simp only [cg,Array.any_eq_true',Bool.and_eq_true,beq_iff_eq] at hk';obtain ⟨e,he,hb,rfl⟩:=hk';have:=D.back i hilt e he hb;omega
     rcases D.all k hklt with h|h
     ·have h1:=List.all_eq_true.1 hpr k h
      simp only [hk,Bool.not_true,Bool.false_or,List.any_eq_true,Bool.and_eq_true,Bool.not_eq_true'] at h1;obtain ⟨t,ht,htr,htd⟩:=h1;rcases I.tm t ht with h2|h2
      ·exact I.edges t h2 k htd
      ·have:rem.contains t=true:=by simpa using h2
       rw [this] at htr;cases htr
     ·rcases I.tm k h with h2|h2
      ·exact I.don k h2
      ·have h3:=List.all_eq_true.1 hrd k h2
       rw [hk] at h3;simp at h3
    have hready:i∈Region.ready .any ops.toArray L:=(jA hL).2 ⟨hilt,hioff,hidep⟩
    have hfree:Region.free .any ops.toArray L i=true:=by
     unfold Region.free;rw [opget i hilt];simp only [List.all_eq_true,List.mem_range];intro j hj;have hj:j<ops.length:=by simpa using hj
     rw [opget j hj];have h1:=List.all_eq_true.1 hfr j (List.mem_range.2 hj);simp only [Bool.or_eq_true] at h1 ⊢;rcases h1 with ((h1|h1)|h1)|h1
     ·exact .inl (.inl h1)
     ·exact .inr (.inl h1)
     ·refine .inl (.inr ?_)
      have h2:=hidep j h1;unfold on at h2;have hjl:j<L.size:=by omega
      simp only [Array.getD_eq_getD_getElem?,Array.getElem?_eq_getElem hjl,Option.getD_some] at h2 ⊢;exact h2
     ·exact .inr (.inr h1)
    have hlen:=List.length_pos_of_mem hit;obtain ⟨m',rfl⟩:∃ k,m=k+1:=⟨m - 1,by have:=I.nl;omega⟩;have hobl:=I.obl.2 i (by rw [hheads];simp)
    have hR1:Rep E.w0 E.base { st2 with t:=pvT (pv.filter λp=>cg (aE ops i) p.1 && !G.contains p.1)++st2.t } a w:=rB D (hpv.filter _) I.rep (λq hq d hd=>by
     have hq':=(List.mem_filter.1 hq).1;have hq2:=(List.mem_filter.1 hq).2;simp only [Bool.and_eq_true] at hq2;exact I.val q hq' (hidep _ hq2.1) d hd)
    have hgn:(aE ops i).guard=none:=by
     have h:=hli;unfold Bo at h;simp only [Bool.and_eq_true,Option.isNone_iff_eq_none] at h;exact h.1.1
    rw [Iz hgn] at hobl;obtain ⟨v,hy,hs⟩:=Dm hE hR1 hli hobl;exact wpAny_take (opget i hilt) hns hfree (by simpa using hready) (λc a w h=>absurd h (hQp c _ _)) (.inl ⟨by simp [Region.wanted,hgn],hy⟩) (stepT i hilt hioff hidep hit hip hitail m' rfl v w hs)
   have hnone:rem.find? (DD ops pre tail rem)=none:=by
    cases h:rem.find? (DD ops pre tail rem) with
    |none=>rfl
    |some i=>exact absurd ⟨i,h⟩ hlt
   have hheads:nW ops pre tail rem=rem.filter (wN ops rem):=by unfold nW;rw [hnone]
   refine ⟨fin L a w G done rem m st2 hL I,λi hi=>?_⟩;obtain ⟨hilt,hioff,hidep⟩:=(jA hL).1 hi;have hL':(L.setIfInBounds i true).size=ops.length:=by simp [hL]
   have hset:∀ j,on (L.setIfInBounds i true) j=if j=i then true else on L j:=λj=>ER (by omega)
   have hmono:∀ j,on L j=true->on (L.setIfInBounds i true) j=true:=λj hj=>by rw [hset];split<;>simp [hj]
   have hf':((List.range ops.length).filter λj=>!on (L.setIfInBounds i true) j).length<=fuel:=by
    have:=tW (l:=List.range ops.length) (p:=λj=>!on L j) (q:=λj=>!on (L.setIfInBounds i true) j) (λx _ hx=>by
     simp only [Bool.not_eq_true'] at hx ⊢;rw [hset] at hx
     split at hx
     ·simp at hx
     ·exact hx) (List.mem_range.2 hilt) (by simp [hioff]) (by simp [hset])
    omega
   unfold wpOp;rw [opget i hilt];simp only;by_cases hip:i∈pre
   ·obtain ⟨p,hp,hpi⟩:=hall i hip
    have hpo:p.2.1=aE ops i:=by rw [<- hpi];exact (hpv.op p hp).2
    have hiG:p.1 ∉ G:=λhg=>by have:=I.g _ hg;rw [hpi,hioff] at this;simp at this
    obtain ⟨d,hd⟩:=D.has i hip;have hpd:p.2.1.dst=some d:=by rw [hpo];exact hd
    let full:=pvT pv++st.t
    let sl:=fX (aE ops i)++l0 ops (aE ops i)
    let sts:ASt:={ n:=st.n,kb:=st.kb,t:=sl.map λs=>(s,aW full s),h:=st2.h }
    have hRs:Rep E.w0 E.base sts a w:=by
     refine ⟨I.rep.dfr,I.rep.size.trans I.n,λs=>?_,I.rep.heap,I.rep.below,I.rep.base_le⟩
     show VRel w st2.h.M (aW (sl.map λs=>(s,aW full s)) s) _
     rw [oU]
     split
     ·rename_i hs
      have hs':s∈fX (aE ops i)\/s∈l0 ops (aE ops i):=List.mem_append.1 hs;by_cases hq:∃ q∈pv,q.2.1.dst=some s
      ·obtain ⟨q,hq,hqd⟩:=hq
       rw [show full=pvT pv++st.t from rfl,DF D hpv hq hqd];obtain ⟨q1,q2⟩:=hpv.op q hq;rcases D.use i hip s hs' q.1 (D.hpre _ q1).1 (by rw [<- q2];exact hqd) with ⟨-,h⟩|⟨h,-⟩
       ·exact I.val q hq (hidep _ h) s hqd
       ·exact absurd q1 h
      ·rw [show full=pvT pv++st.t from rfl,lZ (λq hq' hqd=>hq ⟨q,hq',hqd⟩)]
       refine I.frame s (λk hk hkon hkd=>?_);rcases D.use i hip s hs' k hk hkd with ⟨hkp,-⟩|⟨hkn,hkdep⟩
       ·obtain ⟨q,hq',hqk⟩:=hall k hkp
        exact hq ⟨q,hq',by rw [(hpv.op q hq').2,hqk];exact hkd⟩
       ·rcases D.all k hk with h|h
        ·exact hkn h
        ·rcases I.tm k h with h|h
         ·have:=I.edges k h i hkdep
          rw [hioff] at this;simp at this
         ·have:=I.roff k h
          rw [hkon] at this;simp at this
     ·exact .any _
    have hval:ez E ops (aE ops i) sts (λv=>v=p.2.2):=by
     have h:=I.pend p hp hiG;rw [hpo] at h;refine lP (st:={ st with t:=pvT pv++st.t,h:=st2.h }) (λs hs=>?_) rfl h
     show aW (sl.map λs=>(s,aW full s)) s=aW full s
     rw [oU,if_pos (List.mem_append.2 hs)]
    refine yc hE hRs hval (λr w' q=>?_);obtain ⟨Es,hrel⟩:=q.rel;have hdlt:d<a.tmps.size:=by rw [I.rep.size,I.n];exact hdn p hp d hpd
    refine ih _ _ _ G done rem m st2 hL' hf' ⟨I.tm,I.rs,I.nl,λt ht=>hmono t (I.don t ht),λt ht=>?_,I.obl,?_,I.n,λj hj=>hmono j (I.g j hj),λq' hq' hon d' hd'=>?_,I.pend,I.mask,λs hs=>?_,λt ht j hj=>hmono j (I.edges t ht j hj)⟩
    ·rw [hset]
     split
     ·rename_i h;subst h
      exact absurd (I.rs _ ht) (D.hpre _ hip).2
     ·exact I.roff t ht
    ·refine yq (I.rep.move hrel q.tr q.same).rep r (λs hs=>?_)
     rw [hd] at hs;cases hs;exact I.mask p hp hiG d hpd
    ·rw [hset] at hon
     by_cases hqi:q'.1=i
     ·have:q'=p:=hpv.one q' hq' p hp (by rw [hqi,hpi])
      subst this;rw [hpd] at hd';cases hd';rw [hd,C3 hdlt];exact q.val
     ·rw [if_neg hqi] at hon
      rw [lI]
      ·exact (I.val q' hq' hon d' hd').tr q.tr
      ·rw [hd]
       intro he
       cases he
       have:=Bh D hpv hq' hp hd' hpd;exact hqi (by rw [this,hpi])
    ·rw [lI (hs i hilt (by rw [hset];simp))]
     exact (I.frame s (λk hk hkon=>hs k hk (hmono k hkon))).tr q.tr
   ·have hit:i∈rem:=by
     rcases D.all i hilt with h|h
     ·exact absurd h hip
     ·rcases I.tm i h with h|h
      ·have:=I.don i h;rw [hioff] at this;simp at this
      ·exact h
    have hitail:i∈tail:=I.rs i hit
    have hready:wN ops rem i=true:=by
     unfold wN;rw [List.all_eq_true];intro q hq
     cases hd:cg (aE ops i) q with
     |false=>rfl
     | true =>
       have h1:=hidep q hd;have h2:=I.roff q hq;rw [h1] at h2;simp at h2
    have hlen:=List.length_pos_of_mem hit;obtain ⟨m,rfl⟩:∃ k,m=k+1:=⟨m - 1,by have:=I.nl;omega⟩;have hobl:=I.obl.2 i (by rw [hheads];exact List.mem_filter.2 ⟨hit,hready⟩);refine IA hE (rB D (hpv.filter _) I.rep (λq hq d hd=>?_)) hobl (λr w' hs=>?_)
    ·have hq':=(List.mem_filter.1 hq).1
     have hq2:=(List.mem_filter.1 hq).2;simp only [Bool.and_eq_true] at hq2;exact I.val q hq' (hidep _ hq2.1) d hd
    ·exact stepT i hilt hioff hidep hit hip hitail m rfl r w' hs
theorem yr {E:Env} (hE:EOk E) (hm:E.P.follows .mixedOrders=true) {id:Nat} {ops:List Oper} {Q:Exit->ASt->Prop} {st:ASt} (pre tail:List Nat) (hlo:tail=[]\/E.base.loose=false) (hok:lj ops pre tail=true) (hns:Region.noSelect ops.toArray=true) (K:PV->ASt->Prop)
 (X:PV->Prop) (hX:∀ pv,X pv->iB E ops pre tail st pv tail.length [] tail { st with t:=dY pv++st.t } (K pv))
 (h:ry E ops st [] (pre.map λi=>(i,aE ops i)) λpv=>(∀ p∈pv,∀ d,p.2.1.dst=some d->d<st.n)/\X pv)
 (hfin:∀ pv st' a w,K pv st'->Rep E.w0 E.base st' a w->∃ st'',Q .normal st''/\Rep E.w0 E.base st'' a w):be E id ops Q st:=by
 intro a w hR;have D:=xP hok;obtain ⟨pv,⟨hdn,hobl0⟩,hpv,hall,hval⟩:=yd D pre [] [] (by simp) ⟨by simp,by simp⟩ (by simp) (by simp) (by simp) h;have hobl:=hX pv hobl0;refine wp_mono (?_:(Code.region id ops.toArray true).wp E.P (λe a' w'=>e=.normal/\∃ st',Q e st'/\Rep E.w0 E.base st' a' w') a w) (λe a' w' h=>h.2);refine wp_region_any hm ?_
 have hR':Rep E.w0 E.base { st with t:=dY pv++st.t } a { w with drawn:=w.drawn+1 }:=by
  obtain ⟨Es,H⟩:=hR.heap;have t:Tr st.h.M w st.h.M { w with drawn:=w.drawn+1 }:=⟨Nat.le_refl _,λ_ _ _=>rfl,λ_ _ h=>h⟩;have hR1:Rep E.w0 E.base st a { w with drawn:=w.drawn+1 }:=(hR.move (h':=st.h) (E':=Es) ⟨λk=>(H.obj k).tr t (λ_ _=>rfl) (λ_ hc _=>hc),H.inj,H.low,H.elow,H.einj,H.em⟩ t ⟨rfl,rfl,rfl⟩).rep;refine ⟨hR1.dfr,hR1.size,λs=>?_,hR1.heap,hR1.below,hR1.base_le⟩;by_cases hs:∃ p∈dY pv,p.1=s
  ·obtain ⟨p,hp,rfl⟩:=hs
   have hany:∀ q∈dY pv,q.2=.any:=by
    intro q hq;unfold dY at hq;rw [List.mem_filterMap] at hq;obtain ⟨x,-,hx⟩:=hq;rw [Option.map_eq_some_iff] at hx;obtain ⟨d,-,rfl⟩:=hx;rfl
   show VRel _ st.h.M (aW (dY pv++st.t) p.1) _
   rw [e8 (v:=.any) (by have:=hany p hp;rw [<- this];exact hp) (λq hq _=>hany q hq)];exact .any _
  ·show VRel _ st.h.M (aW (dY pv++st.t) s) _
   rw [gK (λp hp he=>hs ⟨p,hp,he⟩)];exact hR1.tmp s
 have hoff:∀ i,on (Array.replicate ops.toArray.size false) i=false:=by
  intro i;unfold on;simp only [Array.getD_eq_getD_getElem?,Array.getElem?_replicate]
  split<;>rfl
 refine BR hE D hpv hall hdn hlo (K:=K pv) (λst' a' w' h1 h2=>⟨rfl,hfin pv st' a' w' h1 h2⟩) (λc a w h=>by cases h.1) hns ops.toArray.size (Array.replicate ops.toArray.size false) a _ [] [] tail tail.length { st with t:=dY pv++st.t } (by simp) ?_
  ⟨λt ht=>.inr ht,λ_ h=>h,Nat.le_refl _,by simp,λt _=>hoff t,hobl,hR',rfl,by simp,λp _ hon=>by rw [hoff] at hon;simp at hon,λp hp _=>hval p hp,λp hp _ d hd=>?_,λs _=>?_,by simp⟩
 ·have:=List.length_filter_le (λi=>!on (Array.replicate ops.toArray.size false) i) (List.range ops.length)
  simpa using this
 ·show aW (dY pv++st.t) d=_
  refine e8 ?_ (λq hq _=>?_)
  ·unfold dY;rw [List.mem_filterMap];exact ⟨p,hp,by rw [hd];rfl⟩
  ·unfold dY at hq
   rw [List.mem_filterMap] at hq;obtain ⟨x,-,hx⟩:=hq;rw [Option.map_eq_some_iff] at hx;obtain ⟨d,-,rfl⟩:=hx;rfl
 ·exact (hR.tmp s).tr ⟨Nat.le_refl _,λ_ _ _=>rfl,λ_ _ h=>h⟩
def eg (E:Env) (all:List Oper) (n kb:Nat) (vt:List (Nat×AV)) (pv:List (Oper×Nat×AV)) (K:ASt->Prop):OT->ASt->Prop
 | .leaf R,st2=>svT (pick R (pv.map λp=>(p.2.1,p.2.2))++st2.t) λt'=>K { st2 with t:=t' }
 | .stop,_=>True
 | .child i D N sub next,st2=>(svT (pick D (pv.map λp=>(p.2.1,p.2.2))++st2.t) λt'=>
  s9 E all (aE all i) { st2 with t:=t' } λst3=>s8 (pick N pv) (λo v0=>ez E all o ⟨n,kb,vt,st3.h⟩ λv=>v=v0)/\eg E all n kb vt pv K sub st3)/\eg E all n kb vt pv K next st2
theorem zr {E:Env} (hE:EOk E) (hm:E.P.follows .mixedOrders=true) {id:Nat} {ops:List Oper} {Q:Exit->ASt->Prop} {st:ASt} (pre tail:List Nat) (hok:lj ops pre tail=true) (hns:Region.noSelect ops.toArray=true)
 (X:PV->Prop) (hX:∀ pv,X pv->iB E.tight ops pre tail st pv tail.length [] tail { st with t:=dY pv++st.t } (Q .normal))
 (h:ry E.tight ops st [] (pre.map λi=>(i,aE ops i)) λpv=>(∀ p∈pv,∀ d,p.2.1.dst=some d->d<st.n)/\X pv):be E id ops Q st:=by
 obtain ⟨P,T,w0,⟨F,G,l,L⟩⟩:=E;have h1:=yr (E:=⟨P,T,w0,⟨F,G,false,L⟩⟩) hE hm (id:=id) (Q:=Q) pre tail (.inr rfl) hok hns (λ_=>Q .normal) X hX h (λ_ st' _ _ h1 h2=>⟨st',h1,h2⟩);intro a w hR;refine wp_mono (h1 a w hR.loose) ?_
 rintro e a' w' ⟨st',hq,hR'⟩
 exact ⟨st',hq,hR'.loose⟩
def i6 (ops:List Oper) (pre tail:List Nat):OT->List Nat->List Nat->List Nat->Bool
 | .leaf R,rem,G,_=>rem == [] && R == pre.reverse.map λi=>!G.contains i
 | .stop,rem,_,tried=>rem != [] && (nW ops pre tail rem).all λi=>tried.contains i
 | .child i D N sub next,rem,G,tried=>(nW ops pre tail rem).contains i && !tried.contains i && (D == pre.reverse.map λk=>cg (aE ops i) k && !G.contains k) && (N == pre.reverse.map λk=>!cg (aE ops i) k && !G.contains k) &&
  i6 ops pre tail sub (rem.filter (· != i)) (pick D pre.reverse++G) [] && i6 ops pre tail next rem G (i::tried)
def Lc (E:Env) (all:List Oper) (pre tail:List Nat) (st:ASt) (pv:PV) (n:Nat) (G rem:List Nat) (st2:ASt) (K:ASt->Prop) (i:Nat):Prop:=
 s9 E all (aE all i) { st2 with t:=pvT (pv.filter λp=>cg (aE all i) p.1 && !G.contains p.1)++st2.t } λst3=>
  (∀ p ∈ pv.filter (λp => !cg (aE all i) p.1 && !G.contains p.1),ez E all p.2.1 { st with t := pvT pv++st.t,h := st3.h } λv => v=p.2.2) /\
  iB E all pre tail st pv n ((pv.filter λp=>cg (aE all i) p.1 && !G.contains p.1).map (·.1)++G) (rem.filter (· != i)) st3 K
theorem Fk {all:List Oper} {pre tail rem:List Nat} {i:Nat} (h:i∈nW all pre tail rem):i∈rem:=by
 unfold nW at h
 split at h
 ·rename_i j hj
  simp at h;subst h;exact List.mem_of_find?_eq_some hj
 ·exact (List.mem_filter.1 h).1
@[simp] theorem Py {all:List Oper} {pre tail:List Nat}:nW all pre tail []=[]:=(rfl)
theorem rv {E:Env} {ops:List Oper} {n kb:Nat} {t:List (Nat×AV)} {h0:AH} {pre tail:List Nat} {pv:PV} (hix:ixs pv=pre.reverse) (hsome:∀ p∈pv,p.2.1.dst.isSome=true) {K:ASt->Prop} :
 ∀ (T:OT) (rem G tried:List Nat) (st2:ASt) (m:Nat),rem.length <= m -> i6 ops pre tail T rem G tried=true ->
 eg E ops n kb (pvT pv++t) (k9 pv) K T st2 =
  ((rem=[]->K { st2 with t:=pvT (pv.filter λp=>!G.contains p.1)++st2.t })/\∀ i∈nW ops pre tail rem,i ∉ tried->Lc E ops pre tail ⟨n,kb,t,h0⟩ pv (m - 1) G rem st2 K i)
 | .leaf R, rem, G, tried, st2, m, hm, hok => by
   simp only [i6,Bool.and_eq_true,beq_iff_eq] at hok;obtain ⟨rfl,hR⟩:=hok;simp only [eg,svT];rw [F5,zG,hix,<- hR]
   have:pvT (pick R pv)=pick R ((k9 pv).map λp=>(p.2.1,p.2.2)):=by
    rw [wQ _ (λp hp=>hsome p (r9 _ _ hp)),jX];unfold k9;rw [jX,List.map_map]
   rw [this];simp
 | .stop, rem, G, tried, st2, m, hm, hok => by
   simp only [i6,Bool.and_eq_true,bne_iff_ne,List.all_eq_true,List.contains_iff_mem] at hok;obtain ⟨h1,h2⟩:=hok;simp only [eg]
   apply propext
   constructor
   ·intro _
    exact ⟨λh=>absurd h h1,λi hi ht=>absurd (h2 i hi) ht⟩
   ·intro _;trivial
 | .child i D N sub next, rem, G, tried, st2, m, hm, hok => by
   simp only [i6,Bool.and_eq_true,beq_iff_eq,Bool.not_eq_true',List.contains_iff_mem] at hok;obtain ⟨⟨⟨⟨⟨hih,ht⟩,hD0⟩,hN0⟩,hs⟩,hnx⟩:=hok;have hi:=Fk hih;have ht:i ∉ tried:=by simpa using ht
   have hD:pv.filter (λp=>cg (aE ops i) p.1 && !G.contains p.1)=pick D pv:=by rw [F7,zI,hix,<- hD0]
   have hN:pv.filter (λp=>!cg (aE ops i) p.1 && !G.contains p.1)=pick N pv:=by rw [F6,zH,hix,<- hN0]
   have e1:pvT (pick D pv)=pick D ((k9 pv).map λp=>(p.2.1,p.2.2)):=by
    rw [wQ _ (λp hp=>hsome p (r9 _ _ hp)),jX];unfold k9;rw [jX,List.map_map]
   have e2:(pick D pv).map (·.1)=pick D pre.reverse:=by rw [<- hix];unfold ixs;rw [jX]
   have hlen:=tV hi hm
   have hbr:Lc E ops pre tail ⟨n,kb,t,h0⟩ pv (m - 1) G rem st2 K i=(svT (pick D ((k9 pv).map λp=>(p.2.1,p.2.2))++st2.t) λt'=>
    s9 E ops (aE ops i) { st2 with t:=t' } λst3=>s8 (pick N (k9 pv)) (λo v0=>ez E ops o ⟨n,kb,pvT pv++t,st3.h⟩ λv=>v=v0)/\eg E ops n kb (pvT pv++t) (k9 pv) K sub st3):=by
    unfold Lc;rw [hD,hN,e1,e2];simp only [svT];refine congrArg _ ?_
    funext st3
    have hsub:=rv (E:=E) (t:=t) (h0:=h0) (kb:=kb) (n:=n) hix hsome (K:=K) sub (rem.filter (· != i)) (pick D pre.reverse++G) [] st3 (m - 1) hlen hs
    have hN2:iB E ops pre tail ⟨n,kb,t,h0⟩ pv (m - 1) (pick D pre.reverse++G) (rem.filter (· != i)) st3 K=eg E ops n kb (pvT pv++t) (k9 pv) K sub st3:=by
     rw [hsub]
     cases hm1:m - 1 with
     | zero =>
       have h0':rem.filter (· != i)=[]:=List.eq_nil_of_length_eq_zero (by omega);simp only [iB,h0'];simp
     | succ k =>
       simp only [iB]
       apply propext
       constructor
       ·rintro ⟨h1,h2⟩
        exact ⟨h1,λj hj _=>h2 j hj⟩
       ·rintro ⟨h1,h2⟩
        exact ⟨h1,λj hj=>h2 j hj (by simp)⟩
    rw [hN2];refine congrArg (·/\_) ?_;have e3:pick N (k9 pv)=k9 (pick N pv):=by unfold k9;rw [jX]
    rw [e3,GI]
    apply propext
    constructor
    ·intro hh p hp
     unfold k9 at hp;rw [List.mem_map] at hp;obtain ⟨q,hq,rfl⟩:=hp;exact hh q hq
    ·intro hh q hq
     exact hh _ (by unfold k9;exact List.mem_map_of_mem hq)
   have hnext:=rv (E:=E) (t:=t) (h0:=h0) (kb:=kb) (n:=n) hix hsome (K:=K) next rem G (i::tried) st2 m hm hnx;simp only [eg];rw [hnext,<- hbr]
   apply propext
   constructor
   ·rintro ⟨h1,h2,h3⟩
    refine ⟨h2,λj hj hjt=>?_⟩;by_cases hji:j=i
    ·subst hji;exact h1
    ·exact h3 j hj (by simp [hji,hjt])
   ·rintro ⟨h2,h3⟩
    exact ⟨h3 i hih ht,h2,λj hj hjt=>h3 j hj (λh=>hjt (List.mem_cons_of_mem _ h))⟩
theorem zp {E:Env} (hE:EOk E) (hm:E.P.follows .mixedOrders=true) {id:Nat} {ops:List Oper} {Q:Exit->ASt->Prop} {n kb:Nat} {t:List (Nat×AV)} {h:AH} (pre tail:List Nat) (T:OT)
 (hok:(lj ops pre tail && i6 ops pre tail T tail [] [] && Fu n ops pre && Region.noSelect ops.toArray)=true)
 (hx:lQ E.tight ops n kb h (pre.map (aE ops)) t [] λvt lp=>svT ((lp.map λp=>(p.2.1,AV.any))++t) λtm=>eg E.tight ops n kb vt lp (Q .normal) T ⟨n,kb,tm,h⟩):be E id ops Q ⟨n,kb,t,h⟩:=by
 simp only [Bool.and_eq_true] at hok;obtain ⟨⟨⟨h1,h2⟩,h3⟩,hns⟩:=hok
 have hd:∀ i∈pre,∃ d,(aE ops i).dst=some d/\d<n:=by
  intro i hi;have:=List.all_eq_true.1 h3 i hi
  split at this
  ·rename_i d hd;exact ⟨d,hd,by simpa using this⟩
  ·simp at this
 refine zr hE hm pre tail h1 hns (λpv=>iB E.tight ops pre tail ⟨n,kb,t,h⟩ pv tail.length [] tail ⟨n,kb,dY pv++t,h⟩ (Q .normal)) (λpv hpv=>hpv) ?_;rw [Eh (K':=λvt lp=>svT ((lp.map λp=>(p.2.1,AV.any))++t) λtm=>eg E.tight ops n kb vt lp (Q .normal) T ⟨n,kb,tm,h⟩) pre [] (by simp) (λi hi=>by obtain ⟨d,hd,_⟩:=hd i hi;rw [hd];rfl) (λpv' e1 e2=>?_)]
 ·exact hx
 ·have hix:ixs pv'=pre.reverse:=by rw [e1];simp [ixs]
  have hmem:∀ p∈pv',p.1∈pre:=λp hp=>by
   have:p.1∈ixs pv':=List.mem_map_of_mem hp;rw [hix] at this;simpa using this
  have hsome:∀ p∈pv',p.2.1.dst.isSome=true:=λp hp=>by
   obtain ⟨d,hd,_⟩:=hd p.1 (hmem p hp);rw [e2 p hp,hd];rfl
  have hc:(∀ p∈pv',∀ d,p.2.1.dst=some d->d<n)=True:=by
   simp only [eq_iff_iff,iff_true];intro p hp d hpd;obtain ⟨d',hd',hlt⟩:=hd p.1 (hmem p hp);rw [e2 p hp,hd'] at hpd
   cases hpd
   exact hlt
  have hmask:dY pv'=(k9 pv').map λp=>(p.2.1,AV.any):=by
   have:∀ l:PV,(∀ p∈l,p.2.1.dst.isSome=true)->dY l=(k9 l).map λp=>(p.2.1,AV.any):=by
    intro l
    induction l with
    |nil=>intro _;rfl
    | cons p l ih =>
      intro hl;have g1:=hl p (List.mem_cons_self ..);have g2:=ih (λq hq=>hl q (List.mem_cons_of_mem _ hq));obtain ⟨i,o,v⟩:=p
      cases hdo:o.dst with
      |none=>simp [hdo] at g1
      | some d =>
        unfold dY at g2 ⊢;simp only [List.filterMap_cons,hdo,Option.map_some,g2,k9,List.map_cons,Option.getD_some]
   exact this pv' hsome
  simp only [hc,true_and,svT];have key:=rv (E:=E.tight) (t:=t) (h0:=h) (kb:=kb) (n:=n) hix hsome (K:=Q .normal) T tail [] [] ⟨n,kb,dY pv'++t,h⟩ tail.length (Nat.le_refl _) h2;rw [<- hmask,key]
  cases hl:tail.length with
  | zero =>
    have h0':tail=[]:=List.eq_nil_of_length_eq_zero hl;subst h0';simp [iB]
  | succ k =>
    simp only [iB,Nat.add_one_sub_one]
    apply propext
    constructor
    ·rintro ⟨a1,a2⟩
     exact ⟨a1,λj hj _=>a2 j hj⟩
    ·rintro ⟨a1,a2⟩
     exact ⟨a1,λj hj=>a2 j hj (by simp)⟩
section rules
variable {E:Env} {all:List Oper} {n kb:Nat} {vt:List (Nat×AV)} {pv:List (Oper×Nat×AV)} {K:ASt->Prop} {st:ASt} {R D N:List Bool} {i:Nat} {sub next:OT}
theorem Lk:eg E all n kb vt pv K (.child i D N sub .stop) st=svT (pick D (pv.map λp=>(p.2.1,p.2.2))++st.t) λt'=>
 s9 E all (aE all i) { st with t:=t' } λst3=>s8 (pick N pv) (λo v0=>ez E all o ⟨n,kb,vt,st3.h⟩ λv=>v=v0)/\eg E all n kb vt pv K sub st3:=by
 simp only [eg,and_true]
end rules
section rules
variable {E:Env} {all:List Oper} {st:ASt} {K:ASt->Prop} {dd:Option Nat} {op:Op} {ty:TypeId} {p:String} {af:Array Edge}
theorem Nc:s9 E all ⟨dd,op,ty,p,af,none⟩ st K=aOp E ⟨dd,op,ty,p,af,none⟩ st K:=(rfl)
theorem Nb {j:Nat} {b:Bool}:s9 E all ⟨dd,op,ty,p,af,some (j,b)⟩ st K=B8 (ju all j) λs=>vB (aW st.t s) b (ph (aOp E ⟨dd,op,ty,p,af,some (j,b)⟩ st K)) (ph (bk st dd .un K)):=by
 simp only [s9,B8,vB]
 cases ju all j<;>rfl
end rules
attribute [simp ↓] Nc Nb
theorem zq {E:Env} (hE:EOk E) (hm:E.P.follows .mixedOrders=true) {id:Nat} {ops:List Oper} {Q:Exit->ASt->Prop} {n kb:Nat} {t:List (Nat×AV)} {h:AH} (pre tail:List Nat) (T:OT)
 (hok:(lj ops pre tail && i6 ops pre tail T tail [] [] && Fu n ops pre && Region.noSelect ops.toArray)=true)
 (hx:lQ E.tight ops n kb h (pre.map (aE ops)) t [] λvt lp=>svT ((lp.map λp=>(p.2.1,AV.any))++t) λtm=>eg E.tight ops n kb vt lp (Q .normal) T ⟨n,kb,tm,h⟩):be E id ops Q ⟨n,kb,t,h⟩:=
 zp hE hm pre tail T hok hx
open Go.RowKit
def sLt (s u:ByteArray):Prop:=Op.bytesLess s.toList u.toList=true
theorem Su (b:Bool):b=dc (b=true):=by cases b<;>simp [dc]
section
variable {tb:Prop} {F:AV->Prop} {s u:ByteArray}
theorem QB:ep tb .lss (.string s) (.string u) F=F (.v (.bool (dc (sLt s u)))):=by
 simp only [ep];rw [Su (Op.bytesLess s.toList u.toList)];rfl
theorem QC:ep tb .geq (.string s) (.string u) F=F (.v (.bool (!dc (sLt s u)))):=by
 simp only [ep];rw [Su (Op.bytesLess s.toList u.toList)];rfl
end
attribute [simp ↓] QB QC
open Go.RowKit
def bl:Nat->Nat->List Bool
 |0,_=>[]
 |n+1,x=>(x % 2 == 1)::bl n (x / 2)
theorem UC {x:Nat}:bl 0 x=[]:=rfl
theorem UD {n x:Nat}:bl (n+1) x=(x % 2 == 1)::bl n (x / 2):=rfl
def OT.c (n i a b:Nat) (s r:OT):OT:=.child i (bl n a) (bl n b) s r
def OT.l (n a:Nat):OT:=.leaf (bl n a)
def OT.s:OT:=.stop
section rules
variable {E:Env} {all:List Oper} {n kb m:Nat} {vt:List (Nat×AV)} {pv:List (Oper×Nat×AV)} {K:ASt->Prop} {st:ASt} {R D N i:Nat} {sub next:OT}
theorem Trl:eg E all n kb vt pv K (.l m R) st=svT (pick (bl m R) (pv.map λp=>(p.2.1,p.2.2))++st.t) λt'=>K { st with t:=t' }:=(rfl)
theorem Trs:eg E all n kb vt pv K (.c m i D N sub .s) st=svT (pick (bl m D) (pv.map λp=>(p.2.1,p.2.2))++st.t) λt'=>
 s9 E all (aE all i) { st with t:=t' } λst3=>s8 (pick (bl m N) pv) (λo v0=>ez E all o ⟨n,kb,vt,st3.h⟩ λv=>v=v0)/\eg E all n kb vt pv K sub st3:=Lk
theorem Trc:eg E all n kb vt pv K (.c m i D N sub next) st=((svT (pick (bl m D) (pv.map λp=>(p.2.1,p.2.2))++st.t) λt'=>
 s9 E all (aE all i) { st with t:=t' } λst3=>s8 (pick (bl m N) pv) (λo v0=>ez E all o ⟨n,kb,vt,st3.h⟩ λv=>v=v0)/\eg E all n kb vt pv K sub st3)/\eg E all n kb vt pv K next st):=(rfl)
end rules
attribute [simp ↓] Trl Trs
attribute [simp] UC UD
theorem drw {E:Env} (hE:EOk E) (hm:E.P.follows .mixedOrders=true) {id:Nat} {ops:List Oper} {Q:Exit->ASt->Prop} {n kb:Nat} {t:List (Nat×AV)} {h:AH} (pre tail:List Nat) (T:OT)
 (hx:lQ E.tight ops n kb h (pre.map (aE ops)) t [] λvt lp=>svT ((lp.map λp=>(p.2.1,AV.any))++t) λtm=>eg E.tight ops n kb vt lp (Q .normal) T ⟨n,kb,tm,h⟩)
 (hok:(lj ops pre tail && i6 ops pre tail T tail [] [] && Fu n ops pre && Region.noSelect ops.toArray)=true:=by kernel_rfl):be E id ops Q ⟨n,kb,t,h⟩:=
 zq hE hm pre tail T hok hx
theorem pci {P:Program} {T:Nat->Option TI} (hT:∀ t ti,T t=some ti->TIok P t ti) {f:Nat} {fn:Func} {c:Code} (hf:P.funcs[f]? = some fn)
 {n:Nat} {rs:List ResultVar} {args:List VD} {res:RR}
 (h:∀ w0 base,ge ⟨P,T,w0,⟨base,base,false,λ_=>True⟩⟩ c (s5 ⟨P,T,w0,⟨base,base,false,λ_=>True⟩⟩ rs res) { n:=n,kb:=0,t:=pm 0 args,h:=[] })
 (hname : (fn.name == "runtime.NumGoroutine") = false := by kernel_rfl) (hb : fn.body = some c := by exact rfl) (hn : fn.ntmps = n := by exact rfl) (hrs : fn.results = ⟨rs⟩ := by exact rfl) (ha : args.length ≤ n := by exact Nat.le_of_ble_eq_true rfl) : ai P f args res :=
 ai.intro' hT hf hname hb hn hrs ha h
theorem inl {P:Program} {T:Nat->Option TI} (hT:∀ t ti,T t=some ti->TIok P t ti) {w0:World} {base:Bs} {f:Nat} {fn:Func} {c:Code} (hf:P.funcs[f]? = some fn)
 {n:Nat} {rs:List ResultVar} {args:List AV} (kb':Nat) {st:ASt} {dst:Option Nat} {K:ASt->Prop}
 (h:∀ w1 F,ge ⟨P,T,w1,⟨F,base.G,base.loose,base.L⟩⟩ c (Fd ⟨P,T,w1,⟨F,base.G,base.loose,base.L⟩⟩ rs λav h'=>bk ⟨st.n,st.kb,st.t,h'⟩ dst av K) ⟨n,kb',s7 0 args,st.h⟩)
 (hname : (fn.name == "runtime.NumGoroutine") = false := by kernel_rfl) (hb : fn.body = some c := by exact rfl) (hnt : fn.ntmps = n := by exact rfl) (hrs : fn.results = ⟨rs⟩ := by exact rfl) (hn : args.length ≤ n := by exact Nat.le_of_ble_eq_true rfl)
 (hL:base.L=λ_=>True:=by exact rfl):aa ⟨P,T,w0,base⟩ f args st dst K:=
 Cn hT hf hname hb hnt hrs hn kb' h hL
end Go.AM
