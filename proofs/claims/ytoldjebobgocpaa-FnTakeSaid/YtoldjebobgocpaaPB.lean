import Derived.Test.YtoldjebobgocpaaMF
import Derived.Test.YtoldjebobgocpaaNA
namespace Go.AM
open Go.RowKit
def aOpG (E : Env) (all : List Oper) (o : Oper) (st : ASt) (K : ASt→Prop) : Prop:=
 match o.guard with
 | none=>aOp E o st K
 | some (j,want)=>match gslot all j with
   | some d=>match getT st.t d with
     | .v (.bool b)=>(b = want→aOp E o st K)∧(b = !want→aPut st o.dst .un K)
     | .un=>aPut st o.dst .un K
     | _=>False
   | none=>False
theorem aOpG_none {E : Env} {all : List Oper} {o : Oper} {st : ASt} {K : ASt→Prop} (h : o.guard = none) : aOpG E all o st K = aOp E o st K:=by unfold aOpG;rw [h]
theorem aOpG_exec {E : Env} (hE : EOk E) {ops : List Oper} {st : ASt} {a : Act} {w : World} (hR : Rep E.w0 E.base st a w) {o : Oper} {K : ASt→Prop} (h : aOpG E ops o st K) {next : Act→World→Prop} {Q : Exit→Act→World→Prop}
 (hn : ∀ r w',StepR E.w0 E.base st a w o.dst r w' K→next (a.put o.dst r) w') :
 if Region.wanted o (yielded ops.toArray a.tmps) then o.wp E.P a w next Q∨(o.asks E.P a w∧LetsOut Q) else next (a.put o.dst undef) w:=by
 have skip : aPut st o.dst .un K→next (a.put o.dst undef) w:=by
  intro hp;obtain ⟨h3,h4⟩:=hR.put .un hp;exact hn _ _ ⟨_,_,h3,h4,fun _=>Tr.refl _ _,.un⟩
 unfold aOpG at h
 split at h
 ·rename_i hg
  rw [if_pos (by simp [Region.wanted,hg])];exact .inl (aOp_sound hE hR h hn)
 ·rename_i j want hg
  split at h
  ·rename_i d hd
   have hd' : (ops.toArray[j]?).bind (·.dst) = some d:=by simpa [gslot] using hd
   split at h
   ·rename_i b hb
    have hv:=hR.tmp d;rw [hb] at hv;generalize hu : a.tmps.getD d undef = u at hv
    cases hv
    have hy : yielded ops.toArray a.tmps j = some b:=by simp only [yielded,hd',Option.bind_some,getD_some hu]
    by_cases hbw : b = want
    ·rw [if_pos (by simp [Region.wanted,hg,hy,hbw])]
     exact .inl (aOp_sound hE hR (h.1 hbw) hn)
    ·rw [if_neg (by simp [Region.wanted,hg,hy,hbw])]
     exact skip (h.2 (by cases b<;>cases want<;>simp_all))
   ·rename_i hb
    have hv:=hR.tmp d;rw [hb] at hv;generalize hu : a.tmps.getD d undef = u at hv
    cases hv
    have hy : yielded ops.toArray a.tmps j = none:=by
     simp only [yielded,hd',Option.bind_some];simp only [Array.getD_eq_getD_getElem?] at hu
     cases hx : a.tmps[d]? with
     | none=>rfl
     | some v=>rw [hx] at hu;simp at hu;subst hu;rfl
    rw [if_neg (by simp [Region.wanted,hg,hy])];exact skip h
   ·exact h.elim
  ·exact h.elim
namespace Gd
def drawOk0 (ops : List Oper) (pre tail : List Nat) : Bool:=
 (List.range ops.length).all (fun i=>pre.contains i || tail.contains i) &&
 pre.all (fun i=>decide (i < ops.length) && !tail.contains i) && tail.all (fun i=>decide (i < ops.length)) && incr pre && incr tail &&
 (List.range ops.length).all (fun i=>(opAt ops i).after.all fun e=>!Region.binds .any e || decide (e.on < i)) &&
 (List.range ops.length).all (fun i=>(List.range ops.length).all fun k=>i == k || (opAt ops i).dst == none || (opAt ops i).dst != (opAt ops k).dst) &&
 pre.all (fun i=>(opAt ops i).dst.isSome && (opSlots (opAt ops i) ++ gSlots ops (opAt ops i)).all fun s=>(List.range ops.length).all fun k=>
  (opAt ops k).dst != some s || (if pre.contains k then depOn (opAt ops i) k else depOn (opAt ops k) i)) &&
 tail.all (fun t=>(opSlots (opAt ops t)).all fun s=>pre.all fun k=>(opAt ops k).dst != some s || depOn (opAt ops t) k)
structure DrawOk (ops : List Oper) (pre tail : List Nat) : Prop where
 all : ∀ i,i < ops.length→i∈pre∨i∈tail
 hpre : ∀ i∈pre,i < ops.length∧i ∉ tail
 htail : ∀ i∈tail,i < ops.length
 ipre : incr pre = true
 itail : incr tail = true
 back : ∀ i,i < ops.length→∀ e∈(opAt ops i).after,Region.binds .any e = true→e.on < i
 dst : ∀ i,i < ops.length→∀ k,k < ops.length→∀ d,(opAt ops i).dst = some d→(opAt ops k).dst = some d→i = k
 has : ∀ i∈pre,∃ d,(opAt ops i).dst = some d
 use : ∀ i∈pre,∀ s,s∈opSlots (opAt ops i)∨s∈gSlots ops (opAt ops i)→∀ k,k < ops.length→(opAt ops k).dst = some s→(k∈pre∧depOn (opAt ops i) k = true)∨(k ∉ pre∧depOn (opAt ops k) i = true)
 tuse : ∀ t∈tail,∀ s∈opSlots (opAt ops t),∀ k∈pre,(opAt ops k).dst = some s→depOn (opAt ops t) k = true
theorem drawOk0_sound {ops : List Oper} {pre tail : List Nat} (h : drawOk0 ops pre tail = true) : DrawOk ops pre tail:=by
 simp only [drawOk0,Bool.and_eq_true,List.all_eq_true,List.mem_range,Bool.or_eq_true,decide_eq_true_eq,List.contains_iff_mem,Array.all_eq_true',Bool.not_eq_true',List.mem_append,beq_iff_eq,bne_iff_ne,Option.isSome_iff_exists] at h;obtain ⟨⟨⟨⟨⟨⟨⟨⟨h1,h2⟩,h3⟩,h4⟩,h5⟩,h6⟩,h7⟩,h8⟩,h9⟩:=h;refine ⟨h1,fun i hi=>⟨(h2 i hi).1,fun ht=>by have:=(h2 i hi).2;simp [ht] at this⟩,h3,h4,h5,fun i hi e he hb=>?_,fun i hi k hk d hd hd'=>?_,fun i hi=>(h8 i hi).1,fun i hi s hs k hk hd=>?_,fun t ht s hs k hk hd=>?_⟩
 ·rcases h6 i hi e he with h | h
  ·simp [hb] at h
  ·exact h
 ·rcases h7 i hi k hk with (h | h) | h
  ·exact h
  ·rw [hd] at h;cases h
  ·rw [hd,hd'] at h;exact absurd rfl h
 ·rcases (h8 i hi).2 s hs k hk with h | h
  ·exact absurd hd h
  ·split at h
   ·rename_i hp;exact .inl ⟨hp,h⟩
   ·rename_i hp;exact .inr ⟨hp,h⟩
 ·rcases h9 t ht s hs k hk with h | h
  ·exact absurd hd h
  ·exact h
theorem drawOk_chain {ops : List Oper} {pre tail : List Nat} (h : drawOk ops pre tail = true) : chain ops tail = true:=by unfold drawOk at h;simp only [Bool.and_eq_true] at h;exact h.2
theorem incr_lt : ∀ (l : List Nat),incr l = true→∀ a∈l.head?,∀ b∈l.tail,a < b
 | [],_,a,ha,_,_=>by simp at ha
 | [_],_,a,_,b,hb=>by simp at hb
 | a :: b :: l,h,x,hx,y,hy=>by
   simp only [incr,Bool.and_eq_true,decide_eq_true_eq] at h;simp at hx;subst hx;rcases List.mem_cons.1 hy with rfl | hy
   ·exact h.1
   ·exact Nat.lt_trans h.1 (incr_lt (b :: l) h.2 b (by simp) y hy)
theorem incr_tail {a : Nat} {l : List Nat} (h : incr (a :: l) = true) : incr l = true:=by
 cases l with
 | nil=>rfl
 | cons b l=>simp only [incr,Bool.and_eq_true] at h;exact h.2
theorem mem_pvT {pv : PV} {s : Nat} {v : AV} : (s,v)∈pvT pv ↔ ∃ p∈pv,p.2.1.dst = some s∧p.2.2 = v:=by
 unfold pvT;rw [List.mem_filterMap]
 constructor
 ·rintro ⟨p,hp,h⟩
  rw [Option.map_eq_some_iff] at h;obtain ⟨d,hd,he⟩:=h
  cases he
  exact ⟨p,hp,hd,rfl⟩
 ·rintro ⟨p,hp,hd,rfl⟩
  exact ⟨p,hp,by rw [hd];rfl⟩
section
variable {ops : List Oper} {pre tail : List Nat} (D : DrawOk ops pre tail) {pv : PV} (hpv : PvOk ops pre pv)
include D hpv
theorem pv_dst {p q : Nat × Oper × AV} (hp : p∈pv) (hq : q∈pv) {d : Nat} (h1 : p.2.1.dst = some d) (h2 : q.2.1.dst = some d) : p = q:=by
 obtain ⟨a1,a2⟩:=hpv.op p hp;obtain ⟨b1,b2⟩:=hpv.op q hq;rw [a2] at h1;rw [b2] at h2;exact hpv.one p hp q hq (D.dst _ (D.hpre _ a1).1 _ (D.hpre _ b1).1 d h1 h2)
theorem getT_pv {p : Nat × Oper × AV} (hp : p∈pv) {d : Nat} (hd : p.2.1.dst = some d) (t : List (Nat × AV)) : getT (pvT pv ++ t) d = p.2.2:=by
 refine getT_append_mem (mem_pvT.2 ⟨p,hp,hd,rfl⟩) (fun q hq he=>?_);obtain ⟨k,v⟩:=q;obtain ⟨q',hq',hd',rfl⟩:=mem_pvT.1 hq;simp only at he;subst he;rw [pv_dst D hpv hq' hp hd' hd]
end
theorem getT_pv_none {pv : PV} {s : Nat} (h : ∀ p∈pv,p.2.1.dst≠some s) (t : List (Nat × AV)) : getT (pvT pv ++ t) s = getT t s:=by
 refine getT_append (fun q hq he=>?_);obtain ⟨k,v⟩:=q;obtain ⟨p,hp,hd,-⟩:=mem_pvT.1 hq;simp only at he;subst he;exact h p hp hd
theorem aPre_spec {E : Env} {ops : List Oper} {pre tail : List Nat} (D : DrawOk ops pre tail) {st : ASt} : ∀ (l done : List Nat) (pv : PV) {K : PV → Prop},pre = done ++ l → PvOk ops pre pv → (∀ p ∈ pv,p.1 ∈ done) → (∀ i ∈ done,∃ p ∈ pv,p.1 = i) →
 (∀ p ∈ pv,aStlW E ops p.2.1 { st with t := pvT pv ++ st.t } fun v => v = p.2.2) → aPre E ops st pv (l.map fun i => (i,opAt ops i)) K →
 ∃ pv',K pv'∧PvOk ops pre pv'∧(∀ i∈pre,∃ p∈pv',p.1 = i)∧∀ p∈pv',aStlW E ops p.2.1 { st with t:=pvT pv' ++ st.t } fun v=>v = p.2.2
 | [],done,pv,K,he,hpv,hdone,hall,hval,h=>⟨pv,h,hpv,fun i hi=>hall i (by simpa [he] using hi),hval⟩
 | i :: l,done,pv,K,he,hpv,hdone,hall,hval,h=>by
   simp only [List.map_cons,aPre] at h;obtain ⟨v,h1,h2⟩:=aStlW_det E ops _ _ _ h;have hip : i∈pre:=by rw [he];simp
   have hlt : ∀ j∈done,j < i:=by
    have hinc:=D.ipre;rw [he] at hinc
    clear h h1 h2 hval hall hdone hpv he
    induction done with
    | nil=>simp
    | cons a done ih=>
      intro j hj;rcases List.mem_cons.1 hj with rfl | hj
      ·exact incr_lt _ hinc j (by simp) i (by simp)
      ·exact ih (incr_tail hinc) j hj
   have hpv' : PvOk ops pre ((i,opAt ops i,v) :: pv):=by
    refine ⟨fun p hp=>?_,fun p hp q hq heq=>?_⟩
    ·rcases List.mem_cons.1 hp with rfl | hp
     ·exact ⟨hip,rfl⟩
     ·exact hpv.op p hp
    ·rcases List.mem_cons.1 hp with rfl | hp<;>rcases List.mem_cons.1 hq with rfl | hq
     ·rfl
     ·have:=hlt _ (hdone q hq);simp only at heq;omega
     ·have:=hlt _ (hdone p hp);simp only at heq;omega
     ·exact hpv.one p hp q hq heq
   have key : ∀ p : Nat × Oper × AV,p.1 ∈ pre → p.2.1 = opAt ops p.1 → p.1 ≤ i → aStlW E ops p.2.1 { st with t := pvT pv ++ st.t } (fun v => v = p.2.2) →
    aStlW E ops p.2.1 { st with t:=pvT ((i,opAt ops i,v) :: pv) ++ st.t } (fun v=>v = p.2.2):=by
    intro p hp1 hp2 hple hp;refine aStlW_congr (st:={ st with t:=pvT pv ++ st.t }) (fun s hs=>?_) rfl hp;obtain ⟨d,hd⟩:=D.has i hip
    have hne : d≠s:=by
     rintro rfl
     rw [hp2] at hs;rcases D.use _ hp1 d hs i (D.hpre i hip).1 hd with ⟨-,hdep⟩ | ⟨hn,-⟩
     ·simp only [depOn,Array.any_eq_true',Bool.and_eq_true,beq_iff_eq] at hdep
      obtain ⟨e,he1,he2,he3⟩:=hdep;have:=D.back _ (D.hpre _ hp1).1 e he1 he2;omega
     ·exact hn hip
    show getT (pvT ((i,opAt ops i,v) :: pv) ++ st.t) s = getT (pvT pv ++ st.t) s
    have : pvT ((i,opAt ops i,v) :: pv) = (d,v) :: pvT pv:=by simp [pvT,hd]
    rw [this];simp only [List.cons_append,getT];rw [if_neg (fun h=>hne h.symm)]
   refine aPre_spec D l (done ++ [i]) ((i,opAt ops i,v) :: pv) (by simp [he]) hpv' (fun p hp=>?_) (fun j hj=>?_) (fun p hp=>?_) h1
   ·rcases List.mem_cons.1 hp with rfl | hp
    ·simp
    ·simp [hdone p hp]
   ·rcases List.mem_append.1 hj with hj | hj
    ·obtain ⟨p,hp,rfl⟩:=hall j hj
     exact ⟨p,List.mem_cons_of_mem _ hp,rfl⟩
    ·simp at hj;subst hj;exact ⟨_,List.mem_cons_self ..,rfl⟩
   ·rcases List.mem_cons.1 hp with rfl | hp
    ·exact key _ hip rfl (Nat.le_refl _) h2
    ·exact key p (hpv.op p hp).1 (hpv.op p hp).2 (Nat.le_of_lt (hlt _ (hdone p hp))) (hval p hp)
theorem Rep.addPv {w0 : World} {base : Bs} {ops : List Oper} {pre tail : List Nat} (D : DrawOk ops pre tail) {pv : PV} (hpv : PvOk ops pre pv) {st : ASt} {a : Act} {w : World} (hR : Rep w0 base st a w)
 (hv : ∀ p∈pv,∀ d,p.2.1.dst = some d→VRel w st.h.M p.2.2 (a.tmps.getD d undef)) : Rep w0 base { st with t:=pvT pv ++ st.t } a w:=by
 refine ⟨hR.dfr,hR.size,fun s=>?_,hR.heap,hR.below,hR.base_le⟩;by_cases h : ∃ p∈pv,p.2.1.dst = some s
 ·obtain ⟨p,hp,hd⟩:=h
  show VRel w st.h.M (getT (pvT pv ++ st.t) s) _
  rw [getT_pv D hpv hp hd];exact hv p hp s hd
 ·show VRel w st.h.M (getT (pvT pv ++ st.t) s) _
  rw [getT_pv_none (fun p hp hd=>h ⟨p,hp,hd⟩)];exact hR.tmp s
def aTailL (E : Env) (all : List Oper) (pre tail : List Nat) (st : ASt) (pv : PV) : Nat→List Nat→List Nat→ASt→(ASt→Prop)→Prop
 | 0,G,_,st2,K=>K { st2 with t:=pvT (pv.filter fun p=>!G.contains p.1) ++ st2.t }
 | n + 1,G,rem,st2,K => (rem = [] → K { st2 with t := pvT (pv.filter fun p => !G.contains p.1) ++ st2.t }) ∧
   ∀ i∈heads all pre tail rem,aOpG E all (opAt all i) { st2 with t:=pvT (pv.filter fun p=>depOn (opAt all i) p.1 && !G.contains p.1) ++ st2.t } fun st3=>
     (∀ p ∈ pv.filter (fun p => !depOn (opAt all i) p.1 && !G.contains p.1),aStlW E all p.2.1 { st with t := pvT pv ++ st.t,h := st3.h } fun v => v = p.2.2) ∧
     aTailL E all pre tail st pv n ((pv.filter fun p=>depOn (opAt all i) p.1 && !G.contains p.1).map (·.1) ++ G) (rem.filter (· != i)) st3 K
structure DInvL (E : Env) (ops : List Oper) (pre tail : List Nat) (st : ASt) (pv : PV) (K : ASt→Prop) (L : Array Bool) (a : Act) (w : World) (G done rem : List Nat) (m : Nat) (st2 : ASt) : Prop where
 tm : ∀ t∈tail,t∈done∨t∈rem
 rs : ∀ t∈rem,t∈tail
 nl : rem.length≤m
 don : ∀ t∈done,on L t = true
 roff : ∀ t∈rem,on L t = false
 obl : aTailL E ops pre tail st pv m G rem st2 K
 rep : Rep E.w0 E.base st2 a w
 n : st2.n = st.n
 g : ∀ i∈G,on L i = true
 val : ∀ p∈pv,on L p.1 = true→∀ d,p.2.1.dst = some d→VRel w st2.h.M p.2.2 (a.tmps.getD d undef)
 pend : ∀ p∈pv,p.1 ∉ G→aStlW E ops p.2.1 { st with t:=pvT pv ++ st.t,h:=st2.h } fun v=>v = p.2.2
 mask : ∀ p∈pv,p.1 ∉ G→∀ d,p.2.1.dst = some d→getT st2.t d = .any
 frame : ∀ s,(∀ k,k < ops.length→on L k = true→(opAt ops k).dst≠some s)→VRel w st2.h.M (getT st.t s) (a.tmps.getD s undef)
 edges : ∀ t∈done,∀ i,depOn (opAt ops t) i = true→on L i = true
theorem draw_soundL {E : Env} (hE : EOk E) {ops : List Oper} {pre tail : List Nat} (D : DrawOk ops pre tail) {st : ASt} {pv : PV} (hpv : PvOk ops pre pv) (hall : ∀ i∈pre,∃ p∈pv,p.1 = i) (hdn : ∀ p∈pv,∀ d,p.2.1.dst = some d→d < st.n) (hlo : tail = []∨E.base.loose = false) {K : ASt→Prop} {Qc : Exit→Act→World→Prop}
 (hK : ∀ st' a' w',K st'→Rep E.w0 E.base st' a' w'→Qc .normal a' w') (hQp : ∀ c a w,¬ Qc (.panic c) a w) (hns : Region.noSelect ops.toArray = true) :
 ∀ (fuel : Nat) (L : Array Bool) (a : Act) (w : World) (G done rem : List Nat) (m : Nat) (st2 : ASt),L.size = ops.length → ((List.range ops.length).filter fun i => !on L i).length ≤ fuel → DInvL E ops pre tail st pv K L a w G done rem m st2 →
 wpAny E.P .any ops.toArray Qc fuel L a w:=by
 have opget : ∀ i,i < ops.length→ops.toArray[i]? = some (opAt ops i):=fun i hi=>by simp [opAt,hi]
 have fin : ∀ (L : Array Bool) (a : Act) (w : World) (G done rem : List Nat) (m : Nat) (st2 : ASt),L.size = ops.length→DInvL E ops pre tail st pv K L a w G done rem m st2→Region.ready .any ops.toArray L = []→Qc .normal a w:=by
  intro L a w G done rem m st2 hL I hr
  have hon : ∀ n i,i < n→i < ops.length→on L i = true:=by
   intro n
   induction n with
   | zero=>intro i h;omega
   | succ n ih=>
     intro i hi hlt
     cases ho : on L i with
     | true=>rfl
     | false=>
       exfalso
       have : i∈Region.ready .any ops.toArray L:=(ready_iff hL).2 ⟨hlt,ho,fun k hk=>by
        simp only [depOn,Array.any_eq_true',Bool.and_eq_true,beq_iff_eq] at hk;obtain ⟨e,he,hb,rfl⟩:=hk;have:=D.back i hlt e he hb;exact ih e.on (by omega) (by omega)⟩
       rw [hr] at this;simp at this
  have hrem : rem = []:=by
   cases hq : rem with
   | nil=>rfl
   | cons t r=>
     have ht : t∈rem:=by rw [hq];simp
     have h1:=I.roff t ht;have h2:=hon (t + 1) t (by omega) (D.htail t (I.rs t ht));rw [h1] at h2;simp at h2
  have hobl : K { st2 with t:=pvT (pv.filter fun p=>!G.contains p.1) ++ st2.t }:=by
   have hobl:=I.obl
   cases m with
   | zero=>exact hobl
   | succ m=>exact hobl.1 hrem
  refine hK _ a w hobl (Rep.addPv D (hpv.filter _) I.rep (fun p hp d hd=>?_));have hp':=(List.mem_filter.1 hp).1;have hlt:=(D.hpre _ (hpv.op p hp').1).1;exact I.val p hp' (hon (p.1 + 1) p.1 (by omega) hlt) d hd
 intro fuel
 induction fuel with
 | zero=>
   intro L a w G done rem m st2 hL hf I
   have hr : Region.ready .any ops.toArray L = []:=by
    cases hq : Region.ready .any ops.toArray L with
    | nil=>rfl
    | cons i l=>
      obtain ⟨h1,h2,-⟩:=(ready_iff hL).1 (show i∈Region.ready .any ops.toArray L by rw [hq];simp);have : i∈(List.range ops.length).filter fun i=>!on L i:=List.mem_filter.2 ⟨List.mem_range.2 h1,by simp [h2]⟩
      have:=List.length_pos_of_mem this;omega
   exact ⟨hr,fin L a w G done rem m st2 hL I hr⟩
 | succ fuel ih=>
   intro L a w G done rem m st2 hL hf I
   have stepT : ∀ (i : Nat),i < ops.length→on L i = false→(∀ k,depOn (opAt ops i) k = true→on L k = true)→i∈rem→i ∉ pre→i∈tail→∀ m',m = m' + 1→∀ (r : Value) (w' : World),
    StepR E.w0 E.base { st2 with t:=pvT (pv.filter fun p=>depOn (opAt ops i) p.1 && !G.contains p.1) ++ st2.t } a w (opAt ops i).dst r w' (fun st3=>
     (∀ p ∈ pv.filter (fun p => !depOn (opAt ops i) p.1 && !G.contains p.1),aStlW E ops p.2.1 { st with t := pvT pv ++ st.t,h := st3.h } fun v => v = p.2.2) ∧
     aTailL E ops pre tail st pv m' ((pv.filter fun p => depOn (opAt ops i) p.1 && !G.contains p.1).map (·.1) ++ G) (rem.filter (· != i)) st3 K) →
    wpAny E.P .any ops.toArray Qc fuel (L.setIfInBounds i true) (a.put (opAt ops i).dst r) w':=by
    intro i hilt hioff hidep hit hip hitail m' hm' r w' hs;subst hm';have hL' : (L.setIfInBounds i true).size = ops.length:=by simp [hL]
    have hset : ∀ j,on (L.setIfInBounds i true) j = if j = i then true else on L j:=fun j=>on_set (by omega)
    have hmono : ∀ j,on L j = true→on (L.setIfInBounds i true) j = true:=fun j hj=>by rw [hset];split<;>simp [hj]
    have hf' : ((List.range ops.length).filter fun j=>!on (L.setIfInBounds i true) j).length≤fuel:=by
     have:=filter_lt (l:=List.range ops.length) (p:=fun j=>!on L j) (q:=fun j=>!on (L.setIfInBounds i true) j) (fun x _ hx=>by
      simp only [Bool.not_eq_true'] at hx ⊢;rw [hset] at hx
      split at hx
      ·simp at hx
      ·exact hx) (List.mem_range.2 hilt) (by simp [hioff]) (by simp [hset])
     omega
    obtain ⟨av,h',⟨hpend,hobl'⟩,hrep,htr,hvr⟩:=hs;have htr:=htr (hlo.resolve_left (fun h0=>by rw [h0] at hitail;simp at hitail));have hh : ∀ s2 : ASt,(s2.aft (opAt ops i).dst av h').h = h':=fun s2=>by unfold ASt.aft;split<;>rfl
    have hnn : ∀ s2 : ASt,(s2.aft (opAt ops i).dst av h').n = s2.n:=fun s2=>by unfold ASt.aft;split<;>rfl
    have haft : ∀ (s2 : ASt) (s : Nat),(opAt ops i).dst≠some s→getT (s2.aft (opAt ops i).dst av h').t s = getT s2.t s:=by
     intro s2 s hne;unfold ASt.aft
     split
     ·rfl
     ·rename_i d hd
      simp only [getT];rw [if_neg (fun he=>hne (by rw [hd,he]))]
    have hdp : ∀ q∈pv,∀ d,q.2.1.dst = some d→(opAt ops i).dst≠some d:=by
     intro q hq d hd he;obtain ⟨q1,q2⟩:=hpv.op q hq;rw [q2] at hd;have:=D.dst _ (D.hpre _ q1).1 i hilt d hd he;exact hip (this ▸ q1)
    refine ih _ _ _ _ (done ++ [i]) (rem.filter (· != i)) m' _ hL' hf' ⟨fun t ht=>?_,fun t ht=>I.rs t (List.mem_filter.1 ht).1,?_,fun t ht=>?_,fun t ht=>?_,hobl',hrep,(hnn _).trans I.n,fun j hj=>?_,fun q hq hon d hd=>?_,fun q hq hqG=>?_,fun q hq hqG d hd=>?_,fun s hs=>?_,fun t ht j hj=>?_⟩
    ·rcases I.tm t ht with h | h
     ·exact .inl (List.mem_append_left _ h)
     ·by_cases he : t = i
      ·exact .inl (by rw [he];simp)
      ·exact .inr (List.mem_filter.2 ⟨h,by simpa using he⟩)
    ·have h1 : (rem.filter (· != i)).length < rem.length:=by
      rw [List.length_filter_lt_length_iff_exists];exact ⟨i,hit,by simp⟩
     have:=I.nl;omega
    ·rw [hset]
     rcases List.mem_append.1 ht with ht | ht
     ·split
      ·rfl
      ·exact I.don t ht
     ·simp at ht;rw [if_pos ht]
    ·rw [hset]
     have ht2:=List.mem_filter.1 ht;rw [if_neg (by simpa using ht2.2)];exact I.roff t ht2.1
    ·rcases List.mem_append.1 hj with hj | hj
     ·obtain ⟨q,hq,rfl⟩:=List.mem_map.1 hj
      have hq2:=(List.mem_filter.1 hq).2;simp only [Bool.and_eq_true] at hq2;exact hmono _ (hidep _ hq2.1)
     ·exact hmono j (I.g j hj)
    ·rw [hh,put_get (hdp q hq d hd)]
     rw [hset] at hon
     split at hon
     ·rename_i he
      exact absurd (he ▸ (hpv.op q hq).1) hip
     ·exact (I.val q hq hon d hd).tr htr
    ·have:=hpend q (List.mem_filter.2 ⟨hq,by
      simp only [Bool.and_eq_true,Bool.not_eq_true'];refine ⟨?_,?_⟩
      ·cases hdep : depOn (opAt ops i) q.1 with
       | false=>rfl
       | true=>
         exfalso
         by_cases hg : q.1∈G
         ·exact hqG (List.mem_append.2 (.inr hg))
         ·exact hqG (List.mem_append.2 (.inl (List.mem_map.2 ⟨q,List.mem_filter.2 ⟨hq,by simp [hdep,hg]⟩,rfl⟩)))
      ·cases hg : G.contains q.1 with
       | false=>rfl
       | true=>exact absurd (List.mem_append.2 (.inr (by simpa using hg))) hqG⟩)
     exact this
    ·rw [haft _ _ (hdp q hq d hd)]
     show getT (pvT _ ++ st2.t) d = _
     rw [getT_pv_none (fun q' hq' hd'=>?_)]
     ·exact I.mask q hq (fun hg=>hqG (List.mem_append.2 (.inr hg))) d hd
     ·have:=pv_dst D hpv ((List.mem_filter.1 hq').1) hq hd' hd
      subst this;exact hqG (List.mem_append.2 (.inl (List.mem_map.2 ⟨q',hq',rfl⟩)))
    ·rw [hh,put_get (hs i hilt (by rw [hset];simp))]
     exact (I.frame s (fun k hk hkon=>hs k hk (hmono k hkon))).tr htr
    ·rcases List.mem_append.1 ht with ht | ht
     ·exact hmono j (I.edges t ht j hj)
     ·simp at ht;subst ht;exact hmono j (hidep j hj)
   by_cases hlt : ∃ i,rem.find? (headL ops pre tail rem) = some i
   ·obtain ⟨i,hfi⟩:=hlt
    have hheads : heads ops pre tail rem = [i]:=by unfold heads;rw [hfi]
    have hit : i∈rem:=List.mem_of_find?_eq_some hfi;have hhd:=List.find?_some hfi;simp only [headL,Bool.and_eq_true] at hhd;obtain ⟨⟨⟨hrd,hli⟩,hfr⟩,hpr⟩:=hhd;have hitail : i∈tail:=I.rs i hit;have hilt : i < ops.length:=D.htail i hitail;have hioff : on L i = false:=I.roff i hit;have hip : i ∉ pre:=fun h=>(D.hpre i h).2 hitail
    have hidep : ∀ k,depOn (opAt ops i) k = true→on L k = true:=by
     intro k hk
     have hklt : k < ops.length:=by
      have hk':=hk;simp only [depOn,Array.any_eq_true',Bool.and_eq_true,beq_iff_eq] at hk';obtain ⟨e,he,hb,rfl⟩:=hk';have:=D.back i hilt e he hb;omega
     rcases D.all k hklt with h | h
     ·have h1:=List.all_eq_true.1 hpr k h
      simp only [hk,Bool.not_true,Bool.false_or,List.any_eq_true,Bool.and_eq_true,Bool.not_eq_true'] at h1;obtain ⟨t,ht,htr,htd⟩:=h1;rcases I.tm t ht with h2 | h2
      ·exact I.edges t h2 k htd
      ·have : rem.contains t = true:=by simpa using h2
       rw [this] at htr;cases htr
     ·rcases I.tm k h with h2 | h2
      ·exact I.don k h2
      ·have h3:=List.all_eq_true.1 hrd k h2
       rw [hk] at h3;simp at h3
    have hready : i∈Region.ready .any ops.toArray L:=(ready_iff hL).2 ⟨hilt,hioff,hidep⟩
    have hfree : Region.free .any ops.toArray L i = true:=by
     unfold Region.free;rw [opget i hilt];simp only [List.all_eq_true,List.mem_range];intro j hj;have hj : j < ops.length:=by simpa using hj
     rw [opget j hj];have h1:=List.all_eq_true.1 hfr j (List.mem_range.2 hj);simp only [Bool.or_eq_true] at h1 ⊢;rcases h1 with ((h1 | h1) | h1) | h1
     ·exact .inl (.inl h1)
     ·exact .inr (.inl h1)
     ·refine .inl (.inr ?_)
      have h2:=hidep j h1;unfold on at h2;have hjl : j < L.size:=by omega
      simp only [Array.getD_eq_getD_getElem?,Array.getElem?_eq_getElem hjl,Option.getD_some] at h2 ⊢;exact h2
     ·exact .inr (.inr h1)
    have hlen:=List.length_pos_of_mem hit;obtain ⟨m',rfl⟩ : ∃ k,m = k + 1:=⟨m - 1,by have:=I.nl;omega⟩;have hobl:=I.obl.2 i (by rw [hheads];simp)
    have hR1 : Rep E.w0 E.base { st2 with t:=pvT (pv.filter fun p=>depOn (opAt ops i) p.1 && !G.contains p.1) ++ st2.t } a w:=Rep.addPv D (hpv.filter _) I.rep (fun q hq d hd=>by
     have hq':=(List.mem_filter.1 hq).1;have hq2:=(List.mem_filter.1 hq).2;simp only [Bool.and_eq_true] at hq2;exact I.val q hq' (hidep _ hq2.1) d hd)
    have hgn : (opAt ops i).guard = none:=by
     have h:=hli;unfold lightO at h;simp only [Bool.and_eq_true,Option.isNone_iff_eq_none] at h;exact h.1.1
    rw [aOpG_none hgn] at hobl;obtain ⟨v,hy,hs⟩:=light_sound hE hR1 hli hobl;exact wpAny_take (opget i hilt) hns hfree (by simpa using hready) (fun c a w h=>absurd h (hQp c _ _)) (.inl ⟨by simp [Region.wanted,hgn],hy⟩) (stepT i hilt hioff hidep hit hip hitail m' rfl v w hs)
   have hnone : rem.find? (headL ops pre tail rem) = none:=by
    cases h : rem.find? (headL ops pre tail rem) with
    | none=>rfl
    | some i=>exact absurd ⟨i,h⟩ hlt
   have hheads : heads ops pre tail rem = rem.filter (readyT ops rem):=by unfold heads;rw [hnone]
   refine ⟨fin L a w G done rem m st2 hL I,fun i hi=>?_⟩;obtain ⟨hilt,hioff,hidep⟩:=(ready_iff hL).1 hi;have hL' : (L.setIfInBounds i true).size = ops.length:=by simp [hL]
   have hset : ∀ j,on (L.setIfInBounds i true) j = if j = i then true else on L j:=fun j=>on_set (by omega)
   have hmono : ∀ j,on L j = true→on (L.setIfInBounds i true) j = true:=fun j hj=>by rw [hset];split<;>simp [hj]
   have hf' : ((List.range ops.length).filter fun j=>!on (L.setIfInBounds i true) j).length≤fuel:=by
    have:=filter_lt (l:=List.range ops.length) (p:=fun j=>!on L j) (q:=fun j=>!on (L.setIfInBounds i true) j) (fun x _ hx=>by
     simp only [Bool.not_eq_true'] at hx ⊢;rw [hset] at hx
     split at hx
     ·simp at hx
     ·exact hx) (List.mem_range.2 hilt) (by simp [hioff]) (by simp [hset])
    omega
   unfold wpOp;rw [opget i hilt];simp only;by_cases hip : i∈pre
   ·obtain ⟨p,hp,hpi⟩:=hall i hip
    have hpo : p.2.1 = opAt ops i:=by rw [← hpi];exact (hpv.op p hp).2
    have hiG : p.1 ∉ G:=fun hg=>by have:=I.g _ hg;rw [hpi,hioff] at this;simp at this
    obtain ⟨d,hd⟩:=D.has i hip;have hpd : p.2.1.dst = some d:=by rw [hpo];exact hd
    let full:=pvT pv ++ st.t
    let sl:=opSlots (opAt ops i) ++ gSlots ops (opAt ops i)
    let sts : ASt:={ n:=st.n,kb:=st.kb,t:=sl.map fun s=>(s,getT full s),h:=st2.h }
    have hRs : Rep E.w0 E.base sts a w:=by
     refine ⟨I.rep.dfr,I.rep.size.trans I.n,fun s=>?_,I.rep.heap,I.rep.below,I.rep.base_le⟩
     show VRel w st2.h.M (getT (sl.map fun s=>(s,getT full s)) s) _
     rw [getT_map]
     split
     ·rename_i hs
      have hs' : s∈opSlots (opAt ops i)∨s∈gSlots ops (opAt ops i):=List.mem_append.1 hs;by_cases hq : ∃ q∈pv,q.2.1.dst = some s
      ·obtain ⟨q,hq,hqd⟩:=hq
       rw [show full = pvT pv ++ st.t from rfl,getT_pv D hpv hq hqd];obtain ⟨q1,q2⟩:=hpv.op q hq;rcases D.use i hip s hs' q.1 (D.hpre _ q1).1 (by rw [← q2];exact hqd) with ⟨-,h⟩ | ⟨h,-⟩
       ·exact I.val q hq (hidep _ h) s hqd
       ·exact absurd q1 h
      ·rw [show full = pvT pv ++ st.t from rfl,getT_pv_none (fun q hq' hqd=>hq ⟨q,hq',hqd⟩)]
       refine I.frame s (fun k hk hkon hkd=>?_);rcases D.use i hip s hs' k hk hkd with ⟨hkp,-⟩ | ⟨hkn,hkdep⟩
       ·obtain ⟨q,hq',hqk⟩:=hall k hkp
        exact hq ⟨q,hq',by rw [(hpv.op q hq').2,hqk];exact hkd⟩
       ·rcases D.all k hk with h | h
        ·exact hkn h
        ·rcases I.tm k h with h | h
         ·have:=I.edges k h i hkdep
          rw [hioff] at this;simp at this
         ·have:=I.roff k h
          rw [hkon] at this;simp at this
     ·exact .any _
    have hval : aStlW E ops (opAt ops i) sts (fun v=>v = p.2.2):=by
     have h:=I.pend p hp hiG;rw [hpo] at h;refine aStlW_congr (st:={ st with t:=pvT pv ++ st.t,h:=st2.h }) (fun s hs=>?_) rfl h
     show getT (sl.map fun s=>(s,getT full s)) s = getT full s
     rw [getT_map,if_pos (List.mem_append.2 hs)]
    refine aStlW_exec hE hRs hval (fun r w' q=>?_);obtain ⟨Es,hrel⟩:=q.rel;have hdlt : d < a.tmps.size:=by rw [I.rep.size,I.n];exact hdn p hp d hpd
    refine ih _ _ _ G done rem m st2 hL' hf' ⟨I.tm,I.rs,I.nl,fun t ht=>hmono t (I.don t ht),fun t ht=>?_,I.obl,?_,I.n,fun j hj=>hmono j (I.g j hj),fun q' hq' hon d' hd'=>?_,I.pend,I.mask,fun s hs=>?_,fun t ht j hj=>hmono j (I.edges t ht j hj)⟩
    ·rw [hset]
     split
     ·rename_i h;subst h
      exact absurd (I.rs _ ht) (D.hpre _ hip).2
     ·exact I.roff t ht
    ·refine Rep.putAny (I.rep.move hrel q.tr q.same).rep r (fun s hs=>?_)
     rw [hd] at hs;cases hs;exact I.mask p hp hiG d hpd
    ·rw [hset] at hon
     by_cases hqi : q'.1 = i
     ·have : q' = p:=hpv.one q' hq' p hp (by rw [hqi,hpi])
      subst this;rw [hpd] at hd';cases hd';rw [hd,put_same hdlt];exact q.val
     ·rw [if_neg hqi] at hon
      rw [put_get]
      ·exact (I.val q' hq' hon d' hd').tr q.tr
      ·rw [hd]
       intro he
       cases he
       have:=pv_dst D hpv hq' hp hd' hpd;exact hqi (by rw [this,hpi])
    ·rw [put_get (hs i hilt (by rw [hset];simp))]
     exact (I.frame s (fun k hk hkon=>hs k hk (hmono k hkon))).tr q.tr
   ·have hit : i∈rem:=by
     rcases D.all i hilt with h | h
     ·exact absurd h hip
     ·rcases I.tm i h with h | h
      ·have:=I.don i h;rw [hioff] at this;simp at this
      ·exact h
    have hitail : i∈tail:=I.rs i hit
    have hready : readyT ops rem i = true:=by
     unfold readyT;rw [List.all_eq_true];intro q hq
     cases hd : depOn (opAt ops i) q with
     | false=>rfl
     | true=>
       have h1:=hidep q hd;have h2:=I.roff q hq;rw [h1] at h2;simp at h2
    have hlen:=List.length_pos_of_mem hit;obtain ⟨m,rfl⟩ : ∃ k,m = k + 1:=⟨m - 1,by have:=I.nl;omega⟩;have hobl:=I.obl.2 i (by rw [hheads];exact List.mem_filter.2 ⟨hit,hready⟩);refine aOpG_exec hE (Rep.addPv D (hpv.filter _) I.rep (fun q hq d hd=>?_)) hobl (fun r w' hs=>?_)
    ·have hq':=(List.mem_filter.1 hq).1
     have hq2:=(List.mem_filter.1 hq).2;simp only [Bool.and_eq_true] at hq2;exact I.val q hq' (hidep _ hq2.1) d hd
    ·exact stepT i hilt hioff hidep hit hip hitail m rfl r w' hs
theorem DrawT.introL2 {E : Env} (hE : EOk E) (hm : E.P.follows .mixedOrders = true) {id : Nat} {ops : List Oper} {Q : Exit→ASt→Prop} {st : ASt} (pre tail : List Nat) (hlo : tail = []∨E.base.loose = false) (hok : drawOk0 ops pre tail = true) (hns : Region.noSelect ops.toArray = true) (K : PV→ASt→Prop)
 (X : PV→Prop) (hX : ∀ pv,X pv→aTailL E ops pre tail st pv tail.length [] tail { st with t:=maskT pv ++ st.t } (K pv))
 (h : aPre E ops st [] (pre.map fun i=>(i,opAt ops i)) fun pv=>(∀ p∈pv,∀ d,p.2.1.dst = some d→d < st.n)∧X pv)
 (hfin : ∀ pv st' a w,K pv st'→Rep E.w0 E.base st' a w→∃ st'',Q .normal st''∧Rep E.w0 E.base st'' a w) : DrawT E id ops Q st:=by
 intro a w hR;have D:=drawOk0_sound hok;obtain ⟨pv,⟨hdn,hobl0⟩,hpv,hall,hval⟩:=aPre_spec D pre [] [] (by simp) ⟨by simp,by simp⟩ (by simp) (by simp) (by simp) h;have hobl:=hX pv hobl0;refine wp_mono (?_ : (Code.region id ops.toArray true).wp E.P (fun e a' w'=>e = .normal∧∃ st',Q e st'∧Rep E.w0 E.base st' a' w') a w) (fun e a' w' h=>h.2);refine wp_region_any hm ?_
 have hR' : Rep E.w0 E.base { st with t:=maskT pv ++ st.t } a { w with drawn:=w.drawn + 1 }:=by
  obtain ⟨Es,H⟩:=hR.heap;have t : Tr st.h.M w st.h.M { w with drawn:=w.drawn + 1 }:=⟨Nat.le_refl _,fun _ _ _=>rfl,fun _ _ h=>h⟩;have hR1 : Rep E.w0 E.base st a { w with drawn:=w.drawn + 1 }:=(hR.move (h':=st.h) (E':=Es) ⟨fun k=>(H.obj k).tr t (fun _ _=>rfl) (fun _ hc _=>hc),H.inj,H.low,H.elow,H.einj,H.em⟩ t ⟨rfl,rfl,rfl⟩).rep;refine ⟨hR1.dfr,hR1.size,fun s=>?_,hR1.heap,hR1.below,hR1.base_le⟩;by_cases hs : ∃ p∈maskT pv,p.1 = s
  ·obtain ⟨p,hp,rfl⟩:=hs
   have hany : ∀ q∈maskT pv,q.2 = .any:=by
    intro q hq;unfold maskT at hq;rw [List.mem_filterMap] at hq;obtain ⟨x,-,hx⟩:=hq;rw [Option.map_eq_some_iff] at hx;obtain ⟨d,-,rfl⟩:=hx;rfl
   show VRel _ st.h.M (getT (maskT pv ++ st.t) p.1) _
   rw [getT_append_mem (v:=.any) (by have:=hany p hp;rw [← this];exact hp) (fun q hq _=>hany q hq)];exact .any _
  ·show VRel _ st.h.M (getT (maskT pv ++ st.t) s) _
   rw [getT_append (fun p hp he=>hs ⟨p,hp,he⟩)];exact hR1.tmp s
 have hoff : ∀ i,on (Array.replicate ops.toArray.size false) i = false:=by
  intro i;unfold on;simp only [Array.getD_eq_getD_getElem?,Array.getElem?_replicate]
  split<;>rfl
 refine draw_soundL hE D hpv hall hdn hlo (K:=K pv) (fun st' a' w' h1 h2=>⟨rfl,hfin pv st' a' w' h1 h2⟩) (fun c a w h=>by cases h.1) hns ops.toArray.size (Array.replicate ops.toArray.size false) a _ [] [] tail tail.length { st with t:=maskT pv ++ st.t } (by simp) ?_
  ⟨fun t ht=>.inr ht,fun _ h=>h,Nat.le_refl _,by simp,fun t _=>hoff t,hobl,hR',rfl,by simp,fun p _ hon=>by rw [hoff] at hon;simp at hon,fun p hp _=>hval p hp,fun p hp _ d hd=>?_,fun s _=>?_,by simp⟩
 ·have:=List.length_filter_le (fun i=>!on (Array.replicate ops.toArray.size false) i) (List.range ops.length)
  simpa using this
 ·show getT (maskT pv ++ st.t) d = _
  refine getT_append_mem ?_ (fun q hq _=>?_)
  ·unfold maskT;rw [List.mem_filterMap];exact ⟨p,hp,by rw [hd];rfl⟩
  ·unfold maskT at hq
   rw [List.mem_filterMap] at hq;obtain ⟨x,-,hx⟩:=hq;rw [Option.map_eq_some_iff] at hx;obtain ⟨d,-,rfl⟩:=hx;rfl
 ·exact (hR.tmp s).tr ⟨Nat.le_refl _,fun _ _ _=>rfl,fun _ _ h=>h⟩
def aTreeP (E : Env) (all : List Oper) (n kb : Nat) (vt : List (Nat × AV)) (pv : List (Oper × Nat × AV)) (K : ASt→Prop) : OT→ASt→Prop
 | .leaf R,st2=>svT (pick R (pv.map fun p=>(p.2.1,p.2.2)) ++ st2.t) fun t'=>K { st2 with t:=t' }
 | .stop,_=>True
 | .child i D N sub next,st2=>(svT (pick D (pv.map fun p=>(p.2.1,p.2.2)) ++ st2.t) fun t'=>
  aOpG E all (opAt all i) { st2 with t:=t' } fun st3=>allP (pick N pv) (fun o v0=>aStlW E all o ⟨n,kb,vt,st3.h⟩ fun v=>v = v0)∧aTreeP E all n kb vt pv K sub st3)∧aTreeP E all n kb vt pv K next st2
theorem DrawT.introL {E : Env} (hE : EOk E) (hm : E.P.follows .mixedOrders = true) {id : Nat} {ops : List Oper} {Q : Exit→ASt→Prop} {st : ASt} (pre tail : List Nat) (hok : drawOk0 ops pre tail = true) (hns : Region.noSelect ops.toArray = true)
 (X : PV→Prop) (hX : ∀ pv,X pv→aTailL E.tight ops pre tail st pv tail.length [] tail { st with t:=maskT pv ++ st.t } (Q .normal))
 (h : aPre E.tight ops st [] (pre.map fun i=>(i,opAt ops i)) fun pv=>(∀ p∈pv,∀ d,p.2.1.dst = some d→d < st.n)∧X pv) : DrawT E id ops Q st:=by
 obtain ⟨P,T,w0,⟨F,G,l,L⟩⟩:=E;have h1:=DrawT.introL2 (E:=⟨P,T,w0,⟨F,G,false,L⟩⟩) hE hm (id:=id) (Q:=Q) pre tail (.inr rfl) hok hns (fun _=>Q .normal) X hX h (fun _ st' _ _ h1 h2=>⟨st',h1,h2⟩);intro a w hR;refine wp_mono (h1 a w hR.loose) ?_
 rintro e a' w' ⟨st',hq,hR'⟩
 exact ⟨st',hq,hR'.loose⟩
def treeOkL (ops : List Oper) (pre tail : List Nat) : OT→List Nat→List Nat→List Nat→Bool
 | .leaf R,rem,G,_=>rem == [] && R == pre.reverse.map fun i=>!G.contains i
 | .stop,rem,_,tried=>rem != [] && (heads ops pre tail rem).all fun i=>tried.contains i
 | .child i D N sub next,rem,G,tried=>(heads ops pre tail rem).contains i && !tried.contains i && (D == pre.reverse.map fun k=>depOn (opAt ops i) k && !G.contains k) && (N == pre.reverse.map fun k=>!depOn (opAt ops i) k && !G.contains k) &&
  treeOkL ops pre tail sub (rem.filter (· != i)) (pick D pre.reverse ++ G) [] && treeOkL ops pre tail next rem G (i :: tried)
def aBrL (E : Env) (all : List Oper) (pre tail : List Nat) (st : ASt) (pv : PV) (n : Nat) (G rem : List Nat) (st2 : ASt) (K : ASt→Prop) (i : Nat) : Prop:=
 aOpG E all (opAt all i) { st2 with t:=pvT (pv.filter fun p=>depOn (opAt all i) p.1 && !G.contains p.1) ++ st2.t } fun st3=>
  (∀ p ∈ pv.filter (fun p => !depOn (opAt all i) p.1 && !G.contains p.1),aStlW E all p.2.1 { st with t := pvT pv ++ st.t,h := st3.h } fun v => v = p.2.2) ∧
  aTailL E all pre tail st pv n ((pv.filter fun p=>depOn (opAt all i) p.1 && !G.contains p.1).map (·.1) ++ G) (rem.filter (· != i)) st3 K
theorem heads_mem {all : List Oper} {pre tail rem : List Nat} {i : Nat} (h : i∈heads all pre tail rem) : i∈rem:=by
 unfold heads at h
 split at h
 ·rename_i j hj
  simp at h;subst h;exact List.mem_of_find?_eq_some hj
 ·exact (List.mem_filter.1 h).1
@[simp] theorem heads_nil {all : List Oper} {pre tail : List Nat} : heads all pre tail [] = []:=(rfl)
theorem aTreeL_eq {E : Env} {ops : List Oper} {n kb : Nat} {t : List (Nat × AV)} {h0 : AH} {pre tail : List Nat} {pv : PV} (hix : ixs pv = pre.reverse) (hsome : ∀ p∈pv,p.2.1.dst.isSome = true) {K : ASt→Prop} :
 ∀ (T : OT) (rem G tried : List Nat) (st2 : ASt) (m : Nat),rem.length ≤ m → treeOkL ops pre tail T rem G tried = true →
 aTreeP E ops n kb (pvT pv ++ t) (lite pv) K T st2 =
  ((rem = []→K { st2 with t:=pvT (pv.filter fun p=>!G.contains p.1) ++ st2.t })∧∀ i∈heads ops pre tail rem,i ∉ tried→aBrL E ops pre tail ⟨n,kb,t,h0⟩ pv (m - 1) G rem st2 K i)
 | .leaf R,rem,G,tried,st2,m,hm,hok=>by
   simp only [treeOkL,Bool.and_eq_true,beq_iff_eq] at hok;obtain ⟨rfl,hR⟩:=hok;simp only [aTreeP,svT];rw [selR_eq,selR_pick,hix,← hR]
   have : pvT (pick R pv) = pick R ((lite pv).map fun p=>(p.2.1,p.2.2)):=by
    rw [pvT_lite _ (fun p hp=>hsome p (pick_mem _ _ hp)),pick_map];unfold lite;rw [pick_map,List.map_map]
   rw [this];simp
 | .stop,rem,G,tried,st2,m,hm,hok=>by
   simp only [treeOkL,Bool.and_eq_true,bne_iff_ne,List.all_eq_true,List.contains_iff_mem] at hok;obtain ⟨h1,h2⟩:=hok;simp only [aTreeP]
   apply propext
   constructor
   ·intro _
    exact ⟨fun h=>absurd h h1,fun i hi ht=>absurd (h2 i hi) ht⟩
   ·intro _;trivial
 | .child i D N sub next,rem,G,tried,st2,m,hm,hok=>by
   simp only [treeOkL,Bool.and_eq_true,beq_iff_eq,Bool.not_eq_true',List.contains_iff_mem] at hok;obtain ⟨⟨⟨⟨⟨hih,ht⟩,hD0⟩,hN0⟩,hs⟩,hnx⟩:=hok;have hi:=heads_mem hih;have ht : i ∉ tried:=by simpa using ht
   have hD : pv.filter (fun p=>depOn (opAt ops i) p.1 && !G.contains p.1) = pick D pv:=by rw [selG_eq,selG_pick,hix,← hD0]
   have hN : pv.filter (fun p=>!depOn (opAt ops i) p.1 && !G.contains p.1) = pick N pv:=by rw [selN_eq,selN_pick,hix,← hN0]
   have e1 : pvT (pick D pv) = pick D ((lite pv).map fun p=>(p.2.1,p.2.2)):=by
    rw [pvT_lite _ (fun p hp=>hsome p (pick_mem _ _ hp)),pick_map];unfold lite;rw [pick_map,List.map_map]
   have e2 : (pick D pv).map (·.1) = pick D pre.reverse:=by rw [← hix];unfold ixs;rw [pick_map]
   have hlen:=filter_lt_of_mem hi hm
   have hbr : aBrL E ops pre tail ⟨n,kb,t,h0⟩ pv (m - 1) G rem st2 K i = (svT (pick D ((lite pv).map fun p=>(p.2.1,p.2.2)) ++ st2.t) fun t'=>
    aOpG E ops (opAt ops i) { st2 with t:=t' } fun st3=>allP (pick N (lite pv)) (fun o v0=>aStlW E ops o ⟨n,kb,pvT pv ++ t,st3.h⟩ fun v=>v = v0)∧aTreeP E ops n kb (pvT pv ++ t) (lite pv) K sub st3):=by
    unfold aBrL;rw [hD,hN,e1,e2];simp only [svT];refine congrArg _ ?_
    funext st3
    have hsub:=aTreeL_eq (E:=E) (t:=t) (h0:=h0) (kb:=kb) (n:=n) hix hsome (K:=K) sub (rem.filter (· != i)) (pick D pre.reverse ++ G) [] st3 (m - 1) hlen hs
    have hN2 : aTailL E ops pre tail ⟨n,kb,t,h0⟩ pv (m - 1) (pick D pre.reverse ++ G) (rem.filter (· != i)) st3 K = aTreeP E ops n kb (pvT pv ++ t) (lite pv) K sub st3:=by
     rw [hsub]
     cases hm1 : m - 1 with
     | zero=>
       have h0' : rem.filter (· != i) = []:=List.eq_nil_of_length_eq_zero (by omega);simp only [aTailL,h0'];simp
     | succ k=>
       simp only [aTailL]
       apply propext
       constructor
       ·rintro ⟨h1,h2⟩
        exact ⟨h1,fun j hj _=>h2 j hj⟩
       ·rintro ⟨h1,h2⟩
        exact ⟨h1,fun j hj=>h2 j hj (by simp)⟩
    rw [hN2];refine congrArg (·∧_) ?_;have e3 : pick N (lite pv) = lite (pick N pv):=by unfold lite;rw [pick_map]
    rw [e3,allP_eq]
    apply propext
    constructor
    ·intro hh p hp
     unfold lite at hp;rw [List.mem_map] at hp;obtain ⟨q,hq,rfl⟩:=hp;exact hh q hq
    ·intro hh q hq
     exact hh _ (by unfold lite;exact List.mem_map_of_mem hq)
   have hnext:=aTreeL_eq (E:=E) (t:=t) (h0:=h0) (kb:=kb) (n:=n) hix hsome (K:=K) next rem G (i :: tried) st2 m hm hnx;simp only [aTreeP];rw [hnext,← hbr]
   apply propext
   constructor
   ·rintro ⟨h1,h2,h3⟩
    refine ⟨h2,fun j hj hjt=>?_⟩;by_cases hji : j = i
    ·subst hji;exact h1
    ·exact h3 j hj (by simp [hji,hjt])
   ·rintro ⟨h2,h3⟩
    exact ⟨h3 i hih ht,h2,fun j hj hjt=>h3 j hj (fun h=>hjt (List.mem_cons_of_mem _ h))⟩
theorem DrawT.introS {E : Env} (hE : EOk E) (hm : E.P.follows .mixedOrders = true) {id : Nat} {ops : List Oper} {Q : Exit→ASt→Prop} {n kb : Nat} {t : List (Nat × AV)} {h : AH} (pre tail : List Nat) (T : OT)
 (hok : (drawOk0 ops pre tail && treeOkL ops pre tail T tail [] [] && dstsOk n ops pre && Region.noSelect ops.toArray) = true)
 (hx : aPreP E.tight ops n kb h (pre.map (opAt ops)) t [] fun vt lp=>svT ((lp.map fun p=>(p.2.1,AV.any)) ++ t) fun tm=>aTreeP E.tight ops n kb vt lp (Q .normal) T ⟨n,kb,tm,h⟩) : DrawT E id ops Q ⟨n,kb,t,h⟩:=by
 simp only [Bool.and_eq_true] at hok;obtain ⟨⟨⟨h1,h2⟩,h3⟩,hns⟩:=hok
 have hd : ∀ i∈pre,∃ d,(opAt ops i).dst = some d∧d < n:=by
  intro i hi;have:=List.all_eq_true.1 h3 i hi
  split at this
  ·rename_i d hd;exact ⟨d,hd,by simpa using this⟩
  ·simp at this
 refine DrawT.introL hE hm pre tail h1 hns (fun pv=>aTailL E.tight ops pre tail ⟨n,kb,t,h⟩ pv tail.length [] tail ⟨n,kb,maskT pv ++ t,h⟩ (Q .normal)) (fun pv hpv=>hpv) ?_;rw [aPreP_eq (K':=fun vt lp=>svT ((lp.map fun p=>(p.2.1,AV.any)) ++ t) fun tm=>aTreeP E.tight ops n kb vt lp (Q .normal) T ⟨n,kb,tm,h⟩) pre [] (by simp) (fun i hi=>by obtain ⟨d,hd,_⟩:=hd i hi;rw [hd];rfl) (fun pv' e1 e2=>?_)]
 ·exact hx
 ·have hix : ixs pv' = pre.reverse:=by rw [e1];simp [ixs]
  have hmem : ∀ p∈pv',p.1∈pre:=fun p hp=>by
   have : p.1∈ixs pv':=List.mem_map_of_mem hp;rw [hix] at this;simpa using this
  have hsome : ∀ p∈pv',p.2.1.dst.isSome = true:=fun p hp=>by
   obtain ⟨d,hd,_⟩:=hd p.1 (hmem p hp);rw [e2 p hp,hd];rfl
  have hc : (∀ p∈pv',∀ d,p.2.1.dst = some d→d < n) = True:=by
   simp only [eq_iff_iff,iff_true];intro p hp d hpd;obtain ⟨d',hd',hlt⟩:=hd p.1 (hmem p hp);rw [e2 p hp,hd'] at hpd
   cases hpd
   exact hlt
  have hmask : maskT pv' = (lite pv').map fun p=>(p.2.1,AV.any):=by
   have : ∀ l : PV,(∀ p∈l,p.2.1.dst.isSome = true)→maskT l = (lite l).map fun p=>(p.2.1,AV.any):=by
    intro l
    induction l with
    | nil=>intro _;rfl
    | cons p l ih=>
      intro hl;have g1:=hl p (List.mem_cons_self ..);have g2:=ih (fun q hq=>hl q (List.mem_cons_of_mem _ hq));obtain ⟨i,o,v⟩:=p
      cases hdo : o.dst with
      | none=>simp [hdo] at g1
      | some d=>
        unfold maskT at g2 ⊢;simp only [List.filterMap_cons,hdo,Option.map_some,g2,lite,List.map_cons,Option.getD_some]
   exact this pv' hsome
  simp only [hc,true_and,svT];have key:=aTreeL_eq (E:=E.tight) (t:=t) (h0:=h) (kb:=kb) (n:=n) hix hsome (K:=Q .normal) T tail [] [] ⟨n,kb,maskT pv' ++ t,h⟩ tail.length (Nat.le_refl _) h2;rw [← hmask,key]
  cases hl : tail.length with
  | zero=>
    have h0' : tail = []:=List.eq_nil_of_length_eq_zero hl;subst h0';simp [aTailL]
  | succ k=>
    simp only [aTailL,Nat.add_one_sub_one]
    apply propext
    constructor
    ·rintro ⟨a1,a2⟩
     exact ⟨a1,fun j hj _=>a2 j hj⟩
    ·rintro ⟨a1,a2⟩
     exact ⟨a1,fun j hj=>a2 j hj (by simp)⟩
section rules
variable {E : Env} {all : List Oper} {n kb : Nat} {vt : List (Nat × AV)} {pv : List (Oper × Nat × AV)} {K : ASt→Prop} {st : ASt} {R D N : List Bool} {i : Nat} {sub next : OT}
theorem Tr_leaf : aTreeP E all n kb vt pv K (.leaf R) st = svT (pick R (pv.map fun p=>(p.2.1,p.2.2)) ++ st.t) fun t'=>K { st with t:=t' }:=(rfl)
theorem Tr_last : aTreeP E all n kb vt pv K (.child i D N sub .stop) st = svT (pick D (pv.map fun p=>(p.2.1,p.2.2)) ++ st.t) fun t'=>
 aOpG E all (opAt all i) { st with t:=t' } fun st3=>allP (pick N pv) (fun o v0=>aStlW E all o ⟨n,kb,vt,st3.h⟩ fun v=>v = v0)∧aTreeP E all n kb vt pv K sub st3:=by
 simp only [aTreeP,and_true]
theorem Tr_child : aTreeP E all n kb vt pv K (.child i D N sub next) st = ((svT (pick D (pv.map fun p=>(p.2.1,p.2.2)) ++ st.t) fun t'=>
 aOpG E all (opAt all i) { st with t:=t' } fun st3=>allP (pick N pv) (fun o v0=>aStlW E all o ⟨n,kb,vt,st3.h⟩ fun v=>v = v0)∧aTreeP E all n kb vt pv K sub st3)∧aTreeP E all n kb vt pv K next st):=(rfl)
end rules
attribute [simp ↓] Tr_leaf Tr_last
section rules
variable {E : Env} {all : List Oper} {st : ASt} {K : ASt→Prop} {dd : Option Nat} {op : Op} {ty : TypeId} {p : String} {af : Array Edge}
theorem G_none : aOpG E all ⟨dd,op,ty,p,af,none⟩ st K = aOp E ⟨dd,op,ty,p,af,none⟩ st K:=(rfl)
theorem G_some {j : Nat} {b : Bool} : aOpG E all ⟨dd,op,ty,p,af,some (j,b)⟩ st K = askS (gslot all j) fun s=>askG (getT st.t s) b (ph (aOp E ⟨dd,op,ty,p,af,some (j,b)⟩ st K)) (ph (aPut st dd .un K)):=by
 simp only [aOpG,askS,askG]
 cases gslot all j<;>rfl
end rules
attribute [simp ↓] G_none G_some
end Gd
end Go.AM
namespace Go.Proofs.Ytoldjebobgocpaa
open Go.AM
set_option maxRecDepth 20000
theorem within_c (n lo hi : Int) : PureC Try.prog 37 [.c (vi n),.c (vi lo),.c (vi hi)] (.one (.c (vb (lo≤n∧n≤hi)) 1)):=by
 refine PureC.intro' tt_ok Try.func37 (by kernel_rfl) rfl rfl rfl (Nat.le_of_ble_eq_true rfl) (fun w0 base=>?_);by_cases h1 : lo≤n<;>by_cases h2 : n≤hi<;>simp [h1,h2]
theorem l01In_c (n lo hi : Int) : PureC Try.prog 112 [.c (vi n),.c (vi lo),.c (vi hi)] (.one (.c (vb (lo≤n∧n≤hi)) 1)):=by
 refine PureC.intro' tt_ok Try.func112 (by kernel_rfl) rfl rfl rfl (Nat.le_of_ble_eq_true rfl) (fun w0 base=>?_);by_cases h1 : lo≤n<;>by_cases h2 : n≤hi<;>simp [h1,h2]
def signOk (n : Int) : Prop:=(0≤n∧n≤1114111)∧¬ (55296≤n∧n≤57343)
def signsOk (l : List Int) : Prop:=∀ n∈l,signOk n
theorem implSignOk_c (n : Int) : PureC Try.prog 102 [.c (vi n)] (.one (.c (vb (signOk n)) 1)):=by
 refine PureC.intro' tt_ok Try.func102 (by kernel_rfl) rfl rfl rfl (Nat.le_of_ble_eq_true rfl) (fun w0 base=>?_);simp;refine ACall.pure (within_c n 0 1114111) (by simp) ?_;by_cases h : 0≤n∧n≤1114111
 ·simp [h]
  refine ACall.pure (within_c n 55296 57343) (by simp) ?_;by_cases h2 : 55296≤n∧n≤57343<;>simp [h2,signOk,h]
  try (rw [dc_yes];omega)
 ·have e : dc (0≤n∧n≤1114111) = false:=by rw [dc_no];exact h
  simp [signOk,h]
theorem specSignOk_c (n : Int) : PureC Try.prog 131 [.c (vi n)] (.one (.c (vb (signOk n)) 1)):=by
 refine PureC.intro' tt_ok Try.func131 (by kernel_rfl) rfl rfl rfl (Nat.le_of_ble_eq_true rfl) (fun w0 base=>?_);simp;refine ACall.pure (l01In_c n 0 1114111) (by simp) ?_;by_cases h : 0≤n∧n≤1114111
 ·simp [h]
  refine ACall.pure (l01In_c n 55296 57343) (by simp) ?_;by_cases h2 : 55296≤n∧n≤57343<;>simp [h2,signOk,h]
  try (rw [dc_yes];omega)
 ·have e : dc (0≤n∧n≤1114111) = false:=by rw [dc_no];exact h
  simp [signOk,h]
theorem all_suc {α : Type} {P : α→Prop} {l : List α} {i : Nat} (h : i < l.length) (ha : ∀ a∈l.take i,P a) (hi : P l[i]) : ∀ a∈l.take (i + 1),P a:=by
 rw [← List.take_append_getElem h];intro a ha';rcases List.mem_append.1 ha' with h1 | h1
 ·exact ha a h1
 ·simp at h1;subst h1;exact hi
theorem all_end {α : Type} {P : α→Prop} {l : List α} {i : Nat} (h : l.length≤i) (ha : ∀ a∈l.take i,P a) : ∀ a∈l,P a:=by
 rwa [List.take_of_length_le h] at ha
theorem all_not {α : Type} {P : α→Prop} {l : List α} {i : Nat} (h : i < l.length) (hi : ¬ P l[i]) : ¬ ∀ a∈l,P a:=fun ha=>hi (ha _ (List.getElem_mem h))
theorem implSignsOk_c (l : List Int) (hl : l.length≤2 ^ 40) : PureC Try.prog 74 [.c (.s (l.map intR))] (.one (.c (vb (signsOk l)) 1)):=by
 refine PureC.intro' tt_ok Try.func74 (by kernel_rfl) rfl rfl rfl (Nat.le_of_ble_eq_true rfl) (fun w0 base=>?_);simp;refine LoopT.intro eok (fun i : Nat=>i≤l.length∧∀ n∈l.take i,signOk n) (fun i=>⟨15,0,[(7,.v (.int .i64 i)),(6,.v (.int .i64 l.length)),(5,.ro (l.map intR))],[]⟩) (fun i=>l.length - i) 0 (by simp) (by simp) (fun i hi=>?_);by_cases h : i < l.length
 ·simp [h]
  refine ACall.pure (implSignOk_c l[i]) (by simp) ?_;simp;refine Br.mk (fun h1=>?_) (fun h1=>?_)
  ·simp
   exact ⟨i + 1,⟨by omega,all_suc h hi.2 (of_yes h1)⟩,by omega,i64_suc (by omega)⟩
  ·simp [dc_no]
   exact all_not h (of_no h1)
 ·simp [h,dc_yes]
  exact all_end (by omega) hi.2
theorem specSignsOk_c (l : List Int) (hl : l.length≤2 ^ 40) : PureC Try.prog 126 [.c (.s (l.map intR))] (.one (.c (vb (signsOk l)) 1)):=by
 refine PureC.intro' tt_ok Try.func126 (by kernel_rfl) rfl rfl rfl (Nat.le_of_ble_eq_true rfl) (fun w0 base=>?_);simp;refine LoopT.intro eok (fun i : Nat=>i≤l.length∧∀ n∈l.take i,signOk n) (fun i=>⟨15,0,[(7,.v (.int .i64 i)),(6,.v (.int .i64 l.length)),(5,.ro (l.map intR))],[]⟩) (fun i=>l.length - i) 0 (by simp) (by simp) (fun i hi=>?_);by_cases h : i < l.length
 ·simp [h]
  refine ACall.pure (specSignOk_c l[i]) (by simp) ?_;simp;refine Br.mk (fun h1=>?_) (fun h1=>?_)
  ·simp
   exact ⟨i + 1,⟨by omega,all_suc h hi.2 (of_yes h1)⟩,by omega,i64_suc (by omega)⟩
  ·simp [dc_no]
   exact all_not h (of_no h1)
 ·simp [h,dc_yes]
  exact all_end (by omega) hi.2
def partOk (p : Part) : Prop:=((p.kind = 1∨p.kind = 3)∧(0≤p.n∧p.n≤200)∧p.signs = [])∨(p.kind = 2∧p.n = 0∧p.signs.length≤200∧signsOk p.signs)
theorem partOk_keep {p : Part} (h : p.kind = 1∨p.kind = 3) : partOk p = ((0≤p.n∧p.n≤200)∧p.signs = []):=by
 have h2 : ¬ p.kind = 2:=by omega
 simp [partOk,h,h2]
theorem partOk_put {p : Part} (h : p.kind = 2) : partOk p = (p.n = 0∧p.signs.length≤200∧signsOk p.signs):=by simp [partOk,h]
theorem partOk_no {p : Part} (h1 : p.kind≠1) (h2 : p.kind≠2) (h3 : p.kind≠3) : ¬ partOk p:=by simp [partOk,h1,h2,h3]
theorem implPartOk_c (p : Part) (hl : p.signs.length≤2 ^ 40) : PureC Try.prog 101 [.agg p.row] (.one (.c (vb (partOk p)) 1)):=by
 refine PureC.intro' tt_ok Try.func101 (by kernel_rfl) rfl rfl rfl (Nat.le_of_ble_eq_true rfl) (fun w0 base=>?_);simp [Part.row];intros;by_cases h13 : p.kind = 1∨p.kind = 3
 ·rw [partOk_keep h13]
  rcases h13 with h | h
  ·simp [h]
   refine ACall.pure (within_c p.n 0 200) (by simp) ?_;by_cases hn : 0≤p.n∧p.n≤200
   ·simp [hn]
   ·have e : dc (0≤p.n∧p.n≤200) = false:=by rw [dc_no];exact hn
    simp [hn]
  ·simp [h]
   refine ACall.pure (within_c p.n 0 200) (by simp) ?_;by_cases hn : 0≤p.n∧p.n≤200
   ·simp [hn]
   ·have e : dc (0≤p.n∧p.n≤200) = false:=by rw [dc_no];exact hn
    simp [hn]
 ·have h1 : ¬ p.kind = 1:=fun h=>h13 (.inl h)
  have h3 : ¬ p.kind = 3:=fun h=>h13 (.inr h)
  by_cases h2 : p.kind = 2
  ·rw [partOk_put h2]
   simp [h2];by_cases hn : p.n = 0
   ·by_cases hs : p.signs.length≤200
    ·have hs' : (p.signs.length : Int)≤200:=by omega
     simp [hn,hs'];refine ACall.pure (implSignsOk_c p.signs hl) (by simp) ?_;simp [hs]
    ·have hs' : ¬ (p.signs.length : Int)≤200:=by omega
     simp [hn,hs',hs]
   ·simp [hn]
  ·simp [h1,h2,h3,partOk_no]
theorem specPartOk_c (p : Part) (hl : p.signs.length≤2 ^ 40) : PureC Try.prog 121 [.agg p.row] (.one (.c (vb (partOk p)) 1)):=by
 refine PureC.intro' tt_ok Try.func121 (by kernel_rfl) rfl rfl rfl (Nat.le_of_ble_eq_true rfl) (fun w0 base=>?_);simp [Part.row];intros;by_cases h13 : p.kind = 1∨p.kind = 3
 ·rw [partOk_keep h13]
  rcases h13 with h | h
  ·simp [h]
   refine ACall.pure (l01In_c p.n 0 200) (by simp) ?_;by_cases hn : 0≤p.n∧p.n≤200
   ·simp [hn]
   ·have e : dc (0≤p.n∧p.n≤200) = false:=by rw [dc_no];exact hn
    simp [hn]
  ·simp [h]
   refine ACall.pure (l01In_c p.n 0 200) (by simp) ?_;by_cases hn : 0≤p.n∧p.n≤200
   ·simp [hn]
   ·have e : dc (0≤p.n∧p.n≤200) = false:=by rw [dc_no];exact hn
    simp [hn]
 ·have h1 : ¬ p.kind = 1:=fun h=>h13 (.inl h)
  have h3 : ¬ p.kind = 3:=fun h=>h13 (.inr h)
  by_cases h2 : p.kind = 2
  ·rw [partOk_put h2]
   simp [h2];by_cases hn : p.n = 0
   ·simp [hn]
    refine ACall.pure (specSignsOk_c p.signs hl) (by simp) ?_;have e : ((p.signs.length : Int)≤200) = (p.signs.length≤200):=by simp;omega
    by_cases hg : signsOk p.signs
    ·simp [hg,e]
    ·simp [hg]
   ·simp [hn]
  ·simp [h1,h2,h3,partOk_no]
def partsOk (o : List Part) : Prop:=(∀ p∈o,partOk p)∧o.length≤600
theorem implPartsOk_c (o : List Part) (hl : nL nPart o≤2 ^ 40) : PureC Try.prog 73 [.c (.s (o.map Part.row))] (.one (.c (vb (partsOk o)) 1)):=by
 refine PureC.intro' tt_ok Try.func73 (by kernel_rfl) rfl rfl rfl (Nat.le_of_ble_eq_true rfl) (fun w0 base=>?_);have hle:=nL_len hl;simp;refine LoopT.intro eok (fun i : Nat=>i≤o.length∧∀ p∈o.take i,partOk p) (fun i=>⟨18,0,[(7,.v (.int .i64 i)),(6,.v (.int .i64 o.length)),(5,.ro (o.map Part.row)),(0,.ro (o.map Part.row))],[]⟩) (fun i=>o.length - i) 0 (by simp) (by simp) (fun i hi=>?_);by_cases h : i < o.length
 ·simp [h,Part.row]
  intros;refine ACall.pure (implPartOk_c o[i] (nL_at hl h)) (by simp [Part.row]) ?_;simp;refine Br.mk (fun h1=>?_) (fun h1=>?_)
  ·simp
   exact ⟨i + 1,⟨by omega,all_suc h hi.2 (of_yes h1)⟩,by omega,i64_suc (by omega)⟩
  ·simp [dc_no]
   exact fun hp=>all_not h (of_no h1) hp.1
 ·have ha:=all_end (by omega) hi.2
  simp [h];refine dc_congr ?_;unfold partsOk;exact ⟨fun h=>by have:=h.2;omega,fun h=>⟨ha,by omega⟩⟩
theorem specPartsOk_c (o : List Part) (hl : nL nPart o≤2 ^ 40) : PureC Try.prog 103 [.c (.s (o.map Part.row))] (.one (.c (vb (partsOk o)) 1)):=by
 refine PureC.intro' tt_ok Try.func103 (by kernel_rfl) rfl rfl rfl (Nat.le_of_ble_eq_true rfl) (fun w0 base=>?_);have hle:=nL_len hl;simp;refine LoopT.intro eok (fun i : Nat=>i≤o.length∧∀ p∈o.take i,partOk p) (fun i=>⟨18,0,[(7,.v (.int .i64 i)),(6,.v (.int .i64 o.length)),(5,.ro (o.map Part.row)),(0,.ro (o.map Part.row))],[]⟩) (fun i=>o.length - i) 0 (by simp) (by simp) (fun i hi=>?_);by_cases h : i < o.length
 ·simp [h,Part.row]
  intros;refine ACall.pure (specPartOk_c o[i] (nL_at hl h)) (by simp [Part.row]) ?_;simp;refine Br.mk (fun h1=>?_) (fun h1=>?_)
  ·simp
   exact ⟨i + 1,⟨by omega,all_suc h hi.2 (of_yes h1)⟩,by omega,i64_suc (by omega)⟩
  ·simp [dc_no]
   exact fun hp=>all_not h (of_no h1) hp.1
 ·have ha:=all_end (by omega) hi.2
  simp [h];refine dc_congr ?_;unfold partsOk;exact ⟨fun h=>by have:=h.2;omega,fun h=>⟨ha,by omega⟩⟩
end Go.Proofs.Ytoldjebobgocpaa
