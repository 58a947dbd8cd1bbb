import Derived.Test.YtoldjebobgocpaaMF
import Derived.Lib.AppendZerosOnto
import Derived.Lib.Overlaps
import Derived.Laws.IdiomCopy
import Derived.Laws.Externs
import Derived.Test.YtoldjebobgocpaaMG
import Derived.Shelf.RegionOpenPlain
import Derived.Test.YtoldjebobgocpaaPF
import Derived.Test.YtoldjebobgocpaaPD
namespace Go.AM
open Go.RowKit
structure Placed (w w' : World) (ob : Option Nat) (nb no nC n sz : Nat) (us : List Value) : Prop where
 at_ : ∃ cs T,w'.heap[nb]? = some (.cells cs T (0,0))∧no + nC * sz≤cs.size∧∀ j,j < n * sz→cs.getD (no + j) undef = us.getD j undef
 le : n≤nC
 cap : nC≤maxLen
 size : w.heap.size≤w'.heap.size
 same : Same w w'
 blk : w.heap.size≤nb∨ob = some nb
 frame : ∀ c,c < w.heap.size→c≠nb→w'.heap[c]? = w.heap[c]?
theorem Rep.place {w0 : World} {base : Bs} {st : ASt} {a : Act} {w w' : World} (hR : Rep w0 base st a w) {h' : AH} {E' : Nat→Nat→Prop} (H' : HRel base h' w E') (tr : Tr st.h.M w h'.M w) {k : Nat} {ob : Option Nat} (hob : (h'.get k).blk = ob)
 {nb no nC sz : Nat} {us : List Value} {rows : List (List CD)} (own : Bool) (hp : Placed w w' ob nb no nC rows.length sz us) (hsz : 0 < sz) (hrl : ∀ row∈rows,row.length = sz) (F : Nat→Nat→Nat→Prop)
 (hr : ∀ i j row d,rows[i]? = some row→row[j]? = some d→Rd w own (F i j) (us.getD (i * sz + j) undef) d) (hF : ∀ i j c,F i j c→¬ h'.M c)
 (hown : own = true→∀ i j c,F i j c→¬ base.G c∧∀ q,q≠k→¬ E' q c) (hinj : own = true→∀ i j i' j' c,F i j c→F i' j' c→i = i'∧j = j') :
 Moved w0 base st a w ((k,.rows (some (nb,no,nC)) sz rows own) :: h') w':=by
 obtain ⟨cs,T,hb,hfit,hcs⟩:=hp.at_
 have hnb : ∀ c,c < w.heap.size→c = nb→(h'.get k).blk = some c:=by
  intro c hc e;subst e;rcases hp.blk with h | h
  ·omega
  ·rw [hob];exact h
 have hfr : ∀ c,c < w.heap.size→(¬ h'.M c∨∃ j,j≠k∧(h'.get j).blk = some c)→w'.heap[c]? = w.heap[c]?:=by
  intro c hc h;refine hp.frame c hc (fun e=>?_);have hk:=hnb c hc e;rcases h with h | ⟨j,hne,hj⟩
  ·exact h ⟨k,hk⟩
  ·exact hne (H'.inj _ _ _ hj hk)
 have t : Tr h'.M w (AH.M ((k,.rows (some (nb,no,nC)) sz rows own) :: h')) w':=Tr.upd H' hp.size (fun c hc hM=>hfr c hc (.inl hM)) (fun c hc=>by
  simp [AObj.blk] at hc;subst hc;rcases hp.blk with h | h
  ·exact .inl h
  ·exact .inr (by rw [hob];exact h))
 have lt : ∀ i j,i < rows.length→j < sz→i * sz + j < rows.length * sz:=by
  intro i j hi hj;have:=Nat.mul_le_mul_right sz (show i + 1≤rows.length by omega);have e : (i + 1) * sz = i * sz + sz:=Nat.succ_mul i sz;omega
 refine (hR.move H' tr ⟨rfl,rfl,rfl⟩).move (H'.upd (Ek:=fun c=>own = true∧c < w.heap.size∧∃ i j,F i j c) hp.size hfr (fun c hc=>?_)
  ⟨cs,T,fun i j c=>c < w.heap.size∧F i j c,hb,hp.le,hp.cap,hsz,hfit,hrl,?_,?_,?_⟩ ?_) t hp.same
 ·simp [AObj.blk] at hc
  subst hc;rcases hp.blk with h | h
  ·exact ⟨hR.newer h,.inl h⟩
  ·have hk : (h'.get k).blk = some nb:=by rw [hob];exact h
   exact ⟨H'.low k _ hk,.inr hk⟩
 ·rintro i j c ⟨hlt,hc⟩
  exact ⟨fun ho=>⟨ho,hlt,i,j,hc⟩,fun hM=>hF i j c hc (t.mono c hlt hM)⟩
 ·rintro ho i j i' j' c ⟨-,hc⟩ ⟨-,hc'⟩
  exact hinj ho i j i' j' c hc hc'
 ·intro i j row d hi hj
  have h1 : i < rows.length:=(List.getElem?_eq_some_iff.1 hi).1;have h2 : j < sz:=by rw [← hrl _ (List.mem_of_getElem? hi)];exact (List.getElem?_eq_some_iff.1 hj).1
  rw [hcs _ (lt i j h1 h2)];exact (hr i j row d hi hj).map (fun c hc hl=>hfr c hl (.inl (hF i j c hc))) (fun c hc hl=>⟨hl,hc⟩)
 ·rintro c ⟨ho,hlt,i,j,hc⟩
  obtain ⟨h1,h2⟩:=hown ho i j c hc;exact ⟨h1,Nat.lt_of_lt_of_le hlt hp.size,h2,fun hM=>hF i j c hc (t.mono c hlt hM)⟩
end Go.AM
namespace Go.Proofs.Ytoldjebobgocpaa
open Go.AM Go.RowKit
set_option maxRecDepth 100000
set_option maxHeartbeats 4000000
set_option linter.unusedVariables false
set_option linter.unusedSimpArgs false
open Go.AM
set_option maxRecDepth 20000
set_option maxHeartbeats 3200000
theorem keeping_fit {n : Int} (h0 : 0≤n) (h1 : n≤200) : isNorm (keeping n)∧opFrom (keeping n) = n∧opTo (keeping n) = n∧idle (keeping n):=by
 by_cases hz : 1≤n
 ·have e : keeping n = [⟨1,n,[]⟩]:=by unfold keeping;rw [if_pos ⟨hz,h1⟩]
  have hp : partsOk (keeping n):=by rw [e];exact ⟨by intro p hp;simp at hp;subst hp;exact .inl ⟨.inl rfl,⟨h0,h1⟩,rfl⟩,by simp⟩
  have hs : l02Sum (keeping n) = (n,0,0):=by unfold l02Sum;rw [if_pos hp,e];simp [sumI,fK,fP,fD]
  have hf : opFrom (keeping n) = n:=by unfold opFrom;rw [hs];simp
  have ht : opTo (keeping n) = n:=by unfold opTo;rw [hs];simp
  have ho : opOk (keeping n):=⟨hp,by omega,by omega⟩;refine ⟨⟨ho,?_⟩,hf,ht,ho,?_,?_⟩
  ·unfold opNorm;rw [if_pos ho,e]
   have : 0 < n:=by omega
   simp [normal,nbRun,nbStep,nbKeep,nbFlush,this]
  ·unfold puts;rw [if_pos ho,e];simp [sumI,fP]
  ·unfold drops;rw [if_pos ho,e];simp [sumI,fD]
 ·have e : keeping n = []:=by unfold keeping;rw [if_neg (fun h=>hz h.1)]
  have hp : partsOk (keeping n):=by rw [e];exact ⟨by simp,by simp⟩
  have hs : l02Sum (keeping n) = (0,0,0):=by unfold l02Sum;rw [if_pos hp,e];simp [sumI]
  have hf : opFrom (keeping n) = 0:=by unfold opFrom;rw [hs];simp
  have ht : opTo (keeping n) = 0:=by unfold opTo;rw [hs];simp
  have ho : opOk (keeping n):=⟨hp,by omega,by omega⟩;refine ⟨⟨ho,?_⟩,by omega,by omega,ho,?_,?_⟩
  ·unfold opNorm;rw [if_pos ho,e]
   simp [normal,nbRun,nbFlush]
  ·unfold puts;rw [if_pos ho,e];simp [sumI]
  ·unfold drops;rw [if_pos ho,e];simp [sumI]
open Classical in
noncomputable def fRepText (r : Rep) : List Int:=if repOk r then (applyAll [r.sent,r.buf] r.text).1 else []
theorem implRepText_i (r : Rep) (hl : nRep r≤2 ^ 30) : PureC Try.prog 7 [.agg r.row] (.one (.c (.s ((fRepText r).map intR)) 1)):=by
 refine PureC.intro' tt_ok Try.func7 (by kernel_rfl) rfl rfl rfl (Nat.le_of_ble_eq_true rfl) (fun w0 base=>?_);simp [Rep.row];intros;refine ACall.pure (implRepOk_i r (by omega)) (by simp [Rep.row]) ?_;by_cases c1 : repOk r
 rotate_left
 ·have e : fRepText r = []:=by unfold fRepText;rw [if_neg c1]
  have e2 : dc (repOk r) = false:=by rw [dc_no];exact c1
  simp [e2,e]
 have e : fRepText r = (applyAll [r.sent,r.buf] r.text).1:=by unfold fRepText;rw [if_pos c1]
 unfold nRep at hl;simp [c1];intro b;refine ACall.pure (implApplyAll_c [r.sent,r.buf] r.text (by simp) (by simp;omega) (by omega)) (by simp) ?_;simp [e]
def cntP : List At→Nat
 | []=>0
 | .p _ :: l=>cntP l + 1
 | _ :: l=>cntP l
def cntD : List At→Nat
 | []=>0
 | .d :: l=>cntD l + 1
 | _ :: l=>cntD l
theorem cntP_append : ∀ (a b : List At),cntP (a ++ b) = cntP a + cntP b
 | [],b=>by simp [cntP]
 | .p c :: a,b=>by simp [cntP,cntP_append a b];omega
 | .k :: a,b=>by simp [cntP,cntP_append a b]
 | .d :: a,b=>by simp [cntP,cntP_append a b]
theorem cntD_append : ∀ (a b : List At),cntD (a ++ b) = cntD a + cntD b
 | [],b=>by simp [cntD]
 | .d :: a,b=>by simp [cntD,cntD_append a b];omega
 | .k :: a,b=>by simp [cntD,cntD_append a b]
 | .p c :: a,b=>by simp [cntD,cntD_append a b]
theorem cntP_ps : ∀ l : List Int,cntP (l.map At.p) = l.length
 | []=>rfl
 | c :: l=>by simp [cntP,cntP_ps l]
theorem cntD_ps : ∀ l : List Int,cntD (l.map At.p) = 0
 | []=>rfl
 | c :: l=>by simp [cntD,cntD_ps l]
theorem cntP_ks : ∀ n : Nat,cntP (List.replicate n At.k) = 0
 | 0=>rfl
 | n + 1=>by simp [List.replicate_succ,cntP,cntP_ks n]
theorem cntP_ds : ∀ n : Nat,cntP (List.replicate n At.d) = 0
 | 0=>rfl
 | n + 1=>by simp [List.replicate_succ,cntP,cntP_ds n]
theorem cntD_ks : ∀ n : Nat,cntD (List.replicate n At.k) = 0
 | 0=>rfl
 | n + 1=>by simp [List.replicate_succ,cntD,cntD_ks n]
theorem cntD_ds : ∀ n : Nat,cntD (List.replicate n At.d) = n
 | 0=>rfl
 | n + 1=>by simp [List.replicate_succ,cntD,cntD_ds n]
theorem cnt_part {p : Part} (h : partOk p) : (cntP (ats p) : Int) = fP p∧(cntD (ats p) : Int) = fD p:=by
 have hb:=h.bounds;unfold ats fP fD;by_cases k2 : p.kind = 2
 ·have : ¬ p.kind = 1:=by omega
  simp [k2,cntP_ps,cntD_ps]
 ·have hz : psz p = p.n.toNat:=by unfold psz;simp [hb.2.2.2.2.2 k2]
  by_cases k3 : p.kind = 3
  ·simp [k3,cntP_ds,cntD_ds,hz];omega
  ·have : p.kind = 1:=by omega
   simp [this,cntP_ks,cntD_ks]
theorem cnt_at : ∀ {o : List Part},(∀ p∈o,partOk p)→(cntP (atoms o) : Int) = sumI fP o∧(cntD (atoms o) : Int) = sumI fD o
 | [],_=>by simp [atoms,cntP,cntD,sumI]
 | p :: o,h=>by
   have h1:=cnt_part (h p (List.mem_cons_self ..));have h2:=cnt_at (o:=o) (fun q hq=>h q (List.mem_cons_of_mem _ hq));simp only [atoms,cntP_append,cntD_append,sumI];omega
theorem idle_at {o : List Part} : idle o ↔ opOk o∧cntP (atoms o) = 0∧cntD (atoms o) = 0:=by
 unfold idle puts drops
 constructor
 ·rintro ⟨h,h1,h2⟩
  rw [if_pos h] at h1 h2;have:=cnt_at h.1.1;exact ⟨h,by omega,by omega⟩
 ·rintro ⟨h,h1,h2⟩
  have:=cnt_at h.1.1;rw [if_pos h,if_pos h];exact ⟨h,by omega,by omega⟩
theorem idle_apA : ∀ (a : List At) (t : List Int),cntP a = 0→cntD a = 0→frA a = t.length→apA a t = t
 | [],t,_,_,h=>by simp [frA] at h;rw [List.eq_nil_of_length_eq_zero h.symm];rfl
 | .k :: a,[],_,_,h=>by simp [frA] at h
 | .k :: a,c :: t,h1,h2,h=>by
   simp only [apA];rw [idle_apA a t (by simpa [cntP] using h1) (by simpa [cntD] using h2) (by simpa [frA] using h)]
 | .p c :: a,t,h1,_,_=>by simp [cntP] at h1
 | .d :: a,t,_,h2,_=>by simp [cntD] at h2
theorem idle_frto : ∀ (a : List At),cntP a = 0→cntD a = 0→frA a = toA a
 | [],_,_=>rfl
 | .k :: a,h1,h2=>by
   simp only [frA,toA];rw [idle_frto a (by simpa [cntP] using h1) (by simpa [cntD] using h2)]
 | .p c :: a,h1,_=>by simp [cntP] at h1
 | .d :: a,_,h2=>by simp [cntD] at h2
theorem idle_to {o : List Part} (h : idle o) : opTo o = opFrom o:=by
 have h1:=idle_at.1 h;have:=idle_frto _ h1.2.1 h1.2.2;have:=atoms_fr h1.1;have:=atoms_to h1.1;omega
theorem idle_ap {o : List Part} (h : idle o) {t : List Int} (hf : fits3 o t) : (apply o t).1 = t:=by
 have h1:=idle_at.1 h;rw [apply_ap hf];have:=atoms_fr h1.1;have:=hf.2.2;exact idle_apA _ _ h1.2.1 h1.2.2 (by omega)
noncomputable def rt (r : Rep) : List Int:=(apply r.buf (apply r.sent r.text).1).1
theorem rep_sent {r : Rep} (h : repOk r) : fits3 r.sent r.text:=⟨h.2.2.2.2.1.1,h.2.2.2.1,h.2.2.2.2.2.2.1⟩
theorem rep_buf {r : Rep} (h : repOk r) : fits3 r.buf (apply r.sent r.text).1:=by
 have h1:=apply_textOk (rep_sent h);exact ⟨h.2.2.2.2.2.1.1,h1.1,by rw [h.2.2.2.2.2.2.2.1];exact h1.2.symm⟩
theorem rep_text {r : Rep} (h : repOk r) : fRepText r = rt r∧textOk (rt r)∧((rt r).length : Int) = opTo r.buf:=by
 have h1:=rep_sent h;have h2:=rep_buf h;have h3:=apply_textOk h2;refine ⟨?_,h3⟩;unfold fRepText applyAll applyFrom applyFrom applyFrom;rw [if_pos h,if_pos h.2.2.2.1,if_pos (apply_yes.2 h1),if_pos (apply_yes.2 h2)];rfl
theorem repOk_b {r : Rep} (h : repOk r) : nRep r≤2 ^ 20:=by
 have h1:=opOk_n h.2.2.2.2.1.1;have h2:=opOk_n h.2.2.2.2.2.1.1;have h3:=h.2.2.2.1.1;unfold nRep;omega
def repD (a b : Nat) (r : Rep) : Prop:=repOk r∧r.client≤3∧r.seq≤3 + a∧r.rev≤19∧r.text.length≤7∧opTo r.buf≤7 + 12 * b∧opTo r.sent≤7 + 12 * b
theorem repD_new {c s v : Int} {t : List Int} (hc : 1≤c∧c≤3) (hs : 0≤s∧s≤3) (hv : 0≤v∧v≤19) (ht : t.length≤7) (ho : signsOk t) : repD 0 0 (fRepNew c s v t).1:=by
 have hk:=keeping_fit (n:=(t.length : Int)) (by omega) (by omega);have h : repOk (repNew0 c s v t):=⟨by simp only [repNew0];omega,by simp only [repNew0];omega,by simp only [repNew0];omega,⟨by simp only [repNew0];omega,ho⟩,hk.1,hk.1,hk.2.1,by simp only [repNew0];rw [hk.2.1,hk.2.2.1],hk.2.2.2⟩;have e : fRepNew c s v t = (repNew0 c s v t,true):=by unfold fRepNew;exact repOr_yes h
 rw [e];refine ⟨h,hc.2,by simp only [repNew0];omega,hv.2,ht,?_,?_⟩
 ·simp only [repNew0];rw [hk.2.2.1];omega
 ·simp only [repNew0];rw [hk.2.2.1];omega
theorem repD_le {a b b' : Nat} {r : Rep} (h : repD a b r) (hb : b≤b') : repD a b' r:=⟨h.1,h.2.1,h.2.2.1,h.2.2.2.1,h.2.2.2.2.1,by have:=h.2.2.2.2.2.1;omega,by have:=h.2.2.2.2.2.2;omega⟩
theorem repD_seq {a a' b : Nat} {r : Rep} (h : repD a b r) (hb : a≤a') : repD a' b r:=⟨h.1,h.2.1,by have:=h.2.2.1;omega,h.2.2.2.1,h.2.2.2.2.1,h.2.2.2.2.2.1,h.2.2.2.2.2.2⟩
theorem sent_ok {r : Rep} (h : repOk r) (h1 : r.has = false) (h2 : r.seq≠999999999) : repOk (sentRep r):=by
 obtain ⟨g1,g2,g3,g4,g5,g6,g7,g8,g9⟩:=h;rw [h1] at g9;have hi : idle r.sent:=by simpa using g9
 have ht:=idle_to hi;have hb:=g6.1.2.2;have hk:=keeping_fit (n:=opTo r.buf) (by have:=atoms_to g6.1;omega) hb;refine ⟨g1,by simp only [sentRep];omega,g3,g4,g6,hk.1,by simp only [sentRep];omega,hk.2.1,?_⟩;simp only [sentRep,if_true];omega
theorem sent_rt {r : Rep} (h : repOk r) (h1 : r.has = false) (h2 : r.seq≠999999999) : rt (sentRep r) = rt r:=by
 have hs:=sent_ok h h1 h2;have hi : idle r.sent:=by have:=h.2.2.2.2.2.2.2.2;rw [h1] at this;simpa using this
 have e1:=idle_ap hi (rep_sent h);have hb:=h.2.2.2.2.2.1.1.2.2;have hk:=keeping_fit (n:=opTo r.buf) (by have:=atoms_to h.2.2.2.2.2.1.1;omega) hb;have e2:=idle_ap hk.2.2.2 (rep_buf hs);unfold rt;rw [e1];exact e2
theorem repD_send {a b : Nat} {r : Rep} (h : repD a b r) (h1 : (fRepSend r).2.2 = true) : repD (a + 1) b (fRepSend r).1:=by
 by_cases c : repOk r∧r.has = false∧¬ idle r.buf∧r.seq≠999999999
 ·rw [fRepSend_yes c]
  have hs:=sent_ok c.1 c.2.1 c.2.2.2;obtain ⟨-,d2,d3,d4,d5,d6,d7⟩:=h;refine ⟨hs,d2,by simp only [sentRep];omega,d4,d5,?_,d6⟩;have hk:=keeping_fit (n:=opTo r.buf) (by have:=atoms_to c.1.2.2.2.2.2.1.1;omega) c.1.2.2.2.2.2.1.1.2.2;simp only [sentRep];rw [hk.2.2.1];exact d6
 ·rw [fRepSend_no c] at h1;simp at h1
theorem edit_ok {r : Rep} (h : repOk r) {o : List Part} (ho : opOk o) (hf : opFrom o = opTo r.buf) :
 (fRepEdit r o).2 = true∧(fRepEdit r o).1 = editRep r (fCompose r.buf o).1∧repOk (editRep r (fCompose r.buf o).1)∧opTo (fCompose r.buf o).1 = opTo o∧rt (editRep r (fCompose r.buf o).1) = (apply o (rt r)).1∧fits3 o (rt r):=by
 obtain ⟨c1,c2,c3,c4,c5⟩:=fCompose_fit h.2.2.2.2.2.1.1 ho hf.symm
 have hx : repOk (editRep r (fCompose r.buf o).1):=by
  obtain ⟨g1,g2,g3,g4,g5,g6,g7,g8,g9⟩:=h;exact ⟨g1,g2,g3,g4,g5,c2,g7,by simp only [editRep];rw [c3];exact g8,g9⟩
 have e:=fRepEdit_yes ⟨h,c1⟩;rw [repOr_yes hx] at e;have h3:=rep_text h;refine ⟨by rw [e],by rw [e],hx,c4,?_,ho,h3.2.1,hf.trans h3.2.2.symm⟩;have hb:=rep_buf h;exact c5 _ hb.2.1 hb.2.2
theorem repD_edit {a b : Nat} {r : Rep} (h : repD a b r) {o : List Part} (ho : opOk o) (hf : opFrom o = opTo r.buf) (ht : opTo o≤opTo r.buf + 12) : repD a (b + 1) (fRepEdit r o).1:=by
 obtain ⟨e1,e2,e3,e4,-⟩:=edit_ok h.1 ho hf;obtain ⟨-,d2,d3,d4,d5,d6,d7⟩:=h;rw [e2];refine ⟨e3,d2,d3,d4,d5,?_,?_⟩
 ·simp only [editRep];omega
 ·simp only [editRep];omega
end Go.Proofs.Ytoldjebobgocpaa
