import Derived.Test.YtoldjebobgocpaaPG
namespace Go.Proofs.Ytoldjebobgocpaa
open Go.AM
set_option maxRecDepth 20000
def cntP : List At→Nat
 | []=>0
 | .p _ :: l=>cntP l + 1
 | _ :: l=>cntP l
def cntD : List At→Nat
 | []=>0
 | .d :: l=>cntD l + 1
 | _ :: l=>cntD l
theorem cntP_append : ∀ (a b : List At),cntP (a ++ b) = cntP a + cntP b
 | [],b=>by simp [cntP]
 | .p c :: a,b=>by simp [cntP,cntP_append a b];omega
 | .k :: a,b=>by simp [cntP,cntP_append a b]
 | .d :: a,b=>by simp [cntP,cntP_append a b]
theorem cntD_append : ∀ (a b : List At),cntD (a ++ b) = cntD a + cntD b
 | [],b=>by simp [cntD]
 | .d :: a,b=>by simp [cntD,cntD_append a b];omega
 | .k :: a,b=>by simp [cntD,cntD_append a b]
 | .p c :: a,b=>by simp [cntD,cntD_append a b]
theorem cntP_ps : ∀ l : List Int,cntP (l.map At.p) = l.length
 | []=>rfl
 | c :: l=>by simp [cntP,cntP_ps l]
theorem cntD_ps : ∀ l : List Int,cntD (l.map At.p) = 0
 | []=>rfl
 | c :: l=>by simp [cntD,cntD_ps l]
theorem cntP_ks : ∀ n : Nat,cntP (List.replicate n At.k) = 0
 | 0=>rfl
 | n + 1=>by simp [List.replicate_succ,cntP,cntP_ks n]
theorem cntP_ds : ∀ n : Nat,cntP (List.replicate n At.d) = 0
 | 0=>rfl
 | n + 1=>by simp [List.replicate_succ,cntP,cntP_ds n]
theorem cntD_ks : ∀ n : Nat,cntD (List.replicate n At.k) = 0
 | 0=>rfl
 | n + 1=>by simp [List.replicate_succ,cntD,cntD_ks n]
theorem cntD_ds : ∀ n : Nat,cntD (List.replicate n At.d) = n
 | 0=>rfl
 | n + 1=>by simp [List.replicate_succ,cntD,cntD_ds n]
theorem cnt_part {p : Part} (h : partOk p) : (cntP (ats p) : Int) = fP p∧(cntD (ats p) : Int) = fD p:=by
 have hb:=h.bounds;unfold ats fP fD;by_cases k2 : p.kind = 2
 ·have : ¬ p.kind = 1:=by omega
  simp [k2,cntP_ps,cntD_ps]
 ·have hz : psz p = p.n.toNat:=by unfold psz;simp [hb.2.2.2.2.2 k2]
  by_cases k3 : p.kind = 3
  ·simp [k3,cntP_ds,cntD_ds,hz];omega
  ·have : p.kind = 1:=by omega
   simp [this,cntP_ks,cntD_ks]
theorem cnt_at : ∀ {o : List Part},(∀ p∈o,partOk p)→(cntP (atoms o) : Int) = sumI fP o∧(cntD (atoms o) : Int) = sumI fD o
 | [],_=>by simp [atoms,cntP,cntD,sumI]
 | p :: o,h=>by
   have h1:=cnt_part (h p (List.mem_cons_self ..));have h2:=cnt_at (o:=o) (fun q hq=>h q (List.mem_cons_of_mem _ hq));simp only [atoms,cntP_append,cntD_append,sumI];omega
theorem idle_at {o : List Part} : idle o ↔ opOk o∧cntP (atoms o) = 0∧cntD (atoms o) = 0:=by
 unfold idle puts drops
 constructor
 ·rintro ⟨h,h1,h2⟩
  rw [if_pos h] at h1 h2;have:=cnt_at h.1.1;exact ⟨h,by omega,by omega⟩
 ·rintro ⟨h,h1,h2⟩
  have:=cnt_at h.1.1;rw [if_pos h,if_pos h];exact ⟨h,by omega,by omega⟩
theorem idle_apA : ∀ (a : List At) (t : List Int),cntP a = 0→cntD a = 0→frA a = t.length→apA a t = t
 | [],t,_,_,h=>by simp [frA] at h;rw [List.eq_nil_of_length_eq_zero h.symm];rfl
 | .k :: a,[],_,_,h=>by simp [frA] at h
 | .k :: a,c :: t,h1,h2,h=>by
   simp only [apA];rw [idle_apA a t (by simpa [cntP] using h1) (by simpa [cntD] using h2) (by simpa [frA] using h)]
 | .p c :: a,t,h1,_,_=>by simp [cntP] at h1
 | .d :: a,t,_,h2,_=>by simp [cntD] at h2
theorem idle_frto : ∀ (a : List At),cntP a = 0→cntD a = 0→frA a = toA a
 | [],_,_=>rfl
 | .k :: a,h1,h2=>by
   simp only [frA,toA];rw [idle_frto a (by simpa [cntP] using h1) (by simpa [cntD] using h2)]
 | .p c :: a,h1,_=>by simp [cntP] at h1
 | .d :: a,_,h2=>by simp [cntD] at h2
theorem idle_to {o : List Part} (h : idle o) : opTo o = opFrom o:=by
 have h1:=idle_at.1 h;have:=idle_frto _ h1.2.1 h1.2.2;have:=atoms_fr h1.1;have:=atoms_to h1.1;omega
theorem idle_ap {o : List Part} (h : idle o) {t : List Int} (hf : fits3 o t) : (apply o t).1 = t:=by
 have h1:=idle_at.1 h;rw [apply_ap hf];have:=atoms_fr h1.1;have:=hf.2.2;exact idle_apA _ _ h1.2.1 h1.2.2 (by omega)
theorem nA_cnt : ∀ (l : List At) (P : List Int) (n : Nat),cntP (nA P n l) = P.length + cntP l∧cntD (nA P n l) = n + cntD l
 | [],P,n=>by simp [nA,cntP_append,cntD_append,cntP_ps,cntD_ps,cntP_ds,cntD_ds,cntP,cntD]
 | .k :: l,P,n=>by
   have:=nA_cnt l [] 0;simp [nA,cntP_append,cntD_append,cntP_ps,cntD_ps,cntP_ds,cntD_ds,cntP,cntD,this]
 | .p c :: l,P,n=>by
   have:=nA_cnt l (P ++ [c]) n;simp [nA,cntP,cntD,this];omega
 | .d :: l,P,n=>by
   have:=nA_cnt l P (n + 1);simp [nA,cntP,cntD,this];omega
theorem tA_idle : ∀ (a b : List At),cntP b = 0→cntD b = 0→cntP (tA a b).2 = 0∧cntD (tA a b).2 = 0
 | .p c :: a,b,h1,h2=>by rw [tA_p];simpa [cntP,cntD] using tA_idle a b h1 h2
 | [],.p c :: b,h1,_=>by simp [cntP] at h1
 | .k :: a,.p c :: b,h1,_=>by simp [cntP] at h1
 | .d :: a,.p c :: b,h1,_=>by simp [cntP] at h1
 | .k :: a,.k :: b,h1,h2=>by rw [tA];simpa [cntP,cntD] using tA_idle a b (by simpa [cntP] using h1) (by simpa [cntD] using h2)
 | .d :: a,.k :: b,h1,h2=>by rw [tA];exact tA_idle a b (by simpa [cntP] using h1) (by simpa [cntD] using h2)
 | .k :: a,.d :: b,_,h2=>by simp [cntD] at h2
 | .d :: a,.d :: b,_,h2=>by simp [cntD] at h2
 | [],[],_,_=>by simp [tA,cntP,cntD]
 | [],.k :: b,_,_=>by simp [tA,cntP,cntD]
 | [],.d :: b,_,h2=>by simp [cntD] at h2
 | .k :: a,[],_,_=>by simp [tA,cntP,cntD]
 | .d :: a,[],_,_=>by simp [tA,cntP,cntD]
termination_by a b=>a.length + b.length
theorem fTransform_idle {a b : List Part} (h : (fTransform a b).2.2 = true) (hb : idle b) : idle (fTransform a b).2.1:=by
 have o:=fTransform_ok h;have h1:=idle_at.1 hb;have h2:=tA_idle (atoms a) (atoms b) h1.2.1 h1.2.2;have h3:=nA_cnt (tA (atoms a) (atoms b)).2 [] 0;refine idle_at.2 ⟨o.oky,?_,?_⟩
 ·rw [o.ay];unfold normA;simp at h3;omega
 ·rw [o.ay];unfold normA;simp at h3;omega
noncomputable def rt (r : Rep) : List Int:=(apply r.buf (apply r.sent r.text).1).1
theorem rep_sent {r : Rep} (h : repOk r) : fits3 r.sent r.text:=⟨h.2.2.2.2.1.1,h.2.2.2.1,h.2.2.2.2.2.2.1⟩
theorem rep_buf {r : Rep} (h : repOk r) : fits3 r.buf (apply r.sent r.text).1:=by
 have h1:=apply_textOk (rep_sent h);exact ⟨h.2.2.2.2.2.1.1,h1.1,by rw [h.2.2.2.2.2.2.2.1];exact h1.2.symm⟩
theorem rep_text {r : Rep} (h : repOk r) : fRepText r = rt r∧textOk (rt r)∧((rt r).length : Int) = opTo r.buf:=by
 have h1:=rep_sent h;have h2:=rep_buf h;have h3:=apply_textOk h2;refine ⟨?_,h3⟩;unfold fRepText applyAll applyFrom applyFrom applyFrom;rw [if_pos h,if_pos h.2.2.2.1,if_pos (apply_yes.2 h1),if_pos (apply_yes.2 h2)];rfl
theorem repOk_b {r : Rep} (h : repOk r) : nRep r≤2 ^ 20:=by
 have h1:=opOk_n h.2.2.2.2.1.1;have h2:=opOk_n h.2.2.2.2.2.1.1;have h3:=h.2.2.2.1.1;unfold nRep;omega
def repD (a b : Nat) (r : Rep) : Prop:=repOk r∧r.client≤3∧r.seq≤3 + a∧r.rev≤19∧r.text.length≤7∧opTo r.buf≤7 + 12 * b∧opTo r.sent≤7 + 12 * b
theorem repD_new {c s v : Int} {t : List Int} (hc : 1≤c∧c≤3) (hs : 0≤s∧s≤3) (hv : 0≤v∧v≤19) (ht : t.length≤7) (ho : signsOk t) : repD 0 0 (fRepNew c s v t).1:=by
 have hk:=keeping_fit (n:=(t.length : Int)) (by omega) (by omega);have h : repOk (repNew0 c s v t):=⟨by simp only [repNew0];omega,by simp only [repNew0];omega,by simp only [repNew0];omega,⟨by simp only [repNew0];omega,ho⟩,hk.1,hk.1,hk.2.1,by simp only [repNew0];rw [hk.2.1,hk.2.2.1],hk.2.2.2⟩;have e : fRepNew c s v t = (repNew0 c s v t,true):=by unfold fRepNew;exact repOr_yes h
 rw [e];refine ⟨h,hc.2,by simp only [repNew0];omega,hv.2,ht,?_,?_⟩
 ·simp only [repNew0];rw [hk.2.2.1];omega
 ·simp only [repNew0];rw [hk.2.2.1];omega
theorem repD_le {a b b' : Nat} {r : Rep} (h : repD a b r) (hb : b≤b') : repD a b' r:=⟨h.1,h.2.1,h.2.2.1,h.2.2.2.1,h.2.2.2.2.1,by have:=h.2.2.2.2.2.1;omega,by have:=h.2.2.2.2.2.2;omega⟩
theorem repD_seq {a a' b : Nat} {r : Rep} (h : repD a b r) (hb : a≤a') : repD a' b r:=⟨h.1,h.2.1,by have:=h.2.2.1;omega,h.2.2.2.1,h.2.2.2.2.1,h.2.2.2.2.2.1,h.2.2.2.2.2.2⟩
theorem sent_ok {r : Rep} (h : repOk r) (h1 : r.has = false) (h2 : r.seq≠999999999) : repOk (sentRep r):=by
 obtain ⟨g1,g2,g3,g4,g5,g6,g7,g8,g9⟩:=h;rw [h1] at g9;have hi : idle r.sent:=by simpa using g9
 have ht:=idle_to hi;have hb:=g6.1.2.2;have hk:=keeping_fit (n:=opTo r.buf) (by have:=atoms_to g6.1;omega) hb;refine ⟨g1,by simp only [sentRep];omega,g3,g4,g6,hk.1,by simp only [sentRep];omega,hk.2.1,?_⟩;simp only [sentRep,if_true];omega
theorem repD_send {a b : Nat} {r : Rep} (h : repD a b r) (h1 : (fRepSend r).2.2 = true) : repD (a + 1) b (fRepSend r).1:=by
 by_cases c : repOk r∧r.has = false∧¬ idle r.buf∧r.seq≠999999999
 ·rw [fRepSend_yes c]
  have hs:=sent_ok c.1 c.2.1 c.2.2.2;obtain ⟨-,d2,d3,d4,d5,d6,d7⟩:=h;refine ⟨hs,d2,by simp only [sentRep];omega,d4,d5,?_,d6⟩;have hk:=keeping_fit (n:=opTo r.buf) (by have:=atoms_to c.1.2.2.2.2.2.1.1;omega) c.1.2.2.2.2.2.1.1.2.2;simp only [sentRep];rw [hk.2.2.1];exact d6
 ·rw [fRepSend_no c] at h1;simp at h1
theorem edit_ok {r : Rep} (h : repOk r) {o : List Part} (ho : opOk o) (hf : opFrom o = opTo r.buf) :
 (fRepEdit r o).2 = true∧(fRepEdit r o).1 = editRep r (fCompose r.buf o).1∧repOk (editRep r (fCompose r.buf o).1)∧opTo (fCompose r.buf o).1 = opTo o∧rt (editRep r (fCompose r.buf o).1) = (apply o (rt r)).1∧fits3 o (rt r):=by
 obtain ⟨c1,c2,c3,c4,c5⟩:=fCompose_fit h.2.2.2.2.2.1.1 ho hf.symm
 have hx : repOk (editRep r (fCompose r.buf o).1):=by
  obtain ⟨g1,g2,g3,g4,g5,g6,g7,g8,g9⟩:=h;exact ⟨g1,g2,g3,g4,g5,c2,g7,by simp only [editRep];rw [c3];exact g8,g9⟩
 have e:=fRepEdit_yes ⟨h,c1⟩;rw [repOr_yes hx] at e;have h3:=rep_text h;refine ⟨by rw [e],by rw [e],hx,c4,?_,ho,h3.2.1,hf.trans h3.2.2.symm⟩;have hb:=rep_buf h;exact c5 _ hb.2.1 hb.2.2
theorem repD_edit {a b : Nat} {r : Rep} (h : repD a b r) {o : List Part} (ho : opOk o) (hf : opFrom o = opTo r.buf) (ht : opTo o≤opTo r.buf + 12) : repD a (b + 1) (fRepEdit r o).1:=by
 obtain ⟨e1,e2,e3,e4,-⟩:=edit_ok h.1 ho hf;obtain ⟨-,d2,d3,d4,d5,d6,d7⟩:=h;rw [e2];refine ⟨e3,d2,d3,d4,d5,?_,?_⟩
 ·simp only [editRep];omega
 ·simp only [editRep];omega
theorem takeO_ok {r : Rep} (h : repOk r) {e : Entry} (he : entryOk e) (hf : opFrom e.o = r.text.length) (hc : e.client≠r.client) (hs : opTo e.o + opTo r.sent + opTo r.buf≤200) (hv : r.rev≤1000) :
 (fTransform e.o r.sent).2.2 = true ∧ (fTransform (fTransform e.o r.sent).1 r.buf).2.2 = true ∧ fits3 e.o r.text ∧
 fits3 (fTransform (fTransform e.o r.sent).1 r.buf).1 (rt r) ∧ (fRepTake r e).2 = true ∧ (fRepTake r e).1.text = (apply e.o r.text).1 ∧ (fRepTake r e).1.rev = r.rev + 1 ∧ (fRepTake r e).1.has = r.has ∧
 repOk (fRepTake r e).1 ∧ rt (fRepTake r e).1 = (apply (fTransform (fTransform e.o r.sent).1 r.buf).1 (rt r)).1 ∧
 fRepTake r e = (moveRep r (apply e.o r.text).1 (fTransform e.o r.sent).2.1 (fTransform (fTransform e.o r.sent).1 r.buf).2.1,true):=by
 obtain ⟨g1,g2,g3,g4,g5,g6,g7,g8,g9⟩:=h;have h : repOk r:=⟨g1,g2,g3,g4,g5,g6,g7,g8,g9⟩;have p0 : 0≤opTo r.buf:=by have:=atoms_to g6.1;omega
 have fe : fits3 e.o r.text:=⟨he.2.2.1,g4,hf⟩;obtain ⟨a1,a2,a3,a4⟩:=fTransform_fit he.2.2.1 g5.1 (by omega) (by omega);have o1:=fTransform_ok a1;obtain ⟨b1,b2,b3,b4⟩:=fTransform_fit a2.1 g6.1 (by rw [o1.fx];omega) (by omega);have o2:=fTransform_ok b1;have ap1:=fTransform_ap a1 g4 (by omega);have s1:=rep_sent h;have s2:=rep_buf h;have ap2:=fTransform_ap b1 s2.2.1 (by rw [o1.fx];have:=(apply_textOk s1).2;omega);have na : ¬ isAck r e:=fun q=>hc q.2.1
 have te:=apply_textOk fe
 have hx : repOk (moveRep r (apply e.o r.text).1 (fTransform e.o r.sent).2.1 (fTransform (fTransform e.o r.sent).1 r.buf).2.1):=by
  refine ⟨g1,g2,by simp only [moveRep];omega,te.1,a3,b3,by simp only [moveRep];rw [o1.fy];omega,by simp only [moveRep];rw [o2.fy,o1.to],?_⟩
  show if r.has = true then r.seq≠0 else idle (fTransform e.o r.sent).2.1
  by_cases hh : r.has = true
  ·rw [if_pos hh] at g9 ⊢;exact g9
  ·rw [if_neg hh] at g9 ⊢;exact fTransform_idle a1 g9
 have e1:=(fRepTake_move ⟨h,he,fe⟩ na).1 ⟨a1,b1⟩;rw [repOr_yes hx] at e1;rw [e1];have h3:=rep_text h;refine ⟨a1,b1,fe,⟨o2.okx,h3.2.1,by rw [o2.fx];omega⟩,rfl,rfl,rfl,rfl,hx,?_,rfl⟩;unfold rt moveRep;simp only;rw [ap1.2.2];exact ap2.2.2
theorem ack_ok {r : Rep} (h : repOk r) (hh : r.has = true) (hv : r.rev≤1000) :
 (fRepTake r ⟨r.client,r.seq,r.sent⟩).2 = true ∧ (fRepTake r ⟨r.client,r.seq,r.sent⟩).1.has = false ∧ (fRepTake r ⟨r.client,r.seq,r.sent⟩).1.rev = r.rev + 1 ∧
 repOk (fRepTake r ⟨r.client,r.seq,r.sent⟩).1∧rt (fRepTake r ⟨r.client,r.seq,r.sent⟩).1 = rt r∧fRepTake r ⟨r.client,r.seq,r.sent⟩ = (ackRep r (apply r.sent r.text).1,true):=by
 obtain ⟨g1,g2,g3,g4,g5,g6,g7,g8,g9⟩:=h;have h : repOk r:=⟨g1,g2,g3,g4,g5,g6,g7,g8,g9⟩;rw [hh] at g9;have fs:=rep_sent h;have ts:=apply_textOk fs;have he : entryOk ⟨r.client,r.seq,r.sent⟩:=⟨g1,by simp at g9;simp only;omega,g5⟩;have hk:=keeping_fit (n:=((apply r.sent r.text).1.length : Int)) (by omega) (by have:=ts.1.1;omega)
 have hx : repOk (ackRep r (apply r.sent r.text).1):=by
  refine ⟨g1,g2,by simp only [ackRep];omega,ts.1,hk.1,g6,hk.2.1,by simp only [ackRep];rw [hk.2.2.1];omega,?_⟩;simp only [ackRep];simpa using hk.2.2.2
 have e1:=(fRepTake_ack (e:=⟨r.client,r.seq,r.sent⟩) ⟨h,he,fs⟩ ⟨hh,rfl,rfl⟩).1 rfl;rw [repOr_yes hx] at e1;rw [e1];refine ⟨rfl,rfl,rfl,hx,?_,rfl⟩;have e2 : (apply (ackRep r (apply r.sent r.text).1).sent (ackRep r (apply r.sent r.text).1).text).1 = (ackRep r (apply r.sent r.text).1).text:=idle_ap hk.2.2.2 (rep_sent hx)
 show rt (ackRep r (apply r.sent r.text).1) = rt r
 unfold rt;rw [e2];rfl
end Go.Proofs.Ytoldjebobgocpaa
