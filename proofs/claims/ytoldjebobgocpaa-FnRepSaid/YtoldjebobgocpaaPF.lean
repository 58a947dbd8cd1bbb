import Derived.Test.YtoldjebobgocpaaPD
import Derived.Test.YtoldjebobgocpaaNA
import Derived.Test.YtoldjebobgocpaaPE
import Derived.Test.YtoldjebobgocpaaMF
namespace Go.Proofs.Ytoldjebobgocpaa
open Go.AM
set_option maxRecDepth 20000
theorem copyRep_c (r : Rep) (hl : nRep r≤2 ^ 30) : PureC Try.prog 32 [.agg r.row] (.one (.agg r.res)):=by
 refine PureC.intro' tt_ok Try.func32 (by kernel_rfl) rfl rfl rfl (Nat.le_of_ble_eq_true rfl) (fun w0 base=>?_);unfold nRep at hl;simp [Rep.row];intros;refine ACall.pure (copyInts_c r.text (by omega)) (by simp) ?_;simp;intros;refine ACall.pure (copyOp_c r.sent (by omega)) (by simp) ?_;simp;intros;refine ACall.pure (copyOp_c r.buf (by omega)) (by simp) ?_;simp [Rep.res]
theorem l17Copy_c (r : Rep) (hl : nRep r≤2 ^ 30) : PureC Try.prog 96 [.agg r.row] (.one (.agg r.res)):=by
 refine PureC.intro' tt_ok Try.func96 (by kernel_rfl) rfl rfl rfl (Nat.le_of_ble_eq_true rfl) (fun w0 base=>?_);unfold nRep at hl;simp [Rep.row];intros;refine ⟨by omega,fun H1=>?_⟩;refine ACall.pure (l02Copy_c r.sent (by omega)) (by simp) ?_;simp;intros;refine ACall.pure (l02Copy_c r.buf (by omega)) (by simp) ?_;simp [Rep.res]
theorem sentRep_n (r : Rep) : nRep (sentRep r)≤nRep r + 1:=by
 have:=keeping_n (opTo r.buf);unfold nRep sentRep;simp only;omega
theorem fRepSend_no {r : Rep} (h : ¬ (repOk r∧r.has = false∧¬ idle r.buf∧r.seq≠999999999)) : fRepSend r = (Rep.zero,Call.zero,false):=by unfold fRepSend;rw [if_neg h];rfl
theorem fRepSend_yes {r : Rep} (h : repOk r∧r.has = false∧¬ idle r.buf∧r.seq≠999999999) : fRepSend r = (sentRep r,submit (sentRep r),true):=by unfold fRepSend;rw [if_pos h];rfl
theorem implRepSend_i (r : Rep) (hl : nRep r≤2 ^ 20) : PureC Try.prog 13 [.agg r.row] (.tup [.agg (fRepSend r).1.res,.agg (fRepSend r).2.1.res,.c (.v (.bool (fRepSend r).2.2)) 1]):=by
 refine PureC.intro' tt_ok Try.func13 (by kernel_rfl) rfl rfl rfl (Nat.le_of_ble_eq_true rfl) (fun w0 base=>?_);have hbuf : nL nPart r.buf≤2 ^ 20:=by unfold nRep at hl;omega
 simp [Rep.row];intros;refine ACall.pure (implRepOk_i r (by omega)) (by simp [Rep.row]) ?_;by_cases c1 : repOk r
 rotate_left
 ·have e:=fRepSend_no (r:=r) (fun h=>c1 h.1)
  have e2 : dc (repOk r) = false:=by rw [dc_no];exact c1
  simp [e2,e,Rep.res,Rep.zero,Call.res,Call.zero]
 simp [c1];by_cases ch : r.has = false
 rotate_left
 ·have e:=fRepSend_no (r:=r) (fun h=>ch h.2.1)
  have ch2 : r.has = true:=by simpa using ch
  simp [ch2,e,Rep.res,Rep.zero,Call.res,Call.zero]
 simp [ch];refine ACall.pure (implIdle_c r.buf (by omega)) (by simp) ?_;by_cases ci : idle r.buf
 ·have e:=fRepSend_no (r:=r) (fun h=>h.2.2.1 ci)
  simp [ci,e,Rep.res,Rep.zero,Call.res,Call.zero]
 have ci2 : dc (idle r.buf) = false:=by rw [dc_no];exact ci
 by_cases cs : r.seq = 999999999
 ·have e:=fRepSend_no (r:=r) (fun h=>h.2.2.2 cs)
  simp [ci2,cs,e,Rep.res,Rep.zero,Call.res,Call.zero]
 have e:=fRepSend_yes (r:=r) ⟨c1,ch,ci,cs⟩;have hs:=c1.2.1;have ew : Go.IntKind.i64.wrap (r.seq + 1) = r.seq + 1:=Go.IntWalk.i64_in _ (by omega);simp [ci2,cs];refine ACall.pure (copyRep_c r (by omega)) (by simp [Rep.row,ch]) ?_;simp [Rep.res,ew];intros;refine ACall.pure (implOpTo_c r.buf (by omega)) (by simp) ?_;simp;refine ACall.pure (implKeeping_c (opTo r.buf)) (by simp) ?_;simp;intros;refine DrawT.introP eok mix [0,1,5] [2,3,4] [([false,true,false],[true,false,true]),([false,false,true],[true,false,false]),([false,false,false],[true,false,false])] [true,false,false] (by kernel_rfl) ?_;simp;have hn:=sentRep_n r;refine ACall.pure (submitOf_c (sentRep r) (by omega)) (by simp [Rep.row,sentRep,ch]) ?_;simp [e,sentRep,Call.res,submit]
theorem specRepSend_i (r : Rep) (hl : nRep r≤2 ^ 20) : PureC Try.prog 68 [.agg r.row] (.tup [.agg (fRepSend r).1.res,.agg (fRepSend r).2.1.res,.c (.v (.bool (fRepSend r).2.2)) 1]):=by
 refine PureC.intro' tt_ok Try.func68 (by kernel_rfl) rfl rfl rfl (Nat.le_of_ble_eq_true rfl) (fun w0 base=>?_);have hbuf : nL nPart r.buf≤2 ^ 20:=by unfold nRep at hl;omega
 simp [Rep.row];intros;refine ACall.pure (specRepOk_i r (by omega)) (by simp [Rep.row]) ?_;by_cases c1 : repOk r
 rotate_left
 ·have e:=fRepSend_no (r:=r) (fun h=>c1 h.1)
  have e2 : dc (repOk r) = false:=by rw [dc_no];exact c1
  simp [e2,e,Rep.res,Rep.zero,Call.res,Call.zero]
 simp [c1];by_cases ch : r.has = false
 rotate_left
 ·have e:=fRepSend_no (r:=r) (fun h=>ch h.2.1)
  have ch2 : r.has = true:=by simpa using ch
  simp [ch2,e,Rep.res,Rep.zero,Call.res,Call.zero]
 simp [ch];refine ACall.pure (specIdle_c r.buf (by omega)) (by simp) ?_;by_cases ci : idle r.buf
 ·have e:=fRepSend_no (r:=r) (fun h=>h.2.2.1 ci)
  simp [ci,e,Rep.res,Rep.zero,Call.res,Call.zero]
 have ci2 : dc (idle r.buf) = false:=by rw [dc_no];exact ci
 by_cases cs : r.seq = 999999999
 ·have e:=fRepSend_no (r:=r) (fun h=>h.2.2.2 cs)
  simp [ci2,cs,e,Rep.res,Rep.zero,Call.res,Call.zero]
 have e:=fRepSend_yes (r:=r) ⟨c1,ch,ci,cs⟩;have hs:=c1.2.1;have ew : Go.IntKind.i64.wrap (r.seq + 1) = r.seq + 1:=Go.IntWalk.i64_in _ (by omega);simp [ci2,cs];refine ACall.pure (l17Copy_c r (by omega)) (by simp [Rep.row,ch]) ?_;simp [Rep.res,ew];intros;refine ACall.pure (l02Copy_c r.buf (by omega)) (by simp) ?_;simp;intros;refine ACall.pure (specOpTo_c r.buf (by omega)) (by simp) ?_;simp;refine ACall.pure (specKeeping_c (opTo r.buf)) (by simp) ?_;simp;intros;refine DrawT.introP eok mix [0,1,5] [2,3,4] [([false,true,false],[true,false,true]),([false,false,true],[true,false,false]),([false,false,false],[true,false,false])] [true,false,false] (by kernel_rfl) ?_;simp;have hn:=sentRep_n r;refine ACall.pure (l17Call_c (sentRep r) (by omega)) (by simp [Rep.row,sentRep,ch]) ?_;simp [e,sentRep,Call.res,submit]
theorem opOk_n {o : List Part} (h : opOk o) : nL nPart o≤2 ^ 18:=by
 have:=nL_parts h.1.1;have:=h.1.2;omega
theorem fCompose_n (a b : List Part) : nL nPart (fCompose a b).1≤2 ^ 18:=by
 unfold fCompose
 split
 ·split
  ·rename_i h;exact opOk_n h
  ·simp [nL,sumN]
 ·simp [nL,sumN]
def editRep (r : Rep) (b : List Part) : Rep:=⟨r.client,r.seq,r.rev,r.text,r.has,r.sent,b⟩
open Classical in
noncomputable def fRepEdit (r : Rep) (o : List Part) : Rep × Bool:=if repOk r∧(fCompose r.buf o).2 = true then repOr (editRep r (fCompose r.buf o).1) else (Rep.zero,false)
theorem fRepEdit_no {r : Rep} {o : List Part} (h : ¬ (repOk r∧(fCompose r.buf o).2 = true)) : fRepEdit r o = (Rep.zero,false):=by unfold fRepEdit;rw [if_neg h]
theorem fRepEdit_yes {r : Rep} {o : List Part} (h : repOk r∧(fCompose r.buf o).2 = true) : fRepEdit r o = repOr (editRep r (fCompose r.buf o).1):=by unfold fRepEdit;rw [if_pos h]
theorem repOr_yes {r : Rep} (h : repOk r) : repOr r = (r,true):=by unfold repOr;rw [if_pos h]
theorem repOr_no {r : Rep} (h : ¬ repOk r) : repOr r = (Rep.zero,false):=by unfold repOr;rw [if_neg h]
theorem editRep_n {r : Rep} {b : List Part} : nRep (editRep r b)≤nRep r + nL nPart b:=by unfold nRep editRep;simp only;omega
theorem implRepEdit_i (r : Rep) (hl : nRep r≤2 ^ 28) (o : List Part) (ho : nL nPart o≤2 ^ 40) : PureC Try.prog 9 [.agg r.row,.c (.s (o.map Part.row))] (.tup [.agg (fRepEdit r o).1.res,.c (.v (.bool (fRepEdit r o).2)) 1]):=by
 refine PureC.intro' tt_ok Try.func9 (by kernel_rfl) rfl rfl rfl (Nat.le_of_ble_eq_true rfl) (fun w0 base=>?_);have hbuf : nL nPart r.buf≤2 ^ 40:=by unfold nRep at hl;omega
 simp [Rep.row];intros;refine ACall.pure (implRepOk_i r (by omega)) (by simp [Rep.row]) ?_;by_cases c1 : repOk r
 rotate_left
 ·have e:=fRepEdit_no (r:=r) (o:=o) (fun h=>c1 h.1)
  have e2 : dc (repOk r) = false:=by rw [dc_no];exact c1
  simp [e2,e,Rep.res,Rep.zero]
 simp [c1];refine ACall.pure (implCompose_i r.buf o hbuf ho) (by simp) ?_;simp;have hn:=fCompose_n r.buf o;have hno:=fRepEdit_no (r:=r) (o:=o);have hyes:=fRepEdit_yes (r:=r) (o:=o);generalize fCompose r.buf o = C at hn hno hyes ⊢;obtain ⟨cb,cok⟩:=C;simp only at hn hno hyes ⊢;intro H1
 cases cok with
 | false=>
   have e:=hno (by simp);simp [e,Rep.res,Rep.zero]
 | true=>
   have e:=hyes ⟨c1,rfl⟩;simp;refine ACall.pure (copyRep_c r (by omega)) (by simp [Rep.row]) ?_;simp [Rep.res];intros;refine ACall.inline tt_ok Try.func33 (by kernel_rfl) rfl rfl rfl (Nat.le_of_ble_eq_true rfl) 20000 (fun w1 F=>?_);simp;intros;have hn2:=@editRep_n r cb;refine ACall.pure (implRepOk_i (editRep r cb) (by omega)) (by simp [Rep.row,editRep]) ?_;by_cases h : repOk (editRep r cb)
   ·rw [repOr_yes h] at e
    simp [h,e];simp [editRep]
   ·rw [repOr_no h] at e
    have e2 : dc (repOk (editRep r cb)) = false:=by rw [dc_no];exact h
    simp [e2,e,Rep.zero]
theorem specRepEdit_i (r : Rep) (hl : nRep r≤2 ^ 28) (o : List Part) (ho : nL nPart o≤2 ^ 40) : PureC Try.prog 69 [.agg r.row,.c (.s (o.map Part.row))] (.tup [.agg (fRepEdit r o).1.res,.c (.v (.bool (fRepEdit r o).2)) 1]):=by
 refine PureC.intro' tt_ok Try.func69 (by kernel_rfl) rfl rfl rfl (Nat.le_of_ble_eq_true rfl) (fun w0 base=>?_);have hbuf : nL nPart r.buf≤2 ^ 40:=by unfold nRep at hl;omega
 simp [Rep.row];intros;refine ACall.pure (specCompose_i r.buf o hbuf ho) (by simp) ?_;simp;have hn:=fCompose_n r.buf o;have hno:=fRepEdit_no (r:=r) (o:=o);have hyes:=fRepEdit_yes (r:=r) (o:=o);generalize fCompose r.buf o = C at hn hno hyes ⊢;obtain ⟨cb,cok⟩:=C;simp only at hn hno hyes ⊢;intro H1;refine ACall.pure (specRepOk_i r (by omega)) (by simp [Rep.row]) ?_;by_cases c1 : repOk r
 rotate_left
 ·have e:=hno (fun h=>c1 h.1)
  have e2 : dc (repOk r) = false:=by rw [dc_no];exact c1
  simp [e2,e,Rep.res,Rep.zero]
 simp [c1]
 cases cok with
 | false=>
   have e:=hno (by simp);simp [e,Rep.res,Rep.zero]
 | true=>
   have e:=hyes ⟨c1,rfl⟩;simp;refine ACall.pure (l17Copy_c r (by omega)) (by simp [Rep.row]) ?_;simp [Rep.res];intros;refine ACall.inline tt_ok Try.func92 (by kernel_rfl) rfl rfl rfl (Nat.le_of_ble_eq_true rfl) 20000 (fun w1 F=>?_);simp;intros;have hn2:=@editRep_n r cb;refine ACall.pure (specRepOk_i (editRep r cb) (by omega)) (by simp [Rep.row,editRep]) ?_;by_cases h : repOk (editRep r cb)
   ·rw [repOr_yes h] at e
    simp [h,e];simp [editRep]
   ·rw [repOr_no h] at e
    have e2 : dc (repOk (editRep r cb)) = false:=by rw [dc_no];exact h
    simp [e2,e,Rep.zero]
set_option maxHeartbeats 1600000
def Doc.zero : Doc:=⟨⟨#[]⟩,0,[],[],[]⟩
def Net.zero : Net:=⟨Doc.zero,[]⟩
structure Shp (q : Part) : Prop where
 k : q.kind = 1∨q.kind = 2∨q.kind = 3
 n : 0≤q.n
 put : q.kind = 2→q.n = 0∧signsOk q.signs
 run : q.kind≠2→q.signs = []
 pos : 0 < psz q
theorem shp_flush {L : List Part} {P : List Int} {D : Int} (hL : ∀ q∈L,Shp q) (hP : signsOk P) : ∀ q∈nbFlush L P D,Shp q:=by
 intro q hq;unfold nbFlush at hq;rcases List.mem_append.1 hq with hq | hq
 ·exact hL q hq
 ·rcases List.mem_append.1 hq with hq | hq
  ·split at hq
   ·simp at hq
   ·rename_i h
    simp at hq;subst hq;have : 0 < P.length:=List.length_pos_iff.2 h;exact ⟨.inr (.inl rfl),by simp,fun _=>⟨rfl,hP⟩,fun h=>absurd rfl h,by simpa [psz] using this⟩
  ·split at hq
   ·rename_i h
    simp at hq;subst hq;exact ⟨.inr (.inr rfl),by simp only;omega,fun h=>by simp at h,fun _=>rfl,by simp [psz];omega⟩
   ·simp at hq
theorem shp_keep {L : List Part} {n : Int} (hL : ∀ q∈L,Shp q) (hn : 0 < n) : ∀ q∈nbKeep L n,Shp q:=by
 intro q hq;have one : Shp ⟨1,n,[]⟩:=⟨.inl rfl,by simp only;omega,fun h=>by simp at h,fun _=>rfl,by simp [psz];omega⟩;unfold nbKeep at hq
 split at hq
 ·rename_i hl
  split at hq
  ·rename_i k
   rcases List.mem_or_eq_of_mem_set hq with hq | rfl
   ·exact hL q hq
   ·have h:=hL (L[L.length - 1]'(by omega)) (List.getElem_mem _)
    have h1:=h.n;have h2:=h.run (by omega);exact ⟨.inl rfl,by simp only;omega,fun h=>by simp at h,fun _=>h2,by simp [psz];omega⟩
  ·rcases List.mem_append.1 hq with hq | hq
   ·exact hL q hq
   ·simp at hq;subst hq;exact one
 ·simp at hq;subst hq;exact one
theorem nbRun_shp {o : List Part} (ho : ∀ p∈o,partOk p) : ∀ (i : Nat),i≤o.length→(∀ q∈(nbRun (o.take i)).1,Shp q)∧signsOk (nbRun (o.take i)).2.1
 | 0,_=>by simp [nbRun,signsOk]
 | i + 1,hi=>by
   obtain ⟨h1,h2⟩:=nbRun_shp ho i (by omega);have hlt : i < o.length:=by omega
   have hp:=ho _ (List.getElem_mem hlt);rw [nbRun_suc hlt];generalize nbRun (o.take i) = s at h1 h2;generalize o[i] = p at hp;obtain ⟨L,P,D⟩:=s;simp only at h1 h2;unfold nbStep
   split
   ·rename_i k
    rw [partOk_put k] at hp;refine ⟨h1,fun n hn=>?_⟩;rcases List.mem_append.1 hn with hn | hn
    ·exact h2 n hn
    ·exact hp.2.2 n hn
   ·split
    ·exact ⟨h1,h2⟩
    ·split
     ·rename_i hn
      exact ⟨shp_keep (shp_flush h1 h2) hn,by simp [signsOk]⟩
     ·exact ⟨h1,h2⟩
theorem normal_shp {o : List Part} (ho : ∀ p∈o,partOk p) : ∀ q∈normal o,Shp q:=by
 have h:=nbRun_shp ho o.length (Nat.le_refl _);rw [List.take_length] at h;exact shp_flush h.1 h.2
theorem tos_shp : ∀ {L : List Part},(∀ q∈L,Shp q)→tos L = toA (atoms L)
 | [],_=>rfl
 | p :: L,h=>by
   have hp:=h p (List.mem_cons_self ..);simp only [tos,atoms,toA_append,tos_shp (fun q hq=>h q (List.mem_cons_of_mem _ hq))]
   congr 1
   unfold ats;by_cases k : p.kind = 2
   ·have k3 : ¬ p.kind = 3:=by omega
    have:=(hp.put k).1;rw [if_pos k,if_neg k3,toA_ps];simp [psz,this]
   ·rw [if_neg k]
    split
    ·exact (toA_ds _).symm
    ·exact (toA_ks _).symm
theorem frs_mem {L : List Part} {q : Part} (h : q∈L) (k : q.kind≠2) : psz q≤frs L:=by
 induction L with
 | nil=>simp at h
 | cons p L ih=>
   simp only [frs];rcases List.mem_cons.1 h with rfl | h
   ·rw [if_neg k];omega
   ·have:=ih h;omega
theorem tos_mem {L : List Part} {q : Part} (h : q∈L) (k : q.kind≠3) : psz q≤tos L:=by
 induction L with
 | nil=>simp at h
 | cons p L ih=>
   simp only [tos];rcases List.mem_cons.1 h with rfl | h
   ·rw [if_neg k];omega
   ·have:=ih h;omega
theorem tsz_len : ∀ {L : List Part},(∀ q∈L,Shp q)→L.length≤tsz L
 | [],_=>by simp [tsz]
 | p :: L,h=>by
   have:=tsz_len (fun q hq=>h q (List.mem_cons_of_mem _ hq));have:=(h p (List.mem_cons_self ..)).pos;simp only [tsz,List.length_cons];omega
theorem shp_ok {L : List Part} (h : ∀ q∈L,Shp q) (h1 : frs L≤200) (h2 : tos L≤200) : partsOk L:=by
 have hl:=tsz_len h;have ht:=tsz_le L;refine ⟨fun q hq=>?_,by omega⟩;have hs:=h q hq;have hn:=hs.n;by_cases k : q.kind = 2
 ·have h3:=tos_mem hq (by omega)
  have h4:=hs.put k;exact .inr ⟨k,h4.1,by unfold psz at h3;omega,h4.2⟩
 ·have h3:=frs_mem hq k
  have h4:=hs.run k;have hk:=hs.k;exact .inl ⟨by omega,⟨hn,by unfold psz at h3;omega⟩,h4⟩
theorem parts_from {o : List Part} (h : partsOk o) : (frs o : Int) = opFrom o:=by
 rw [frs_sum h.1,sumI_congr (fun p hp=>but2 (h.1 p hp)),sumI_add];unfold opFrom l02Sum;rw [if_pos h]
theorem parts_to {o : List Part} (h : partsOk o) : (tos o : Int) = opTo o:=by
 rw [tos_sum h.1,sumI_congr (fun p hp=>but3 (h.1 p hp)),sumI_add];unfold opTo l02Sum;rw [if_pos h]
set_option maxHeartbeats 6400000
def partB (fr : Int) (p : Part) : Prop:=(1≤p.kind∧p.kind≤3)∧(0≤p.n∧p.n≤fr)∧p.signs.length≤3∧∀ x∈p.signs,signOk x
def partD (fr : Int) (p : Part) : Prop:=((p.kind = 1∨p.kind = 3)∧(0≤p.n∧p.n≤fr)∧p.signs = [])∨(p.kind = 2∧p.n = 0∧p.signs.length≤3∧signsOk p.signs)
theorem partD.b {fr : Int} (h0 : 0≤fr) {p : Part} (h : partD fr p) : partB fr p:=by
 rcases h with ⟨h1,h2,h3⟩ | ⟨h1,h2,h3,h4⟩
 ·exact ⟨by omega,h2,by simp [h3],by simp [h3]⟩
 ·exact ⟨by omega,by omega,h3,h4⟩
def opD (fr : Int) (o : List Part) : Prop:=(∀ p∈o,partD fr p)∧(frs o : Int) = fr∧tos o≤frs o + 12
theorem frs_snoc (p : Part) : ∀ o : List Part,frs (o ++ [p]) = frs o + (if p.kind = 2 then 0 else psz p)
 | []=>by simp [frs]
 | q :: o=>by simp only [List.cons_append,frs,frs_snoc p o];omega
theorem tos_snoc (p : Part) : ∀ o : List Part,tos (o ++ [p]) = tos o + (if p.kind = 3 then 0 else psz p)
 | []=>by simp [tos]
 | q :: o=>by simp only [List.cons_append,tos,tos_snoc p o];omega
theorem opD.ok {fr : Int} {o : List Part} (h : opD fr o) (h0 : 0≤fr) (h1 : fr≤188) (hl : o.length≤42) : opOk o∧opFrom o = fr∧opTo o≤fr + 12:=by
 have hp : ∀ p∈o,partOk p:=fun p hp=>by
  rcases h.1 p hp with ⟨h1,h2,h3⟩ | ⟨h1,h2,h3,h4⟩
  ·exact .inl ⟨h1,by omega,h3⟩
  ·exact .inr ⟨h1,h2,by omega,h4⟩
 have hps : partsOk o:=⟨hp,by omega⟩;have f:=parts_from hps;have t:=parts_to hps;have:=h.2;exact ⟨⟨hps,by omega,by omega⟩,by omega,by omega⟩
def resO (p : List Part→Prop) (rr : RR) : Prop:=∃ L : List Part,p L∧rr = .one (.c (.s (L.map Part.row)) 3)
theorem tailD {fr : Int} {o : List Part} {lf : Int} (h : ∀ q∈o,partD fr q) (hl : 0≤lf∧lf≤fr) (hf : (frs o : Int) + lf = fr) (ht : tos o≤frs o + 12) (hn : o.length≤41) (h0 : 0≤fr) :
 (o ++ [(⟨1,lf,[]⟩ : Part)]).length≤42∧(∀ p∈o ++ [(⟨1,lf,[]⟩ : Part)],partB fr p)∧opD fr (o ++ [(⟨1,lf,[]⟩ : Part)]):=by
 have hall : ∀ q∈o ++ [(⟨1,lf,[]⟩ : Part)],partD fr q:=fun q hq=>(List.mem_append.1 hq).elim (h q) (fun h=>by simp at h;subst h;exact Or.inl ⟨Or.inl rfl,hl,rfl⟩)
 refine ⟨by simp;omega,fun p hp=>(hall p hp).b h0,hall,?_,?_⟩
 ·rw [frs_snoc];simp [psz];omega
 ·rw [frs_snoc,tos_snoc];simp [psz];omega
theorem l02Draw_c (l : List UInt8) (hl : l.length≤2 ^ 40) (fr : Int) (hf0 : 0≤fr) (hf : fr≤2 ^ 40) : CurC Try.prog 74 (l.map byteR) 30 [.c (vi fr)] (resO fun o=>o.length≤42∧(∀ p∈o,partB fr p)∧opD fr o):=by
 refine CurC.intro tt_ok Try.func30 (by kernel_rfl) rfl rfl rfl (Nat.le_of_ble_eq_true rfl) (fun w0 base b u i h hi0 hi1 hu=>?_);have hi1 : i≤(l.length : Int):=by simpa using hi1
 simp;intro b11
 refine LoopT.introG eok (fun x : List Part × Int × Nat × Hd × Int × Int=>x.1.length≤40∧(∀ p∈x.1,partD fr p)∧(0≤x.2.1∧x.2.1≤fr)∧x.2.2.1≤12∧0≤x.2.2.2.2.1∧x.2.2.2.2.1≤(l.length : Int)∧(frs x.1 : Int) + x.2.1 = fr∧tos x.1 + x.2.2.1≤frs x.1 + 12)
  (fun x=>⟨75,0,[(7,.v (.int .i64 x.2.2.1)),(6,.v (.int .i64 x.2.1)),(5,.sl 176 x.2.2.2.1 3 0 x.1.length),(0,.p 0 b 0)],[(0,.vars b 74 (curA u l.length x.2.2.2.2.1 x.2.2.2.2.2)),(176,.rows x.2.2.2.1 3 (x.1.map Part.row) true)]⟩)
  (fun x=>41 - x.1.length) ([],fr,12,some (b11,0,0),i,h) (by simp [frs,tos];omega) (by simp) (fun x hx=>Ent.refl ?_)
 obtain ⟨o,left,room,H,i1,h1⟩:=x;obtain ⟨x1,x2,x3,x4,x5,x6,x7,x8⟩:=hx;simp only at x1 x2 x3 x4 x5 x6 x7 x8 ⊢;simp;by_cases c : 0 < left
 ·simp [c]
  refine ACall.cur (l01Below_c l hl 4) hu (by simp) rfl x5 x6 (by simp) ?_
  rintro _ i2 h2 ⟨z,hz,rfl⟩ y5 y6
  simp;have wl:=Go.IntWalk.i64_in (left + 1) (by omega);by_cases z0 : z = 0
  ·simp [z0]
   refine ACall.cur (l01Signs_c l hl 3 (by omega) (by omega)) hu (by simp) rfl y5 y6 (by simp) ?_
   rintro _ i3 h3 ⟨S,hS,rfl⟩ y5 y6
   simp;intro HS;by_cases c1 : room < S.length
   ·have wr:=Go.IntWalk.i64_in (room : Int) (by omega)
    simp [c1,wr];have hP : partD fr (⟨2,0,[]⟩ : Part):=.inr ⟨rfl,rfl,by simp,by simp [signsOk]⟩;have hF : (frs (o ++ [(⟨2,0,[]⟩ : Part)]) : Int) + (left : Int) = fr:=by rw [frs_snoc];(simp;omega)
    have hT : tos (o ++ [(⟨2,0,[]⟩ : Part)]) + (room : Nat)≤frs (o ++ [(⟨2,0,[]⟩ : Part)]) + 12:=by rw [frs_snoc,tos_snoc];(simp [psz];omega)
    have hLf : 0≤(left : Int)∧(left : Int)≤fr:=x3;have hRm : (room : Nat)≤12:=x4;have hall : ∀ q∈o ++ [(⟨2,0,[]⟩ : Part)],partD fr q:=fun q hq=>(List.mem_append.1 hq).elim (x2 q) (fun h=>by simp at h;subst h;exact hP)
    intro bA;refine ⟨by omega,fun HB=>?_⟩;by_cases c2 : 40 < (o.length : Int) + 1
    ·simp [c2]
     intro bB;refine ⟨by omega,fun HC=>?_⟩;refine curQ_one (.c _ 3) ⟨o ++ [(⟨2,0,[]⟩ : Part)] ++ [⟨1,left,[]⟩],tailD hall hLf hF (by omega) (by simp;omega) hf0,rfl⟩ ?_;simp;refine ⟨?_,⟨rfl,rfl⟩,curK_get rfl y5 y6⟩
     rintro row (⟨a,-,rfl⟩ | rfl | rfl)<;>rfl
    ·simp [c2]
     refine Ent.refl ⟨o ++ [(⟨2,0,[]⟩ : Part)],left,room,HB,_,⟨by simp;omega,hall,hLf,hRm,y5,y6,hF,hT⟩,by simp;omega,h3,?_⟩;simp [Part.row]<;>omega
   ·have wr:=Go.IntWalk.i64_in ((room : Int) - S.length) (by omega)
    simp [c1,wr];have hP : partD fr (⟨2,0,S⟩ : Part):=.inr ⟨rfl,rfl,by have:=hS.1;simp;omega,hS.2⟩;have hF : (frs (o ++ [(⟨2,0,S⟩ : Part)]) : Int) + (left : Int) = fr:=by rw [frs_snoc];(simp;omega)
    have hT : tos (o ++ [(⟨2,0,S⟩ : Part)]) + ((room - S.length) : Nat)≤frs (o ++ [(⟨2,0,S⟩ : Part)]) + 12:=by rw [frs_snoc,tos_snoc];(simp [psz];omega)
    have hLf : 0≤(left : Int)∧(left : Int)≤fr:=x3;have hRm : ((room - S.length) : Nat)≤12:=(by omega);have hall : ∀ q∈o ++ [(⟨2,0,S⟩ : Part)],partD fr q:=fun q hq=>(List.mem_append.1 hq).elim (x2 q) (fun h=>by simp at h;subst h;exact hP)
    intro bA;refine ⟨by omega,fun HB=>?_⟩;by_cases c2 : 40 < (o.length : Int) + 1
    ·simp [c2]
     intro bB;refine ⟨by omega,fun HC=>?_⟩;refine curQ_one (.c _ 3) ⟨o ++ [(⟨2,0,S⟩ : Part)] ++ [⟨1,left,[]⟩],tailD hall hLf hF (by omega) (by simp;omega) hf0,rfl⟩ ?_;simp;refine ⟨?_,⟨rfl,rfl⟩,curK_get rfl y5 y6⟩
     rintro row (⟨a,-,rfl⟩ | rfl | rfl)<;>rfl
    ·simp [c2]
     refine Ent.refl ⟨o ++ [(⟨2,0,S⟩ : Part)],left,(room - S.length),HB,_,⟨by simp;omega,hall,hLf,hRm,y5,y6,hF,hT⟩,by simp;omega,h3,?_⟩;simp [Part.row]<;>omega
  by_cases z1 : z = 1
  ·simp [z1,wl]
   refine ACall.cur (l01Below_c l hl (left + 1)) hu (by simp) rfl y5 y6 (by simp) ?_
   rintro _ i3 h3 ⟨m,hm,rfl⟩ y5 y6
   have hm1:=hm.1;have hm2:=hm.2.2 (by omega);simp;by_cases c1 : 4 < m
   ·have wr:=Go.IntWalk.i64_in (left - 4) (by omega)
    simp [c1,wr];have hP : partD fr (⟨3,4,[]⟩ : Part):=.inl ⟨.inr rfl,by simp;omega,rfl⟩;have hF : (frs (o ++ [(⟨3,4,[]⟩ : Part)]) : Int) + ((left - 4) : Int) = fr:=by rw [frs_snoc];(simp [psz];omega)
    have hT : tos (o ++ [(⟨3,4,[]⟩ : Part)]) + (room : Nat)≤frs (o ++ [(⟨3,4,[]⟩ : Part)]) + 12:=by rw [frs_snoc,tos_snoc];(simp [psz];omega)
    have hLf : 0≤((left - 4) : Int)∧((left - 4) : Int)≤fr:=(by omega);have hRm : (room : Nat)≤12:=x4;have hall : ∀ q∈o ++ [(⟨3,4,[]⟩ : Part)],partD fr q:=fun q hq=>(List.mem_append.1 hq).elim (x2 q) (fun h=>by simp at h;subst h;exact hP)
    intro bA;refine ⟨by omega,fun HB=>?_⟩;by_cases c2 : 40 < (o.length : Int) + 1
    ·simp [c2]
     intro bB;refine ⟨by omega,fun HC=>?_⟩;refine curQ_one (.c _ 3) ⟨o ++ [(⟨3,4,[]⟩ : Part)] ++ [⟨1,(left - 4),[]⟩],tailD hall hLf hF (by omega) (by simp;omega) hf0,rfl⟩ ?_;simp;refine ⟨?_,⟨rfl,rfl⟩,curK_get rfl y5 y6⟩
     rintro row (⟨a,-,rfl⟩ | rfl | rfl)<;>rfl
    ·simp [c2]
     refine Ent.refl ⟨o ++ [(⟨3,4,[]⟩ : Part)],(left - 4),room,HB,_,⟨by simp;omega,hall,hLf,hRm,y5,y6,hF,hT⟩,by simp;omega,h3,?_⟩;simp [Part.row]<;>omega
   ·have wr:=Go.IntWalk.i64_in (left - m) (by omega)
    simp [c1,wr];have hP : partD fr (⟨3,m,[]⟩ : Part):=.inl ⟨.inr rfl,by simp;omega,rfl⟩;have hF : (frs (o ++ [(⟨3,m,[]⟩ : Part)]) : Int) + ((left - m) : Int) = fr:=by rw [frs_snoc];(simp [psz];omega)
    have hT : tos (o ++ [(⟨3,m,[]⟩ : Part)]) + (room : Nat)≤frs (o ++ [(⟨3,m,[]⟩ : Part)]) + 12:=by rw [frs_snoc,tos_snoc];(simp [psz];omega)
    have hLf : 0≤((left - m) : Int)∧((left - m) : Int)≤fr:=(by omega);have hRm : (room : Nat)≤12:=x4;have hall : ∀ q∈o ++ [(⟨3,m,[]⟩ : Part)],partD fr q:=fun q hq=>(List.mem_append.1 hq).elim (x2 q) (fun h=>by simp at h;subst h;exact hP)
    intro bA;refine ⟨by omega,fun HB=>?_⟩;by_cases c2 : 40 < (o.length : Int) + 1
    ·simp [c2]
     intro bB;refine ⟨by omega,fun HC=>?_⟩;refine curQ_one (.c _ 3) ⟨o ++ [(⟨3,m,[]⟩ : Part)] ++ [⟨1,(left - m),[]⟩],tailD hall hLf hF (by omega) (by simp;omega) hf0,rfl⟩ ?_;simp;refine ⟨?_,⟨rfl,rfl⟩,curK_get rfl y5 y6⟩
     rintro row (⟨a,-,rfl⟩ | rfl | rfl)<;>rfl
    ·simp [c2]
     refine Ent.refl ⟨o ++ [(⟨3,m,[]⟩ : Part)],(left - m),room,HB,_,⟨by simp;omega,hall,hLf,hRm,y5,y6,hF,hT⟩,by simp;omega,h3,?_⟩;simp [Part.row]<;>omega
  simp [z0,z1,wl];refine ACall.cur (l01Below_c l hl (left + 1)) hu (by simp) rfl y5 y6 (by simp) ?_
  rintro _ i3 h3 ⟨m,hm,rfl⟩ y5 y6
  have hm1:=hm.1;have hm2:=hm.2.2 (by omega);have wr:=Go.IntWalk.i64_in (left - m) (by omega);simp [wr];have hP : partD fr (⟨1,m,[]⟩ : Part):=.inl ⟨.inl rfl,by simp;omega,rfl⟩;have hF : (frs (o ++ [(⟨1,m,[]⟩ : Part)]) : Int) + ((left - m) : Int) = fr:=by rw [frs_snoc];(simp [psz];omega)
  have hT : tos (o ++ [(⟨1,m,[]⟩ : Part)]) + (room : Nat)≤frs (o ++ [(⟨1,m,[]⟩ : Part)]) + 12:=by rw [frs_snoc,tos_snoc];(simp [psz];omega)
  have hLf : 0≤((left - m) : Int)∧((left - m) : Int)≤fr:=(by omega);have hRm : (room : Nat)≤12:=x4;have hall : ∀ q∈o ++ [(⟨1,m,[]⟩ : Part)],partD fr q:=fun q hq=>(List.mem_append.1 hq).elim (x2 q) (fun h=>by simp at h;subst h;exact hP)
  intro bA;refine ⟨by omega,fun HB=>?_⟩;by_cases c2 : 40 < (o.length : Int) + 1
  ·simp [c2]
   intro bB;refine ⟨by omega,fun HC=>?_⟩;refine curQ_one (.c _ 3) ⟨o ++ [(⟨1,m,[]⟩ : Part)] ++ [⟨1,(left - m),[]⟩],tailD hall hLf hF (by omega) (by simp;omega) hf0,rfl⟩ ?_;simp;refine ⟨?_,⟨rfl,rfl⟩,curK_get rfl y5 y6⟩
   rintro row (⟨a,-,rfl⟩ | rfl | rfl)<;>rfl
  ·simp [c2]
   refine Ent.refl ⟨o ++ [(⟨1,m,[]⟩ : Part)],(left - m),room,HB,_,⟨by simp;omega,hall,hLf,hRm,y5,y6,hF,hT⟩,by simp;omega,h3,?_⟩;simp [Part.row]<;>omega
 ·simp [c]
  refine ACall.cur (l01Once_c l hl 3) hu (by simp) rfl x5 x6 (by simp) ?_
  rintro _ i9 h9 ⟨q,rfl⟩ x5 x6
  simp
  cases q with
  | true=>
    simp;refine ACall.cur (l01Below_c l hl 4) hu (by simp) rfl x5 x6 (by simp) ?_
    rintro _ i2 h2 ⟨z,hz,rfl⟩ y5 y6
    simp;have wl:=Go.IntWalk.i64_in (left + 1) (by omega);by_cases z0 : z = 0
    ·simp [z0]
     refine ACall.cur (l01Signs_c l hl 3 (by omega) (by omega)) hu (by simp) rfl y5 y6 (by simp) ?_
     rintro _ i3 h3 ⟨S,hS,rfl⟩ y5 y6
     simp;intro HS;by_cases c1 : room < S.length
     ·have wr:=Go.IntWalk.i64_in (room : Int) (by omega)
      simp [c1,wr];have hP : partD fr (⟨2,0,[]⟩ : Part):=.inr ⟨rfl,rfl,by simp,by simp [signsOk]⟩;have hF : (frs (o ++ [(⟨2,0,[]⟩ : Part)]) : Int) + (left : Int) = fr:=by rw [frs_snoc];(simp;omega)
      have hT : tos (o ++ [(⟨2,0,[]⟩ : Part)]) + (room : Nat)≤frs (o ++ [(⟨2,0,[]⟩ : Part)]) + 12:=by rw [frs_snoc,tos_snoc];(simp [psz];omega)
      have hLf : 0≤(left : Int)∧(left : Int)≤fr:=x3;have hRm : (room : Nat)≤12:=x4;have hall : ∀ q∈o ++ [(⟨2,0,[]⟩ : Part)],partD fr q:=fun q hq=>(List.mem_append.1 hq).elim (x2 q) (fun h=>by simp at h;subst h;exact hP)
      intro bA;refine ⟨by omega,fun HB=>?_⟩;by_cases c2 : 40 < (o.length : Int) + 1
      ·simp [c2]
       intro bB;refine ⟨by omega,fun HC=>?_⟩;refine curQ_one (.c _ 3) ⟨o ++ [(⟨2,0,[]⟩ : Part)] ++ [⟨1,left,[]⟩],tailD hall hLf hF (by omega) (by simp;omega) hf0,rfl⟩ ?_;simp;refine ⟨?_,⟨rfl,rfl⟩,curK_get rfl y5 y6⟩
       rintro row (⟨a,-,rfl⟩ | rfl | rfl)<;>rfl
      ·simp [c2]
       refine Ent.refl ⟨o ++ [(⟨2,0,[]⟩ : Part)],left,room,HB,_,⟨by simp;omega,hall,hLf,hRm,y5,y6,hF,hT⟩,by simp;omega,h3,?_⟩;simp [Part.row]<;>omega
     ·have wr:=Go.IntWalk.i64_in ((room : Int) - S.length) (by omega)
      simp [c1,wr];have hP : partD fr (⟨2,0,S⟩ : Part):=.inr ⟨rfl,rfl,by have:=hS.1;simp;omega,hS.2⟩;have hF : (frs (o ++ [(⟨2,0,S⟩ : Part)]) : Int) + (left : Int) = fr:=by rw [frs_snoc];(simp;omega)
      have hT : tos (o ++ [(⟨2,0,S⟩ : Part)]) + ((room - S.length) : Nat)≤frs (o ++ [(⟨2,0,S⟩ : Part)]) + 12:=by rw [frs_snoc,tos_snoc];(simp [psz];omega)
      have hLf : 0≤(left : Int)∧(left : Int)≤fr:=x3;have hRm : ((room - S.length) : Nat)≤12:=(by omega);have hall : ∀ q∈o ++ [(⟨2,0,S⟩ : Part)],partD fr q:=fun q hq=>(List.mem_append.1 hq).elim (x2 q) (fun h=>by simp at h;subst h;exact hP)
      intro bA;refine ⟨by omega,fun HB=>?_⟩;by_cases c2 : 40 < (o.length : Int) + 1
      ·simp [c2]
       intro bB;refine ⟨by omega,fun HC=>?_⟩;refine curQ_one (.c _ 3) ⟨o ++ [(⟨2,0,S⟩ : Part)] ++ [⟨1,left,[]⟩],tailD hall hLf hF (by omega) (by simp;omega) hf0,rfl⟩ ?_;simp;refine ⟨?_,⟨rfl,rfl⟩,curK_get rfl y5 y6⟩
       rintro row (⟨a,-,rfl⟩ | rfl | rfl)<;>rfl
      ·simp [c2]
       refine Ent.refl ⟨o ++ [(⟨2,0,S⟩ : Part)],left,(room - S.length),HB,_,⟨by simp;omega,hall,hLf,hRm,y5,y6,hF,hT⟩,by simp;omega,h3,?_⟩;simp [Part.row]<;>omega
    by_cases z1 : z = 1
    ·simp [z1,wl]
     refine ACall.cur (l01Below_c l hl (left + 1)) hu (by simp) rfl y5 y6 (by simp) ?_
     rintro _ i3 h3 ⟨m,hm,rfl⟩ y5 y6
     have hm1:=hm.1;have hm2:=hm.2.2 (by omega);simp;by_cases c1 : 4 < m
     ·have wr:=Go.IntWalk.i64_in (left - 4) (by omega)
      simp [c1,wr];have hP : partD fr (⟨3,4,[]⟩ : Part):=.inl ⟨.inr rfl,by simp;omega,rfl⟩;have hF : (frs (o ++ [(⟨3,4,[]⟩ : Part)]) : Int) + ((left - 4) : Int) = fr:=by rw [frs_snoc];(simp [psz];omega)
      have hT : tos (o ++ [(⟨3,4,[]⟩ : Part)]) + (room : Nat)≤frs (o ++ [(⟨3,4,[]⟩ : Part)]) + 12:=by rw [frs_snoc,tos_snoc];(simp [psz];omega)
      have hLf : 0≤((left - 4) : Int)∧((left - 4) : Int)≤fr:=(by omega);have hRm : (room : Nat)≤12:=x4;have hall : ∀ q∈o ++ [(⟨3,4,[]⟩ : Part)],partD fr q:=fun q hq=>(List.mem_append.1 hq).elim (x2 q) (fun h=>by simp at h;subst h;exact hP)
      intro bA;refine ⟨by omega,fun HB=>?_⟩;by_cases c2 : 40 < (o.length : Int) + 1
      ·simp [c2]
       intro bB;refine ⟨by omega,fun HC=>?_⟩;refine curQ_one (.c _ 3) ⟨o ++ [(⟨3,4,[]⟩ : Part)] ++ [⟨1,(left - 4),[]⟩],tailD hall hLf hF (by omega) (by simp;omega) hf0,rfl⟩ ?_;simp;refine ⟨?_,⟨rfl,rfl⟩,curK_get rfl y5 y6⟩
       rintro row (⟨a,-,rfl⟩ | rfl | rfl)<;>rfl
      ·simp [c2]
       refine Ent.refl ⟨o ++ [(⟨3,4,[]⟩ : Part)],(left - 4),room,HB,_,⟨by simp;omega,hall,hLf,hRm,y5,y6,hF,hT⟩,by simp;omega,h3,?_⟩;simp [Part.row]<;>omega
     ·have wr:=Go.IntWalk.i64_in (left - m) (by omega)
      simp [c1,wr];have hP : partD fr (⟨3,m,[]⟩ : Part):=.inl ⟨.inr rfl,by simp;omega,rfl⟩;have hF : (frs (o ++ [(⟨3,m,[]⟩ : Part)]) : Int) + ((left - m) : Int) = fr:=by rw [frs_snoc];(simp [psz];omega)
      have hT : tos (o ++ [(⟨3,m,[]⟩ : Part)]) + (room : Nat)≤frs (o ++ [(⟨3,m,[]⟩ : Part)]) + 12:=by rw [frs_snoc,tos_snoc];(simp [psz];omega)
      have hLf : 0≤((left - m) : Int)∧((left - m) : Int)≤fr:=(by omega);have hRm : (room : Nat)≤12:=x4;have hall : ∀ q∈o ++ [(⟨3,m,[]⟩ : Part)],partD fr q:=fun q hq=>(List.mem_append.1 hq).elim (x2 q) (fun h=>by simp at h;subst h;exact hP)
      intro bA;refine ⟨by omega,fun HB=>?_⟩;by_cases c2 : 40 < (o.length : Int) + 1
      ·simp [c2]
       intro bB;refine ⟨by omega,fun HC=>?_⟩;refine curQ_one (.c _ 3) ⟨o ++ [(⟨3,m,[]⟩ : Part)] ++ [⟨1,(left - m),[]⟩],tailD hall hLf hF (by omega) (by simp;omega) hf0,rfl⟩ ?_;simp;refine ⟨?_,⟨rfl,rfl⟩,curK_get rfl y5 y6⟩
       rintro row (⟨a,-,rfl⟩ | rfl | rfl)<;>rfl
      ·simp [c2]
       refine Ent.refl ⟨o ++ [(⟨3,m,[]⟩ : Part)],(left - m),room,HB,_,⟨by simp;omega,hall,hLf,hRm,y5,y6,hF,hT⟩,by simp;omega,h3,?_⟩;simp [Part.row]<;>omega
    simp [z0,z1,wl];refine ACall.cur (l01Below_c l hl (left + 1)) hu (by simp) rfl y5 y6 (by simp) ?_
    rintro _ i3 h3 ⟨m,hm,rfl⟩ y5 y6
    have hm1:=hm.1;have hm2:=hm.2.2 (by omega);have wr:=Go.IntWalk.i64_in (left - m) (by omega);simp [wr];have hP : partD fr (⟨1,m,[]⟩ : Part):=.inl ⟨.inl rfl,by simp;omega,rfl⟩;have hF : (frs (o ++ [(⟨1,m,[]⟩ : Part)]) : Int) + ((left - m) : Int) = fr:=by rw [frs_snoc];(simp [psz];omega)
    have hT : tos (o ++ [(⟨1,m,[]⟩ : Part)]) + (room : Nat)≤frs (o ++ [(⟨1,m,[]⟩ : Part)]) + 12:=by rw [frs_snoc,tos_snoc];(simp [psz];omega)
    have hLf : 0≤((left - m) : Int)∧((left - m) : Int)≤fr:=(by omega);have hRm : (room : Nat)≤12:=x4;have hall : ∀ q∈o ++ [(⟨1,m,[]⟩ : Part)],partD fr q:=fun q hq=>(List.mem_append.1 hq).elim (x2 q) (fun h=>by simp at h;subst h;exact hP)
    intro bA;refine ⟨by omega,fun HB=>?_⟩;by_cases c2 : 40 < (o.length : Int) + 1
    ·simp [c2]
     intro bB;refine ⟨by omega,fun HC=>?_⟩;refine curQ_one (.c _ 3) ⟨o ++ [(⟨1,m,[]⟩ : Part)] ++ [⟨1,(left - m),[]⟩],tailD hall hLf hF (by omega) (by simp;omega) hf0,rfl⟩ ?_;simp;refine ⟨?_,⟨rfl,rfl⟩,curK_get rfl y5 y6⟩
     rintro row (⟨a,-,rfl⟩ | rfl | rfl)<;>rfl
    ·simp [c2]
     refine Ent.refl ⟨o ++ [(⟨1,m,[]⟩ : Part)],(left - m),room,HB,_,⟨by simp;omega,hall,hLf,hRm,y5,y6,hF,hT⟩,by simp;omega,h3,?_⟩;simp [Part.row]<;>omega
  | false=>
    simp;refine curQ_one (.c _ 3) ⟨o,⟨by omega,fun p hp=>(x2 p hp).b hf0,x2,by omega,by omega⟩,rfl⟩ ?_;simp;exact curK_get rfl x5 x6
def chn (L : List Part) : Prop:=∀ i,∀ h : i + 1 < L.length,L[i].kind≠L[i + 1].kind
theorem chn_nil : chn []:=fun i h=>by simp at h
theorem chn_cons {p : Part} {L : List Part} (h : chn (p :: L)) : chn L∧∀ h0 : 0 < L.length,p.kind≠L[0].kind:=by
 refine ⟨fun i hi=>?_,fun h0=>?_⟩
 ·have:=h (i + 1) (by simp;omega)
  simpa using this
 ·have:=h 0 (by simp;omega)
  simpa using this
theorem chn_snoc {L : List Part} {p : Part} (h : chn L) (hp : ∀ h : 0 < L.length,(L[L.length - 1]'(by omega)).kind≠p.kind) : chn (L ++ [p]):=by
 intro i hi;simp at hi;by_cases c : i + 1 < L.length
 ·rw [List.getElem_append_left (by omega),List.getElem_append_left c];exact h i c
 ·have h0 : 0 < L.length:=by omega
  have:=hp h0;rw [List.getElem_append_left (by omega),List.getElem_append_right (by omega)];have e : i = L.length - 1:=by omega
  subst e
  simpa using this
theorem chn_set {L : List Part} {i : Nat} {p : Part} (h : chn L) (hi : i < L.length) (hk : p.kind = L[i].kind) : chn (L.set i p):=by
 intro j hj;simp at hj;have h1:=h j hj;rw [List.getElem_set,List.getElem_set]
 split
 ·rename_i e;subst e
  rw [if_neg (by omega),hk];exact h1
 ·split
  ·rename_i e;subst e;rw [hk];exact h1
  ·exact h1
def lastK (L : List Part) : Prop:=∀ h : 0 < L.length,(L[L.length - 1]'(by omega)).kind = 1
theorem lastK_snoc {L : List Part} {p : Part} : (((L ++ [p])[(L ++ [p]).length - 1]'(by simp))).kind = p.kind:=by simp
theorem flush_chn {L : List Part} {P : List Int} {D : Int} (h : chn L) (hl : lastK L) : chn (nbFlush L P D):=by
 unfold nbFlush
 split
 ·split
  ·rw [List.nil_append]
   exact chn_snoc h fun h0=>by rw [hl h0];simp
  ·simpa using h
 ·have h1 : chn (L ++ [⟨2,0,P⟩]):=chn_snoc h fun h0=>by rw [hl h0];simp
  split
  ·rw [← List.append_assoc]
   exact chn_snoc h1 fun h0=>by rw [lastK_snoc];simp
  ·simpa using h1
theorem keep_chn {L : List Part} {n : Int} (h : chn L) : chn (nbKeep L n)∧lastK (nbKeep L n):=by
 unfold nbKeep
 split
 ·rename_i h0
  split
  ·rename_i hk
   refine ⟨chn_set h (by omega) hk.symm,fun h1=>?_⟩;simp
  ·rename_i hk
   refine ⟨chn_snoc h fun _=>hk,fun h1=>?_⟩;rw [lastK_snoc]
 ·exact ⟨chn_snoc (L:=[]) chn_nil (fun h=>by simp at h),fun _=>rfl⟩
theorem nbRun_chn (o : List Part) : ∀ (i : Nat),i≤o.length→chn (nbRun (o.take i)).1∧lastK (nbRun (o.take i)).1
 | 0,_=>by
   simp only [nbRun,List.take_zero,List.foldl_nil];exact ⟨chn_nil,fun h=>by simp at h⟩
 | i + 1,hi=>by
   obtain ⟨h1,h2⟩:=nbRun_chn o i (by omega);rw [nbRun_suc (show i < o.length by omega)];generalize nbRun (o.take i) = s at h1 h2;unfold nbStep
   split
   ·exact ⟨h1,h2⟩
   ·split
    ·exact ⟨h1,h2⟩
    ·split
     ·exact keep_chn (flush_chn h1 h2)
     ·exact ⟨h1,h2⟩
theorem normal_chn (o : List Part) : chn (normal o):=by
 obtain ⟨h1,h2⟩:=nbRun_chn o o.length (Nat.le_refl _);rw [List.take_length] at h1 h2;exact flush_chn h1 h2
def grpC : At→List Part→List Part
 | .k,[]=>[⟨1,1,[]⟩]
 | .k,p :: l=>if p.kind = 1 then ⟨1,p.n + 1,[]⟩ :: l else ⟨1,1,[]⟩ :: p :: l
 | .d,[]=>[⟨3,1,[]⟩]
 | .d,p :: l=>if p.kind = 3 then ⟨3,p.n + 1,[]⟩ :: l else ⟨3,1,[]⟩ :: p :: l
 | .p c,[]=>[⟨2,0,[c]⟩]
 | .p c,p :: l=>if p.kind = 2 then ⟨2,0,c :: p.signs⟩ :: l else ⟨2,0,[c]⟩ :: p :: l
def grp (l : List At) : List Part:=l.foldr grpC []
theorem grp_ks {L : List Part} (h : ∀ h0 : 0 < L.length,L[0].kind≠1) : ∀ n : Nat,(List.replicate (n + 1) At.k).foldr grpC L = ⟨1,(n : Int) + 1,[]⟩ :: L
 | 0=>by
   cases L with
   | nil=>rfl
   | cons p l=>have:=h (by simp);simp at this;simp [grpC,this]
 | n + 1=>by
   rw [List.replicate_succ,List.foldr_cons,grp_ks h n];simp [grpC]
theorem grp_ds {L : List Part} (h : ∀ h0 : 0 < L.length,L[0].kind≠3) : ∀ n : Nat,(List.replicate (n + 1) At.d).foldr grpC L = ⟨3,(n : Int) + 1,[]⟩ :: L
 | 0=>by
   cases L with
   | nil=>rfl
   | cons p l=>have:=h (by simp);simp at this;simp [grpC,this]
 | n + 1=>by
   rw [List.replicate_succ,List.foldr_cons,grp_ds h n];simp [grpC]
theorem grp_ps {L : List Part} (h : ∀ h0 : 0 < L.length,L[0].kind≠2) : ∀ (Q : List Int) (c : Int),((c :: Q).map At.p).foldr grpC L = ⟨2,0,c :: Q⟩ :: L
 | [],c=>by
   cases L with
   | nil=>rfl
   | cons p l=>have:=h (by simp);simp at this;simp [grpC,this]
 | d :: Q,c=>by
   rw [List.map_cons,List.foldr_cons,grp_ps h Q d];simp [grpC]
theorem grp_atoms : ∀ {L : List Part},(∀ q∈L,Shp q)→chn L→grp (atoms L) = L
 | [],_,_=>rfl
 | p :: L,hs,hc=>by
   obtain ⟨h1,h2⟩:=chn_cons hc;have ih:=grp_atoms (fun q hq=>hs q (List.mem_cons_of_mem _ hq)) h1;have hp:=hs p (List.mem_cons_self ..);unfold grp at ih ⊢;rw [atoms,List.foldr_append,ih];have hpos:=hp.pos;have hn:=hp.n;unfold ats;obtain ⟨kd,n,sg⟩:=p;by_cases k2 : kd = 2
   ·subst k2
    obtain ⟨e1,-⟩:=hp.put rfl;simp only at e1;subst e1;simp only [if_true]
    cases sg with
    | nil=>simp [psz] at hpos
    | cons c Q=>exact grp_ps (fun h0=>by have:=h2 h0;simpa using this.symm) Q c
   ·have e1:=hp.run k2
    simp only at e1 hn;subst e1;have hz : psz ⟨kd,n,[]⟩ = n.toNat:=by simp [psz]
    rw [hz] at hpos;obtain ⟨m,hm⟩ : ∃ m,n.toNat = m + 1:=⟨n.toNat - 1,by omega⟩;have hnm : n = (m : Int) + 1:=by omega
    rw [hz,hm,if_neg k2];by_cases k3 : kd = 3
    ·subst k3
     simp only [if_true];rw [grp_ds (fun h0=>by have:=h2 h0;simpa using this.symm),hnm]
    ·have k1 : kd = 1:=by rcases hp.k with h | h | h<;>simp only at h<;>omega
     subst k1;rw [if_neg (by simp),grp_ks (fun h0=>by have:=h2 h0;simpa using this.symm),hnm]
theorem nA_nA : ∀ (l : List At) (P : List Int) (n : Nat),nA [] 0 (nA P n l) = nA P n l
 | [],P,n=>by
   have h2:=nA_ds n P 0 [];rw [List.append_nil,Nat.zero_add] at h2;rw [nA,nA_ps,List.nil_append,h2,nA]
 | .k :: l,P,n=>by
   rw [nA,nA_ps,nA_ds,List.nil_append,Nat.zero_add,nA,nA_nA l]
 | .p c :: l,P,n=>by rw [nA,nA_nA l]
 | .d :: l,P,n=>by rw [nA,nA_nA l]
theorem normal_grp {o : List Part} (h : ∀ p∈o,partOk p) : normal o = grp (normA (atoms o)):=by
 rw [← normal_at h,grp_atoms (normal_shp h) (normal_chn o)]
def apA : List At→List Int→List Int
 | [],_=>[]
 | .k :: a,[]=>apA a []
 | .k :: a,c :: t=>c :: apA a t
 | .p c :: a,t=>c :: apA a t
 | .d :: a,t=>apA a (t.drop 1)
theorem apA_ks {a : List At} : ∀ (n : Nat) (t : List Int),n≤t.length→apA (List.replicate n .k ++ a) t = t.take n ++ apA a (t.drop n)
 | 0,t,_=>by simp
 | n + 1,[],h=>by simp at h
 | n + 1,c :: t,h=>by
   simp only [List.replicate_succ,List.cons_append,apA,List.take_succ_cons,List.drop_succ_cons];rw [apA_ks n t (by simpa using h)]
theorem apA_ps {a : List At} {t : List Int} : ∀ Q : List Int,apA (Q.map At.p ++ a) t = Q ++ apA a t
 | []=>rfl
 | c :: Q=>by simp only [List.map_cons,List.cons_append,apA,apA_ps Q]
theorem apA_ds {a : List At} : ∀ (n : Nat) (t : List Int),apA (List.replicate n .d ++ a) t = apA a (t.drop n)
 | 0,t=>by simp
 | n + 1,t=>by
   simp only [List.replicate_succ,List.cons_append,apA];rw [apA_ds n,List.drop_drop,Nat.add_comm]
theorem nA_ap : ∀ (l : List At) (P : List Int) (n : Nat) (t : List Int),apA (nA P n l) t = P ++ apA l (t.drop n)
 | [],P,n,t=>by
   have:=apA_ds (a:=[]) n t;simp only [List.append_nil] at this;rw [nA,apA_ps,this]
 | .k :: l,P,n,t=>by
   rw [nA,apA_ps,apA_ds]
   congr 1
   cases t.drop n with
   | nil=>simp only [apA];rw [nA_ap l];simp
   | cons c t=>simp only [apA];rw [nA_ap l];simp
 | .p c :: l,P,n,t=>by
   rw [nA,nA_ap l];simp [apA]
 | .d :: l,P,n,t=>by
   rw [nA,nA_ap l];simp [apA]
theorem normA_ap (l : List At) (t : List Int) : apA (normA l) t = apA l t:=by
 unfold normA;rw [nA_ap];simp
theorem run_ap : ∀ {o : List Part},(∀ p∈o,partOk p)→∀ {t acc : List Int} {n : Nat},n + frs o≤t.length→(o.foldl (apStep t) (acc,(n : Int))).1 = acc ++ apA (atoms o) (t.drop n)
 | [],_,t,acc,n,h=>by simp [atoms,apA]
 | p :: o,ho,t,acc,n,h=>by
   have hp:=ho p (List.mem_cons_self ..);have ho':=fun q hq=>ho q (List.mem_cons_of_mem _ hq)
   have hb:=hp.bounds;simp only [frs] at h;rw [List.foldl_cons,atoms];by_cases k1 : p.kind = 1
   ·have hz : psz p = p.n.toNat:=by unfold psz;simp [hb.2.2.2.2.2 (by omega)]
    rw [if_neg (by omega),hz] at h
    have e : apStep t (acc,(n : Int)) p = (acc ++ (t.drop n).take p.n.toNat,((n + p.n.toNat : Nat) : Int)):=by
     unfold apStep;simp [k1];omega
    rw [e,run_ap ho' (by omega)];have ea : ats p = List.replicate (psz p) .k:=by unfold ats;rw [if_neg (by omega),if_neg (by omega)]
    rw [ea,hz,apA_ks _ _ (by simp;omega),List.drop_drop,List.append_assoc]
   ·by_cases k2 : p.kind = 2
    ·rw [if_pos k2] at h
     have e : apStep t (acc,(n : Int)) p = (acc ++ p.signs,(n : Int)):=by unfold apStep;simp [k2]
     rw [e,run_ap ho' (by omega)];have ea : ats p = p.signs.map At.p:=by unfold ats;rw [if_pos k2]
     rw [ea,apA_ps,List.append_assoc]
    ·have k3 : p.kind = 3:=by omega
     have hz : psz p = p.n.toNat:=by unfold psz;simp [hb.2.2.2.2.2 (by omega)]
     rw [if_neg (by omega),hz] at h
     have e : apStep t (acc,(n : Int)) p = (acc,((n + p.n.toNat : Nat) : Int)):=by
      unfold apStep;simp [k3];omega
     rw [e,run_ap ho' (by omega)];have ea : ats p = List.replicate (psz p) .d:=by unfold ats;rw [if_neg (by omega),if_pos k3]
     rw [ea,hz,apA_ds,List.drop_drop]
theorem apply_ap {o : List Part} {t : List Int} (h : fits3 o t) : apply o t = (apA (atoms o) t,true):=by
 have h1:=frs_from h.1;have h2:=h.2.2;have:=run_ap h.1.1.1 (t:=t) (acc:=[]) (n:=0) (by omega);unfold apply;rw [if_pos h];unfold apRun;simp only [Int.ofNat_zero,List.nil_append,List.drop_zero] at this;exact Prod.ext this rfl
theorem atoms_fr {o : List Part} (h : opOk o) : (frA (atoms o) : Int) = opFrom o:=by rw [← frs_at];exact frs_from h
theorem atoms_to {o : List Part} (h : opOk o) : (toA (atoms o) : Int) = opTo o:=by rw [← tos_at h.1.1];exact tos_to h
theorem norm_fit {o : List Part} (h : ∀ p∈o,partOk p) (h1 : frs o≤200) (h2 : tos o≤200) : opOk (normal o)∧opFrom (normal o) = frs o∧opTo (normal o) = tos o:=by
 have hs:=normal_shp h;have e1 : frs (normal o) = frs o:=by rw [frs_at,normal_at h,normA_fr,← frs_at]
 have e2 : tos (normal o) = tos o:=by rw [tos_shp hs,normal_at h,normA_to,← tos_at h]
 have hp:=shp_ok hs (by omega) (by omega);have f2:=parts_from hp;have t2:=parts_to hp;exact ⟨⟨hp,by omega,by omega⟩,by omega,by omega⟩
structure CpOk (x y : List Part) : Prop where
 ok : ∀ p∈cmp x y,partOk p
 fr : frA (atoms (cmp x y)) = frA (atoms x)
 to : toA (atoms (cmp x y)) = toA (atoms y)
 ap : ∀ t : List Int,frA (atoms x)≤t.length→apA (atoms (cmp x y)) t = apA (atoms y) (apA (atoms x) t)
theorem ats_put {p : Part} (k : p.kind = 2) (n : Nat) : ats (pcut p n) = (p.signs.take n).map At.p:=by
 unfold pcut ats;rw [if_pos k];simp [k]
theorem cmp_ok : ∀ (k : Nat) {x y : List Part},CInv x y→tsz x + tsz y≤k→CpOk x y
 | k,x,y,hi,hk=>by
   have ax:=atoms_nxt hi.px;have ay:=atoms_nxt hi.py
   cases hs : cstep x y with
   | none=>
     have hb:=hi.b;have hxt:=nxt_tos x;have hyf:=nxt_frs y
     have h0 : nxt x = []∧nxt y = []:=by
      unfold cstep at hs
      cases ex : nxt x with
      | nil=>
        refine ⟨rfl,?_⟩
        cases ey : nxt y with
        | nil=>rfl
        | cons q y'=>
          rw [ex,ey] at hs;have hq:=mem_nxt hi.py ey;have hqp:=nxt_pos ey;simp only at hs
          split at hs
          ·cases hs
          ·rename_i k2
           rw [ex] at hxt;rw [ey] at hyf;simp [tos,frs,k2] at hxt hyf;omega
      | cons p x'=>
        rw [ex] at hs;have hpp:=nxt_pos ex;simp only at hs
        split at hs
        ·cases hs
        ·rename_i k3
         cases ey : nxt y with
         | nil=>
           rw [ex] at hxt;rw [ey] at hyf;simp [tos,frs,k3] at hxt hyf;omega
         | cons q y'=>
           rw [ey] at hs;simp only at hs
           split at hs<;>cases hs
     rw [h0.1] at ax;rw [h0.2] at ay;have e:=cmp_none hs;exact ⟨by rw [e];simp,by rw [e,← ax],by rw [e,← ay],fun t ht=>by rw [e,← ax,← ay];rfl⟩
   | some r=>
     have hn:=cstep_next hi hs;have hd:=hn.dec;have ih:=cmp_ok (k - 1) hn.inv (by omega);have e:=cmp_some hi hs
     have hok : ∀ p∈cmp x y,partOk p:=by
      rw [e];intro p hp;exact (List.mem_append.1 hp).elim (hn.ok p) (ih.ok p)
     have hb:=hi.b;unfold cstep at hs
     cases ex : nxt x with
     | nil=>
       rw [ex] at hs ax
       cases ey : nxt y with
       | nil=>rw [ey] at hs;simp at hs
       | cons q y'=>
         rw [ey] at hs ay;have hq:=(mem_nxt hi.py ey).1;simp only at hs
         split at hs
         ·rename_i k2
          cases hs
          have sq:=ats_split hq (n:=psz q) (Nat.le_refl _);have aq:=ats_put k2 (psz q);simp only [atoms] at ax ay;refine ⟨hok,?_,?_,fun t ht=>?_⟩
          ·rw [e,atoms_append,frA_append,ih.fr,← ax];simp only [atoms,List.append_nil];rw [aq,frA_ps];simp
          ·rw [e,atoms_append,toA_append,ih.to,← ay,sq];simp only [atoms,List.append_nil,toA_append];omega
          ·rw [e,atoms_append,← ax,← ay,sq]
           simp only [atoms,List.append_nil,List.append_assoc,aq,apA_ps];have:=ih.ap t (by simp [atoms,frA]);rw [this];simp only [atoms]
         ·cases hs
     | cons p x'=>
       rw [ex] at hs ax;have hp:=(mem_nxt hi.px ex).1;have hpp:=nxt_pos ex;simp only [atoms] at ax;simp only at hs
       split at hs
       ·rename_i k3
        cases hs
        have sp:=ats_split hp (n:=psz p) (Nat.le_refl _);have ap:=ats_cut hp (by omega) (n:=psz p) (Nat.le_refl _);rw [if_pos k3] at ap;refine ⟨hok,?_,?_,fun t ht=>?_⟩
        ·rw [e,atoms_append,frA_append,ih.fr,← ax,sp];simp only [atoms,List.append_nil,frA_append];omega
        ·rw [e,atoms_append,toA_append,ih.to];simp only [atoms,List.append_nil,ap,toA_ds];omega
        ·rw [← ax,sp,List.append_assoc,frA_append,ap,frA_ds] at ht
         rw [e,atoms_append,← ax,sp];simp only [atoms,List.append_nil,List.append_assoc,ap,apA_ds];have:=ih.ap (t.drop (psz p)) (by simp only [atoms,List.length_drop];omega)
         simpa only [atoms] using this
       ·rename_i k3
        cases ey : nxt y with
        | nil=>rw [ey] at hs;simp at hs
        | cons q y'=>
          rw [ey] at hs ay;have hq:=(mem_nxt hi.py ey).1;simp only [atoms] at ay;simp only at hs
          split at hs
          ·rename_i k2
           cases hs
           have sq:=ats_split hq (n:=psz q) (Nat.le_refl _);have aq:=ats_put k2 (psz q);refine ⟨hok,?_,?_,fun t ht=>?_⟩
           ·rw [e,atoms_append,frA_append,ih.fr,← ax];simp only [atoms,List.append_nil];rw [aq,frA_ps];simp
           ·rw [e,atoms_append,toA_append,ih.to,← ay,sq];simp only [atoms,List.append_nil,toA_append];omega
           ·rw [← ax] at ht
            rw [e,atoms_append,← ax,← ay,sq];simp only [atoms,List.append_nil,List.append_assoc,aq,apA_ps];have:=ih.ap t (by simpa only [atoms] using ht);rw [this];simp only [atoms]
          ·rename_i k2
           cases hs
           generalize hm : min (psz p) (psz q) = m at ih e hok hn hd;have hm1 : m≤psz p:=by omega
           have hm2 : m≤psz q:=by omega
           have sp:=ats_split hp hm1;have sq:=ats_split hq hm2;have aq:=ats_cut hq k2 hm2;by_cases q1 : q.kind = 1
           ·rw [if_pos q1] at e
            rw [if_neg (by omega)] at aq;by_cases p2 : p.kind = 2
            ·have ap:=ats_put p2 m
             have hl : (p.signs.take m).length = m:=by
              have:=psz_put hp p2;simp;omega
             refine ⟨hok,?_,?_,fun t ht=>?_⟩
             ·rw [e,atoms_append,frA_append,ih.fr,← ax,sp];simp only [atoms,List.append_nil,frA_append];omega
             ·rw [e,atoms_append,toA_append,ih.to,← ay,sq];simp only [atoms,List.append_nil,toA_append,ap,aq,toA_ps,toA_ks,hl];omega
             ·rw [← ax,sp,List.append_assoc,frA_append,ap,frA_ps] at ht
              rw [e,atoms_append,← ax,← ay,sp,sq];simp only [atoms,List.append_nil,List.append_assoc,ap,aq,apA_ps];rw [apA_ks _ _ (by simp only [List.length_append,hl];omega)];have h1:=List.take_left' (l₂:=apA (ats (pleft p m) ++ atoms x') t) hl;have h2:=List.drop_left' (l₂:=apA (ats (pleft p m) ++ atoms x') t) hl;rw [h1,h2];have:=ih.ap t (by simp only [atoms];omega);rw [this];simp only [atoms]
            ·have ap:=ats_cut hp p2 hm1
             rw [if_neg k3] at ap;refine ⟨hok,?_,?_,fun t ht=>?_⟩
             ·rw [e,atoms_append,frA_append,ih.fr,← ax,sp];simp only [atoms,List.append_nil,frA_append];omega
             ·rw [e,atoms_append,toA_append,ih.to,← ay,sq];simp only [atoms,List.append_nil,toA_append,ap,aq];omega
             ·rw [← ax,sp,List.append_assoc,frA_append,ap,frA_ks] at ht
              rw [e,atoms_append,← ax,← ay,sp,sq];simp only [atoms,List.append_nil,List.append_assoc,ap,aq];rw [apA_ks m t (by omega),apA_ks m t (by omega),apA_ks _ _ (by simp;omega)];have hl : (t.take m).length = m:=by simp;omega
              have h1:=List.take_left' (l₂:=apA (ats (pleft p m) ++ atoms x') (t.drop m)) hl;have h2:=List.drop_left' (l₂:=apA (ats (pleft p m) ++ atoms x') (t.drop m)) hl;rw [h1,h2];have:=ih.ap (t.drop m) (by simp only [atoms,List.length_drop];omega);rw [this];simp only [atoms]
           ·have q3 : q.kind = 3:=by have:=hq.bounds.1;omega
            rw [if_neg q1] at e;rw [if_pos q3] at aq;by_cases p1 : p.kind = 1
            ·rw [if_pos p1] at e
             have ap:=ats_cut hp (by omega) hm1;rw [if_neg k3] at ap;refine ⟨hok,?_,?_,fun t ht=>?_⟩
             ·rw [e,atoms_append,frA_append,ih.fr,← ax,sp];simp only [atoms,List.append_nil,frA_append,ap,aq,frA_ks,frA_ds];omega
             ·rw [e,atoms_append,toA_append,ih.to,← ay,sq];simp only [atoms,List.append_nil,toA_append];omega
             ·rw [← ax,sp,List.append_assoc,frA_append,ap,frA_ks] at ht
              rw [e,atoms_append,← ax,← ay,sp,sq];simp only [atoms,List.append_nil,List.append_assoc,ap,aq,apA_ds];rw [apA_ks m t (by omega)];have hl : (t.take m).length = m:=by simp;omega
              have h2:=List.drop_left' (l₂:=apA (ats (pleft p m) ++ atoms x') (t.drop m)) hl;rw [h2];have:=ih.ap (t.drop m) (by simp only [atoms,List.length_drop];omega);rw [this];simp only [atoms]
            ·rw [if_neg p1] at e
             have p2 : p.kind = 2:=by have:=hp.bounds.1;omega
             have ap:=ats_put p2 m
             have hl : (p.signs.take m).length = m:=by
              have:=psz_put hp p2;simp;omega
             refine ⟨hok,?_,?_,fun t ht=>?_⟩
             ·rw [e,atoms_append,frA_append,ih.fr,← ax,sp];simp only [atoms,frA_append,ap,frA_ps,frA];omega
             ·rw [e,atoms_append,toA_append,ih.to,← ay,sq];simp only [atoms,toA_append,aq,toA_ds,toA];omega
             ·rw [← ax,sp,List.append_assoc,frA_append,ap,frA_ps] at ht
              rw [e,atoms_append,← ax,← ay,sp,sq];simp only [atoms,List.nil_append,List.append_assoc,ap,aq,apA_ds,apA_ps];have h2:=List.drop_left' (l₂:=apA (ats (pleft p m) ++ atoms x') t) hl;rw [h2];have:=ih.ap t (by simp only [atoms];omega);rw [this];simp only [atoms]
termination_by k=>k
decreasing_by omega
theorem fCompose_fit {a b : List Part} (ha : opOk a) (hb : opOk b) (h : opTo a = opFrom b) :
 (fCompose a b).2 = true ∧ isNorm (fCompose a b).1 ∧ opFrom (fCompose a b).1 = opFrom a ∧ opTo (fCompose a b).1 = opTo b ∧
 ∀ t : List Int,textOk t→opFrom a = t.length→(apply (fCompose a b).1 t).1 = (apply b (apply a t).1).1:=by
 have hi:=cinv_of ha hb h;have c:=cmp_ok _ hi (Nat.le_refl _);have f1:=atoms_fr ha;have t1:=atoms_to hb;have g1:=ha.2.1;have g2:=hb.2.2;have n:=norm_fit c.ok (by rw [frs_at,c.fr];omega) (by rw [tos_at c.ok,c.to];omega);have e : fCompose a b = (normal (cmp a b),true):=by unfold fCompose;rw [if_pos ⟨ha,hb,h⟩,if_pos n.1]
 have n1:=n.2.1;have n2:=n.2.2;rw [frs_at,c.fr] at n1;rw [tos_at c.ok,c.to] at n2
 have hnn : isNorm (normal (cmp a b)):=by
  have hx:=normal_at c.ok;refine ⟨n.1,?_⟩;unfold opNorm;rw [if_pos n.1,normal_grp n.1.1.1,hx,normal_grp c.ok];unfold normA;rw [nA_nA]
 rw [e];refine ⟨rfl,hnn,by simp only;omega,by simp only;omega,fun t ht hf=>?_⟩;have fa : fits3 a t:=⟨ha,ht,hf⟩;have ta:=apply_textOk fa;have fb : fits3 b (apply a t).1:=⟨hb,ta.1,by omega⟩;have fc : fits3 (normal (cmp a b)) t:=⟨n.1,ht,by omega⟩;rw [apply_ap fc,apply_ap fb,apply_ap fa];simp only;rw [normal_at c.ok,normA_ap];exact c.ap t (by omega)
set_option maxHeartbeats 1600000
open Classical in
noncomputable def fRepResend (r : Rep) : Call × Bool:=if repOk r∧r.has = true then (submit r,true) else (Call.zero,false)
theorem implRepResend_i (r : Rep) (hl : nRep r≤2 ^ 20) : PureC Try.prog 15 [.agg r.row] (.tup [.agg (fRepResend r).1.res,.c (.v (.bool (fRepResend r).2)) 1]):=by
 refine PureC.intro' tt_ok Try.func15 (by kernel_rfl) rfl rfl rfl (Nat.le_of_ble_eq_true rfl) (fun w0 base=>?_);simp [Rep.row];intros;refine ACall.pure (implRepOk_i r (by omega)) (by simp [Rep.row]) ?_;by_cases c1 : repOk r
 rotate_left
 ·have e : fRepResend r = (Call.zero,false):=by unfold fRepResend;rw [if_neg (fun h=>c1 h.1)]
  have e2 : dc (repOk r) = false:=by rw [dc_no];exact c1
  simp [e2,e,Call.res,Call.zero]
 simp [c1]
 cases ch : r.has
 ·have e : fRepResend r = (Call.zero,false):=by unfold fRepResend;rw [if_neg (fun h=>by rw [ch] at h;simp at h)]
  simp [e,Call.res,Call.zero]
 ·have e : fRepResend r = (submit r,true):=by unfold fRepResend;rw [if_pos ⟨c1,ch⟩]
  simp;refine ACall.pure (submitOf_c r (by omega)) (by simp [Rep.row,ch]) ?_;simp [e,Call.res,submit]
end Go.Proofs.Ytoldjebobgocpaa
