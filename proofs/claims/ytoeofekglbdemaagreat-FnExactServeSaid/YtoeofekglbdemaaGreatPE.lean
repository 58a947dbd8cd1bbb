import Derived.Test.YtoeofekglbdemaaGreatPD
import Derived.Test.YtoeofekglbdemaaGreatPB
import Derived.Test.YtoeofekglbdemaaGreatNA
import Derived.Test.YtoeofekglbdemaaGreatMF
import Derived.Test.YtoeofekglbdemaaGreatPC
namespace Go.Proofs.YtoeofekglbdemaaGreat
open Go.AM
set_option maxRecDepth 20000
noncomputable def pastL : List (List Part)→List Part→Option (List Part)
 | [],v=>some v
 | a :: l,v=>if (fTransform a v).2.2 = true then pastL l (fTransform a v).2.1 else none
open Classical in
noncomputable def fPast (l : List (List Part)) (b : List Part) : List Part × Bool:=
 if opOk b then match pastL l (opNorm b) with
  | some v=>(v,true)
  | none=>([],false)
 else ([],false)
structure Shp (q : Part) : Prop where
 k : q.kind = 1∨q.kind = 2∨q.kind = 3
 n : 0≤q.n
 put : q.kind = 2→q.n = 0∧signsOk q.signs
 run : q.kind≠2→q.signs = []
 pos : 0 < psz q
theorem shp_flush {L : List Part} {P : List Int} {D : Int} (hL : ∀ q∈L,Shp q) (hP : signsOk P) : ∀ q∈nbFlush L P D,Shp q:=by
 intro q hq;unfold nbFlush at hq;rcases List.mem_append.1 hq with hq | hq
 ·exact hL q hq
 ·rcases List.mem_append.1 hq with hq | hq
  ·split at hq
   ·simp at hq
   ·rename_i h
    simp at hq;subst hq;have : 0 < P.length:=List.length_pos_iff.2 h;exact ⟨.inr (.inl rfl),by simp,fun _=>⟨rfl,hP⟩,fun h=>absurd rfl h,by simpa [psz] using this⟩
  ·split at hq
   ·rename_i h
    simp at hq;subst hq;exact ⟨.inr (.inr rfl),by simp only;omega,fun h=>by simp at h,fun _=>rfl,by simp [psz];omega⟩
   ·simp at hq
theorem shp_keep {L : List Part} {n : Int} (hL : ∀ q∈L,Shp q) (hn : 0 < n) : ∀ q∈nbKeep L n,Shp q:=by
 intro q hq;have one : Shp ⟨1,n,[]⟩:=⟨.inl rfl,by simp only;omega,fun h=>by simp at h,fun _=>rfl,by simp [psz];omega⟩;unfold nbKeep at hq
 split at hq
 ·rename_i hl
  split at hq
  ·rename_i k
   rcases List.mem_or_eq_of_mem_set hq with hq | rfl
   ·exact hL q hq
   ·have h:=hL (L[L.length - 1]'(by omega)) (List.getElem_mem _)
    have h1:=h.n;have h2:=h.run (by omega);exact ⟨.inl rfl,by simp only;omega,fun h=>by simp at h,fun _=>h2,by simp [psz];omega⟩
  ·rcases List.mem_append.1 hq with hq | hq
   ·exact hL q hq
   ·simp at hq;subst hq;exact one
 ·simp at hq;subst hq;exact one
theorem nbRun_shp {o : List Part} (ho : ∀ p∈o,partOk p) : ∀ (i : Nat),i≤o.length→(∀ q∈(nbRun (o.take i)).1,Shp q)∧signsOk (nbRun (o.take i)).2.1
 | 0,_=>by simp [nbRun,signsOk]
 | i + 1,hi=>by
   obtain ⟨h1,h2⟩:=nbRun_shp ho i (by omega);have hlt : i < o.length:=by omega
   have hp:=ho _ (List.getElem_mem hlt);rw [nbRun_suc hlt];generalize nbRun (o.take i) = s at h1 h2;generalize o[i] = p at hp;obtain ⟨L,P,D⟩:=s;simp only at h1 h2;unfold nbStep
   split
   ·rename_i k
    rw [partOk_put k] at hp;refine ⟨h1,fun n hn=>?_⟩;rcases List.mem_append.1 hn with hn | hn
    ·exact h2 n hn
    ·exact hp.2.2 n hn
   ·split
    ·exact ⟨h1,h2⟩
    ·split
     ·rename_i hn
      exact ⟨shp_keep (shp_flush h1 h2) hn,by simp [signsOk]⟩
     ·exact ⟨h1,h2⟩
theorem normal_shp {o : List Part} (ho : ∀ p∈o,partOk p) : ∀ q∈normal o,Shp q:=by
 have h:=nbRun_shp ho o.length (Nat.le_refl _);rw [List.take_length] at h;exact shp_flush h.1 h.2
theorem tos_shp : ∀ {L : List Part},(∀ q∈L,Shp q)→tos L = toA (atoms L)
 | [],_=>rfl
 | p :: L,h=>by
   have hp:=h p (List.mem_cons_self ..);simp only [tos,atoms,toA_append,tos_shp (fun q hq=>h q (List.mem_cons_of_mem _ hq))]
   congr 1
   unfold ats;by_cases k : p.kind = 2
   ·have k3 : ¬ p.kind = 3:=by omega
    have:=(hp.put k).1;rw [if_pos k,if_neg k3,toA_ps];simp [psz,this]
   ·rw [if_neg k]
    split
    ·exact (toA_ds _).symm
    ·exact (toA_ks _).symm
theorem frs_mem {L : List Part} {q : Part} (h : q∈L) (k : q.kind≠2) : psz q≤frs L:=by
 induction L with
 | nil=>simp at h
 | cons p L ih=>
   simp only [frs];rcases List.mem_cons.1 h with rfl | h
   ·rw [if_neg k];omega
   ·have:=ih h;omega
theorem tos_mem {L : List Part} {q : Part} (h : q∈L) (k : q.kind≠3) : psz q≤tos L:=by
 induction L with
 | nil=>simp at h
 | cons p L ih=>
   simp only [tos];rcases List.mem_cons.1 h with rfl | h
   ·rw [if_neg k];omega
   ·have:=ih h;omega
theorem tsz_len : ∀ {L : List Part},(∀ q∈L,Shp q)→L.length≤tsz L
 | [],_=>by simp [tsz]
 | p :: L,h=>by
   have:=tsz_len (fun q hq=>h q (List.mem_cons_of_mem _ hq));have:=(h p (List.mem_cons_self ..)).pos;simp only [tsz,List.length_cons];omega
theorem shp_ok {L : List Part} (h : ∀ q∈L,Shp q) (h1 : frs L≤200) (h2 : tos L≤200) : partsOk L:=by
 have hl:=tsz_len h;have ht:=tsz_le L;refine ⟨fun q hq=>?_,by omega⟩;have hs:=h q hq;have hn:=hs.n;by_cases k : q.kind = 2
 ·have h3:=tos_mem hq (by omega)
  have h4:=hs.put k;exact .inr ⟨k,h4.1,by unfold psz at h3;omega,h4.2⟩
 ·have h3:=frs_mem hq k
  have h4:=hs.run k;have hk:=hs.k;exact .inl ⟨by omega,⟨hn,by unfold psz at h3;omega⟩,h4⟩
theorem parts_from {o : List Part} (h : partsOk o) : (frs o : Int) = opFrom o:=by
 rw [frs_sum h.1,sumI_congr (fun p hp=>but2 (h.1 p hp)),sumI_add];unfold opFrom l02Sum;rw [if_pos h]
theorem parts_to {o : List Part} (h : partsOk o) : (tos o : Int) = opTo o:=by
 rw [tos_sum h.1,sumI_congr (fun p hp=>but3 (h.1 p hp)),sumI_add];unfold opTo l02Sum;rw [if_pos h]
theorem normal_ok {o : List Part} (h : opOk o) : opOk (normal o)∧opFrom (normal o) = opFrom o∧opTo (normal o) = opTo o:=by
 have hs:=normal_shp h.1.1;have e1 : frs (normal o) = frs o:=by rw [frs_at,normal_at h.1.1,normA_fr,← frs_at]
 have e2 : tos (normal o) = tos o:=by rw [tos_shp hs,normal_at h.1.1,normA_to,← tos_at h.1.1]
 have f:=frs_from h;have t:=tos_to h;have hp:=shp_ok hs (by have:=h.2.1;omega) (by have:=h.2.2;omega);have f2:=parts_from hp;have t2:=parts_to hp;have:=h.2;exact ⟨⟨hp,by omega,by omega⟩,by omega,by omega⟩
theorem opNorm_ok {o : List Part} (h : opOk o) : opOk (opNorm o)∧opFrom (opNorm o) = opFrom o∧opTo (opNorm o) = opTo o:=by
 have : opNorm o = normal o:=by unfold opNorm;rw [if_pos h]
 rw [this];exact normal_ok h
def seenPut (c s r : Int) : List Seen→List Seen
 | []=>[⟨c,s,r⟩]
 | x :: l=>if x.client < c then x :: seenPut c s r l else if x.client = c then ⟨c,s,r⟩ :: l else ⟨c,s,r⟩ :: x :: l
noncomputable def docPush (d : Doc) (e : Entry) : Doc:=
 if d.list.length < 8 then ⟨d.name,d.fr,d.text,d.list ++ [e],seenPut e.client e.seq (headRev d + 1) d.seen⟩
 else ⟨d.name,d.fr + 1,(apply ((d.list ++ [e])[0]'(by simp)).o d.text).1,(d.list ++ [e]).drop 1,seenPut e.client e.seq (headRev d + 1) d.seen⟩
open Classical in
noncomputable def fRebase (d : Doc) (base : Int) (o : List Part) : List Part × Int:=
 if docOk d∧opOk o then
  if headRev d < base then ([],2) else if base < d.fr then ([],3) else
  if opFrom o = (textAt d base).1.length then
   if (fPast ((d.list.drop (base - d.fr).toNat).map Entry.o) o).2 = true then ((fPast ((d.list.drop (base - d.fr).toNat).map Entry.o) o).1,0) else ([],5)
  else ([],1)
 else ([],1)
def subOk (d : Doc) (client seq : Int) (o : List Part) : Prop:=docOk d∧(1≤client∧client≤8)∧(1≤seq∧seq≤1000000000)∧opOk o
open Classical in
noncomputable def fSubmit (d : Doc) (client seq base : Int) (o : List Part) : Doc × Int × Int:=
 if subOk d client seq o then
  if (seenOf d client).1.seq = seq then (d,(seenOf d client).1.rev,0)
  else if (seenOf d client).1.seq + 1 = seq then
   if (fRebase d base o).2 = 0 then
    if 999999000≤headRev d then (Doc.zero,0,5) else (docPush d ⟨client,seq,(fRebase d base o).1⟩,headRev d + 1,0)
   else (Doc.zero,0,(fRebase d base o).2)
  else (Doc.zero,0,4)
 else (Doc.zero,0,1)
open Classical in
noncomputable def fFetch (d : Doc) (rev : Int) : List Entry × Int:=
 if docOk d then if headRev d < rev then ([],2) else if rev < d.fr then ([],3) else (d.list.drop (rev - d.fr).toNat,0) else ([],1)
theorem pastL_fits : ∀ (l : List (List Part)) (t u : List Int) (v v' : List Part),applyFrom l t = some u→pastL l v = some v'→opOk v→opFrom v = t.length→opOk v'∧opFrom v' = u.length
 | [],t,u,v,v',h1,h2,h3,h4=>by
   simp only [applyFrom,Option.some.injEq] at h1;simp only [pastL,Option.some.injEq] at h2;subst h1 h2;exact ⟨h3,h4⟩
 | a :: l,t,u,v,v',h1,h2,h3,h4=>by
   rw [applyFrom] at h1;rw [pastL] at h2
   split at h1
   ·rename_i ha
    split at h2
    ·rename_i ht
     have k:=fTransform_ok ht;have hl:=(apply_textOk (apply_yes.1 ha)).2;exact pastL_fits l _ u _ v' h1 h2 k.oky (by rw [k.fy];omega)
    ·cases h2
   ·cases h1
theorem applyFrom_append : ∀ (l m : List (List Part)) (t : List Int),applyFrom (l ++ m) t = (applyFrom l t).bind (applyFrom m)
 | [],m,t=>by simp [applyFrom]
 | o :: l,m,t=>by
   rw [List.cons_append,applyFrom,applyFrom]
   split
   ·exact applyFrom_append l m _
   ·simp
theorem applyFrom_textOk : ∀ (l : List (List Part)) (t u : List Int),textOk t→applyFrom l t = some u→textOk u
 | [],t,u,h,e=>by simp only [applyFrom,Option.some.injEq] at e;exact e ▸ h
 | o :: l,t,u,h,e=>by
   rw [applyFrom] at e
   split at e
   ·rename_i ha
    exact applyFrom_textOk l _ u (apply_textOk (apply_yes.1 ha)).1 e
   ·cases e
theorem textAt_some {d : Doc} (h : docOk d) {rev : Int} (h1 : d.fr ≤ rev) (h2 : rev ≤ headRev d) : (textAt d rev).2 = true ∧ applyFrom ((d.list.take (rev - d.fr).toNat).map Entry.o) d.text = some (textAt d rev).1 ∧ textOk (textAt d rev).1 ∧
 applyFrom ((d.list.drop (rev - d.fr).toNat).map Entry.o) (textAt d rev).1 = applyFrom (d.list.map Entry.o) d.text:=by
 have hs:=h.2.2.2.2.2.1;have ht:=h.2.2.1;have e : d.list.map Entry.o = (d.list.take (rev - d.fr).toNat).map Entry.o ++ (d.list.drop (rev - d.fr).toNat).map Entry.o:=by rw [← List.map_append,List.take_append_drop]
 have e2 : textAt d rev = applyAll ((d.list.take (rev - d.fr).toNat).map Entry.o) d.text:=by unfold textAt;rw [if_pos ⟨h,h1,h2⟩]
 rw [e,applyFrom_append] at hs
 cases hx : applyFrom ((d.list.take (rev - d.fr).toNat).map Entry.o) d.text with
 | none=>rw [hx] at hs;simp at hs
 | some u=>
   have e3 : applyAll ((d.list.take (rev - d.fr).toNat).map Entry.o) d.text = (u,true):=by unfold applyAll;rw [if_pos ht,hx]
   rw [e2,e3];refine ⟨rfl,rfl,applyFrom_textOk _ _ _ ht hx,?_⟩
   conv=>rhs;rw [e,applyFrom_append,hx]
   rfl
theorem headText_some {d : Doc} (h : docOk d) : applyFrom (d.list.map Entry.o) d.text = some (headText d)∧textOk (headText d):=by
 have hh:=docOk_head h;have h0 : d.fr≤headRev d:=by omega
 obtain ⟨h1,h2,h3,h4⟩:=textAt_some h h0 (by omega);have e : (headRev d - d.fr).toNat = d.list.length:=by omega
 rw [e,List.take_length] at h2;exact ⟨h2,h3⟩
theorem fRebase_fits {d : Doc} {base : Int} {o : List Part} (hd : docOk d) (ho : opOk o) (h1 : d.fr≤base) (h2 : base≤headRev d) (hf : opFrom o = (textAt d base).1.length)
 (hp : (fPast ((d.list.drop (base - d.fr).toNat).map Entry.o) o).2 = true) : fits3 (fPast ((d.list.drop (base - d.fr).toNat).map Entry.o) o).1 (headText d):=by
 obtain ⟨k1,k2,k3,k4⟩:=textAt_some hd h1 h2;obtain ⟨m1,m2⟩:=headText_some hd;rw [m1] at k4;unfold fPast at hp ⊢;rw [if_pos ho] at hp ⊢
 cases hx : pastL ((d.list.drop (base - d.fr).toNat).map Entry.o) (opNorm o) with
 | none=>rw [hx] at hp;simp at hp
 | some v=>
   have hn:=opNorm_ok ho;have:=pastL_fits _ _ _ _ _ k4 hx hn.1 (by rw [hn.2.1,hf]);exact ⟨this.1,m2,this.2⟩
set_option maxHeartbeats 1600000
theorem seen_v (l : List Seen) : ∀ a∈l,∀ d∈a.row,isV d = true:=by
 intro a _ d hd;simp [Seen.row] at hd;rcases hd with rfl | rfl | rfl<;>rfl
theorem copyEntries_c (l : List Entry) (hl : nL nEntry l≤2 ^ 30) : PureC Tryz.prog 248 [.c (.s (l.map Entry.row))] (.one (.c (.s (l.map Entry.row)) 3)):=by
 refine PureC.intro' tt_ok Tryz.func248 (by kernel_rfl) rfl rfl rfl (Nat.le_of_ble_eq_true rfl) (fun w0 base=>?_);have hle:=nL_len hl;simp;refine LoopT.introG eok (fun x : Nat × Hd=>x.1≤l.length) (fun x=>⟨22,0,[(8,.v (.int .i64 x.1)),(7,.v (.int .i64 l.length)),(6,.ro (l.map Entry.row)),(3,.sl 5000 x.2 3 0 x.1)],[(5000,.rows x.2 3 ((l.take x.1).map Entry.row) true)]⟩) (fun x=>l.length - x.1) (0,none) (by simp) (by simp) (fun x hx=>Ent.refl ?_);obtain ⟨i,H⟩:=x;simp only at hx ⊢;by_cases hlt : i < l.length
 ·have hm:=nL_at hl hlt
  unfold nEntry at hm;simp [hlt,Entry.row];intro b5;refine ACall.pure (copyOp_c l[i].o hm) (by simp) ?_;simp;intro H1;have e1 : min i l.length = i:=by omega
  simp [e1];intro b6;refine ⟨by omega,fun H2=>Ent.refl ⟨i + 1,by omega,by omega,H2,?_⟩⟩;simp;exact ⟨i64_suc (by omega),take_snoc (f:=Entry.row) hlt⟩
 ·have e : l.length = i:=by omega
  simp [hlt];rw [List.take_of_length_le (by simp;omega)];simp [cut,e]
theorem l08Entry_c (e : Entry) (hl : nEntry e≤2 ^ 30) : PureC Tryz.prog 310 [.agg e.row] (.one (.agg e.res)):=by
 refine PureC.intro' tt_ok Tryz.func310 (by kernel_rfl) rfl rfl rfl (Nat.le_of_ble_eq_true rfl) (fun w0 base=>?_);unfold nEntry at hl;simp [Entry.row];intro b1 b2;refine DrawT.introS eok mix [0,1,2,3,4,5] [6,7,8] (.child 6 [true,false,false,false,false,false] [false,true,true,true,true,true] (.child 7 [false,false,true,false,true,false] [false,true,false,true,false,true] (.child 8 [false,true,false,true,false,true] [false,false,false,false,false,false] (.leaf [false,false,false,false,false,false]) .stop) .stop) .stop) (by kernel_rfl) ?_;simp
 try intros
 refine ACall.pure (l02Copy_c e.o (by omega)) (by simp) ?_;simp
 try intros
 simp [Entry.res]
theorem l08Entries_c (l : List Entry) (hl : nL nEntry l≤2 ^ 30) : PureC Tryz.prog 273 [.c (.s (l.map Entry.row))] (.one (.c (.s (l.map Entry.row)) 3)):=by
 refine PureC.intro' tt_ok Tryz.func273 (by kernel_rfl) rfl rfl rfl (Nat.le_of_ble_eq_true rfl) (fun w0 base=>?_);have hle:=nL_len hl;simp;intro b6;refine LoopT.introG eok (fun x : Nat × Hd=>x.1≤l.length) (fun x=>⟨20,0,[(9,.v (.int .i64 x.1)),(8,.v (.int .i64 l.length)),(7,.ro (l.map Entry.row)),(3,.sl 96 x.2 3 0 x.1)],[(96,.rows x.2 3 ((l.take x.1).map Entry.row) true)]⟩) (fun x=>l.length - x.1) (0,some (b6,0,0)) (by simp) (by simp) (fun x hx=>Ent.refl ?_);obtain ⟨i,H⟩:=x;simp only at hx ⊢;by_cases hlt : i < l.length
 ·have hm:=nL_at hl hlt
  simp [hlt,Entry.row];intro b5;refine ACall.pure (l08Entry_c l[i] hm) (by simp [Entry.row]) ?_;simp [Entry.res];intro H1;have e1 : min i l.length = i:=by omega
  simp [e1];intro b7;refine ⟨by omega,fun H2=>Ent.refl ⟨i + 1,by omega,by omega,H2,?_⟩⟩;simp;exact ⟨i64_suc (by omega),take_snoc (f:=Entry.row) hlt⟩
 ·have e : l.length = i:=by omega
  simp [hlt];rw [List.take_of_length_le (by simp;omega)];simp [cut,e]
theorem copyDoc_c (d : Doc) (hl : nDoc d≤2 ^ 30) : PureC Tryz.prog 180 [.agg d.row] (.one (.agg d.res)):=by
 refine PureC.intro' tt_ok Tryz.func180 (by kernel_rfl) rfl rfl rfl (Nat.le_of_ble_eq_true rfl) (fun w0 base=>?_);obtain ⟨n1,n2,n3,n4⟩:=nDoc_list hl;simp [Doc.row];intro b1 b2
 refine DrawT.introS eok mix [0,1,2,3,4,5,7,8,10,11] [6,9,12,13,14] (.child 6 [false,false,false,false,true,false,false,false,false,false] [true,true,true,true,false,true,true,true,true,true] (.child 9 [false,false,true,false,false,false,false,false,false,false] [true,true,false,true,false,true,true,true,true,true] (.child 12 [true,false,false,false,false,false,false,false,false,false] [false,true,false,true,false,true,true,true,true,true] (.child 13 [false,false,false,false,false,false,true,false,true,false] [false,true,false,true,false,true,false,true,false,true] (.child 14 [false,true,false,true,false,true,false,true,false,true] [false,false,false,false,false,false,false,false,false,false] (.leaf [false,false,false,false,false,false,false,false,false,false]) .stop) .stop) .stop) .stop) .stop) (by kernel_rfl) ?_
 simp
 try intros
 refine ACall.pure (copyInts_c d.text (by omega)) (by simp) ?_;simp
 try intros
 refine ACall.pure (copyEntries_c d.list n1) (by simp) ?_;simp
 try intros
 refine ⟨seen_v d.seen,by omega,fun H=>?_⟩;simp [Doc.res]
theorem l08Copy_c (d : Doc) (hl : nDoc d≤2 ^ 30) : PureC Tryz.prog 209 [.agg d.row] (.one (.agg d.res)):=by
 refine PureC.intro' tt_ok Tryz.func209 (by kernel_rfl) rfl rfl rfl (Nat.le_of_ble_eq_true rfl) (fun w0 base=>?_);obtain ⟨n1,n2,n3,n4⟩:=nDoc_list hl;simp [Doc.row];intro b1 b2;have h8 : d.text.length * 8≤140737488355328:=by omega
 have h24 : d.seen.length * 24≤140737488355328:=by omega
 refine DrawT.introS eok mix [0,1,2,3,5,6,8,9,12,13] [4,7,10,11,14,15,16] (.child 4 [false,false,false,false,false,false,false,false,false,false] [true,true,true,true,true,true,true,true,true,true] (.child 7 [false,false,false,false,true,false,false,false,false,false] [true,true,true,true,false,true,true,true,true,true] (.child 10 [false,false,true,false,false,false,false,false,false,false] [true,true,false,true,false,true,true,true,true,true] (.child 11 [false,false,false,false,false,false,false,false,false,false] [true,true,false,true,false,true,true,true,true,true] (.child 14 [true,false,false,false,false,false,false,false,false,false] [false,true,false,true,false,true,true,true,true,true] (.child 15 [false,false,false,false,false,false,true,false,true,false] [false,true,false,true,false,true,false,true,false,true] (.child 16 [false,true,false,true,false,true,false,true,false,true] [false,false,false,false,false,false,false,false,false,false] (.leaf [false,false,false,false,false,false,false,false,false,false]) .stop) .stop) .stop) .stop) (.child 11 [false,false,false,false,false,false,false,false,false,false] [true,true,true,true,false,true,true,true,true,true] (.child 10 [false,false,true,false,false,false,false,false,false,false] [true,true,false,true,false,true,true,true,true,true] (.child 14 [true,false,false,false,false,false,false,false,false,false] [false,true,false,true,false,true,true,true,true,true] (.child 15 [false,false,false,false,false,false,true,false,true,false] [false,true,false,true,false,true,false,true,false,true] (.child 16 [false,true,false,true,false,true,false,true,false,true] [false,false,false,false,false,false,false,false,false,false] (.leaf [false,false,false,false,false,false,false,false,false,false]) .stop) .stop) .stop) .stop) .stop)) (.child 11 [false,false,false,false,false,false,false,false,false,false] [true,true,true,true,true,true,true,true,true,true] (.child 7 [false,false,false,false,true,false,false,false,false,false] [true,true,true,true,false,true,true,true,true,true] (.child 10 [false,false,true,false,false,false,false,false,false,false] [true,true,false,true,false,true,true,true,true,true] (.child 14 [true,false,false,false,false,false,false,false,false,false] [false,true,false,true,false,true,true,true,true,true] (.child 15 [false,false,false,false,false,false,true,false,true,false] [false,true,false,true,false,true,false,true,false,true] (.child 16 [false,true,false,true,false,true,false,true,false,true] [false,false,false,false,false,false,false,false,false,false] (.leaf [false,false,false,false,false,false,false,false,false,false]) .stop) .stop) .stop) .stop) .stop) .stop)) (.child 11 [false,false,false,false,false,false,false,false,false,false] [true,true,true,true,true,true,true,true,true,true] (.child 4 [false,false,false,false,false,false,false,false,false,false] [true,true,true,true,true,true,true,true,true,true] (.child 7 [false,false,false,false,true,false,false,false,false,false] [true,true,true,true,false,true,true,true,true,true] (.child 10 [false,false,true,false,false,false,false,false,false,false] [true,true,false,true,false,true,true,true,true,true] (.child 14 [true,false,false,false,false,false,false,false,false,false] [false,true,false,true,false,true,true,true,true,true] (.child 15 [false,false,false,false,false,false,true,false,true,false] [false,true,false,true,false,true,false,true,false,true] (.child 16 [false,true,false,true,false,true,false,true,false,true] [false,false,false,false,false,false,false,false,false,false] (.leaf [false,false,false,false,false,false,false,false,false,false]) .stop) .stop) .stop) .stop) .stop) .stop) .stop)) (by kernel_rfl) ?_
 simp
 try intros
 rw [Tr_child];refine ⟨?_,?_⟩
 ·skip
  simp
  try intros
  rw [Tr_child];refine ⟨?_,?_⟩
  ·skip
   simp [h8]
   try intros
   rw [Tr_child];refine ⟨?_,?_⟩
   ·skip
    simp [h24]
    try intros
    refine ACall.pure (l08Entries_c d.list n1) (by simp) ?_;simp
    try intros
    simp [Doc.res];exact seen_v d.seen
   ·skip
    simp
    try intros
    refine ACall.pure (l08Entries_c d.list n1) (by simp) ?_;simp [h24]
    try intros
    simp [Doc.res];exact seen_v d.seen
  ·skip
   simp [h8]
   try intros
   refine ACall.pure (l08Entries_c d.list n1) (by simp) ?_;simp [h24]
   try intros
   simp [Doc.res];exact seen_v d.seen
 ·skip
  simp [h8]
  try intros
  refine ACall.pure (l08Entries_c d.list n1) (by simp) ?_;simp [h24]
  try intros
  simp [Doc.res];exact seen_v d.seen
noncomputable def pastR : List (List Part)→List Part→Option (List (List Part) × List Part)
 | [],v=>some ([],v)
 | a :: l,v=>if (fTransform a v).2.2 = true then (pastR l (fTransform a v).2.1).map (fun r=>((fTransform a v).1 :: r.1,r.2)) else none
theorem pastR_L : ∀ (l : List (List Part)) (v : List Part),(pastR l v).map Prod.snd = pastL l v
 | [],v=>rfl
 | a :: l,v=>by
   rw [pastR,pastL]
   split
   ·rw [← pastR_L l,Option.map_map];rfl
   ·rfl
open Classical in
noncomputable def fPastA (l : List (List Part)) (b : List Part) : List (List Part) × List Part × Bool:=
 if opOk b then match pastR l (opNorm b) with
  | some r=>(r.1,r.2,true)
  | none=>([],[],false)
 else ([],[],false)
theorem fPastA_snd (l : List (List Part)) (b : List Part) : (fPastA l b).2 = fPast l b:=by
 unfold fPastA fPast
 split
 ·rw [← pastR_L]
  cases pastR l (opNorm b)<;>rfl
 ·rfl
theorem pastR_drop {l : List (List Part)} {i : Nat} {v : List Part} (h : i < l.length) : pastR (l.drop i) v = if (fTransform l[i] v).2.2 = true then (pastR (l.drop (i + 1)) (fTransform l[i] v).2.1).map (fun r=>((fTransform l[i] v).1 :: r.1,r.2)) else none:=by
 rw [List.drop_eq_getElem_cons h,pastR]
theorem pastR_end {l : List (List Part)} {i : Nat} {v : List Part} (h : l.length≤i) : pastR (l.drop i) v = some ([],v):=by
 rw [List.drop_eq_nil_of_le h,pastR]
theorem implPastA_c (l : List (List Part)) (b : List Part) (hl : l.length≤2 ^ 30) (hs : ∀ o∈l,nL nPart o≤2 ^ 40) (hb : nL nPart b≤2 ^ 40) : PureC Tryz.prog 338 [.c (.s (l.map partsR)),.c (.s (b.map Part.row))]
 (.tup [.c (.s ((fPastA l b).1.map partsR)) 1,.c (.s ((fPastA l b).2.1.map Part.row)) 3,.c (.v (.bool (fPastA l b).2.2)) 1]):=by
 refine PureC.intro' tt_ok Tryz.func338 (by kernel_rfl) rfl rfl rfl (Nat.le_of_ble_eq_true rfl) (fun w0 base=>?_);simp;refine ACall.pure (implOpOk_c b hb) (by simp) ?_;by_cases c1 : opOk b
 rotate_left
 ·have e : fPastA l b = ([],[],false):=by unfold fPastA;rw [if_neg c1]
  simp [dc_neg c1,e]
 have e : fPastA l b = match pastR l (opNorm b) with
  | some r=>(r.1,r.2,true)
  | none=>([],[],false):=by unfold fPastA;rw [if_pos c1]
 simp [c1];refine ACall.pure (implOpNorm_c b hb) (by simp) ?_;simp;intro H0
 refine LoopT.introG eok (fun x : (Nat × List (List Part) × List Part × Nat) × Hd × Hd=>(x.1.2.2.2 = 288∨x.1.2.2.2 = 449)∧(x.1.1≤l.length∧x.1.2.1.length = x.1.1)∧nL nPart x.1.2.2.1≤2 ^ 40∧pastR l (opNorm b) = (pastR (l.drop x.1.1) x.1.2.2.1).map (fun r=>(x.1.2.1 ++ r.1,r.2)))
  (fun x=>⟨42,0,[(21,.v (.int .i64 x.1.1)),(20,.v (.int .i64 l.length)),(19,.ro (l.map partsR)),(8,.sl x.1.2.2.2 x.2.2 3 0 x.1.2.2.1.length),(7,.sl 5000 x.2.1 1 0 x.1.2.1.length)],
   [(5000,.rows x.2.1 1 (x.1.2.1.map partsR) true),(x.1.2.2.2,.rows x.2.2 3 (x.1.2.2.1.map Part.row) true)]⟩) (fun x=>l.length - x.1.1) ((0,[],opNorm b,288),none,H0) ⟨.inl rfl,by simp,by have:=opNorm_n b;simp only;omega,by simp⟩ (by simp) (fun x hx=>Ent.refl ?_)
 obtain ⟨⟨i,L,v,kk⟩,H1,H2⟩:=x;obtain ⟨hk,⟨hi,hLl⟩,hv,hp⟩:=hx;simp only at hk hi hLl hv hp ⊢;have k5 : ¬ kk = 5000:=by omega
 have k5' : ¬ 5000 = kk:=by omega
 by_cases hlt : i < l.length
 ·rw [pastR_drop hlt] at hp
  have hn:=fTransform_n l[i] v;simp [hlt];refine ACall.pure (implTransform_i l[i] v (hs _ (List.getElem_mem hlt)) hv) (by simp [k5]) ?_;generalize fTransform l[i] v = Q at hp hn ⊢;obtain ⟨x,y,ok⟩:=Q;simp only at hp hn ⊢;simp;intro G1 G2
  cases ok with
  | false=>
    simp at hp;rw [hp] at e;simp [e]
  | true=>
    simp only [if_true] at hp;simp;intro b6;refine ⟨by omega,fun H=>Ent.refl ⟨i + 1,L ++ [x],y,449,⟨.inr rfl,⟨by omega,by simp;omega⟩,by omega,?_⟩,by omega,H,G2,?_⟩⟩
    ·rw [hp]
     cases pastR (l.drop (i + 1)) y<;>simp
    ·simp
     exact i64_suc (by omega)
 ·rw [pastR_end (by omega)] at hp
  simp only [Option.map_some,List.append_nil] at hp;rw [hp] at e;simp [hlt,e,k5]
theorem fPast_n (l : List (List Part)) (b : List Part) : nL nPart (fPast l b).1≤2 ^ 20:=by
 have key : ∀ (l : List (List Part)) (v u : List Part),nL nPart v≤2 ^ 20→pastL l v = some u→nL nPart u≤2 ^ 20:=by
  intro l
  induction l with
  | nil=>intro v u h1 h2;simp only [pastL,Option.some.injEq] at h2;exact h2 ▸ h1
  | cons a l ih=>
    intro v u h1 h2;rw [pastL] at h2
    split at h2
    ·exact ih _ u (by have:=fTransform_n a v;omega) h2
    ·cases h2
 unfold fPast
 split
 ·cases h : pastL l (opNorm b) with
  | none=>simp [nL,sumN]
  | some v=>exact key l _ v (opNorm_n b) h
 ·simp [nL,sumN]
theorem implPast_c (l : List (List Part)) (b : List Part) (hl : l.length≤2 ^ 30) (hs : ∀ o∈l,nL nPart o≤2 ^ 40) (hb : nL nPart b≤2 ^ 40) : PureC Tryz.prog 323 [.c (.s (l.map partsR)),.c (.s (b.map Part.row))]
 (.tup [.c (.s ((fPast l b).1.map Part.row)) 3,.c (.v (.bool (fPast l b).2)) 1]):=by
 refine PureC.intro' tt_ok Tryz.func323 (by kernel_rfl) rfl rfl rfl (Nat.le_of_ble_eq_true rfl) (fun w0 base=>?_);simp;refine ACall.pure (implPastA_c l b hl hs hb) (by simp) ?_;rw [← fPastA_snd];generalize fPastA l b = Q;obtain ⟨x,y,ok⟩:=Q;simp
theorem specPastA_c (l : List (List Part)) (b : List Part) (hl : l.length≤2 ^ 30) (hs : ∀ o∈l,nL nPart o≤2 ^ 40) (hb : nL nPart b≤2 ^ 40) : PureC Tryz.prog 340 [.c (.s (l.map partsR)),.c (.s (b.map Part.row))]
 (.tup [.c (.s ((fPastA l b).1.map partsR)) 1,.c (.s ((fPastA l b).2.1.map Part.row)) 3,.c (.v (.bool (fPastA l b).2.2)) 1]):=by
 refine PureC.intro' tt_ok Tryz.func340 (by kernel_rfl) rfl rfl rfl (Nat.le_of_ble_eq_true rfl) (fun w0 base=>?_);simp;refine ACall.pure (specOpOk_c b hb) (by simp) ?_;by_cases c1 : opOk b
 rotate_left
 ·have e : fPastA l b = ([],[],false):=by unfold fPastA;rw [if_neg c1]
  simp [dc_neg c1,e]
 have e : fPastA l b = match pastR l (opNorm b) with
  | some r=>(r.1,r.2,true)
  | none=>([],[],false):=by unfold fPastA;rw [if_pos c1]
 simp [c1];intro b9;refine ACall.pure (specOpNorm_c b hb) (by simp) ?_;simp;intro H0
 refine LoopT.introG eok (fun x : (Nat × List (List Part) × List Part × Nat) × Hd × Hd=>(x.1.2.2.2 = 304∨x.1.2.2.2 = 465)∧(x.1.1≤l.length∧x.1.2.1.length = x.1.1)∧nL nPart x.1.2.2.1≤2 ^ 40∧pastR l (opNorm b) = (pastR (l.drop x.1.1) x.1.2.2.1).map (fun r=>(x.1.2.1 ++ r.1,r.2)))
  (fun x=>⟨43,0,[(22,.v (.int .i64 x.1.1)),(21,.v (.int .i64 l.length)),(20,.ro (l.map partsR)),(8,.sl x.1.2.2.2 x.2.2 3 0 x.1.2.2.1.length),(7,.sl 272 x.2.1 1 0 x.1.2.1.length)],
   [(272,.rows x.2.1 1 (x.1.2.1.map partsR) true),(x.1.2.2.2,.rows x.2.2 3 (x.1.2.2.1.map Part.row) true)]⟩) (fun x=>l.length - x.1.1) ((0,[],opNorm b,304),some (b9,0,0),H0) ⟨.inl rfl,by simp,by have:=opNorm_n b;simp only;omega,by simp⟩ (by simp) (fun x hx=>Ent.refl ?_)
 obtain ⟨⟨i,L,v,kk⟩,H1,H2⟩:=x;obtain ⟨hk,⟨hi,hLl⟩,hv,hp⟩:=hx;simp only at hk hi hLl hv hp ⊢;have k5 : ¬ kk = 272:=by omega
 have k5' : ¬ 272 = kk:=by omega
 by_cases hlt : i < l.length
 ·rw [pastR_drop hlt] at hp
  have hn:=fTransform_n l[i] v;simp [hlt];refine ACall.pure (specTransform_i l[i] v (hs _ (List.getElem_mem hlt)) hv) (by simp [k5]) ?_;generalize fTransform l[i] v = Q at hp hn ⊢;obtain ⟨x,y,ok⟩:=Q;simp only at hp hn ⊢;simp;intro G1 G2
  cases ok with
  | false=>
    simp at hp;rw [hp] at e;simp [e]
  | true=>
    simp only [if_true] at hp;simp;intro b6;refine ⟨by omega,fun H=>Ent.refl ⟨i + 1,L ++ [x],y,465,⟨.inr rfl,⟨by omega,by simp;omega⟩,by omega,?_⟩,by omega,H,G2,?_⟩⟩
    ·rw [hp]
     cases pastR (l.drop (i + 1)) y<;>simp
    ·simp
     exact i64_suc (by omega)
 ·rw [pastR_end (by omega)] at hp
  simp only [Option.map_some,List.append_nil] at hp;rw [hp] at e;simp [hlt,e,k5]
theorem specPast_c (l : List (List Part)) (b : List Part) (hl : l.length≤2 ^ 30) (hs : ∀ o∈l,nL nPart o≤2 ^ 40) (hb : nL nPart b≤2 ^ 40) : PureC Tryz.prog 329 [.c (.s (l.map partsR)),.c (.s (b.map Part.row))]
 (.tup [.c (.s ((fPast l b).1.map Part.row)) 3,.c (.v (.bool (fPast l b).2)) 1]):=by
 refine PureC.intro' tt_ok Tryz.func329 (by kernel_rfl) rfl rfl rfl (Nat.le_of_ble_eq_true rfl) (fun w0 base=>?_);simp;refine ACall.pure (specPastA_c l b hl hs hb) (by simp) ?_;rw [← fPastA_snd];generalize fPastA l b = Q;obtain ⟨x,y,ok⟩:=Q;simp
noncomputable def atBase (d : Doc) (rev : Int) : Int:=if headRev d < rev then 2 else if rev < d.fr then 3 else 0
theorem atBase_c (d : Doc) (rev : Int) : PureC Tryz.prog 305 [.agg d.row,.c (vi rev)] (.one (.c (vi (atBase d rev)) 1)):=by
 refine PureC.intro' tt_ok Tryz.func305 (by kernel_rfl) rfl rfl rfl (Nat.le_of_ble_eq_true rfl) (fun w0 base=>?_);simp [Doc.row];intro b;refine ACall.pure (implHeadRev_c d) (by simp [Doc.row]) ?_;unfold atBase;by_cases c1 : headRev d < rev
 ·simp [c1]
 ·by_cases c2 : rev < d.fr
  ·simp [c1,c2]
  ·simp [c1,c2]
open Classical in
noncomputable def opsSince (d : Doc) (rev : Int) : List (List Part) × Bool:=if docOk d∧d.fr≤rev∧rev≤headRev d then ((d.list.drop (rev - d.fr).toNat).map Entry.o,true) else ([],false)
theorem opsSince_no {d : Doc} {rev : Int} (h : ¬ (docOk d∧d.fr≤rev∧rev≤headRev d)) : opsSince d rev = ([],false):=by unfold opsSince;rw [if_neg h]
theorem opsSince_yes {d : Doc} {rev : Int} (h : docOk d∧d.fr≤rev∧rev≤headRev d) : opsSince d rev = ((d.list.drop (rev - d.fr).toNat).map Entry.o,true):=by unfold opsSince;rw [if_pos h]
theorem sumN_drop' {α : Type} {f : α→Nat} : ∀ (l : List α) (k : Nat),sumN f (l.drop k)≤sumN f l
 | [],k=>by simp
 | a :: l,0=>by simp
 | a :: l,k + 1=>by have:=sumN_drop' (f:=f) l k;simp only [List.drop_succ_cons,sumN];omega
theorem nL_drop {α : Type} {f : α→Nat} {l : List α} {k B : Nat} (h : nL f l≤B) : nL f (l.drop k)≤B:=by
 have:=sumN_drop' (f:=f) l k;unfold nL at *;simp only [List.length_drop];omega
theorem cut_dropE {l : List Entry} {k : Nat} (_h : k≤l.length) : cut (l.map Entry.row) k (l.length - k) = (l.drop k).map Entry.row:=by
 unfold cut
 split
 ·rename_i h1
  rw [h1.1];simp
 ·rw [← List.map_drop,List.take_of_length_le (by simp)]
theorem implOpsSince_c (d : Doc) (hl : nDoc d≤2 ^ 30) (rev : Int) : PureC Tryz.prog 322 [.agg d.row,.c (vi rev)] (.tup [.c (.s ((opsSince d rev).1.map partsR)) 1,.c (.v (.bool (opsSince d rev).2)) 1]):=by
 refine PureC.intro' tt_ok Tryz.func322 (by kernel_rfl) rfl rfl rfl (Nat.le_of_ble_eq_true rfl) (fun w0 base=>?_);obtain ⟨n1,n2,n3,n4⟩:=nDoc_list hl;simp [Doc.row];intro b2;refine DrawT.quiet eok mix (by kernel_rfl) ?_;simp;refine ⟨_,_,implDocOk_c d hl,by simp [Doc.row],?_⟩;by_cases c1 : docOk d
 rotate_left
 ·have e:=opsSince_no (d:=d) (rev:=rev) (fun h=>c1 h.1)
  simp [dc_neg c1,e]
 simp [c1];refine ⟨_,_,implHeadRev_c d,by simp [Doc.row],?_⟩;simp;refine ⟨_,_,within_c rev d.fr (headRev d),by simp,?_⟩;by_cases c2 : d.fr≤rev∧rev≤headRev d
 rotate_left
 ·have e:=opsSince_no (d:=d) (rev:=rev) (fun h=>c2 h.2)
  simp [dc_neg c2,e]
 have e:=opsSince_yes ⟨c1,c2⟩;have hh:=docOk_head c1;obtain ⟨k,hk⟩ : ∃ k : Nat,rev - d.fr = k:=⟨(rev - d.fr).toNat,by omega⟩;have hkl : k≤d.list.length:=by omega
 have ew : Go.IntKind.i64.wrap (rev - d.fr) = (k : Int):=by rw [Go.IntWalk.i64_in _ (by omega)];omega
 rw [hk] at e;simp only [Int.toNat_natCast] at e;simp [c2,ew,hkl,cut_dropE hkl];refine ACall.pure (opsOf_c (d.list.drop k) (nL_drop n1)) (by simp) ?_;simp [e];intro row h;have:=List.mem_of_mem_drop h;simp at this;obtain ⟨x,-,rfl⟩:=this;rfl
theorem specOpsSince_c (d : Doc) (hl : nDoc d≤2 ^ 30) (rev : Int) : PureC Tryz.prog 328 [.agg d.row,.c (vi rev)] (.tup [.c (.s ((opsSince d rev).1.map partsR)) 1,.c (.v (.bool (opsSince d rev).2)) 1]):=by
 refine PureC.intro' tt_ok Tryz.func328 (by kernel_rfl) rfl rfl rfl (Nat.le_of_ble_eq_true rfl) (fun w0 base=>?_);obtain ⟨n1,n2,n3,n4⟩:=nDoc_list hl;simp [Doc.row];intro b2;refine DrawT.quiet eok mix (by kernel_rfl) ?_;simp;refine ⟨_,_,specDocOk_c d hl,by simp [Doc.row],?_⟩;by_cases c1 : docOk d
 rotate_left
 ·have e:=opsSince_no (d:=d) (rev:=rev) (fun h=>c1 h.1)
  simp [dc_neg c1,e]
 simp [c1];refine ⟨_,_,specHeadRev_c d,by simp [Doc.row],?_⟩;simp;refine ⟨_,_,l01In_c rev d.fr (headRev d),by simp,?_⟩;by_cases c2 : d.fr≤rev∧rev≤headRev d
 rotate_left
 ·have e:=opsSince_no (d:=d) (rev:=rev) (fun h=>c2 h.2)
  simp [dc_neg c2,e]
 have e:=opsSince_yes ⟨c1,c2⟩;have hh:=docOk_head c1;obtain ⟨k,hk⟩ : ∃ k : Nat,rev - d.fr = k:=⟨(rev - d.fr).toNat,by omega⟩;have hkl : k≤d.list.length:=by omega
 have ew : Go.IntKind.i64.wrap (rev - d.fr) = (k : Int):=by rw [Go.IntWalk.i64_in _ (by omega)];omega
 rw [hk] at e;simp only [Int.toNat_natCast] at e;simp [c2,ew,hkl,cut_dropE hkl];intro b21;obtain ⟨l,hl'⟩ : ∃ l,d.list.drop k = l:=⟨_,rfl⟩;have hn : nL nEntry l≤2 ^ 30:=hl' ▸ nL_drop n1;have hll : d.list.length - k = l.length:=by rw [← hl'];simp
 have hle:=nL_len hn;rw [hl'] at e;simp only [← List.map_drop,hl',hll];refine LoopT.introG eok (fun x : Nat × Hd=>x.1≤l.length) (fun x=>⟨42,0,[(30,.v (.int .i64 x.1)),(29,.v (.int .i64 l.length)),(28,.ro (l.map Entry.row)),(6,.sl 336 x.2 1 0 x.1)],[(336,.rows x.2 1 (((l.take x.1).map Entry.o).map partsR) true)]⟩) (fun x=>l.length - x.1) (0,some (b21,0,0)) (by simp) (by simp) (fun x hx=>Ent.refl ?_);obtain ⟨i,H⟩:=x;simp only at hx ⊢;by_cases hlt : i < l.length
 ·have hm:=nL_at hn hlt
  unfold nEntry at hm;simp [hlt,Entry.row];intro b5;refine ACall.pure (l02Copy_c l[i].o hm) (by simp) ?_;simp;intro H1 b;have e1 : i = min i l.length:=by omega
  refine ⟨e1,by omega,fun H2=>Ent.refl ⟨i + 1,by omega,by omega,H2,?_⟩⟩;simp;exact ⟨i64_suc (by omega),take_snoc (f:=fun e : Entry=>partsR e.o) hlt⟩
 ·have e2 : l.length = i:=by omega
  simp [hlt,e];have e1 : i≤min i l.length:=by omega
  refine ⟨e1,?_,?_⟩
  ·intro row hr
   have:=List.mem_of_mem_take hr;simp at this;obtain ⟨x,-,rfl⟩:=this;rfl
  ·rw [List.take_of_length_le (by simp;omega)]
   simp [cut,e2]
theorem specHeadText_c (d : Doc) (hl : nDoc d≤2 ^ 30) : PureC Tryz.prog 277 [.agg d.row] (.one (.c (.s ((headText d).map intR)) 1)):=by
 refine PureC.intro' tt_ok Tryz.func277 (by kernel_rfl) rfl rfl rfl (Nat.le_of_ble_eq_true rfl) (fun w0 base=>?_);simp [Doc.row];intro b2;refine DrawT.introS eok mix [0,1] [2,3,4,5,6,7,8] (.child 2 [true,false] [false,true] (.child 3 [false,true] [false,false] (.child 4 [false,false] [false,false] (.child 5 [false,false] [false,false] (.child 6 [false,false] [false,false] (.child 7 [false,false] [false,false] (.child 8 [false,false] [false,false] (.leaf [false,false]) .stop) .stop) .stop) .stop) .stop) .stop) .stop) (by kernel_rfl) ?_;simp
 try intros
 refine ACall.pure (specHeadRev_c d) (by simp [Doc.row]) ?_;simp
 try intros
 refine ACall.pure (specTextAt_c d hl (headRev d)) (by simp [Doc.row]) ?_;simp
 try intros
 simp [headText]
theorem fRebase_no {d : Doc} {base : Int} {o : List Part} (h : ¬ (docOk d∧opOk o)) : fRebase d base o = ([],1):=by unfold fRebase;rw [if_neg h]
theorem fRebase_yes {d : Doc} {base : Int} {o : List Part} (h : docOk d∧opOk o) : fRebase d base o = if headRev d < base then ([],2) else if base < d.fr then ([],3) else
 if opFrom o = (textAt d base).1.length then
  if (fPast ((d.list.drop (base - d.fr).toNat).map Entry.o) o).2 = true then ((fPast ((d.list.drop (base - d.fr).toNat).map Entry.o) o).1,0) else ([],5)
 else ([],1):=by unfold fRebase;rw [if_pos h]
theorem implRebase_c (d : Doc) (hl : nDoc d≤2 ^ 30) (base : Int) (o : List Part) (ho : nL nPart o≤2 ^ 40) : PureC Tryz.prog 302 [.agg d.row,.c (vi base),.c (.s (o.map Part.row))] (.tup [.c (.s ((fRebase d base o).1.map Part.row)) 3,.c (vi (fRebase d base o).2) 1]):=by
 refine PureC.intro' tt_ok Tryz.func302 (by kernel_rfl) rfl rfl rfl (Nat.le_of_ble_eq_true rfl) (fun w0 bs=>?_);obtain ⟨n1,n2,n3,n4⟩:=nDoc_list hl;simp [Doc.row];intro b3;refine ACall.pure (implDocOk_c d hl) (by simp [Doc.row]) ?_;by_cases c1 : docOk d
 rotate_left
 ·simp [dc_neg c1,fRebase_no (d:=d) (base:=base) (o:=o) (fun h=>c1 h.1)]
 simp [c1];refine ACall.pure (implOpOk_c o ho) (by simp) ?_;by_cases c2 : opOk o
 rotate_left
 ·simp [dc_neg c2,fRebase_no (d:=d) (base:=base) (o:=o) (fun h=>c2 h.2)]
 have e:=fRebase_yes (base:=base) ⟨c1,c2⟩;simp [c2];refine ACall.pure (atBase_c d base) (by simp [Doc.row]) ?_;unfold atBase;by_cases c3 : headRev d < base
 ·simp [c3,e]
 by_cases c4 : base < d.fr
 ·simp [c3,c4,e]
 have hh:=docOk_head c1;have c5 : docOk d∧d.fr≤base∧base≤headRev d:=⟨c1,by omega,by omega⟩;have hops:=opsSince_yes c5;simp only [c3,c4,if_false] at e;simp [c3,c4];refine ACall.pure (implTextAt_c d hl base) (by simp [Doc.row]) ?_;generalize textAt d base = T at e ⊢;obtain ⟨t,ok⟩:=T;simp only at e ⊢;simp;intro H1;refine ACall.pure (implOpFrom_c o ho) (by simp) ?_;by_cases c6 : opFrom o = t.length
 rotate_left
 ·simp only [c6,if_false] at e
  simp [c6,e]
 simp only [c6,if_true] at e;simp [c6];refine ACall.pure (implOpsSince_c d hl base) (by simp [Doc.row]) ?_;rw [hops];generalize hL : (d.list.drop (base - d.fr).toNat) = L at e ⊢;have hL1 : L.length≤d.list.length:=by rw [← hL];simp
 have hle:=nL_len n1
 have hs : ∀ q∈L.map Entry.o,nL nPart q≤2 ^ 40:=fun q hq=>by
  have:=docOk_ops n1 (l:=L) (fun e he=>by rw [← hL] at he;exact List.mem_of_mem_drop he) hq;omega
 simp;intro H2;refine ACall.pure (implPast_c (L.map Entry.o) o (by simp;omega) hs ho) (by simp) ?_;generalize fPast (L.map Entry.o) o = P at e ⊢;obtain ⟨v,ok2⟩:=P;simp only at e ⊢
 cases ok2 with
 | false=>simp at e;simp [e]
 | true=>simp at e;simp [e]
theorem specRebase_c (d : Doc) (hl : nDoc d≤2 ^ 30) (base : Int) (o : List Part) (ho : nL nPart o≤2 ^ 40) : PureC Tryz.prog 312 [.agg d.row,.c (vi base),.c (.s (o.map Part.row))] (.tup [.c (.s ((fRebase d base o).1.map Part.row)) 3,.c (vi (fRebase d base o).2) 1]):=by
 refine PureC.intro' tt_ok Tryz.func312 (by kernel_rfl) rfl rfl rfl (Nat.le_of_ble_eq_true rfl) (fun w0 bs=>?_);obtain ⟨n1,n2,n3,n4⟩:=nDoc_list hl;simp [Doc.row];intro b3;refine ACall.pure (specDocOk_c d hl) (by simp [Doc.row]) ?_;by_cases c1 : docOk d
 rotate_left
 ·simp [dc_neg c1,fRebase_no (d:=d) (base:=base) (o:=o) (fun h=>c1 h.1)]
 simp [c1];refine ACall.pure (specOpOk_c o ho) (by simp) ?_;by_cases c2 : opOk o
 rotate_left
 ·simp [dc_neg c2,fRebase_no (d:=d) (base:=base) (o:=o) (fun h=>c2 h.2)]
 have e:=fRebase_yes (base:=base) ⟨c1,c2⟩;simp [c2];refine ACall.pure (specHeadRev_c d) (by simp [Doc.row]) ?_;by_cases c3 : headRev d < base
 ·simp [c3,e]
 by_cases c4 : base < d.fr
 ·simp [c3,c4,e]
 have hh:=docOk_head c1;have c5 : docOk d∧d.fr≤base∧base≤headRev d:=⟨c1,by omega,by omega⟩;have hops:=opsSince_yes c5;have hfit:=fRebase_fits (o:=o) c1 c2 c5.2.1 c5.2.2;simp only [c3,c4,if_false] at e;simp [c3,c4];refine ACall.pure (specTextAt_c d hl base) (by simp [Doc.row]) ?_;generalize textAt d base = T at e hfit ⊢;obtain ⟨t,ok⟩:=T;simp only at e hfit ⊢;simp;intro H1;refine ACall.pure (specOpFrom_c o ho) (by simp) ?_;by_cases c6 : opFrom o = t.length
 rotate_left
 ·simp only [c6,if_false] at e
  simp [c6,e]
 simp only [c6,if_true,true_implies] at e hfit;simp [c6];refine ACall.pure (specOpsSince_c d hl base) (by simp [Doc.row]) ?_;rw [hops];generalize hL : (d.list.drop (base - d.fr).toNat) = L at e hfit ⊢;have hL1 : L.length≤d.list.length:=by rw [← hL];simp
 have hle:=nL_len n1
 have hs : ∀ q∈L.map Entry.o,nL nPart q≤2 ^ 40:=fun q hq=>by
  have:=docOk_ops n1 (l:=L) (fun e he=>by rw [← hL] at he;exact List.mem_of_mem_drop he) hq;omega
 have hpn:=fPast_n (L.map Entry.o) o;simp;intro H2;refine ACall.pure (specPast_c (L.map Entry.o) o (by simp;omega) hs ho) (by simp) ?_;generalize fPast (L.map Entry.o) o = P at e hfit hpn ⊢;obtain ⟨v,ok2⟩:=P;simp only at e hfit hpn ⊢
 cases ok2 with
 | false=>simp at e;simp [e]
 | true=>
   have hf:=hfit rfl;have ht:=hf.2.1.1;simp at e;simp [e];intro H3;refine ACall.pure (specHeadText_c d hl) (by simp [Doc.row]) ?_;simp;intro H4;refine ACall.pure (specApply_c v (headText d) (by omega) (by omega)) (by simp) ?_;have ha:=apply_yes.2 hf;generalize apply v (headText d) = A at ha ⊢;obtain ⟨u,ok3⟩:=A;simp only at ha;subst ha;simp
end Go.Proofs.YtoeofekglbdemaaGreat
