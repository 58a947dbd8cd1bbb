import Derived.Test.YtoeofekglbdemaaGreatPH
import Derived.Test.YtoeofekglbdemaaGreatPE
import Derived.Test.YtoeofekglbdemaaGreatPD
import Derived.Test.YtoeofekglbdemaaGreatPG
namespace Go.Proofs.YtoeofekglbdemaaGreat
open Go.AM
set_option maxRecDepth 20000
set_option maxHeartbeats 3200000
theorem copyRing_c (r : Ring) (hl : nRing r≤2 ^ 30) : PureC Tryz.prog 181 [.agg r.row] (.one (.agg r.res)):=by
 refine PureC.intro' tt_ok Tryz.func181 (by kernel_rfl) rfl rfl rfl (Nat.le_of_ble_eq_true rfl) (fun w0 base=>?_);unfold nRing at hl;simp [Ring.row];intro b1 b2;refine ACall.pure (copyEntries_c r.list hl) (by simp) ?_;simp [Ring.res]
theorem l10Copy_c (r : Ring) (hl : nRing r≤2 ^ 30) : PureC Tryz.prog 274 [.agg r.row] (.one (.agg r.res)):=by
 refine PureC.intro' tt_ok Tryz.func274 (by kernel_rfl) rfl rfl rfl (Nat.le_of_ble_eq_true rfl) (fun w0 base=>?_);unfold nRing at hl;simp [Ring.row];intro b1 b2;refine DrawT.introS eok mix [0,1,2,3,4,5,6,7] [8,9,10] (.child 8 [true,false,false,false,false,false,false,false] [false,true,true,true,true,true,true,true] (.child 9 [false,false,true,false,true,false,true,false] [false,true,false,true,false,true,false,true] (.child 10 [false,true,false,true,false,true,false,true] [false,false,false,false,false,false,false,false] (.leaf [false,false,false,false,false,false,false,false]) .stop) .stop) .stop) (by kernel_rfl) ?_;simp
 try intros
 refine ACall.pure (l08Entries_c r.list hl) (by simp) ?_;simp
 try intros
 simp [Ring.res]
theorem l11Sub_c (s : Sub) (hl : nSub s≤2 ^ 30) : PureC Tryz.prog 210 [.agg s.row] (.one (.agg s.res)):=by
 refine PureC.intro' tt_ok Tryz.func210 (by kernel_rfl) rfl rfl rfl (Nat.le_of_ble_eq_true rfl) (fun w0 base=>?_);unfold nSub at hl;simp [Sub.row];intro b1 b2;refine DrawT.introS eok mix [0,1,2,3,4,5] [6,7,8] (.child 6 [true,false,false,false,false,false] [false,true,true,true,true,true] (.child 7 [false,false,true,false,true,false] [false,true,false,true,false,true] (.child 8 [false,true,false,true,false,true] [false,false,false,false,false,false] (.leaf [false,false,false,false,false,false]) .stop) .stop) .stop) (by kernel_rfl) ?_;simp
 try intros
 refine ACall.pure (l10Copy_c s.r (by omega)) (by simp [Ring.row]) ?_;simp [Ring.res]
 try intros
 simp [Sub.res]
theorem copyHub_c (h : Hub) (hl : nHub h≤2 ^ 30) : PureC Tryz.prog 102 [.agg h.row] (.one (.agg h.res)):=by
 refine PureC.intro' tt_ok Tryz.func102 (by kernel_rfl) rfl rfl rfl (Nat.le_of_ble_eq_true rfl) (fun w0 base=>?_);obtain ⟨sh,docs,subs,last⟩:=h;unfold nHub at hl;simp only at hl;have hle:=nL_len (f:=nDoc) (B:=2 ^ 30) (l:=docs) (by omega);have hls:=nL_len (f:=nSub) (B:=2 ^ 30) (l:=subs) (by omega);simp [Hub.row];intro b1 b2 b3
 refine LoopT.introG eok (fun x : Nat × Hd=>x.1≤docs.length) (fun x=>⟨47,0,[(16,.v (.int .i64 x.1)),(15,.v (.int .i64 docs.length)),(14,.ro (docs.map Doc.row)),(1,.p 16 b1 0),(2,.p 32 b2 0),(3,.p 48 b3 0)],
  [(48,.vars b3 35 [.v (.bool sh),.sl 5000 x.2 5 0 x.1,.nil,.v (.int .i64 last)]),(32,.vars b2 35 [.v (.bool false),.nil,.nil,.v (.int .i64 0)]),
   (16,.vars b1 35 [.v (.bool sh),.ro (docs.map Doc.row),.ro (subs.map Sub.row),.v (.int .i64 last)]),(5000,.rows x.2 5 ((docs.take x.1).map Doc.row) true)]⟩) (fun x=>docs.length - x.1) (0,none) (by simp) (by simp) (fun x hi=>Ent.refl ?_)
 obtain ⟨i,H⟩:=x;simp only at hi ⊢;by_cases hlt : i < docs.length
 ·have hm:=nL_mem (f:=nDoc) (B:=2 ^ 30) (l:=docs) (by omega) (List.getElem_mem hlt)
  have e1 : min i docs.length = i:=by omega
  simp [hlt,Doc.row];intro b5;refine DrawT.introS eok mix [0,1,2,6] [3,4,5,7] (.child 3 [false,true,false,false] [true,false,true,true] (.child 4 [false,false,false,false] [true,false,true,true] (.child 5 [false,false,true,false] [true,false,false,true] (.child 7 [true,false,false,true] [false,false,false,false] (.leaf [false,false,false,false]) .stop) .stop) .stop) .stop) (by kernel_rfl) ?_;simp
  try intros
  refine ACall.pure (copyDoc_c docs[i] hm) (by simp [Doc.row]) ?_;simp [Doc.res]
  try intros
  simp [e1];refine ⟨by omega,fun H'=>Ent.refl ⟨i + 1,by omega,by omega,H',?_⟩⟩;simp;exact ⟨i64_suc (by omega),take_snoc (f:=Doc.row) hlt⟩
 have hm : i = docs.length:=by omega
 subst hm;simp
 refine LoopT.introG eok (fun x : Nat × Hd=>x.1≤subs.length) (fun x=>⟨47,0,[(31,.v (.int .i64 x.1)),(30,.v (.int .i64 subs.length)),(29,.ro (subs.map Sub.row)),(2,.p 32 b2 0),(3,.p 48 b3 0)],
  [(48,.vars b3 35 [.v (.bool sh),.sl 5000 H 5 0 docs.length,.sl 5001 x.2 6 0 x.1,.v (.int .i64 last)]),(32,.vars b2 35 [.v (.bool false),.nil,.nil,.v (.int .i64 0)]),
   (5000,.rows H 5 (docs.map Doc.row) true),(5001,.rows x.2 6 ((subs.take x.1).map Sub.row) true)]⟩) (fun x=>subs.length - x.1) (0,none) (by simp) (by simp) (fun x hi=>Ent.refl ?_)
 obtain ⟨i,H'⟩:=x;simp only at hi ⊢;by_cases hlt : i < subs.length
 ·have hm:=nL_mem (f:=nSub) (B:=2 ^ 30) (l:=subs) (by omega) (List.getElem_mem hlt)
  unfold nSub at hm;have e1 : min i subs.length = i:=by omega
  simp [hlt,Sub.row];intro b7;refine ACall.pure (copyRing_c subs[i].r (by omega)) (by simp [Ring.row]) ?_;simp [Ring.res];intro H7;simp [e1];intro b8;refine ⟨by omega,fun H''=>Ent.refl ⟨i + 1,by omega,by omega,H'',?_⟩⟩;simp;exact ⟨i64_suc (by omega),take_snoc (f:=Sub.row) hlt⟩
 have hm : i = subs.length:=by omega
 subst hm;simp [Hub.res]
theorem l11Copy_c (h : Hub) (hl : nHub h≤2 ^ 30) : PureC Tryz.prog 131 [.agg h.row] (.one (.agg h.res)):=by
 refine PureC.intro' tt_ok Tryz.func131 (by kernel_rfl) rfl rfl rfl (Nat.le_of_ble_eq_true rfl) (fun w0 base=>?_);obtain ⟨sh,docs,subs,last⟩:=h;unfold nHub at hl;simp only at hl;have hle:=nL_len (f:=nDoc) (B:=2 ^ 30) (l:=docs) (by omega);have hls:=nL_len (f:=nSub) (B:=2 ^ 30) (l:=subs) (by omega);simp [Hub.row];intro b1 b2 b3
 refine LoopT.introG eok (fun x : Nat × Hd=>x.1≤docs.length) (fun x=>⟨44,0,[(16,.v (.int .i64 x.1)),(15,.v (.int .i64 docs.length)),(14,.ro (docs.map Doc.row)),(1,.p 16 b1 0),(2,.p 32 b2 0),(3,.p 48 b3 0)],
  [(48,.vars b3 35 [.v (.bool sh),.sl 5000 x.2 5 0 x.1,.nil,.v (.int .i64 last)]),(32,.vars b2 35 [.v (.bool false),.nil,.nil,.v (.int .i64 0)]),
   (16,.vars b1 35 [.v (.bool sh),.ro (docs.map Doc.row),.ro (subs.map Sub.row),.v (.int .i64 last)]),(5000,.rows x.2 5 ((docs.take x.1).map Doc.row) true)]⟩) (fun x=>docs.length - x.1) (0,none) (by simp) (by simp) (fun x hi=>Ent.refl ?_)
 obtain ⟨i,H⟩:=x;simp only at hi ⊢;by_cases hlt : i < docs.length
 ·have hm:=nL_mem (f:=nDoc) (B:=2 ^ 30) (l:=docs) (by omega) (List.getElem_mem hlt)
  have e1 : min i docs.length = i:=by omega
  simp [hlt,Doc.row];intro b5;refine DrawT.introS eok mix [0,1,2,6] [3,4,5,7] (.child 3 [false,true,false,false] [true,false,true,true] (.child 4 [false,false,false,false] [true,false,true,true] (.child 5 [false,false,true,false] [true,false,false,true] (.child 7 [true,false,false,true] [false,false,false,false] (.leaf [false,false,false,false]) .stop) .stop) .stop) .stop) (by kernel_rfl) ?_;simp
  try intros
  refine ACall.pure (l08Copy_c docs[i] hm) (by simp [Doc.row]) ?_;simp [Doc.res]
  try intros
  simp [e1];refine ⟨by omega,fun H'=>Ent.refl ⟨i + 1,by omega,by omega,H',?_⟩⟩;simp;exact ⟨i64_suc (by omega),take_snoc (f:=Doc.row) hlt⟩
 have hm : i = docs.length:=by omega
 subst hm;simp
 refine LoopT.introG eok (fun x : Nat × Hd=>x.1≤subs.length) (fun x=>⟨44,0,[(31,.v (.int .i64 x.1)),(30,.v (.int .i64 subs.length)),(29,.ro (subs.map Sub.row)),(2,.p 32 b2 0),(3,.p 48 b3 0)],
  [(48,.vars b3 35 [.v (.bool sh),.sl 5000 H 5 0 docs.length,.sl 5001 x.2 6 0 x.1,.v (.int .i64 last)]),(32,.vars b2 35 [.v (.bool false),.nil,.nil,.v (.int .i64 0)]),
   (5000,.rows H 5 (docs.map Doc.row) true),(5001,.rows x.2 6 ((subs.take x.1).map Sub.row) true)]⟩) (fun x=>subs.length - x.1) (0,none) (by simp) (by simp) (fun x hi=>Ent.refl ?_)
 obtain ⟨i,H'⟩:=x;simp only at hi ⊢;by_cases hlt : i < subs.length
 ·have hm:=nL_mem (f:=nSub) (B:=2 ^ 30) (l:=subs) (by omega) (List.getElem_mem hlt)
  have e1 : min i subs.length = i:=by omega
  simp [hlt,Sub.row];intro b7;refine DrawT.introS eok mix [0,1,2,6] [3,4,5,7] (.child 3 [false,true,false,false] [true,false,true,true] (.child 4 [false,false,false,false] [true,false,true,true] (.child 5 [false,false,true,false] [true,false,false,true] (.child 7 [true,false,false,true] [false,false,false,false] (.leaf [false,false,false,false]) .stop) .stop) .stop) .stop) (by kernel_rfl) ?_;simp
  try intros
  refine ACall.pure (l11Sub_c subs[i] hm) (by simp [Sub.row]) ?_;simp [Sub.res]
  try intros
  simp [e1];refine ⟨by omega,fun H''=>Ent.refl ⟨i + 1,by omega,by omega,H'',?_⟩⟩;simp;exact ⟨i64_suc (by omega),take_snoc (f:=Sub.row) hlt⟩
 have hm : i = subs.length:=by omega
 subst hm;simp [Hub.res]
theorem specRingPush_c (r : Ring) (hl : nRing r≤2 ^ 30) (e : Entry) (he : nEntry e≤2 ^ 30) : PureC Tryz.prog 276 [.agg r.row,.agg e.row] (.one (.agg (fRingPush r e).res)):=by
 refine PureC.intro' tt_ok Tryz.func276 (by kernel_rfl) rfl rfl rfl (Nat.le_of_ble_eq_true rfl) (fun w0 base=>?_);have hno:=@fRingPush_no r e;have hfull:=@fRingPush_full r e;have hroom:=@fRingPush_room r e;have hle:=nL_len (f:=nEntry) (B:=2 ^ 30) (l:=r.list) (by unfold nRing at hl;omega);simp [Ring.row,Entry.row];intro b2 b3 b4;refine ACall.pure (l10Copy_c r hl) (by simp [Ring.row]) ?_;simp [Ring.res];intro H b5;refine ACall.pure (specRingOk_c r (by omega)) (by simp [Ring.row]) ?_;by_cases c1 : ringOk r
 rotate_left
 ·simp [dc_neg c1,hno (fun h=>c1 h.1)]
 simp [c1];refine ACall.pure (specEntryOk_c e (by omega)) (by simp [Entry.row]) ?_;by_cases c2 : entryOk e
 rotate_left
 ·simp [dc_neg c2,hno (fun h=>c2 h.2.1)]
 simp [c2]
 cases c3 : r.out with
 | true=>simp [hno (fun h=>by rw [c3] at h;exact absurd h.2.2 (by simp)),c3]
 | false=>
 simp;by_cases c4 : (r.list.length : Int) = r.cap
 ·have e1:=hfull ⟨c1,c2,c3⟩ c4
  simp [c4,e1]
 have e1:=hroom ⟨c1,c2,c3⟩ c4;simp [c4];refine DrawT.introS eok mix [0,1,2,6] [3,4,5,7] (.child 3 [false,true,false,false] [true,false,true,true] (.child 4 [false,false,false,false] [true,false,true,true] (.child 5 [false,false,true,false] [true,false,false,true] (.child 7 [true,false,false,true] [false,false,false,false] (.leaf [false,false,false,false]) .stop) .stop) .stop) .stop) (by kernel_rfl) ?_;simp
 try intros
 refine ACall.pure (l08Entry_c e he) (by simp [Entry.row]) ?_;simp [Entry.res]
 try intros
 refine ⟨by omega,?_⟩;rw [e1];simp [c3,Entry.row]
 try (rintro row (⟨a,-,rfl⟩ | rfl)<;>rfl)
set_option maxHeartbeats 1600000
set_option maxHeartbeats 6400000
theorem hub_n {h : Hub} {B : Nat} (hl : nHub h≤B) : nL nDoc h.docs≤B∧nL nSub h.subs≤B:=by unfold nHub at hl;omega
theorem mod_sub {l : List Sub} {k : Nat} (hk : k < l.length) (r : Ring) : (l.map Sub.row).modify k (fun row=>putL row 2 [.v (.int .i64 r.cap),.v (.int .i64 r.next),.v (.bool r.out),.s (r.list.map Entry.row)]) = (l.set k ⟨l[k].id,l[k].doc,r⟩).map Sub.row:=by
 rw [List.map_set];refine List.ext_getElem (by simp) (fun j h1 h2=>?_);rw [List.getElem_modify,List.getElem_set]
 split
 ·rename_i e
  subst e;simp [Sub.row]
 ·simp
def chn (L : List Part) : Prop:=∀ i,∀ h : i + 1 < L.length,L[i].kind≠L[i + 1].kind
theorem chn_nil : chn []:=fun i h=>by simp at h
theorem chn_cons {p : Part} {L : List Part} (h : chn (p :: L)) : chn L∧∀ h0 : 0 < L.length,p.kind≠L[0].kind:=by
 refine ⟨fun i hi=>?_,fun h0=>?_⟩
 ·have:=h (i + 1) (by simp;omega)
  simpa using this
 ·have:=h 0 (by simp;omega)
  simpa using this
theorem chn_snoc {L : List Part} {p : Part} (h : chn L) (hp : ∀ h : 0 < L.length,(L[L.length - 1]'(by omega)).kind≠p.kind) : chn (L ++ [p]):=by
 intro i hi;simp at hi;by_cases c : i + 1 < L.length
 ·rw [List.getElem_append_left (by omega),List.getElem_append_left c];exact h i c
 ·have h0 : 0 < L.length:=by omega
  have:=hp h0;rw [List.getElem_append_left (by omega),List.getElem_append_right (by omega)];have e : i = L.length - 1:=by omega
  subst e
  simpa using this
theorem chn_set {L : List Part} {i : Nat} {p : Part} (h : chn L) (hi : i < L.length) (hk : p.kind = L[i].kind) : chn (L.set i p):=by
 intro j hj;simp at hj;have h1:=h j hj;rw [List.getElem_set,List.getElem_set]
 split
 ·rename_i e;subst e
  rw [if_neg (by omega),hk];exact h1
 ·split
  ·rename_i e;subst e;rw [hk];exact h1
  ·exact h1
def lastK (L : List Part) : Prop:=∀ h : 0 < L.length,(L[L.length - 1]'(by omega)).kind = 1
theorem lastK_snoc {L : List Part} {p : Part} : (((L ++ [p])[(L ++ [p]).length - 1]'(by simp))).kind = p.kind:=by simp
theorem flush_chn {L : List Part} {P : List Int} {D : Int} (h : chn L) (hl : lastK L) : chn (nbFlush L P D):=by
 unfold nbFlush
 split
 ·split
  ·rw [List.nil_append]
   exact chn_snoc h fun h0=>by rw [hl h0];simp
  ·simpa using h
 ·have h1 : chn (L ++ [⟨2,0,P⟩]):=chn_snoc h fun h0=>by rw [hl h0];simp
  split
  ·rw [← List.append_assoc]
   exact chn_snoc h1 fun h0=>by rw [lastK_snoc];simp
  ·simpa using h1
theorem keep_chn {L : List Part} {n : Int} (h : chn L) : chn (nbKeep L n)∧lastK (nbKeep L n):=by
 unfold nbKeep
 split
 ·rename_i h0
  split
  ·rename_i hk
   refine ⟨chn_set h (by omega) hk.symm,fun h1=>?_⟩;simp
  ·rename_i hk
   refine ⟨chn_snoc h fun _=>hk,fun h1=>?_⟩;rw [lastK_snoc]
 ·exact ⟨chn_snoc (L:=[]) chn_nil (fun h=>by simp at h),fun _=>rfl⟩
theorem nbRun_chn (o : List Part) : ∀ (i : Nat),i≤o.length→chn (nbRun (o.take i)).1∧lastK (nbRun (o.take i)).1
 | 0,_=>by
   simp only [nbRun,List.take_zero,List.foldl_nil];exact ⟨chn_nil,fun h=>by simp at h⟩
 | i + 1,hi=>by
   obtain ⟨h1,h2⟩:=nbRun_chn o i (by omega);rw [nbRun_suc (show i < o.length by omega)];generalize nbRun (o.take i) = s at h1 h2;unfold nbStep
   split
   ·exact ⟨h1,h2⟩
   ·split
    ·exact ⟨h1,h2⟩
    ·split
     ·exact keep_chn (flush_chn h1 h2)
     ·exact ⟨h1,h2⟩
theorem normal_chn (o : List Part) : chn (normal o):=by
 obtain ⟨h1,h2⟩:=nbRun_chn o o.length (Nat.le_refl _);rw [List.take_length] at h1 h2;exact flush_chn h1 h2
def grpC : At→List Part→List Part
 | .k,[]=>[⟨1,1,[]⟩]
 | .k,p :: l=>if p.kind = 1 then ⟨1,p.n + 1,[]⟩ :: l else ⟨1,1,[]⟩ :: p :: l
 | .d,[]=>[⟨3,1,[]⟩]
 | .d,p :: l=>if p.kind = 3 then ⟨3,p.n + 1,[]⟩ :: l else ⟨3,1,[]⟩ :: p :: l
 | .p c,[]=>[⟨2,0,[c]⟩]
 | .p c,p :: l=>if p.kind = 2 then ⟨2,0,c :: p.signs⟩ :: l else ⟨2,0,[c]⟩ :: p :: l
def grp (l : List At) : List Part:=l.foldr grpC []
theorem grp_ks {L : List Part} (h : ∀ h0 : 0 < L.length,L[0].kind≠1) : ∀ n : Nat,(List.replicate (n + 1) At.k).foldr grpC L = ⟨1,(n : Int) + 1,[]⟩ :: L
 | 0=>by
   cases L with
   | nil=>rfl
   | cons p l=>have:=h (by simp);simp at this;simp [grpC,this]
 | n + 1=>by
   rw [List.replicate_succ,List.foldr_cons,grp_ks h n];simp [grpC]
theorem grp_ds {L : List Part} (h : ∀ h0 : 0 < L.length,L[0].kind≠3) : ∀ n : Nat,(List.replicate (n + 1) At.d).foldr grpC L = ⟨3,(n : Int) + 1,[]⟩ :: L
 | 0=>by
   cases L with
   | nil=>rfl
   | cons p l=>have:=h (by simp);simp at this;simp [grpC,this]
 | n + 1=>by
   rw [List.replicate_succ,List.foldr_cons,grp_ds h n];simp [grpC]
theorem grp_ps {L : List Part} (h : ∀ h0 : 0 < L.length,L[0].kind≠2) : ∀ (Q : List Int) (c : Int),((c :: Q).map At.p).foldr grpC L = ⟨2,0,c :: Q⟩ :: L
 | [],c=>by
   cases L with
   | nil=>rfl
   | cons p l=>have:=h (by simp);simp at this;simp [grpC,this]
 | d :: Q,c=>by
   rw [List.map_cons,List.foldr_cons,grp_ps h Q d];simp [grpC]
theorem grp_atoms : ∀ {L : List Part},(∀ q∈L,Shp q)→chn L→grp (atoms L) = L
 | [],_,_=>rfl
 | p :: L,hs,hc=>by
   obtain ⟨h1,h2⟩:=chn_cons hc;have ih:=grp_atoms (fun q hq=>hs q (List.mem_cons_of_mem _ hq)) h1;have hp:=hs p (List.mem_cons_self ..);unfold grp at ih ⊢;rw [atoms,List.foldr_append,ih];have hpos:=hp.pos;have hn:=hp.n;unfold ats;obtain ⟨kd,n,sg⟩:=p;by_cases k2 : kd = 2
   ·subst k2
    obtain ⟨e1,-⟩:=hp.put rfl;simp only at e1;subst e1;simp only [if_true]
    cases sg with
    | nil=>simp [psz] at hpos
    | cons c Q=>exact grp_ps (fun h0=>by have:=h2 h0;simpa using this.symm) Q c
   ·have e1:=hp.run k2
    simp only at e1 hn;subst e1;have hz : psz ⟨kd,n,[]⟩ = n.toNat:=by simp [psz]
    rw [hz] at hpos;obtain ⟨m,hm⟩ : ∃ m,n.toNat = m + 1:=⟨n.toNat - 1,by omega⟩;have hnm : n = (m : Int) + 1:=by omega
    rw [hz,hm,if_neg k2];by_cases k3 : kd = 3
    ·subst k3
     simp only [if_true];rw [grp_ds (fun h0=>by have:=h2 h0;simpa using this.symm),hnm]
    ·have k1 : kd = 1:=by rcases hp.k with h | h | h<;>simp only at h<;>omega
     subst k1;rw [if_neg (by simp),grp_ks (fun h0=>by have:=h2 h0;simpa using this.symm),hnm]
theorem nA_nA : ∀ (l : List At) (P : List Int) (n : Nat),nA [] 0 (nA P n l) = nA P n l
 | [],P,n=>by
   have h2:=nA_ds n P 0 [];rw [List.append_nil,Nat.zero_add] at h2;rw [nA,nA_ps,List.nil_append,h2,nA]
 | .k :: l,P,n=>by
   rw [nA,nA_ps,nA_ds,List.nil_append,Nat.zero_add,nA,nA_nA l]
 | .p c :: l,P,n=>by rw [nA,nA_nA l]
 | .d :: l,P,n=>by rw [nA,nA_nA l]
theorem normal_grp {o : List Part} (h : ∀ p∈o,partOk p) : normal o = grp (normA (atoms o)):=by
 rw [← normal_at h,grp_atoms (normal_shp h) (normal_chn o)]
theorem normal_normal {o : List Part} (h : opOk o) : normal (normal o) = normal o:=by
 have h2:=(normal_ok h).1;rw [normal_grp h2.1.1,normal_at h.1.1,normal_grp h.1.1];unfold normA;rw [nA_nA]
theorem isNorm_normal {o : List Part} (h : opOk o) : isNorm (normal o):=by
 have h2:=(normal_ok h).1;refine ⟨h2,?_⟩;unfold opNorm;rw [if_pos h2,normal_normal h]
theorem isNorm_opNorm {o : List Part} (h : opOk o) : isNorm (opNorm o):=by
 have e : opNorm o = normal o:=by unfold opNorm;rw [if_pos h]
 rw [e];exact isNorm_normal h
theorem pastL_norm : ∀ (l : List (List Part)) (v v' : List Part),isNorm v→pastL l v = some v'→isNorm v'
 | [],v,v',h,e=>by simp only [pastL,Option.some.injEq] at e;exact e ▸ h
 | a :: l,v,v',h,e=>by
   rw [pastL] at e
   split at e
   ·rename_i ht
    refine pastL_norm l _ v' ?_ e;unfold fTransform at ht ⊢
    split at ht
    ·rename_i h1
     split at ht
     ·rename_i h2
      rw [if_pos h1,if_pos h2];have hi:=tinv_of h1.1 h1.2.1 h1.2.2;have hk:=xf_ok hi;simp only;refine ⟨h2.2,?_⟩;unfold opNorm;rw [if_pos h2.2,normal_grp h2.2.1.1,normal_at hk.2];unfold normA;rw [nA_nA];exact (normal_grp hk.2).symm
     ·simp at ht
    ·simp at ht
   ·cases e
theorem fPast_norm {l : List (List Part)} {b : List Part} (h : (fPast l b).2 = true) : isNorm (fPast l b).1:=by
 unfold fPast at h ⊢
 split at h
 ·rename_i hb
  rw [if_pos hb]
  cases e : pastL l (opNorm b) with
  | none=>rw [e] at h;simp at h
  | some v=>exact pastL_norm l _ v (isNorm_opNorm hb) e
 ·simp at h
theorem docPush_head {d : Doc} (h : docOk d) (e : Entry) : headRev (docPush d e) = headRev d + 1∧(docPush d e).list.getLast? = some e:=by
 obtain ⟨h1,h2,h3,h4⟩:=docOk_head h;unfold docPush
 split
 ·refine ⟨?_,by simp⟩
  unfold headRev;simp only [List.length_append,List.length_cons,List.length_nil];rw [Go.IntWalk.i64_in _ (by omega),Go.IntWalk.i64_in _ (by omega)];omega
 ·refine ⟨?_,?_⟩
  ·unfold headRev
   simp only [List.length_append,List.length_cons,List.length_nil,List.length_drop];rw [Go.IntWalk.i64_in _ (by omega),Go.IntWalk.i64_in _ (by omega)];omega
  ·have hl : d.list.length = 8:=by omega
   rw [List.getLast?_drop];rw [if_neg (by rw [List.length_append,List.length_singleton];omega)];simp
theorem pw_of_adj {α : Type} {R : α→α→Prop} (tr : ∀ a b c,R a b→R b c→R a c) : ∀ {l : List α},(∀ i,∀ h : i < l.length,∀ h0 : 0 < i,R (l[i - 1]'(by omega)) l[i])→l.Pairwise R
 | [],_=>.nil
 | [a],_=>by simp
 | a :: b :: l,h=>by
   have ih:=pw_of_adj tr (l:=b :: l) (fun i hi h0=>by
    have:=h (i + 1) (by simp at hi ⊢;omega) (by omega);obtain ⟨j,rfl⟩ : ∃ j,i = j + 1:=⟨i - 1,by omega⟩
    simpa using this)
   have hab : R a b:=by have:=h 1 (by simp) (by omega);simpa using this
   refine List.pairwise_cons.2 ⟨fun c hc=>?_,ih⟩;rcases List.mem_cons.1 hc with rfl | hc
   ·exact hab
   ·exact tr _ _ _ hab ((List.pairwise_cons.1 ih).1 c hc)
theorem adj_of_pw {α : Type} {R : α→α→Prop} {l : List α} (h : l.Pairwise R) : ∀ i,∀ h : i < l.length,∀ h0 : 0 < i,R (l[i - 1]'(by omega)) l[i]:=
 fun i hi h0=>(List.pairwise_iff_getElem.1 h) (i - 1) i (by omega) hi (by omega)
def seen1 (R : Int) (s : Seen) : Prop:=(1≤s.client∧s.client≤8)∧(1≤s.seq∧s.seq≤1000000000)∧(1≤s.rev∧s.rev≤R)
theorem seensOk_iff {d : Doc} : seensOk d ↔ (∀ s∈d.seen,seen1 (headRev d) s)∧d.seen.Pairwise fun a b=>a.client < b.client:=by
 constructor
 ·intro h
  refine ⟨fun s hs=>?_,pw_of_adj (R:=fun a b : Seen=>a.client < b.client) (fun _ _ _=>Int.lt_trans) fun i hi h0=>(h i hi).2.2.2 h0⟩;obtain ⟨i,hi,rfl⟩:=List.getElem_of_mem hs;obtain ⟨h1,h2,h3,-⟩:=h i hi;exact ⟨h1,h2,h3⟩
 ·rintro ⟨h1,h2⟩ i hi
  obtain ⟨a,b,c⟩:=h1 _ (List.getElem_mem hi);exact ⟨a,b,c,fun h0=>adj_of_pw h2 i hi h0⟩
theorem seenPut_mem {c s r : Int} : ∀ {l : List Seen} {x : Seen},x∈seenPut c s r l→x = ⟨c,s,r⟩∨x∈l
 | [],x,h=>by simp [seenPut] at h;exact .inl h
 | y :: l,x,h=>by
   unfold seenPut at h
   split at h
   ·rcases List.mem_cons.1 h with h | h
    ·exact .inr (by simp [h])
    ·rcases seenPut_mem h with h | h
     ·exact .inl h
     ·exact .inr (List.mem_cons_of_mem _ h)
   ·split at h
    ·rcases List.mem_cons.1 h with h | h
     ·exact .inl h
     ·exact .inr (List.mem_cons_of_mem _ h)
    ·rcases List.mem_cons.1 h with h | h
     ·exact .inl h
     ·exact .inr h
theorem seenPut_pw {c s r : Int} : ∀ {l : List Seen},(l.Pairwise fun a b=>a.client < b.client)→(seenPut c s r l).Pairwise fun a b=>a.client < b.client
 | [],_=>by simp [seenPut]
 | y :: l,h=>by
   obtain ⟨h1,h2⟩:=List.pairwise_cons.1 h;unfold seenPut
   split
   ·rename_i hc
    refine List.pairwise_cons.2 ⟨fun x hx=>?_,seenPut_pw h2⟩;rcases seenPut_mem hx with rfl | hx
    ·exact hc
    ·exact h1 x hx
   ·split
    ·rename_i hc
     exact List.pairwise_cons.2 ⟨fun x hx=>by have:=h1 x hx;simp only;omega,h2⟩
    ·refine List.pairwise_cons.2 ⟨fun x hx=>?_,h⟩
     rcases List.mem_cons.1 hx with rfl | hx
     ·simp only;omega
     ·have:=h1 x hx;simp only;omega
theorem docPush_ok {d : Doc} (h : docOk d) {e : Entry} (he : entryOk e) (hf : fits3 e.o (headText d)) (hr : headRev d < 999999000) : docOk (docPush d e):=by
 have hh:=docOk_head h;have hp:=(docPush_head h e).1;obtain ⟨t1,t2⟩:=headText_some h;obtain ⟨g1,g2,g3,g4,g5,g6,g7⟩:=h
 have hap : (applyFrom ((d.list ++ [e]).map Entry.o) d.text).isSome = true:=by
  rw [List.map_append,applyFrom_append,t1];simp only [Option.bind_some,List.map_cons,List.map_nil,applyFrom];rw [if_pos (apply_yes.2 hf)];rfl
 have hse : seensOk (docPush d e):=by
  rw [seensOk_iff,hp];obtain ⟨s1,s2⟩:=seensOk_iff.1 g7;have e1 : (docPush d e).seen = seenPut e.client e.seq (headRev d + 1) d.seen:=by unfold docPush;split<;>rfl
  rw [e1];refine ⟨fun x hx=>?_,seenPut_pw s2⟩;rcases seenPut_mem hx with rfl | hx
  ·exact ⟨he.1,he.2.1,by simp only;omega⟩
  ·obtain ⟨a,b,c⟩:=s1 x hx
   exact ⟨a,b,by omega⟩
 have hen : ∀ x∈d.list ++ [e],entryOk x:=fun x hx=>by
  rcases List.mem_append.1 hx with hx | hx
  ·exact g5 x hx
  ·simp at hx;subst hx;exact he
 unfold docPush at hse ⊢
 split
 ·rename_i hl
  rw [if_pos hl] at hse;exact ⟨g1,g2,g3,by simp;omega,hen,hap,hse⟩
 ·rename_i hl
  rw [if_neg hl] at hse
  obtain ⟨x,l',hx⟩ : ∃ x l',d.list ++ [e] = x :: l':=by
   cases hd : d.list ++ [e] with
   | nil=>simp at hd
   | cons x l'=>exact ⟨x,l',rfl⟩
  have hlen : l'.length = d.list.length:=by have:=congrArg List.length hx;simp at this;omega
  simp only [hx] at hse hap hen ⊢;simp only [List.getElem_cons_zero,List.drop_one,List.tail_cons] at hse ⊢;rw [List.map_cons,applyFrom] at hap
  split at hap
  ·rename_i ha
   exact ⟨g1,by simp only;omega,(apply_textOk (apply_yes.1 ha)).1,by simp only;omega,fun y hy=>hen y (List.mem_cons_of_mem _ hy),hap,hse⟩
  ·simp at hap
theorem docPush_name (d : Doc) (e : Entry) : (docPush d e).name = d.name:=by unfold docPush;split<;>rfl
theorem fSubmit_docOk {d : Doc} {client seq base : Int} {o : List Part} (h : docOk d) (hc : (fSubmit d client seq base o).2.2 = 0) :
 docOk (fSubmit d client seq base o).1∧(fSubmit d client seq base o).1.name = d.name∧((fSubmit d client seq base o).1 = d∨
  ∃ e,entryOk e∧e.client = client∧e.seq = seq∧(fSubmit d client seq base o).1 = docPush d e∧fits3 e.o (headText d)∧headRev d < 999999000):=by
 unfold fSubmit at hc ⊢
 split at hc
 ·rename_i hs
  rw [if_pos hs]
  split at hc
  ·rename_i h1
   rw [if_pos h1];exact ⟨h,rfl,.inl rfl⟩
  ·rename_i h1
   rw [if_neg h1]
   split at hc
   ·rename_i h2
    rw [if_pos h2]
    split at hc
    ·rename_i h3
     rw [if_pos h3]
     split at hc
     ·simp at hc
     ·rename_i h4
      rw [if_neg h4]
      have key : isNorm (fRebase d base o).1∧fits3 (fRebase d base o).1 (headText d):=by
       unfold fRebase at h3 ⊢
       split at h3
       ·rename_i c1
        rw [if_pos c1]
        split at h3
        ·simp at h3
        ·rename_i c2
         rw [if_neg c2]
         split at h3
         ·simp at h3
         ·rename_i c3
          rw [if_neg c3]
          split at h3
          ·rename_i c4
           rw [if_pos c4]
           split at h3
           ·rename_i c5
            rw [if_pos c5];exact ⟨fPast_norm c5,fRebase_fits c1.1 c1.2 (by omega) (by omega) c4 c5⟩
           ·simp at h3
          ·simp at h3
       ·simp at h3
      have he : entryOk ⟨client,seq,(fRebase d base o).1⟩:=⟨hs.2.1,hs.2.2.1,key.1⟩;exact ⟨docPush_ok h he key.2 (by omega),docPush_name _ _,.inr ⟨_,he,rfl,rfl,rfl,key.2,by omega⟩⟩
    ·rename_i h3;exact absurd hc h3
   ·simp at hc
 ·simp at hc
theorem fSubmit_ok {d : Doc} {client seq base : Int} {o : List Part} (h : docOk d) (hc : (fSubmit d client seq base o).2.2 = 0) :
 (fSubmit d client seq base o).1 = d∨∃ e,headRev (fSubmit d client seq base o).1 = headRev d + 1∧(fSubmit d client seq base o).1.list.getLast? = some e:=by
 obtain ⟨-,-,h1 | ⟨e,-,-,-,h2,-⟩⟩:=fSubmit_docOk h hc
 ·exact .inl h1
 ·rw [h2];exact .inr ⟨e,docPush_head h e⟩
noncomputable def toldTo (name : ByteArray) (e : Entry) (l : List Sub) (i : Nat) : List Sub:=(l.take i).map (tellSub name e) ++ l.drop i
theorem toldTo_zero (name : ByteArray) (e : Entry) (l : List Sub) : toldTo name e l 0 = l:=by simp [toldTo]
theorem toldTo_all (name : ByteArray) (e : Entry) (l : List Sub) : toldTo name e l l.length = l.map (tellSub name e):=by simp [toldTo]
theorem toldTo_len (name : ByteArray) (e : Entry) (l : List Sub) (i : Nat) : (toldTo name e l i).length = l.length:=by simp [toldTo];omega
theorem toldTo_at {name : ByteArray} {e : Entry} {l : List Sub} {i : Nat} (h : i < l.length) : (toldTo name e l i)[i]'(by rw [toldTo_len];exact h) = l[i]:=by
 unfold toldTo;rw [List.getElem_append_right (by simp;omega)];simp [Nat.min_eq_left (Nat.le_of_lt h)]
theorem toldTo_suc {name : ByteArray} {e : Entry} {l : List Sub} {i : Nat} (h : i < l.length) : (toldTo name e l i).set i (tellSub name e l[i]) = toldTo name e l (i + 1):=by
 unfold toldTo;rw [List.set_append_right _ _ (by simp;omega),List.drop_eq_getElem_cons h];simp only [List.length_map,List.length_take,Nat.min_eq_left (Nat.le_of_lt h),Nat.sub_self,List.set_cons_zero];rw [← List.take_append_getElem h,List.map_append];simp
theorem toldTo_skip {name : ByteArray} {e : Entry} {l : List Sub} {i : Nat} (h : i < l.length) (hn : ¬ l[i].doc = name) : toldTo name e l i = toldTo name e l (i + 1):=by
 rw [← toldTo_suc h];have : tellSub name e l[i] = l[i]:=by unfold tellSub;rw [if_neg hn]
 rw [this];refine List.ext_getElem (by simp) (fun j h1 h2=>?_);rw [List.getElem_set]
 split
 ·rename_i ej;subst ej;exact toldTo_at h
 ·rfl
theorem specHubSubmit_c (h : Hub) (hl : nHub h≤2 ^ 28) (name : ByteArray) (client seq base : Int) (o : List Part) (ho : nL nPart o≤2 ^ 40) :
 PureC Tryz.prog 212 [.agg h.row,.c (.v (.string name)),.c (vi client),.c (vi seq),.c (vi base),.c (.s (o.map Part.row))]
 (.tup [.agg (fHubSubmit h name client seq base o).1.res,.c (vi (fHubSubmit h name client seq base o).2.1) 1,.c (vi (fHubSubmit h name client seq base o).2.2) 1]):=by
 refine PureC.intro' tt_ok Tryz.func212 (by kernel_rfl) rfl rfl rfl (Nat.le_of_ble_eq_true rfl) (fun w0 bs=>?_);have hls:=nL_len (hub_n hl).2;simp [Hub.row];intro b6 b12;refine ACall.pure (specHubDoc_c h (by omega) name) (by simp [Hub.row]) ?_;simp;refine ACall.pure (specHubOk_c h (by omega)) (by simp [Hub.row]) ?_;by_cases c1 : hubOk h
 rotate_left
 ·simp [dc_neg c1,fHubSubmit_no c1,Hub.res,Hub.zero]
 simp [c1]
 cases c2 : h.shut with
 | true=>simp [fHubSubmit_shut c1 c2,Hub.res,Hub.zero]
 | false=>
 have c2' : ¬ h.shut = true:=by rw [c2];simp
 simp;rcases docIdx_cases h.docs name with ⟨k,hk,e,-⟩ | e;rotate_left
 ·simp [e,fHubSubmit_none c1 c2' e,Hub.res,Hub.zero]
 have hk0 : ¬ (k : Int) < 0:=by omega
 have hat:=fHubSubmit_at (client:=client) (seq:=seq) (base:=base) (o:=o) c1 c2' hk e;have hdn:=nL_at (f:=nDoc) (hub_n hl).1 hk;have hdo:=hub_doc c1 hk;have hDn:=fSubmit_n (client:=client) (seq:=seq) (base:=base) (o:=o) hdo;have hok:=fSubmit_ok (client:=client) (seq:=seq) (base:=base) (o:=o) hdo;obtain ⟨d,hd⟩ : ∃ d,h.docs[k] = d:=⟨_,rfl⟩;rw [hd] at hat hdn hDn hok;have hc:=specSubmit_c d hdn client seq base o ho;generalize fSubmit d client seq base o = S at hc hat hDn hok;obtain ⟨D,rev,code⟩:=S;simp only at hc hat hDn hok;simp [e,hk0,hk,hd,Doc.row];refine ACall.pure hc (by simp [Doc.row]) ?_;simp [Doc.res];intro H1 H2 H3 b16;by_cases c3 : code = 0
 rotate_left
 ·rw [if_neg c3] at hat
  simp [c3,hat,Hub.res,Hub.zero]
 rw [if_pos c3] at hat;have hok:=hok c3;simp [c3];refine ACall.pure (l11Copy_c h (by omega)) (by simp [Hub.row,c2]) ?_;simp [Hub.res,c2,hk];intro K1 K2 b19;refine DrawT.introS eok mix [0,2,3,4,5,6] [1,7,8] (.child 1 [false,false,false,false,false,true] [true,true,true,true,true,false] (.child 7 [true,false,false,false,false,false] [false,true,true,true,true,false] (.child 8 [false,false,false,false,false,false] [false,true,true,true,true,false] (.leaf [false,true,true,true,true,false]) .stop) .stop) .stop) (by kernel_rfl) ?_;simp [hk,hd,Doc.row]
 try intros
 refine ACall.pure (specHeadRev_c D) (by simp [Doc.row,Doc.row]) ?_;simp
 try intros
 refine ACall.pure (specHeadRev_c d) (by simp [Doc.row,Doc.row]) ?_;simp
 try intros
 by_cases c5 : headRev D = headRev d
 ·have hcm : hubCommit h name k d D = ⟨h.shut,h.docs.set k D,h.subs,h.last⟩:=by unfold hubCommit;rw [if_neg (by omega)]
  rw [hcm] at hat;simp [c5,hat,c2];exact ⟨rows5_set,rfl⟩
 rcases hok with rfl | ⟨e,he1,he2⟩
 ·exact absurd rfl c5
 have hcm : hubCommit h name k d D = ⟨h.shut,h.docs.set k D,h.subs.map (tellSub name e),h.last⟩:=by unfold hubCommit;rw [if_pos (by omega),he2]
 rw [hcm] at hat;have hmem : e∈D.list:=List.mem_of_getLast? he2;have hpos : 0 < D.list.length:=List.length_pos_of_mem hmem;obtain ⟨m,hm⟩ : ∃ m,D.list.length = m + 1:=⟨D.list.length - 1,by omega⟩;have hml : m < D.list.length:=by omega
 have hme : D.list[m] = e:=by
  rw [List.getLast?_eq_getElem?,hm,Nat.add_sub_cancel,List.getElem?_eq_getElem hml] at he2;exact Option.some.inj he2
 have hDl : nL nEntry D.list≤2 ^ 24:=by unfold nDoc at hDn;omega
 have hen:=nL_mem (f:=nEntry) hDl hmem;have hlen24:=nL_len hDl;have ew : Go.IntKind.i64.wrap ((D.list.length : Int) - 1) = (m : Int):=by rw [Go.IntWalk.i64_in _ (by omega)];omega
 have em : Go.IntKind.i64.wrap (m : Int) = m:=i64_nat (by omega);simp [c5,hm,em,hme,Entry.row];refine ⟨by omega,fun b20=>?_⟩
 refine LoopT.introG eok (fun i : Nat=>i≤h.subs.length) (fun i=>⟨107,0,[(86,.v (.int .i64 i)),(85,.v (.int .i64 h.subs.length)),(84,.sl 930 K2 6 0 h.subs.length),(19,.p 304 b19 0),(20,.p 320 b20 0),(17,.v (.int .i64 rev)),(1,.v (.string name)),(12,.p 192 b12 0)],
  [(304,.vars b19 35 [.v (.bool false),.sl 929 K1 5 0 h.docs.length,.sl 930 K2 6 0 h.subs.length,.v (.int .i64 h.last)]),(192,.vars b12 35 [.v (.bool false),.nil,.nil,.v (.int .i64 0)]),
   (320,.vars b20 134 [.v (.int .i64 e.client),.v (.int .i64 e.seq),.ro (e.o.map Part.row)]),
   (929,.rows K1 5 ((h.docs.set k D).map Doc.row) true),(930,.rows K2 6 ((toldTo name e h.subs i).map Sub.row) true)]⟩) (fun i=>h.subs.length - i) 0 (by simp) (by simp [toldTo_zero];rfl) (fun i hi=>Ent.refl ?_)
 have htl:=toldTo_len name e h.subs i;by_cases hlt : i < h.subs.length
 ·have hti:=toldTo_at (name:=name) (e:=e) hlt
  have hlt' : i < (toldTo name e h.subs i).length:=by omega
  have hsk:=toldTo_skip (name:=name) (e:=e) hlt;have hsu:=toldTo_suc (name:=name) (e:=e) hlt;have hmd:=mod_sub hlt' (fRingPush h.subs[i].r e);have hmn:=nL_at (f:=nSub) (hub_n hl).2 hlt;unfold nSub at hmn;rw [hti] at hmd;obtain ⟨s,hs⟩ : ∃ s,h.subs[i] = s:=⟨_,rfl⟩;rw [hs] at hti hsk hsu hmd hmn;simp [hlt,htl,hti,Sub.row];intro b22;by_cases c6 : s.doc = name
  rotate_left
  ·simp [c6]
   refine Ent.refl ⟨i + 1,by omega,by omega,?_⟩;rw [← hsk c6];simp;exact i64_suc (by omega)
  have htell : tellSub name e s = ⟨s.id,s.doc,fRingPush s.r e⟩:=by unfold tellSub;rw [if_pos c6]
  rw [htell] at hsu;rw [hsu] at hmd;have hpc:=specRingPush_c s.r (by omega) e (by omega);generalize fRingPush s.r e = R at hpc hmd;simp [c6];refine DrawT.introS eok mix [0,1,2,3,4,5,7,8] [6,9] (.child 6 [false,false,true,true,false,false,false,false] [true,true,false,false,true,true,true,true] (.child 9 [true,false,false,false,true,true,true,true] [false,true,false,false,false,false,false,false] (.leaf [false,true,false,false,false,false,false,false]) .stop) .stop) (by kernel_rfl) ?_;simp [hlt]
  try intros
  refine ACall.pure (hpc) (by simp [Ring.row,Entry.row]) ?_;simp [Ring.res,hlt,htl]
  try intros
  refine Ent.refl ⟨i + 1,by omega,by omega,?_⟩;rw [← hmd];simp;exact i64_suc (by omega)
 have hie : i = h.subs.length:=by omega
 subst hie;rw [toldTo_all];simp [hat,c2];exact rows5_set
end Go.Proofs.YtoeofekglbdemaaGreat
