import Derived.Test.YtoeofekglbdemaaGreatPA
import Derived.Test.YtoeofekglbdemaaGreatMF
namespace Go.Proofs.YtoeofekglbdemaaGreat
set_option maxRecDepth 20000
def psz (p : Part) : Nat:=p.n.toNat + p.signs.length
def pcut (p : Part) (n : Nat) : Part:=if p.kind = 2 then ⟨p.kind,p.n,p.signs.take n⟩ else ⟨p.kind,n,p.signs⟩
def pleft (p : Part) (n : Nat) : Part:=if p.kind = 2 then ⟨p.kind,p.n,p.signs.drop n⟩ else ⟨p.kind,p.n - n,p.signs⟩
theorem psz_int {p : Part} (h : partOk p) : (psz p : Int) = p.n + p.signs.length∧psz p≤200:=by
 have hb:=h.bounds;unfold psz;by_cases hk : p.kind = 2
 ·have:=hb.2.2.2.2.1 hk
  omega
 ·have:=hb.2.2.2.2.2 hk
  rw [this];simp;omega
@[simp] theorem pcut_kind {p : Part} {n : Nat} : (pcut p n).kind = p.kind:=by unfold pcut;split<;>rfl
@[simp] theorem pleft_kind {p : Part} {n : Nat} : (pleft p n).kind = p.kind:=by unfold pleft;split<;>rfl
theorem pcut_ok {p : Part} (h : partOk p) {n : Nat} (hn : n≤psz p) : partOk (pcut p n):=by
 have hp:=psz_int h;unfold pcut;by_cases hk : p.kind = 2
 ·rw [if_pos hk]
  rw [partOk_put hk] at h;refine .inr ⟨hk,h.1,?_,fun m hm=>h.2.2 m (List.mem_of_mem_take hm)⟩;simp;omega
 ·rw [if_neg hk]
  have hb:=h.bounds;have hk2 : p.kind = 1∨p.kind = 3:=by omega
  have:=hb.2.2.2.2.2 hk;refine .inl ⟨hk2,?_,this⟩;simp only;omega
theorem pleft_ok {p : Part} (h : partOk p) {n : Nat} (hn : n≤psz p) : partOk (pleft p n):=by
 have hp:=psz_int h;unfold pleft;by_cases hk : p.kind = 2
 ·rw [if_pos hk]
  rw [partOk_put hk] at h;refine .inr ⟨hk,h.1,?_,fun m hm=>h.2.2 m (List.mem_of_mem_drop hm)⟩;simp;omega
 ·rw [if_neg hk]
  have hb:=h.bounds;have hk2 : p.kind = 1∨p.kind = 3:=by omega
  have:=hb.2.2.2.2.2 hk;refine .inl ⟨hk2,?_,this⟩;rw [this] at hp;simp at hp;simp only;omega
theorem pleft_sz {p : Part} (h : partOk p) {n : Nat} (hn : n≤psz p) : psz (pleft p n) = psz p - n:=by
 have hb:=h.bounds;unfold psz pleft at *;by_cases hk : p.kind = 2
 ·rw [if_pos hk]
  have:=hb.2.2.2.2.1 hk;simp only [this,List.length_drop] at hn ⊢;omega
 ·rw [if_neg hk]
  have:=hb.2.2.2.2.2 hk;simp only [this,List.length_nil] at hn ⊢;omega
theorem pcut_whole {p : Part} (h : partOk p) : pcut p (psz p) = p:=by
 have hb:=h.bounds;unfold psz pcut;by_cases hk : p.kind = 2
 ·rw [if_pos hk]
  have:=hb.2.2.2.2.1 hk;rw [List.take_of_length_le (by omega)]
 ·rw [if_neg hk]
  have:=hb.2.2.2.2.2 hk;obtain ⟨k,n,s⟩:=p;simp only at this hb;subst this;simp;omega
theorem pleft_pleft {p : Part} {m n : Nat} : pleft (pleft p m) n = pleft p (m + n):=by
 unfold pleft;by_cases hk : p.kind = 2
 ·simp [hk,List.drop_drop]
 ·simp [hk]
  omega
theorem pleft_zero {p : Part} : pleft p 0 = p:=by unfold pleft;split<;>simp
def nxt : List Part→List Part
 | []=>[]
 | p :: l=>if psz p = 0 then nxt l else p :: l
def tsz : List Part→Nat
 | []=>0
 | p :: l=>psz p + tsz l
def frs : List Part→Nat
 | []=>0
 | p :: l=>(if p.kind = 2 then 0 else psz p) + frs l
def tos : List Part→Nat
 | []=>0
 | p :: l=>(if p.kind = 3 then 0 else psz p) + tos l
theorem nxt_tsz : ∀ l : List Part,tsz (nxt l) = tsz l
 | []=>rfl
 | p :: l=>by
   unfold nxt
   split
   ·rename_i h;rw [nxt_tsz l];simp [tsz,h]
   ·rfl
theorem nxt_frs : ∀ l : List Part,frs (nxt l) = frs l
 | []=>rfl
 | p :: l=>by
   unfold nxt
   split
   ·rename_i h;rw [nxt_frs l];simp [frs,h]
   ·rfl
theorem nxt_pos : ∀ {l : List Part} {p : Part} {l' : List Part},nxt l = p :: l'→0 < psz p
 | [],p,l',h=>by simp [nxt] at h
 | q :: l,p,l',h=>by
   unfold nxt at h
   split at h
   ·exact nxt_pos h
   ·simp at h;rw [← h.1];omega
theorem nxt_nxt : ∀ l : List Part,nxt (nxt l) = nxt l
 | []=>rfl
 | p :: l=>by
   by_cases h : psz p = 0
   ·simp only [nxt,h,if_true];exact nxt_nxt l
   ·simp only [nxt,h,if_false]
theorem nxt_suffix : ∀ l : List Part,∃ k,k≤l.length∧nxt l = l.drop k∧∀ i,(h : i < l.length)→i < k→psz l[i] = 0
 | []=>⟨0,by simp,rfl,fun i h=>by simp at h⟩
 | p :: l=>by
   by_cases h : psz p = 0
   ·obtain ⟨k,h1,h2,h3⟩:=nxt_suffix l
    refine ⟨k + 1,by simp;omega,by simp [nxt,h,h2],fun i hi hk=>?_⟩
    cases i with
    | zero=>simpa using h
    | succ i=>simpa using h3 i (by simpa using hi) (by omega)
   ·exact ⟨0,by simp,by simp [nxt,h],fun i _ hk=>by omega⟩
theorem nxt_mem {l : List Part} {p : Part} (h : p∈nxt l) : p∈l:=by
 obtain ⟨k,_,h2,_⟩:=nxt_suffix l;rw [h2] at h;exact List.mem_of_mem_drop h
theorem nxt_len (l : List Part) : (nxt l).length≤l.length:=by
 obtain ⟨k,_,h2,_⟩:=nxt_suffix l;rw [h2];simp
theorem mem_pleft {l l' : List Part} {p : Part} {n : Nat} (hl : ∀ q∈l,partOk q) (he : nxt l = p :: l') (hn : n≤psz p) : ∀ q∈pleft p n :: l',partOk q:=by
 intro q hq;rcases List.mem_cons.1 hq with rfl | hq
 ·exact pleft_ok (hl p (nxt_mem (he ▸ List.mem_cons_self ..))) hn
 ·exact hl q (nxt_mem (he ▸ List.mem_cons_of_mem _ hq))
theorem mem_nxt {l l' : List Part} {p : Part} (hl : ∀ q∈l,partOk q) (he : nxt l = p :: l') : partOk p∧∀ q∈p :: l',partOk q:=
 ⟨hl p (nxt_mem (he ▸ List.mem_cons_self ..)),fun q hq=>hl q (nxt_mem (he ▸ hq))⟩
abbrev XR:=(List Part × List Part) × List Part × List Part
def tstep (x y : List Part) : Option XR:=
 match nxt x with
 | p :: x'=>if p.kind = 2 then some (([pcut p (psz p)],[⟨1,p.signs.length,[]⟩]),pleft p (psz p) :: x',y) else match nxt y with
   | q :: y'=>if q.kind = 2 then some (([⟨1,q.signs.length,[]⟩],[pcut q (psz q)]),p :: x',pleft q (psz q) :: y') else
       some ((if q.kind = 1 then [pcut p (min (psz p) (psz q))] else [],if p.kind = 1 then [pcut q (min (psz p) (psz q))] else []),pleft p (min (psz p) (psz q)) :: x',pleft q (min (psz p) (psz q)) :: y')
   | []=>none
 | []=>match nxt y with
   | q :: y'=>if q.kind = 2 then some (([⟨1,q.signs.length,[]⟩],[pcut q (psz q)]),[],pleft q (psz q) :: y') else none
   | []=>none
structure TInv (x y : List Part) : Prop where
 px : ∀ p∈x,partOk p
 py : ∀ p∈y,partOk p
 b : frs x = frs y
structure TNext (x y : List Part) (r : XR) : Prop where
 inv : TInv r.2.1 r.2.2
 dec : tsz r.2.1 + tsz r.2.2 < tsz x + tsz y
 okx : ∀ p∈r.1.1,partOk p
 oky : ∀ p∈r.1.2,partOk p
 lenx : r.1.1.length≤1
 leny : r.1.2.length≤1
theorem keepOk {p : Part} (h : partOk p) : partOk ⟨1,p.signs.length,[]⟩:=by
 have:=h.bounds;exact .inl ⟨.inl rfl,by simp only;omega,rfl⟩
theorem tstep_next {x y : List Part} (hi : TInv x y) {r : XR} (h : tstep x y = some r) : TNext x y r:=by
 have hx:=nxt_tsz x;have hy:=nxt_tsz y;have hxt:=nxt_frs x;have hyf:=nxt_frs y;have hb:=hi.b;unfold tstep at h
 cases ex : nxt x with
 | nil=>
   rw [ex] at h hx hxt
   cases ey : nxt y with
   | nil=>simp [ey] at h
   | cons q y'=>
     rw [ey] at hy hyf;have hq:=mem_nxt hi.py ey;have hp:=nxt_pos ey;simp only [ey] at h
     split at h
     ·rename_i k
      cases h
      have hs:=pleft_sz hq.1 (Nat.le_refl _);refine ⟨⟨by simp,mem_pleft hi.py ey (Nat.le_refl _),?_⟩,?_,?_,?_,by simp,by simp⟩
      ·simp [frs,k] at hxt hyf ⊢;omega
      ·simp [tsz] at hx hy ⊢;omega
      ·intro p hp;simp at hp;subst hp;exact keepOk hq.1
      ·intro p hp;simp at hp;subst hp;exact pcut_ok hq.1 (Nat.le_refl _)
     ·cases h
 | cons p x'=>
   rw [ex] at h hx hxt;have hp:=mem_nxt hi.px ex;have hpp:=nxt_pos ex;simp only at h
   split at h
   ·rename_i k
    cases h
    have hs:=pleft_sz hp.1 (Nat.le_refl _);refine ⟨⟨mem_pleft hi.px ex (Nat.le_refl _),hi.py,?_⟩,?_,?_,?_,by simp,by simp⟩
    ·simp [frs,k] at hxt ⊢;omega
    ·simp [tsz] at hx ⊢;omega
    ·intro q hq;simp at hq;subst hq;exact pcut_ok hp.1 (Nat.le_refl _)
    ·intro q hq;simp at hq;subst hq;exact keepOk hp.1
   ·rename_i k3
    cases ey : nxt y with
    | nil=>simp [ey] at h
    | cons q y'=>
      rw [ey] at hy hyf;have hq:=mem_nxt hi.py ey;have hqp:=nxt_pos ey;simp only [ey] at h
      split at h
      ·rename_i k
       cases h
       have hs:=pleft_sz hq.1 (Nat.le_refl _);refine ⟨⟨hp.2,mem_pleft hi.py ey (Nat.le_refl _),?_⟩,?_,?_,?_,by simp,by simp⟩
       ·simp [frs,k,k3] at hxt hyf ⊢;omega
       ·simp [tsz] at hx hy ⊢;omega
       ·intro p hp;simp at hp;subst hp;exact keepOk hq.1
       ·intro p hp;simp at hp;subst hp;exact pcut_ok hq.1 (Nat.le_refl _)
      ·rename_i k2
       cases h
       have hn1 : min (psz p) (psz q)≤psz p:=by omega
       have hn2 : min (psz p) (psz q)≤psz q:=by omega
       have hs1:=pleft_sz hp.1 hn1;have hs2:=pleft_sz hq.1 hn2;refine ⟨⟨mem_pleft hi.px ex hn1,mem_pleft hi.py ey hn2,?_⟩,?_,?_,?_,?_,?_⟩
       ·simp [frs,k2,k3] at hxt hyf ⊢;omega
       ·simp [tsz] at hx hy ⊢;omega
       ·intro r hr
        simp only at hr
        split at hr
        ·simp at hr;subst hr;exact pcut_ok hp.1 hn1
        ·simp at hr
       ·intro r hr
        simp only at hr
        split at hr
        ·simp at hr;subst hr;exact pcut_ok hq.1 hn2
        ·simp at hr
       ·simp only;split<;>simp
       ·simp only;split<;>simp
noncomputable def xfK : Nat→List Part→List Part→List Part × List Part
 | 0,_,_=>([],[])
 | k + 1,x,y=>match tstep x y with
   | none=>([],[])
   | some r=>(r.1.1 ++ (xfK k r.2.1 r.2.2).1,r.1.2 ++ (xfK k r.2.1 r.2.2).2)
noncomputable def xf (x y : List Part) : List Part × List Part:=xfK (tsz x + tsz y) x y
theorem xfK_eq : ∀ (k m : Nat) {x y : List Part},TInv x y→tsz x + tsz y≤k→tsz x + tsz y≤m→xfK k x y = xfK m x y
 | 0,0,_,_,_,_,_=>rfl
 | k + 1,0,x,y,hi,h,h2=>by
   rw [xfK,xfK]
   cases hs : tstep x y with
   | none=>rfl
   | some r=>have:=(tstep_next hi hs).dec;omega
 | 0,m + 1,x,y,hi,h,h2=>by
   rw [xfK,xfK]
   cases hs : tstep x y with
   | none=>rfl
   | some r=>have:=(tstep_next hi hs).dec;omega
 | k + 1,m + 1,x,y,hi,h,h2=>by
   rw [xfK,xfK]
   cases hs : tstep x y with
   | none=>rfl
   | some r=>
     have hn:=tstep_next hi hs;have:=hn.dec;simp only;rw [xfK_eq k m hn.inv (by omega) (by omega)]
theorem xf_none {x y : List Part} (h : tstep x y = none) : xf x y = ([],[]):=by
 unfold xf
 cases tsz x + tsz y with
 | zero=>rfl
 | succ k=>rw [xfK,h]
theorem xf_some {x y : List Part} (hi : TInv x y) {r : XR} (h : tstep x y = some r) : xf x y = (r.1.1 ++ (xf r.2.1 r.2.2).1,r.1.2 ++ (xf r.2.1 r.2.2).2):=by
 have hn:=tstep_next hi h;have hd:=hn.dec;unfold xf;obtain ⟨k,hk⟩ : ∃ k,tsz x + tsz y = k + 1:=⟨tsz x + tsz y - 1,by omega⟩;rw [hk,xfK,h];simp only;rw [xfK_eq k (tsz r.2.1 + tsz r.2.2) hn.inv (by omega) (by omega)]
theorem frs_sum : ∀ {o : List Part},(∀ p∈o,partOk p)→(frs o : Int) = sumI (fBut 2) o
 | [],_=>rfl
 | p :: o,h=>by
   have ih:=frs_sum (fun q hq=>h q (List.mem_cons_of_mem _ hq));have hp:=psz_int (h p (List.mem_cons_self ..));simp only [frs,sumI,fBut]
   split<;>simp<;>omega
theorem tos_sum : ∀ {o : List Part},(∀ p∈o,partOk p)→(tos o : Int) = sumI (fBut 3) o
 | [],_=>rfl
 | p :: o,h=>by
   have ih:=tos_sum (fun q hq=>h q (List.mem_cons_of_mem _ hq));have hp:=psz_int (h p (List.mem_cons_self ..));simp only [tos,sumI,fBut]
   split<;>simp<;>omega
theorem frs_from {o : List Part} (h : opOk o) : (frs o : Int) = opFrom o:=by
 rw [frs_sum h.1.1,sumI_congr (fun p hp=>but2 (h.1.1 p hp)),sumI_add];unfold opFrom l02Sum;rw [if_pos h.1]
theorem tos_to {o : List Part} (h : opOk o) : (tos o : Int) = opTo o:=by
 rw [tos_sum h.1.1,sumI_congr (fun p hp=>but3 (h.1.1 p hp)),sumI_add];unfold opTo l02Sum;rw [if_pos h.1]
theorem tsz_le : ∀ (o : List Part),tsz o≤frs o + tos o
 | []=>by simp [tsz]
 | p :: o=>by
   have:=tsz_le o;simp only [tsz,frs,tos]
   split<;>split<;>omega
theorem tsz_ok {o : List Part} (h : opOk o) : tsz o≤400:=by
 have h1:=tsz_le o;have h2:=frs_from h;have h3:=tos_to h;have:=h.2;omega
theorem tinv_of {a b : List Part} (ha : opOk a) (hb : opOk b) (h : opFrom a = opFrom b) : TInv a b:=by
 have h2:=frs_from hb;have h3:=frs_from ha;exact ⟨ha.1.1,hb.1.1,by omega⟩
open Classical in
noncomputable def fTransform (a b : List Part) : List Part × List Part × Bool:=
 if opOk a∧opOk b∧opFrom a = opFrom b then (if opOk (normal (xf a b).1)∧opOk (normal (xf a b).2) then (normal (xf a b).1,normal (xf a b).2,true) else ([],[],false)) else ([],[],false)
def cur (o : List Part) (i d : Nat) : List Part:=
 match o.drop i with
 | []=>[]
 | p :: l=>pleft p d :: l
theorem cur_end {o : List Part} {i d : Nat} (h : o.length≤i) : cur o i d = []:=by unfold cur;rw [List.drop_eq_nil_of_le h]
theorem cur_at {o : List Part} {i d : Nat} (h : i < o.length) : cur o i d = pleft o[i] d :: o.drop (i + 1):=by unfold cur;rw [List.drop_eq_getElem_cons h]
theorem cur_zero {o : List Part} {i : Nat} : cur o i 0 = o.drop i:=by
 unfold cur
 cases o.drop i with
 | nil=>rfl
 | cons p l=>simp [pleft_zero]
theorem cur_step {o : List Part} (ho : ∀ p∈o,partOk p) {i : Nat} (h : i < o.length) : nxt (cur o i (psz o[i])) = nxt (cur o (i + 1) 0):=by
 rw [cur_at h,cur_zero];have:=pleft_sz (ho _ (List.getElem_mem h)) (Nat.le_refl _);simp [nxt,this]
theorem cur_stop {o : List Part} (ho : ∀ p∈o,partOk p) {i d : Nat} (h : i < o.length) (hd : d < psz o[i]) : nxt (cur o i d) = cur o i d:=by
 rw [cur_at h];have:=pleft_sz (ho _ (List.getElem_mem h)) (Nat.le_of_lt hd);have h2 : ¬ psz (pleft o[i] d) = 0:=by omega
 simp [nxt,h2]
theorem cur_left {o : List Part} {i d n : Nat} (h : i < o.length) {p : Part} {l : List Part} (hc : cur o i d = p :: l) : pleft p n :: l = cur o i (d + n):=by
 rw [cur_at h] at hc ⊢
 cases hc
 rw [pleft_pleft]
open Go.AM
theorem get_miss {k j : Nat} {o : AObj} {h : AH} (hne : j≠k) : AH.get ((k,o) :: h) j = AH.get h j:=if_neg hne
theorem implSize_c (p : Part) (h : partOk p) : PureC Tryz.prog 343 [.agg p.row] (.one (.c (vi (psz p)) 1)):=by
 refine PureC.intro' tt_ok Tryz.func343 (by kernel_rfl) rfl rfl rfl (Nat.le_of_ble_eq_true rfl) (fun w0 base=>?_);have hp:=psz_int h;have e : Go.IntKind.i64.wrap (p.n + (p.signs.length : Int)) = p.n + p.signs.length:=Go.IntWalk.i64_in _ (by omega);rw [hp.1];simp [Part.row,e]
def hdV : List Part→AV
 | []=>.agg [.v (.int .i64 0),.v (.int .i64 0),.nil]
 | p :: _=>.agg [.v (.int .i64 p.kind),.v (.int .i64 p.n),.ro (p.signs.map intR)]
theorem next_call {w0 : World} {bF bG : Nat→Prop} {bl : Bool} {st : ASt} {dst : Option Nat} {K : ASt→Prop} {kx b kb : Nat} {l : List Part} (hk : kx + 16 < kb) (hs : ∀ p∈l,partOk p)
 (g : st.h.get kx = .vars b 323 [.ro (l.map Part.row)])
 (hK : ∀ h',AH.get h' kx = .vars b 323 [.ro ((nxt l).map Part.row)]→(∀ q,q≠kx→q < kb→AH.get h' q = st.h.get q)→aPut ⟨st.n,st.kb,st.t,h'⟩ dst (hdV (nxt l)) K) :
 ACall ⟨Tryz.prog,tt,w0,⟨bF,bG,bl,fun _=>True⟩⟩ 347 [.p kx b 0] st dst K:=by
 refine ACall.inline tt_ok Tryz.func347 (by kernel_rfl) rfl rfl rfl (Nat.le_of_ble_eq_true rfl) kb (fun w1 F=>?_);simp;intro b2;have hkk : ¬ kx = kb + 32:=by omega
 have hkk2 : ¬ kb + 32 = kx:=by omega
 refine LoopT.introW eok (fun m : List Part=>nxt m = nxt l∧∀ p∈m,p∈l) (fun m=>⟨40,kb,[(0,.p kx b 0),(2,.p (kb + 32) b2 0)],(kx,.vars b 323 [.ro (m.map Part.row)]) :: (kb + 32,.vars b2 234 [.v (.int .i64 0),.v (.int .i64 0),.nil]) :: st.h⟩) (fun m=>m.length) l ⟨rfl,fun _ h=>h⟩ (by simp [hkk,g]) (fun m hm=>?_)
 ·cases m with
  | nil=>
    have hn : nxt l = []:=by rw [← hm.1];rfl
    rw [hn] at hK;simp [hkk2];refine hK _ (by simp [hkk]) (fun q q1 q2=>?_)
    repeat (first | exact rfl | refine (get_miss (by omega)).trans ?_)
  | cons p m=>
    have hp:=hs p (hm.2 p (List.mem_cons_self ..));simp [Part.row];refine ACall.pure (implSize_c p hp) (by simp [Part.row]) ?_;by_cases hz : psz p = 0
    ·simp [hz,hkk,hkk2]
     refine ⟨m,⟨by rw [← hm.1];simp [nxt,hz],fun q hq=>hm.2 q (List.mem_cons_of_mem _ hq)⟩,by omega,?_⟩;simp [cut];exact List.take_of_length_le (by simp)
    ·have hn : nxt l = p :: m:=by rw [← hm.1];simp [nxt,hz]
     rw [hn] at hK;have hm0 : ¬ (m.length : Int) + 1 = 0:=by omega
     simp [hz,hkk2,hm0];refine hK _ ?_ (fun q q1 q2=>?_)
     ·simp [hkk,Part.row]
     repeat (first | exact rfl | refine (get_miss (by omega)).trans ?_)
theorem cut_take (s : List Int) {n : Nat} (_h : n≤s.length) : cut (s.map intR) 0 n = (s.take n).map intR:=by
 unfold cut
 split
 ·rename_i h2
  rw [List.take_of_length_le (by simp at h2;omega)]
 ·simp [List.map_take]
theorem cut_drop (s : List Int) {n : Nat} : cut (s.map intR) n (s.length - n) = (s.drop n).map intR:=by
 unfold cut
 split
 ·rename_i h2
  rw [h2.1];simp
 ·rw [List.take_of_length_le (by simp),List.map_drop]
theorem take_call {w0 : World} {bF bG : Nat→Prop} {bl : Bool} {st : ASt} {dst : Option Nat} {K : ASt→Prop} {kx b n : Nat} {p : Part} {l : List Part} (hk : kx < 15000) (hp : partOk p) (hn : n≤psz p) (hl : l.length≤2 ^ 20)
 (g : st.h.get kx = .vars b 323 [.ro ((p :: l).map Part.row)])
 (hK : ∀ h',AH.get h' kx = .vars b 323 [.ro ((pleft p n :: l).map Part.row)]→(∀ q,q≠kx→q < 15000→AH.get h' q = st.h.get q)→aPut ⟨st.n,st.kb,st.t,h'⟩ dst (hdV [pcut p n]) K) :
 ACall ⟨Tryz.prog,tt,w0,⟨bF,bG,bl,fun _=>True⟩⟩ 349 [.p kx b 0,.v (.int .i64 n)] st dst K:=by
 refine ACall.inlineE tt_ok Tryz.func349 (by kernel_rfl) rfl rfl rfl (Nat.le_of_ble_eq_true rfl) 20000 (fun w1 F=>?_);have hps:=psz_int hp;have hb:=hp.bounds;have k0 : ¬ kx = 20064:=by omega
 have k1 : ¬ kx = 20080:=by omega
 have k2 : ¬ kx = 20096:=by omega
 have k3 : ¬ kx = 20112:=by omega
 have k4 : ¬ kx = 20608:=by omega
 have j0 : ¬ 20064 = kx:=by omega
 have j1 : ¬ 20080 = kx:=by omega
 have j2 : ¬ 20096 = kx:=by omega
 have j3 : ¬ 20112 = kx:=by omega
 have j4 : ¬ 20608 = kx:=by omega
 simp [g,Part.row,k0];intro b4 b5
 refine DrawT.cut (fun x : Nat × Nat=>⟨48,20000,[(0,.p kx b 0),(1,.v (.int .i64 n)),(4,.p 20064 b4 0),(5,.p 20080 b5 0),(6,.p 20096 x.1 0),(7,.p 20112 x.2 0)],
  (20096,.vars x.1 234 [.v (.int .i64 p.kind),.v (.int .i64 p.n),.ro (p.signs.map intR)]) :: (20112,.vars x.2 234 [.v (.int .i64 p.kind),.v (.int .i64 p.n),.ro (p.signs.map intR)]) :: (20080,.vars b5 234 [.v (.int .i64 p.kind),.v (.int .i64 p.n),.ro (p.signs.map intR)]) :: (20064,.vars b4 234 [.v (.int .i64 0),.v (.int .i64 0),.nil]) :: st.h⟩) ?_ ?_
 ·refine DrawT.introP2 eok mix [0,1] 2 3 [4,5] [([false,false],[true,true]),([false,false],[true,true]),([false,true],[true,false]),([true,false],[false,false])] [false,false] [([false,false],[true,true]),([false,false],[true,true]),([false,true],[true,false]),([true,false],[false,false])] [false,false] (by kernel_rfl) ?_
  simp
  trace_state
 rintro ⟨b6,b7⟩
 simp;by_cases hk2 : p.kind = 2
 ·simp [hk2]
  refine DrawT.introP eok mix [0,1,2,3,4,5,6,7,8,10] [9,11] [([false,true,false,false,false,false,true,true,true,true],[true,false,true,true,true,true,false,false,false,false]),([true,false,true,true,true,true,false,false,false,false],[false,false,false,false,false,false,false,false,false,false])] [false,false,false,false,false,false,false,false,false,false] (by kernel_rfl) ?_;have hns : n≤p.signs.length:=by have:=hb.2.2.2.2.1 hk2;omega
  simp [hns];refine DrawT.introP eok mix [0,1,3,4,5,6,7,9,10] [2,8,11] [([false,false,false,false,false,false,false,true,false],[true,true,true,true,true,true,true,false,true]),([false,false,true,false,false,false,false,false,false],[true,true,false,true,true,true,true,false,true]),([true,false,false,true,true,true,true,false,true],[false,true,false,false,false,false,false,false,false])] [false,true,false,false,false,false,false,false,false] (by kernel_rfl) ?_
  have ct : cut ([vi p.kind,vi p.n,CD.s (p.signs.map intR)] :: l.map Part.row) 1 l.length = l.map Part.row:=by
   simp [cut];exact List.take_of_length_le (by simp)
  have hv : hdV [pcut p n] = .agg [.v (.int .i64 2),.v (.int .i64 p.n),.ro ((p.signs.map intR).take n)]:=by simp [hdV,pcut,hk2,List.map_take]
  rw [hv] at hK;simp [g,Part.row,k0,k1,k2,k3,k4,j0,j3,ct,cut_take p.signs hns,cut_drop p.signs];intro b8;refine ⟨by omega,fun H=>⟨_,HEnt.frz (kx:=kx) (b:=b) (T:=323) (cells:=[.sl 20608 H 3 0 (1 + l.length)]) (j:=0) (k:=20608) (sz:=3) (off:=0) (len:=1 + l.length) (H:=H) (rows:=(pleft p n).row :: l.map Part.row) (own:=false) ?_ rfl ?_ (by simp;omega),?_⟩⟩
  ·simp [k0]
  ·simp [j4,Part.row,pleft,hk2]
  ·refine hK _ ?_ (fun q q1 q2=>?_)
   ·simp [cut,Nat.add_comm]
   ·repeat (first | exact rfl | refine (get_miss (by omega)).trans ?_)
 ·simp [hk2]
  refine DrawT.introP eok mix [0,1,2,3,4,5,7] [6,8] [([false,true,false,false,false,false,true],[true,false,true,true,true,true,false]),([true,false,true,true,true,true,false],[false,false,false,false,false,false,false])] [false,false,false,false,false,false,false] (by kernel_rfl) ?_;have e : Go.IntKind.i64.wrap (p.n - (n : Int)) = p.n - n:=Go.IntWalk.i64_in _ (by omega);simp [e]
  refine DrawT.introP eok mix [0,1,3,4,5,6,7,9,10] [2,8,11] [([false,false,false,false,false,false,false,true,false],[true,true,true,true,true,true,true,false,true]),([false,false,true,false,false,false,false,false,false],[true,true,false,true,true,true,true,false,true]),([true,false,false,true,true,true,true,false,true],[false,true,false,false,false,false,false,false,false])] [false,true,false,false,false,false,false,false,false] (by kernel_rfl) ?_
  have ct : cut ([vi p.kind,vi p.n,CD.s (p.signs.map intR)] :: l.map Part.row) 1 l.length = l.map Part.row:=by
   simp [cut];exact List.take_of_length_le (by simp)
  have hv : hdV [pcut p n] = .agg [.v (.int .i64 p.kind),.v (.int .i64 n),.ro (p.signs.map intR)]:=by simp [hdV,pcut,hk2]
  rw [hv] at hK;simp [g,Part.row,k0,k1,k2,k3,k4,j0,j3,ct];intro b8;refine ⟨by omega,fun H=>⟨_,HEnt.frz (kx:=kx) (b:=b) (T:=323) (cells:=[.sl 20608 H 3 0 (1 + l.length)]) (j:=0) (k:=20608) (sz:=3) (off:=0) (len:=1 + l.length) (H:=H) (rows:=(pleft p n).row :: l.map Part.row) (own:=false) ?_ rfl ?_ (by simp;omega),?_⟩⟩
  ·simp [k0]
  ·simp [j4,Part.row,pleft,hk2]
  ·refine hK _ ?_ (fun q q1 q2=>?_)
   ·simp [cut,Nat.add_comm]
   ·repeat (first | exact rfl | refine (get_miss (by omega)).trans ?_)
theorem whole_call {w0 : World} {bF bG : Nat→Prop} {bl : Bool} {st : ASt} {dst : Option Nat} {K : ASt→Prop} {kx b : Nat} {p : Part} {l : List Part} (hk : kx < 14000) (hp : partOk p) (hl : l.length≤2 ^ 20)
 (g : st.h.get kx = .vars b 323 [.ro ((p :: l).map Part.row)])
 (hK : ∀ h',AH.get h' kx = .vars b 323 [.ro ((pleft p (psz p) :: l).map Part.row)]→(∀ q,q≠kx→q < 14000→AH.get h' q = st.h.get q)→aPut ⟨st.n,st.kb,st.t,h'⟩ dst (hdV [p]) K) :
 ACall ⟨Tryz.prog,tt,w0,⟨bF,bG,bl,fun _=>True⟩⟩ 348 [.p kx b 0] st dst K:=by
 refine ACall.inline tt_ok Tryz.func348 (by kernel_rfl) rfl rfl rfl (Nat.le_of_ble_eq_true rfl) 14000 (fun w1 F=>?_);have k0 : ¬ kx = 14032:=by omega
 have j0 : ¬ 14032 = kx:=by omega
 simp [g,Part.row,k0];intro b2;refine ACall.pure (implSize_c p hp) (by simp [Part.row]) ?_;simp;refine take_call (n:=psz p) (by omega) hp (Nat.le_refl _) hl (by simp [k0,g]) (fun h' g1 g2=>?_);have e:=g2 14032 j0 (by omega);simp at e;simp [hdV,e];rw [pcut_whole hp];refine hK _ (by simp [g1,k0]) (fun q q1 q2=>?_);have hq : ¬ q = 14032:=by omega
 simp [hq,g2 q q1 (by omega)]
structure RS (kx ky bx by_ : Nat) (h0 h : AH) (X Y : List Part) : Prop where
 ne : kx≠ky
 lx : kx < 14000 - 16
 ly : ky < 14000 - 16
 gx : AH.get h kx = .vars bx 323 [.ro (X.map Part.row)]
 gy : AH.get h ky = .vars by_ 323 [.ro (Y.map Part.row)]
 o : ∀ q,q≠kx→q≠ky→q < 14000→AH.get h q = AH.get h0 q
theorem RS.swap {kx ky bx by_ : Nat} {h0 h : AH} {X Y : List Part} (R : RS kx ky bx by_ h0 h X Y) : RS ky kx by_ bx h0 h Y X:=⟨R.ne.symm,R.ly,R.lx,R.gy,R.gx,fun q h1 h2=>R.o q h2 h1⟩
section
variable {w0 : World} {bF bG : Nat→Prop} {bl : Bool} {st : ASt} {dst : Option Nat} {K : ASt→Prop} {kx ky bx by_ : Nat} {h0 : AH} {X Y : List Part}
theorem RS.next (R : RS kx ky bx by_ h0 st.h X Y) (hs : ∀ p∈X,partOk p) (hK : ∀ h',RS kx ky bx by_ h0 h' (nxt X) Y→aPut ⟨st.n,st.kb,st.t,h'⟩ dst (hdV (nxt X)) K) :
 ACall ⟨Tryz.prog,tt,w0,⟨bF,bG,bl,fun _=>True⟩⟩ 347 [.p kx bx 0] st dst K:=by
 have:=R.lx;have:=R.ly;refine next_call (l:=X) (kb:=20000) (by omega) hs R.gx (fun h1 g1 o1=>hK h1 ⟨R.ne,R.lx,R.ly,g1,by rw [o1 ky R.ne.symm (by omega)];exact R.gy,fun q q1 q2 q3=>by rw [o1 q q1 (by omega)];exact R.o q q1 q2 q3⟩)
theorem RS.take {p : Part} {l : List Part} {n : Nat} (R : RS kx ky bx by_ h0 st.h (p :: l) Y) (hp : partOk p) (hn : n≤psz p) (hl : l.length≤2 ^ 20) (hK : ∀ h',RS kx ky bx by_ h0 h' (pleft p n :: l) Y→aPut ⟨st.n,st.kb,st.t,h'⟩ dst (hdV [pcut p n]) K) :
 ACall ⟨Tryz.prog,tt,w0,⟨bF,bG,bl,fun _=>True⟩⟩ 349 [.p kx bx 0,.v (.int .i64 n)] st dst K:=by
 have:=R.lx;have:=R.ly;refine take_call (by omega) hp hn hl R.gx (fun h1 g1 o1=>hK h1 ⟨R.ne,R.lx,R.ly,g1,by rw [o1 ky R.ne.symm (by omega)];exact R.gy,fun q q1 q2 q3=>by rw [o1 q q1 (by omega)];exact R.o q q1 q2 q3⟩)
theorem RS.whole {p : Part} {l : List Part} (R : RS kx ky bx by_ h0 st.h (p :: l) Y) (hp : partOk p) (hl : l.length≤2 ^ 20) (hK : ∀ h',RS kx ky bx by_ h0 h' (pleft p (psz p) :: l) Y→aPut ⟨st.n,st.kb,st.t,h'⟩ dst (hdV [p]) K) :
 ACall ⟨Tryz.prog,tt,w0,⟨bF,bG,bl,fun _=>True⟩⟩ 348 [.p kx bx 0] st dst K:=by
 have:=R.lx;have:=R.ly;refine whole_call (by omega) hp hl R.gx (fun h1 g1 o1=>hK h1 ⟨R.ne,R.lx,R.ly,g1,by rw [o1 ky R.ne.symm (by omega)];exact R.gy,fun q q1 q2 q3=>by rw [o1 q q1 (by omega)];exact R.o q q1 q2 q3⟩)
end
theorem hdV_nil : hdV [] = .agg [.v (.int .i64 0),.v (.int .i64 0),.nil]:=rfl
theorem hdV_cons {p : Part} {l : List Part} : hdV (p :: l) = .agg [.v (.int .i64 p.kind),.v (.int .i64 p.n),.ro (p.signs.map intR)]:=rfl
open Go.AM
set_option maxRecDepth 20000
set_option maxHeartbeats 1600000
theorem l04Size_c (p : Part) (h : partOk p) : PureC Tryz.prog 354 [.agg p.row] (.one (.c (vi (psz p)) 1)):=by
 refine PureC.intro' tt_ok Tryz.func354 (by kernel_rfl) rfl rfl rfl (Nat.le_of_ble_eq_true rfl) (fun w0 base=>?_);have hp:=psz_int h;have hb:=h.bounds;rw [hp.1];simp [Part.row];by_cases hk : p.kind = 2
 ·have:=hb.2.2.2.2.1 hk
  simp [hk,this]
 ·have:=hb.2.2.2.2.2 hk
  simp [hk,this]
structure Cu (a : List Part) (i d : Nat) (X : List Part) : Prop where
 ok : ∀ p∈a,partOk p
 le : i≤a.length
 v : ∀ h : i < a.length,d≤psz a[i]
 z : i = a.length→d = 0
 c : cur a i d = X
def hdK : List Part→Int
 | []=>0
 | p :: _=>p.kind
structure CR (kx ky bx by_ : Nat) (h0 h : AH) (a b : List Part) (i d j e : Nat) (X Y : List Part) : Prop where
 ne : kx≠ky
 lx : kx < 14000 - 16
 ly : ky < 14000 - 16
 gx : AH.get h kx = .vars bx 328 [.ro (a.map Part.row),.v (.int .i64 i),.v (.int .i64 d)]
 gy : AH.get h ky = .vars by_ 328 [.ro (b.map Part.row),.v (.int .i64 j),.v (.int .i64 e)]
 o : ∀ q,q≠kx→q≠ky→q < 14000→AH.get h q = AH.get h0 q
 cx : Cu a i d X
 cy : Cu b j e Y
theorem CR.swap {kx ky bx by_ : Nat} {h0 h : AH} {a b : List Part} {i d j e : Nat} {X Y : List Part} (R : CR kx ky bx by_ h0 h a b i d j e X Y) : CR ky kx by_ bx h0 h b a j e i d Y X:=⟨R.ne.symm,R.ly,R.lx,R.gy,R.gx,fun q h1 h2=>R.o q h2 h1,R.cy,R.cx⟩
theorem Cu.bnd {a : List Part} {i d : Nat} {X : List Part} (h : Cu a i d X) : d≤200:=by
 by_cases hlt : i < a.length
 ·have:=h.v hlt
  have:=(psz_int (h.ok _ (List.getElem_mem hlt))).2;omega
 ·have:=h.z (by have:=h.le;omega)
  omega
theorem kind_call {w0 : World} {bF bG : Nat→Prop} {bl : Bool} {st : ASt} {dst : Option Nat} {K : ASt→Prop} {kx b i d : Nat} {a X : List Part} (_hk : kx < 14000) (hl : a.length≤2 ^ 20) (cx : Cu a i d X)
 (g : st.h.get kx = .vars b 328 [.ro (a.map Part.row),.v (.int .i64 i),.v (.int .i64 d)])
 (hK : ∀ h' i' d',Cu a i' d' (nxt X)→AH.get h' kx = .vars b 328 [.ro (a.map Part.row),.v (.int .i64 i'),.v (.int .i64 d')]→(∀ q,q≠kx→q < 20000→AH.get h' q = st.h.get q)→aPut ⟨st.n,st.kb,st.t,h'⟩ dst (.v (.int .i64 (hdK (nxt X)))) K) :
 ACall ⟨Tryz.prog,tt,w0,⟨bF,bG,bl,fun _=>True⟩⟩ 350 [.p kx b 0] st dst K:=by
 refine ACall.inline tt_ok Tryz.func350 (by kernel_rfl) rfl rfl rfl (Nat.le_of_ble_eq_true rfl) 20000 (fun w1 F=>?_);simp;refine LoopT.introW eok (fun x : Nat × Nat=>Cu a x.1 x.2 (cur a x.1 x.2)∧nxt (cur a x.1 x.2) = nxt X) (fun x=>⟨62,20000,[(0,.p kx b 0),(2,.v (.int .i64 0))],(kx,.vars b 328 [.ro (a.map Part.row),.v (.int .i64 x.1),.v (.int .i64 x.2)]) :: st.h⟩) (fun x=>a.length - x.1) (i,d) ⟨⟨cx.ok,cx.le,cx.v,cx.z,rfl⟩,by rw [cx.c]⟩ (by simp [g]) (fun x hx=>?_);obtain ⟨i,d⟩:=x;obtain ⟨hc,hn⟩:=hx;have hcl:=hc.le;have hb:=hc.bnd;simp only at hc hn hcl ⊢;simp;by_cases hlt : i < a.length
 ·have hp:=hc.ok _ (List.getElem_mem hlt)
  have hd:=hc.v hlt;have hps:=psz_int hp;refine DrawT.quiet eok mix (by kernel_rfl) ?_;simp [hlt];refine ⟨_,_,l04Size_c a[i] hp,by simp [Part.row],?_⟩;by_cases he : d = psz a[i]
  ·have e1 : Go.IntKind.i64.wrap ((i : Int) + 1) = ((i + 1 : Nat) : Int):=i64_suc (by omega)
   simp [he,e1];refine ⟨i + 1,0,⟨⟨hc.ok,by omega,fun _=>by omega,fun _=>rfl,rfl⟩,?_⟩,by omega,by omega,rfl⟩;rw [← hn,he,cur_step hc.ok hlt]
  ·have he2 : ¬ (d : Int) = psz a[i]:=by omega
   have hne : ¬ i = a.length:=by omega
   simp [he2];refine DrawT.quiet eok mix (by kernel_rfl) ?_;have hne2 : ¬ (i : Int) = a.length:=by omega
   simp [hne2];refine DrawT.quiet eok mix (by kernel_rfl) ?_;simp [hlt,Part.row];have hs:=cur_stop hc.ok hlt (show d < psz a[i] by omega);rw [hs] at hn;have hk2 : hdK (nxt X) = a[i].kind:=by rw [← hn,cur_at hlt];simp [hdK]
   rw [hk2] at hK;refine hK _ i d ⟨hc.ok,hc.le,hc.v,hc.z,hn⟩ (by simp) (fun q q1 q2=>by simp [q1])
 ·have hi : i = a.length:=by omega
  have hd:=hc.z hi;refine DrawT.quiet eok mix (by kernel_rfl) ?_;simp [hlt];refine DrawT.quiet eok mix (by kernel_rfl) ?_;simp [hi];have hn2 : nxt X = []:=by rw [← hn,cur_end (by omega)];rfl
  rw [hn2] at hK;refine hK _ i d ⟨hc.ok,hc.le,hc.v,hc.z,cur_end (by omega)⟩ (by simp [hi]) (fun q q1 q2=>by simp [q1])
theorem Cu.head {a : List Part} {i d : Nat} {p : Part} {l : List Part} (h : Cu a i d (p :: l)) : ∃ hi : i < a.length,p = pleft a[i] d∧l = a.drop (i + 1)∧psz p = psz a[i] - d∧d≤psz a[i]∧p.kind = a[i].kind∧partOk p:=by
 have hi : i < a.length:=by
  have:=h.le;rcases Nat.lt_or_ge i a.length with h1 | h1
  ·exact h1
  ·have:=h.c
   rw [cur_end h1] at this
   cases this
 have hc:=h.c;rw [cur_at hi] at hc
 cases hc
 have hp:=h.ok _ (List.getElem_mem hi);exact ⟨hi,rfl,rfl,pleft_sz hp (h.v hi),h.v hi,by simp,pleft_ok hp (h.v hi)⟩
theorem Cu.add {a : List Part} {i d n : Nat} {p : Part} {l : List Part} (h : Cu a i d (p :: l)) (hn : n≤psz p) : Cu a i (d + n) (pleft p n :: l):=by
 obtain ⟨hi,h1,h2,h3,h4,-,-⟩:=h.head;exact ⟨h.ok,h.le,fun _=>by omega,fun he=>by omega,(cur_left hi h.c).symm⟩
theorem left_call {w0 : World} {bF bG : Nat→Prop} {bl : Bool} {st : ASt} {dst : Option Nat} {K : ASt→Prop} {kx b i d : Nat} {a l : List Part} {p : Part} (cx : Cu a i d (p :: l))
 (g : st.h.get kx = .vars b 328 [.ro (a.map Part.row),.v (.int .i64 i),.v (.int .i64 d)])
 (hK : aPut st dst (.v (.int .i64 (psz p))) K) :
 ACall ⟨Tryz.prog,tt,w0,⟨bF,bG,bl,fun _=>True⟩⟩ 351 [.p kx b 0] st dst K:=by
 refine ACall.inline tt_ok Tryz.func351 (by kernel_rfl) rfl rfl rfl (Nat.le_of_ble_eq_true rfl) 20000 (fun w1 F=>?_);obtain ⟨hi,h1,h2,h3,h4,-,-⟩:=cx.head;have hp:=cx.ok _ (List.getElem_mem hi);have hps:=psz_int hp;simp;refine DrawT.quiet eok mix (by kernel_rfl) ?_;simp [g,hi];refine ⟨_,_,l04Size_c a[i] hp,by simp [Part.row],?_⟩;have e : Go.IntKind.i64.wrap ((psz a[i] : Int) - (d : Int)) = (psz p : Int):=by rw [Go.IntWalk.i64_in _ (by omega)];omega
 simp [e];exact hK
theorem curTake_call {w0 : World} {bF bG : Nat→Prop} {bl : Bool} {st : ASt} {dst : Option Nat} {K : ASt→Prop} {kx b i d n : Nat} {a l : List Part} {p : Part} (_hk : kx < 14000) (cx : Cu a i d (p :: l)) (hk2 : p.kind = 2) (hn : n≤psz p)
 (g : st.h.get kx = .vars b 328 [.ro (a.map Part.row),.v (.int .i64 i),.v (.int .i64 d)])
 (hK : ∀ h',Cu a i (d + n) (pleft p n :: l)→AH.get h' kx = .vars b 328 [.ro (a.map Part.row),.v (.int .i64 i),.v (.int .i64 ((d + n : Nat) : Int))]→(∀ q,q≠kx→q < 20000→AH.get h' q = st.h.get q)→aPut ⟨st.n,st.kb,st.t,h'⟩ dst (.ro ((p.signs.take n).map intR)) K) :
 ACall ⟨Tryz.prog,tt,w0,⟨bF,bG,bl,fun _=>True⟩⟩ 352 [.p kx b 0,.v (.int .i64 n)] st dst K:=by
 refine ACall.inline tt_ok Tryz.func352 (by kernel_rfl) rfl rfl rfl (Nat.le_of_ble_eq_true rfl) 20000 (fun w1 F=>?_);obtain ⟨hi,h1,h2,h3,h4,h5,-⟩:=cx.head;have hp:=cx.ok _ (List.getElem_mem hi);have hps:=psz_int hp;have hkk : a[i].kind = 2:=by rw [← h5];exact hk2
 have hn0:=hp.bounds.2.2.2.2.1 hkk;have hsz : psz a[i] = a[i].signs.length:=by omega
 have hs : p.signs = a[i].signs.drop d:=by rw [h1];simp [pleft,hkk]
 have e : Go.IntKind.i64.wrap ((d : Int) + (n : Int)) = ((d + n : Nat) : Int):=by rw [Go.IntWalk.i64_in _ (by omega)];omega
 have hle : d + n≤a[i].signs.length:=by omega
 have hv : cut (a[i].signs.map intR) d n = (p.signs.take n).map intR:=by
  unfold cut
  split
  ·rename_i hh
   rw [hs,hh.1];simp at hh;simp [hh.2]
  ·rw [hs,List.map_take,List.map_drop]
 obtain ⟨m,hm⟩ : ∃ m,d + n = m:=⟨_,rfl⟩;have e2 : m - d = n:=by omega
 have hadd:=cx.add hn;rw [hm] at e hle hK hadd;simp;refine DrawT.quiet eok mix (by kernel_rfl) ?_;simp [g,hi,Part.row,e,e2,hv];simp only [List.map_take] at hK;refine ⟨hle,by omega,hK _ hadd ?_ (fun q q1 q2=>?_)⟩
 ·simp
 ·simp [q1]
theorem l04Min_c (x y : Nat) : PureC Tryz.prog 353 [.c (vi x),.c (vi y)] (.one (.c (vi ((min x y : Nat) : Int)) 1)):=by
 refine PureC.intro' tt_ok Tryz.func353 (by kernel_rfl) rfl rfl rfl (Nat.le_of_ble_eq_true rfl) (fun w0 base=>?_);simp;by_cases h : x < y
 ·have : min x y = x:=by omega
  simp [h,this]
 ·have : min x y = y:=by omega
  simp [h,this]
section
variable {w0 : World} {bF bG : Nat→Prop} {bl : Bool} {st : ASt} {dst : Option Nat} {K : ASt→Prop} {kx ky bx by_ i d j e : Nat} {h0 : AH} {a b X Y : List Part}
theorem CR.kind (R : CR kx ky bx by_ h0 st.h a b i d j e X Y) (hl : a.length≤2 ^ 20) (hK : ∀ h' i' d',CR kx ky bx by_ h0 h' a b i' d' j e (nxt X) Y→aPut ⟨st.n,st.kb,st.t,h'⟩ dst (.v (.int .i64 (hdK (nxt X)))) K) :
 ACall ⟨Tryz.prog,tt,w0,⟨bF,bG,bl,fun _=>True⟩⟩ 350 [.p kx bx 0] st dst K:=by
 have:=R.lx;have:=R.ly;refine kind_call (by omega) hl R.cx R.gx (fun h1 i1 d1 c1 g1 o1=>hK h1 i1 d1 ⟨R.ne,R.lx,R.ly,g1,by rw [o1 ky R.ne.symm (by omega)];exact R.gy,fun q q1 q2 q3=>by rw [o1 q q1 (by omega)];exact R.o q q1 q2 q3,c1,R.cy⟩)
theorem CR.left {p : Part} {l : List Part} (R : CR kx ky bx by_ h0 st.h a b i d j e (p :: l) Y) (hK : aPut st dst (.v (.int .i64 (psz p))) K) :
 ACall ⟨Tryz.prog,tt,w0,⟨bF,bG,bl,fun _=>True⟩⟩ 351 [.p kx bx 0] st dst K:=left_call R.cx R.gx hK
theorem CR.take {p : Part} {l : List Part} {n : Nat} (R : CR kx ky bx by_ h0 st.h a b i d j e (p :: l) Y) (hk2 : p.kind = 2) (hn : n≤psz p) (hK : ∀ h',CR kx ky bx by_ h0 h' a b i (d + n) j e (pleft p n :: l) Y→aPut ⟨st.n,st.kb,st.t,h'⟩ dst (.ro ((p.signs.take n).map intR)) K) :
 ACall ⟨Tryz.prog,tt,w0,⟨bF,bG,bl,fun _=>True⟩⟩ 352 [.p kx bx 0,.v (.int .i64 n)] st dst K:=by
 have:=R.lx;have:=R.ly;refine curTake_call (by omega) R.cx hk2 hn R.gx (fun h1 c1 g1 o1=>hK h1 ⟨R.ne,R.lx,R.ly,g1,by rw [o1 ky R.ne.symm (by omega)];exact R.gy,fun q q1 q2 q3=>by rw [o1 q q1 (by omega)];exact R.o q q1 q2 q3,c1,R.cy⟩)
theorem CR.rebase (R : CR kx ky bx by_ h0 st.h a b i d j e X Y) {h' : AH} (hx : AH.get h' kx = AH.get st.h kx) (hy : AH.get h' ky = AH.get st.h ky) : CR kx ky bx by_ h' h' a b i d j e X Y:=
 ⟨R.ne,R.lx,R.ly,hx.trans R.gx,hy.trans R.gy,fun _ _ _ _=>rfl,R.cx,R.cy⟩
theorem CR.done {p : Part} {l : List Part} {n : Nat} (R : CR kx ky bx by_ h0 st.h a b i d j e (p :: l) Y) (hn : n≤psz p) : CR kx ky bx by_ ((kx,.vars bx 328 [.ro (a.map Part.row),.v (.int .i64 i),.v (.int .i64 ((d + n : Nat) : Int))]) :: st.h) ((kx,.vars bx 328 [.ro (a.map Part.row),.v (.int .i64 i),.v (.int .i64 ((d + n : Nat) : Int))]) :: st.h) a b i (d + n) j e (pleft p n :: l) Y:=
 ⟨R.ne,R.lx,R.ly,by simp,by rw [get_cons,if_neg R.ne.symm];exact R.gy,fun _ _ _ _=>rfl,R.cx.add hn,R.cy⟩
end
open Go.AM
set_option maxRecDepth 20000
set_option maxHeartbeats 1600000
theorem nbRun_snoc (L : List Part) (p : Part) : nbRun (L ++ [p]) = nbStep (nbRun L) p:=by simp [nbRun,List.foldl_append]
theorem nbRun_all {L : List Part} (h : ∀ p∈L,partOk p) : NbOk L.length (nbRun L):=by
 have:=nbRun_ok h L.length (Nat.le_refl _)
 rwa [List.take_length] at this
def headRev (d : Doc) : Int:=Go.IntKind.i64.wrap (d.fr + d.list.length)
theorem copyInts_c (l : List Int) (hl : l.length≤2 ^ 40) : PureC Tryz.prog 136 [.c (.s (l.map intR))] (.one (.c (.s (l.map intR)) 1)):=by
 refine PureC.intro' tt_ok Tryz.func136 (by kernel_rfl) rfl rfl rfl (Nat.le_of_ble_eq_true rfl) (fun w0 base=>?_);simp;omega
theorem take_snoc {α β : Type} {f : α→β} {l : List α} {i : Nat} (h : i < l.length) : List.take i (l.map f) ++ [f l[i]] = List.take (i + 1) (l.map f):=by
 rw [List.take_add_one];simp [h]
theorem copyOp_c (o : List Part) (hl : nL nPart o≤2 ^ 30) : PureC Tryz.prog 186 [.c (.s (o.map Part.row))] (.one (.c (.s (o.map Part.row)) 3)):=by
 refine PureC.intro' tt_ok Tryz.func186 (by kernel_rfl) rfl rfl rfl (Nat.le_of_ble_eq_true rfl) (fun w0 base=>?_);have hle:=nL_len hl;simp;refine LoopT.intro eok (fun x : Nat × Hd=>x.1≤o.length) (fun x=>⟨22,0,[(8,.v (.int .i64 x.1)),(7,.v (.int .i64 o.length)),(6,.ro (o.map Part.row)),(3,.sl 304 x.2 3 0 x.1)],[(304,.rows x.2 3 ((o.take x.1).map Part.row) true)]⟩) (fun x=>o.length - x.1) (0,none) (by simp) (by simp) (fun x hi=>?_);obtain ⟨i,H⟩:=x;simp only at hi ⊢;by_cases h : i < o.length
 ·have e : Go.IntKind.i64.wrap ((i : Int) + 1) = ((i + 1 : Nat) : Int):=i64_suc (by omega)
  have hm : min i o.length = i:=by omega
  have hs:=nL_at hl h;simp [h,Part.row];intro b5;refine ACall.pure (copyInts_c o[i].signs (by unfold nPart at hs;omega)) (by simp) ?_;simp [hm];exact ⟨by omega,fun H3=>⟨i + 1,by omega,by omega,H3,⟨e,rfl,rfl⟩,rfl,take_snoc (f:=Part.row) h⟩⟩
 ·have : i = o.length:=by omega
  subst this;simp [cut]
theorem l02Copy_c (o : List Part) (hl : nL nPart o≤2 ^ 30) : PureC Tryz.prog 263 [.c (.s (o.map Part.row))] (.one (.c (.s (o.map Part.row)) 3)):=by
 refine PureC.intro' tt_ok Tryz.func263 (by kernel_rfl) rfl rfl rfl (Nat.le_of_ble_eq_true rfl) (fun w0 base=>?_);have hle:=nL_len hl;simp;intro b;refine LoopT.intro eok (fun x : Nat × Hd=>x.1≤o.length) (fun x=>⟨27,0,[(9,.v (.int .i64 x.1)),(8,.v (.int .i64 o.length)),(7,.ro (o.map Part.row)),(3,.sl 96 x.2 3 0 x.1)],[(96,.rows x.2 3 ((o.take x.1).map Part.row) true)]⟩) (fun x=>o.length - x.1) (0,some (b,0,0)) (by simp) (by simp) (fun x hi=>?_);obtain ⟨i,H⟩:=x;simp only at hi ⊢;by_cases h : i < o.length
 ·have e : Go.IntKind.i64.wrap ((i : Int) + 1) = ((i + 1 : Nat) : Int):=i64_suc (by omega)
  have hm : min i o.length = i:=by omega
  have hs:=nL_at hl h;unfold nPart at hs;simp [h,Part.row];intro b5;refine DrawT.introP eok mix [0,1,2,3,4,6,7] [5,8,9,10,11,12] [([false,false,false,false,false,false,false],[true,true,true,true,true,true,true]),([true,false,false,false,false,false,false],[false,true,true,true,true,true,true]),([false,false,true,false,true,false,false],[false,true,false,true,false,true,true]),([false,false,false,false,false,false,false],[false,true,false,true,false,true,true]),([false,false,false,false,false,false,true],[false,true,false,true,false,true,false]),([false,true,false,true,false,true,false],[false,false,false,false,false,false,false])] [false,false,false,false,false,false,false] (by kernel_rfl) ?_;simp [hm]
  exact ⟨by omega,by omega,fun H3=>⟨i + 1,by omega,by omega,H3,⟨e,rfl,rfl⟩,rfl,take_snoc (f:=Part.row) h⟩⟩
 ·have : i = o.length:=by omega
  subst this;simp [cut]
def Call.zero : Call:=⟨0,⟨#[]⟩,0,0,0,[],[]⟩
theorem Call.zero_n : nCall Call.zero = 0:=rfl
def apStep (t : List Int) (s : List Int × Int) (p : Part) : List Int × Int:=
 if p.kind = 1 then (s.1 ++ (t.drop s.2.toNat).take p.n.toNat,s.2 + p.n) else if p.kind = 2 then (s.1 ++ p.signs,s.2) else (s.1,s.2 + p.n)
def apRun (o : List Part) (t : List Int) : List Int × Int:=o.foldl (apStep t) ([],0)
theorem apRun_suc {o : List Part} {t : List Int} {i : Nat} (h : i < o.length) : apRun (o.take (i + 1)) t = apStep t (apRun (o.take i) t) o[i]:=by
 unfold apRun;rw [← List.take_append_getElem h,List.foldl_append];rfl
def fits3 (o : List Part) (t : List Int) : Prop:=opOk o∧textOk t∧opFrom o = t.length
open Classical in
noncomputable def apply (o : List Part) (t : List Int) : List Int × Bool:=if fits3 o t then ((apRun o t).1,true) else ([],false)
theorem apRun_at {o : List Part} {t : List Int} (ho : ∀ p∈o,partOk p) : ∀ (i : Nat),i≤o.length→(apRun (o.take i) t).2 = sumI fK (o.take i) + sumI fD (o.take i)∧(apRun (o.take i) t).1.length≤200 * i
 | 0,_=>by simp [apRun,sumI]
 | i + 1,hi=>by
   have hlt : i < o.length:=by omega
   obtain ⟨h1,h2⟩:=apRun_at ho i (by omega);have hb:=(ho _ (List.getElem_mem hlt)).bounds;rw [apRun_suc hlt,sumI_suc hlt,sumI_suc hlt];generalize apRun (o.take i) t = s at h1 h2;obtain ⟨L,a⟩:=s;simp only at h1 h2;generalize sumI fK (o.take i) = x1 at h1 ⊢;generalize sumI fD (o.take i) = x2 at h1 ⊢;unfold apStep fK fD;by_cases k1 : o[i].kind = 1
   ·simp [k1]
    omega
   ·by_cases k2 : o[i].kind = 2
    ·simp [k2];omega
    ·simp [k1,k2];omega
theorem sumI_take_le {f : Part→Int} (hf : ∀ p,partOk p→0≤f p) : ∀ {o : List Part} (_ : ∀ p∈o,partOk p) (i : Nat),sumI f (o.take i)≤sumI f o
 | [],_,i=>by simp
 | p :: o,ho,0=>by
   have h1:=hf p (ho p (List.mem_cons_self ..));have h2:=sumI_take_le hf (o:=o) (fun q hq=>ho q (List.mem_cons_of_mem _ hq)) 0;simp only [List.take_zero,sumI] at h2 ⊢;omega
 | p :: o,ho,i + 1=>by
   have h2:=sumI_take_le hf (o:=o) (fun q hq=>ho q (List.mem_cons_of_mem _ hq)) i;simp only [List.take_succ_cons,sumI];omega
theorem apRun_in {o : List Part} {t : List Int} (h : fits3 o t) {i : Nat} (hi : i < o.length) : 0≤(apRun (o.take i) t).2∧(o[i].kind≠2→(apRun (o.take i) t).2 + o[i].n≤t.length)∧(apRun (o.take i) t).2≤t.length:=by
 have ho:=h.1.1.1;have h1:=(apRun_at (t:=t) ho i (by omega)).1;have hf : opFrom o = sumI fK o + sumI fD o:=by unfold opFrom l02Sum;rw [if_pos h.1.1]
 have h2:=sumI_take_le (fun p hp=>(fK_b hp).1) ho (i + 1);have h3:=sumI_take_le (fun p hp=>(fD_b hp).1) ho (i + 1);have h4:=sumI_bound (f:=fK) (fun p h=>fK_b h) (take_ok ho i);have h5:=sumI_bound (f:=fD) (fun p h=>fD_b h) (take_ok ho i);have h6:=sumI_suc (f:=fK) hi;have h7:=sumI_suc (f:=fD) hi;have h8:=h.2.2;have hb:=(ho _ (List.getElem_mem hi)).bounds;have k1:=fK_b (ho _ (List.getElem_mem hi));have k2:=fD_b (ho _ (List.getElem_mem hi));refine ⟨by omega,fun hk=>?_,by omega⟩
 have : fK o[i] + fD o[i] = o[i].n:=by
  unfold fK fD;by_cases c1 : o[i].kind = 1
  ·simp [c1]
  ·simp [c1,hk]
 omega
theorem implApply_c (o : List Part) (t : List Int) (hl : nL nPart o≤2 ^ 40) (ht : t.length≤2 ^ 40) : PureC Tryz.prog 292 [.c (.s (o.map Part.row)),.c (.s (t.map intR))] (.tup [.c (.s ((apply o t).1.map intR)) 1,.c (.v (.bool (apply o t).2)) 1]):=by
 refine PureC.intro' tt_ok Tryz.func292 (by kernel_rfl) rfl rfl rfl (Nat.le_of_ble_eq_true rfl) (fun w0 base=>?_);simp;have no : ¬ fits3 o t→apply o t = ([],false):=fun h=>by unfold apply;rw [if_neg h]
 refine ACall.pure (implOpOk_c o hl) (by simp) ?_;by_cases c1 : opOk o
 rotate_left
 ·have e : dc (opOk o) = false:=by rw [dc_no];exact c1
  simp [e,no (fun h=>c1 h.1)]
 simp [c1];refine ACall.pure (implTextOk_c t ht) (by simp) ?_;by_cases c2 : textOk t
 rotate_left
 ·have e : dc (textOk t) = false:=by rw [dc_no];exact c2
  simp [e,no (fun h=>c2 h.2.1)]
 simp [c2];refine ACall.pure (implOpFrom_c o hl) (by simp) ?_;by_cases c3 : opFrom o = t.length
 rotate_left
 ·simp [c3,no (fun h=>c3 h.2.2)]
 have hf : fits3 o t:=⟨c1,c2,c3⟩;have e : apply o t = ((apRun o t).1,true):=by unfold apply;rw [if_pos hf]
 have ho:=c1.1.1;have hlen:=c1.1.2;simp [c3,e];refine LoopT.intro eok (fun x : Nat × Hd=>x.1≤o.length) (fun x=>⟨60,0,[(27,.v (.int .i64 x.1)),(26,.v (.int .i64 o.length)),(25,.ro (o.map Part.row)),(7,.v (.int .i64 (apRun (o.take x.1) t).2)),(6,.sl 752 x.2 1 0 (apRun (o.take x.1) t).1.length),(1,.ro (t.map intR))],[(752,.rows x.2 1 ((apRun (o.take x.1) t).1.map intR) true)]⟩) (fun x=>o.length - x.1) (0,none) (by simp) (by simp [apRun]) (fun x hi=>?_);obtain ⟨i,H⟩:=x;simp only at hi ⊢;by_cases h : i < o.length
 ·have hin:=apRun_in hf h
  have hat:=apRun_at (t:=t) ho i hi;have hb:=(ho _ (List.getElem_mem h)).bounds;have hs:=apRun_suc (t:=t) h;generalize apRun (o.take i) t = s at hin hat hs;obtain ⟨L,a⟩:=s;simp only at hin hat hs;obtain ⟨a',rfl⟩ : ∃ a' : Nat,a = a':=⟨a.toNat,by omega⟩;obtain ⟨n,hn⟩ : ∃ n : Nat,o[i].n = n:=⟨o[i].n.toNat,by omega⟩;have e : Go.IntKind.i64.wrap ((i : Int) + 1) = ((i + 1 : Nat) : Int):=i64_suc (by omega);have ea : Go.IntKind.i64.wrap ((a' : Int) + n) = (a' : Int) + n:=Go.IntWalk.i64_in _ (by omega);rw [hn] at hin;simp [h,Part.row];intro b9;by_cases k1 : o[i].kind = 1
  ·have hle : a' + n≤t.length:=by have:=hin.2.1 (by omega);omega
   have hst : apStep t (L,(a' : Int)) o[i] = (L ++ (t.drop a').take n,(a' : Int) + n):=by simp [apStep,k1,hn]
   rw [hst] at hs;obtain ⟨m,hm⟩ : ∃ m,(t.drop a').take n = m:=⟨_,rfl⟩;have hcut : cut (t.map intR) a' n = m.map intR:=by rw [cut_eq,← hm];simp
   have hlen2 : m.length = n:=by rw [← hm];simp;omega
   rw [hm] at hs;simp [k1,hn,ea,hle,hcut];refine ⟨by omega,fun H2=>⟨i + 1,by omega,by omega,H2,?_⟩⟩;rw [hs];simp [e]
  ·by_cases k3 : o[i].kind = 3
   ·have hst : apStep t (L,(a' : Int)) o[i] = (L,(a' : Int) + n):=by simp [apStep,k3,hn]
    rw [hst] at hs;simp [k3,hn,ea];refine ⟨i + 1,by omega,by omega,H,?_⟩;rw [hs];simp [e]
   ·have k2 : o[i].kind = 2:=by omega
    have hst : apStep t (L,(a' : Int)) o[i] = (L ++ o[i].signs,(a' : Int)):=by simp [apStep,k2]
    rw [hst] at hs;simp [k2];refine ⟨by omega,fun H2=>⟨i + 1,by omega,by omega,H2,?_⟩⟩;rw [hs];simp [e]
 ·have he : o.take i = o:=List.take_of_length_le (by omega)
  rw [he];simp [h]
theorem l03Fits_c (o : List Part) (t : List Int) (hl : nL nPart o≤2 ^ 40) (ht : t.length≤2 ^ 40) : PureC Tryz.prog 287 [.c (.s (o.map Part.row)),.c (.s (t.map intR))] (.one (.c (vb (fits3 o t)) 1)):=by
 refine PureC.intro' tt_ok Tryz.func287 (by kernel_rfl) rfl rfl rfl (Nat.le_of_ble_eq_true rfl) (fun w0 base=>?_);simp;refine ACall.pure (specOpOk_c o hl) (by simp) ?_;by_cases c1 : opOk o
 rotate_left
 ·simp [c1,fits3]
 simp [c1];refine ACall.pure (specTextOk_c t ht) (by simp) ?_;by_cases c2 : textOk t
 rotate_left
 ·simp [c2,fits3]
 simp [c2];refine ACall.pure (specOpFrom_c o hl) (by simp) ?_;simp [fits3,c1,c2]
theorem specApply_c (o : List Part) (t : List Int) (hl : nL nPart o≤2 ^ 40) (ht : t.length≤2 ^ 40) : PureC Tryz.prog 231 [.c (.s (o.map Part.row)),.c (.s (t.map intR))] (.tup [.c (.s ((apply o t).1.map intR)) 1,.c (.v (.bool (apply o t).2)) 1]):=by
 refine PureC.intro' tt_ok Tryz.func231 (by kernel_rfl) rfl rfl rfl (Nat.le_of_ble_eq_true rfl) (fun w0 base=>?_);simp;refine ACall.pure (l03Fits_c o t hl ht) (by simp) ?_;by_cases hf : fits3 o t
 rotate_left
 ·have e : dc (fits3 o t) = false:=by rw [dc_no];exact hf
  have e2 : apply o t = ([],false):=by unfold apply;rw [if_neg hf]
  simp [e,e2]
 have e : apply o t = ((apRun o t).1,true):=by unfold apply;rw [if_pos hf]
 have ho:=hf.1.1.1;have hlen:=hf.1.1.2;simp [hf,e];intro b;refine LoopT.intro eok (fun x : Nat × Hd=>x.1≤o.length) (fun x=>⟨50,0,[(17,.v (.int .i64 x.1)),(16,.v (.int .i64 o.length)),(15,.ro (o.map Part.row)),(7,.v (.int .i64 (apRun (o.take x.1) t).2)),(6,.sl 224 x.2 1 0 (apRun (o.take x.1) t).1.length),(1,.ro (t.map intR))],[(224,.rows x.2 1 ((apRun (o.take x.1) t).1.map intR) true)]⟩) (fun x=>o.length - x.1) (0,some (b,0,0)) (by simp) (by simp [apRun]) (fun x hi=>?_);obtain ⟨i,H⟩:=x;simp only at hi ⊢;by_cases h : i < o.length
 ·have hin:=apRun_in hf h
  have hat:=apRun_at (t:=t) ho i hi;have hb:=(ho _ (List.getElem_mem h)).bounds;have hs:=apRun_suc (t:=t) h;generalize apRun (o.take i) t = s at hin hat hs;obtain ⟨L,a⟩:=s;simp only at hin hat hs;obtain ⟨a',rfl⟩ : ∃ a' : Nat,a = a':=⟨a.toNat,by omega⟩;obtain ⟨n,hn⟩ : ∃ n : Nat,o[i].n = n:=⟨o[i].n.toNat,by omega⟩;have e : Go.IntKind.i64.wrap ((i : Int) + 1) = ((i + 1 : Nat) : Int):=i64_suc (by omega);have ea : Go.IntKind.i64.wrap ((a' : Int) + n) = (a' : Int) + n:=Go.IntWalk.i64_in _ (by omega);rw [hn] at hin;simp [h,Part.row];intro b9;by_cases k1 : o[i].kind = 1
  ·have hle : a' + n≤t.length:=by have:=hin.2.1 (by omega);omega
   have hst : apStep t (L,(a' : Int)) o[i] = (L ++ (t.drop a').take n,(a' : Int) + n):=by simp [apStep,k1,hn]
   rw [hst] at hs;obtain ⟨m,hm⟩ : ∃ m,(t.drop a').take n = m:=⟨_,rfl⟩;have hcut : cut (t.map intR) a' n = m.map intR:=by rw [cut_eq,← hm];simp
   have hlen2 : m.length = n:=by rw [← hm];simp;omega
   rw [hm] at hs;simp [k1,hn,ea,hle,hcut];refine ⟨by omega,fun H2=>⟨i + 1,by omega,by omega,H2,?_⟩⟩;rw [hs];simp [e]
  ·by_cases k2 : o[i].kind = 2
   ·have hst : apStep t (L,(a' : Int)) o[i] = (L ++ o[i].signs,(a' : Int)):=by simp [apStep,k2]
    rw [hst] at hs;simp [k2];refine ⟨by omega,fun H2=>⟨i + 1,by omega,by omega,H2,?_⟩⟩;rw [hs];simp [e]
   ·have k3 : o[i].kind = 3:=by omega
    have hst : apStep t (L,(a' : Int)) o[i] = (L,(a' : Int) + n):=by simp [apStep,k3,hn]
    rw [hst] at hs;simp [k1,k2,hn,ea];refine ⟨i + 1,by omega,by omega,H,?_⟩;rw [hs];simp [e]
 ·have he : o.take i = o:=List.take_of_length_le (by omega)
  rw [he];simp [h]
theorem apply_len (o : List Part) (t : List Int) : (apply o t).1.length≤2 ^ 17:=by
 unfold apply
 split
 ·rename_i h
  have h1:=(apRun_at (t:=t) h.1.1.1 o.length (by omega)).2;rw [List.take_length] at h1;have:=h.1.1.2;simp only;omega
 ·simp
abbrev partsR (o : List Part) : List CD:=[.s (o.map Part.row)]
open Classical in
noncomputable def applyFrom : List (List Part)→List Int→Option (List Int)
 | [],t=>some t
 | o :: l,t=>if (apply o t).2 = true then applyFrom l (apply o t).1 else none
open Classical in
noncomputable def applyAll (l : List (List Part)) (t : List Int) : List Int × Bool:=
 if textOk t then match applyFrom l t with
  | some u=>(u,true)
  | none=>([],false)
 else ([],false)
theorem applyFrom_drop {l : List (List Part)} {i : Nat} {u : List Int} (h : i < l.length) : applyFrom (l.drop i) u = if (apply l[i] u).2 = true then applyFrom (l.drop (i + 1)) (apply l[i] u).1 else none:=by
 rw [List.drop_eq_getElem_cons h,applyFrom]
theorem implApplyAll_c (l : List (List Part)) (t : List Int) (hl : l.length≤2 ^ 30) (hs : ∀ o∈l,nL nPart o≤2 ^ 40) (ht : t.length≤2 ^ 40) : PureC Tryz.prog 239 [.c (.s (l.map partsR)),.c (.s (t.map intR))] (.tup [.c (.s ((applyAll l t).1.map intR)) 1,.c (.v (.bool (applyAll l t).2)) 1]):=by
 refine PureC.intro' tt_ok Tryz.func239 (by kernel_rfl) rfl rfl rfl (Nat.le_of_ble_eq_true rfl) (fun w0 base=>?_);simp;refine ACall.pure (implTextOk_c t ht) (by simp) ?_;by_cases c2 : textOk t
 rotate_left
 ·have e : dc (textOk t) = false:=by rw [dc_no];exact c2
  have e2 : applyAll l t = ([],false):=by unfold applyAll;rw [if_neg c2]
  simp [e,e2]
 obtain ⟨r,hr⟩ : ∃ r,applyAll l t = r:=⟨_,rfl⟩;have hr' : (match applyFrom l t with | some u=>(u,true) | none=>([],false)) = r:=by rw [← hr];unfold applyAll;rw [if_pos c2]
 rw [hr];simp [c2];refine ACall.pure (copyInts_c t ht) (by simp) ?_;simp;intro H0
 refine LoopT.intro eok (fun x : Nat × Nat × Hd × List Int=>x.1≤l.length∧x.2.2.2.length≤2 ^ 40∧(match applyFrom (l.drop x.1) x.2.2.2 with | some u=>(u,true) | none=>([],false)) = r)
  (fun x=>⟨33,0,[(18,.v (.int .i64 x.1)),(17,.v (.int .i64 l.length)),(16,.ro (l.map partsR)),(6,.sl x.2.1 x.2.2.1 1 0 x.2.2.2.length)],[(x.2.1,.rows x.2.2.1 1 (x.2.2.2.map intR) true)]⟩) (fun x=>l.length - x.1) (0,240,H0,t) (by simp [ht,hr']) (by simp) (fun x hi=>?_)
 obtain ⟨i,K,H,u⟩:=x;simp only at hi ⊢;obtain ⟨hi1,hi2,hi3⟩:=hi;by_cases h : i < l.length
 ·have e : Go.IntKind.i64.wrap ((i : Int) + 1) = ((i + 1 : Nat) : Int):=i64_suc (by omega)
  rw [applyFrom_drop h] at hi3;have hlen:=apply_len l[i] u;simp [h];refine ACall.pure (implApply_c l[i] u (hs _ (List.getElem_mem h)) hi2) (by simp) ?_;generalize apply l[i] u = q at hi3 hlen;obtain ⟨v,ok⟩:=q;simp only at hi3 hlen
  cases ok
  ·simp at hi3
   simp [← hi3]
  ·simp at hi3
   simp;intro H2;exact ⟨i + 1,400,H2,v,⟨by omega,by omega,hi3⟩,by omega,⟨e,rfl,rfl,rfl⟩,.inl rfl⟩
 ·have hd : l.drop i = []:=List.drop_eq_nil_of_le (by omega)
  rw [hd] at hi3;simp [applyFrom] at hi3;simp [h,← hi3]
theorem apRun_len {o : List Part} {t : List Int} (h : fits3 o t) : ∀ (i : Nat),i≤o.length→((apRun (o.take i) t).1.length : Int) = sumI fK (o.take i) + sumI fP (o.take i)∧signsOk (apRun (o.take i) t).1
 | 0,_=>by simp [apRun,sumI,signsOk]
 | i + 1,hi=>by
   have hlt : i < o.length:=by omega
   obtain ⟨h1,h2⟩:=apRun_len h i (by omega);have hin:=apRun_in h hlt;have hpo:=h.1.1.1 _ (List.getElem_mem hlt);have hb:=hpo.bounds;rw [apRun_suc hlt,sumI_suc hlt,sumI_suc hlt];generalize apRun (o.take i) t = s at h1 h2 hin;generalize o[i] = p at hin hpo hb;unfold apStep;rw [show fK p = (if p.kind = 1 then p.n else 0) from rfl,show fP p = (if p.kind = 2 then (p.signs.length : Int) else 0) from rfl];rcases hb.1 with k | k | k
   ·have:=hin.2.1 (by omega)
    have e : ((t.drop s.2.toNat).take p.n.toNat).length = p.n.toNat:=by simp;omega
    refine ⟨?_,?_⟩
    ·simp only [k,if_true,List.length_append,e]
     have k2 : ¬ (1 : Int) = 2:=by decide
     simp only [k2,if_false];omega
    simp only [k,if_true];intro n hn;rcases List.mem_append.1 hn with hn | hn
    ·exact h2 n hn
    ·exact h.2.1.2 n (List.mem_of_mem_drop (List.mem_of_mem_take hn))
   ·refine ⟨by simp [k];omega,?_⟩
    have k1 : ¬ p.kind = 1:=by omega
    simp only [k,if_true];rw [partOk_put k] at hpo;intro n hn;rcases List.mem_append.1 hn with hn | hn
    ·exact h2 n hn
    ·exact hpo.2.2 n hn
   ·exact ⟨by simp [k];omega,by simpa [k] using h2⟩
theorem apply_textOk {o : List Part} {t : List Int} (h : fits3 o t) : textOk (apply o t).1∧((apply o t).1.length : Int) = opTo o:=by
 have h1:=apRun_len h o.length (Nat.le_refl _);rw [List.take_length] at h1;have e : apply o t = ((apRun o t).1,true):=by unfold apply;rw [if_pos h]
 have ht : opTo o = sumI fK o + sumI fP o:=by unfold opTo l02Sum;rw [if_pos h.1.1]
 have h3:=h.1.2.2;rw [e];refine ⟨⟨by simp only;omega,h1.2⟩,by simp only;omega⟩
theorem apply_yes {o : List Part} {t : List Int} : (apply o t).2 = true ↔ fits3 o t:=by
 unfold apply
 split<;>simp_all
def nameOk (s : ByteArray) : Prop:=(1≤s.size∧s.size≤8)∧∀ (i : Nat) (h : i < s.size),97≤s[i].toNat∧s[i].toNat≤122
def entryOk (e : Entry) : Prop:=(1≤e.client∧e.client≤8)∧(1≤e.seq∧e.seq≤1000000000)∧isNorm e.o
def seensOk (d : Doc) : Prop:=∀ (i : Nat) (h : i < d.seen.length),(1≤d.seen[i].client∧d.seen[i].client≤8)∧(1≤d.seen[i].seq∧d.seen[i].seq≤1000000000)∧(1≤d.seen[i].rev∧d.seen[i].rev≤headRev d)∧(∀ h0 : 0 < i,d.seen[i - 1].client < d.seen[i].client)
def docOk (d : Doc) : Prop:=nameOk d.name∧(0≤d.fr∧d.fr≤999999000)∧textOk d.text∧d.list.length≤8∧(∀ e∈d.list,entryOk e)∧(applyFrom (d.list.map Entry.o) d.text).isSome = true∧seensOk d
open Classical in
noncomputable def textAt (d : Doc) (rev : Int) : List Int × Bool:=if docOk d∧d.fr≤rev∧rev≤headRev d then applyAll ((d.list.take (rev - d.fr).toNat).map Entry.o) d.text else ([],false)
noncomputable def headText (d : Doc) : List Int:=(textAt d (headRev d)).1
open Classical in
noncomputable def seenOf (d : Doc) (c : Int) : Seen × Bool:=match d.seen.find? (fun s=>decide (s.client = c)) with
 | some s=>(s,true)
 | none=>(⟨0,0,0⟩,false)
theorem opOk_n {o : List Part} (h : opOk o) : nL nPart o≤2 ^ 18:=by
 have:=nL_parts h.1.1;have:=h.1.2;omega
end Go.Proofs.YtoeofekglbdemaaGreat
