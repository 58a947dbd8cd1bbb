import Derived.Test.YtoldjebobgocpaaPB
import Derived.Test.YtoldjebobgocpaaMF
namespace Go.Proofs.Ytoldjebobgocpaa
open Go.AM
set_option maxRecDepth 20000
def sumI (f : Part→Int) : List Part→Int
 | []=>0
 | p :: o=>f p + sumI f o
theorem sumI_append {f : Part→Int} : ∀ (a b : List Part),sumI f (a ++ b) = sumI f a + sumI f b
 | [],b=>by simp [sumI]
 | p :: a,b=>by simp only [List.cons_append,sumI,sumI_append a b];omega
theorem sumI_suc {f : Part→Int} {o : List Part} {i : Nat} (h : i < o.length) : sumI f (o.take (i + 1)) = sumI f (o.take i) + f o[i]:=by
 rw [← List.take_append_getElem h,sumI_append];simp [sumI]
theorem sumI_congr {f g : Part→Int} : ∀ {o : List Part},(∀ p∈o,f p = g p)→sumI f o = sumI g o
 | [],_=>rfl
 | p :: o,h=>by
   simp only [sumI];rw [h p (List.mem_cons_self ..),sumI_congr (fun q hq=>h q (List.mem_cons_of_mem _ hq))]
theorem sumI_add {f g : Part→Int} : ∀ (o : List Part),sumI (fun p=>f p + g p) o = sumI f o + sumI g o
 | []=>by simp [sumI]
 | p :: o=>by simp only [sumI,sumI_add o];omega
def fK (p : Part) : Int:=if p.kind = 1 then p.n else 0
def fP (p : Part) : Int:=if p.kind = 2 then p.signs.length else 0
def fD (p : Part) : Int:=if p.kind = 1 then 0 else if p.kind = 2 then 0 else p.n
def fBut (k : Int) (p : Part) : Int:=if p.kind = k then 0 else p.n + p.signs.length
def fOf (k : Int) (p : Part) : Int:=if p.kind = k then p.n + p.signs.length else 0
theorem partOk.bounds {p : Part} (h : partOk p) : (p.kind = 1∨p.kind = 2∨p.kind = 3)∧0≤p.n∧p.n≤200∧p.signs.length≤200∧(p.kind = 2→p.n = 0)∧(p.kind≠2→p.signs = []):=by
 rcases h with ⟨h1,h2,h3⟩ | ⟨h1,h2,h3,h4⟩
 ·refine ⟨by omega,by omega,by omega,by simp [h3],by omega,fun _=>h3⟩
 ·refine ⟨by omega,by omega,by omega,h3,fun _=>h2,fun h=>absurd h1 h⟩
theorem but2 {p : Part} (h : partOk p) : fBut 2 p = fK p + fD p:=by
 obtain ⟨h1,h2,h3,h4,h5,h6⟩:=h.bounds;unfold fBut fK fD;by_cases k2 : p.kind = 2
 ·simp [k2]
 ·by_cases k1 : p.kind = 1<;>simp [k1,k2,h6 k2]
theorem but3 {p : Part} (h : partOk p) : fBut 3 p = fK p + fP p:=by
 obtain ⟨h1,h2,h3,h4,h5,h6⟩:=h.bounds;unfold fBut fK fP;rcases h1 with k | k | k
 ·simp [k,h6 (by omega)]
 ·simp [k,h5 k]
 ·simp [k]
theorem of2 {p : Part} (h : partOk p) : fOf 2 p = fP p:=by
 obtain ⟨h1,h2,h3,h4,h5,h6⟩:=h.bounds;unfold fOf fP;by_cases k : p.kind = 2
 ·simp [k,h5 k]
 ·simp [k]
theorem of3 {p : Part} (h : partOk p) : fOf 3 p = fD p:=by
 obtain ⟨h1,h2,h3,h4,h5,h6⟩:=h.bounds;unfold fOf fD;rcases h1 with k | k | k
 ·simp [k]
 ·simp [k]
 ·simp [k,h6 (by omega)]
theorem sumI_bound {f : Part→Int} {B : Int} (hf : ∀ p,partOk p→0≤f p∧f p≤B) : ∀ {o : List Part},(∀ p∈o,partOk p)→0≤sumI f o∧sumI f o≤B * o.length
 | [],_=>by simp [sumI]
 | p :: o,h=>by
   have h1:=hf p (h p (List.mem_cons_self ..));have h2:=sumI_bound hf (o:=o) (fun q hq=>h q (List.mem_cons_of_mem _ hq));simp only [sumI,List.length_cons];rw [show B * ((o.length + 1 : Nat) : Int) = B * o.length + B by rw [Int.natCast_add];simp [Int.mul_add]];omega
theorem fK_b {p : Part} (h : partOk p) : 0≤fK p∧fK p≤200:=by have:=h.bounds;unfold fK;split<;>omega
theorem fP_b {p : Part} (h : partOk p) : 0≤fP p∧fP p≤200:=by have:=h.bounds;unfold fP;split<;>omega
theorem fD_b {p : Part} (h : partOk p) : 0≤fD p∧fD p≤200:=by have:=h.bounds;unfold fD;split<;>(try split)<;>omega
theorem fBut_b {k : Int} {p : Part} (h : partOk p) : 0≤fBut k p∧fBut k p≤400:=by have:=h.bounds;unfold fBut;split<;>omega
theorem fOf_b {k : Int} {p : Part} (h : partOk p) : 0≤fOf k p∧fOf k p≤400:=by have:=h.bounds;unfold fOf;split<;>omega
theorem take_ok {o : List Part} (h : ∀ p∈o,partOk p) (i : Nat) : ∀ p∈o.take i,partOk p:=fun p hp=>h p (List.mem_of_mem_take hp)
theorem size_c (p : Part) (hp : partOk p) : PureC Try.prog 52 [.agg p.row] (.one (.c (vi (p.n + p.signs.length)) 1)):=by
 refine PureC.intro' tt_ok Try.func52 (by kernel_rfl) rfl rfl rfl (Nat.le_of_ble_eq_true rfl) (fun w0 base=>?_);have:=hp.bounds;have e : Go.IntKind.i64.wrap (p.n + (p.signs.length : Int)) = p.n + p.signs.length:=Go.IntWalk.i64_in _ (by omega);simp [Part.row,e]
open Classical in
noncomputable def sizeOf (o : List Part) (k : Int) : Int:=if partsOk o then sumI (fBut k) o else 0
theorem implSizeOf_c (o : List Part) (hl : nL nPart o≤2 ^ 40) (k : Int) : PureC Try.prog 75 [.c (.s (o.map Part.row)),.c (vi k)] (.one (.c (vi (sizeOf o k)) 1)):=by
 refine PureC.intro' tt_ok Try.func75 (by kernel_rfl) rfl rfl rfl (Nat.le_of_ble_eq_true rfl) (fun w0 base=>?_);have hle:=nL_len hl;simp;refine ACall.pure (implPartsOk_c o hl) (by simp) ?_;by_cases ho : partsOk o
 ·have hr : sizeOf o k = sumI (fBut k) o:=by unfold sizeOf;rw [if_pos ho]
  simp [ho,hr];refine LoopT.intro eok (fun i : Nat=>i≤o.length) (fun i=>⟨27,0,[(13,.v (.int .i64 i)),(12,.v (.int .i64 o.length)),(11,.ro (o.map Part.row)),(5,.v (.int .i64 (sumI (fBut k) (o.take i)))),(1,.v (.int .i64 k))],[]⟩) (fun i=>o.length - i) 0 (by simp) (by simp [sumI]) (fun i hi=>?_);by_cases h : i < o.length
  ·have hp:=ho.1 _ (List.getElem_mem h)
   have hb:=sumI_bound (f:=fBut k) (fun p h=>fBut_b h) (take_ok ho.1 i);have hb2:=hp.bounds;have hlen:=ho.2;have hlt : (o.take i).length≤600:=by simp;omega
   have hs:=sumI_suc (f:=fBut k) h;obtain ⟨q,hq⟩ : ∃ q,sumI (fBut k) (o.take i) = q:=⟨_,rfl⟩;have e : Go.IntKind.i64.wrap ((i : Int) + 1) = ((i + 1 : Nat) : Int):=i64_suc (by omega);rw [hq] at hs hb;simp [h,Part.row,hq];intros;by_cases hk : o[i].kind = k
   ·simp [hk]
    refine ⟨i + 1,by omega,by omega,e,?_⟩;rw [hs];simp [fBut,hk]
   ·simp [hk]
    refine ACall.pure (size_c o[i] hp) (by simp [Part.row]) ?_;have e2 : Go.IntKind.i64.wrap (q + (o[i].n + (o[i].signs.length : Int))) = q + (o[i].n + o[i].signs.length):=Go.IntWalk.i64_in _ (by omega);simp [e2];refine ⟨i + 1,by omega,by omega,e,?_⟩;rw [hs];simp [fBut,hk]
  ·simp [h]
   rw [List.take_of_length_le (by omega)]
 ·have e : dc (partsOk o) = false:=by rw [dc_no];exact ho
  have hr : sizeOf o k = 0:=by unfold sizeOf;rw [if_neg ho]
  simp [e,hr]
open Classical in
noncomputable def l02Sum (o : List Part) : Int × Int × Int:=if partsOk o then (sumI fK o,sumI fP o,sumI fD o) else (0,0,0)
theorem l02Sum_c (o : List Part) (hl : nL nPart o≤2 ^ 40) : PureC Try.prog 100 [.c (.s (o.map Part.row))] (.tup [.c (vi (l02Sum o).1) 1,.c (vi (l02Sum o).2.1) 1,.c (vi (l02Sum o).2.2) 1]):=by
 refine PureC.intro' tt_ok Try.func100 (by kernel_rfl) rfl rfl rfl (Nat.le_of_ble_eq_true rfl) (fun w0 base=>?_);have hle:=nL_len hl;simp;refine ACall.pure (specPartsOk_c o hl) (by simp) ?_;by_cases ho : partsOk o
 ·have hr : l02Sum o = (sumI fK o,sumI fP o,sumI fD o):=by unfold l02Sum;rw [if_pos ho]
  simp [ho,hr];refine LoopT.intro eok (fun i : Nat=>i≤o.length) (fun i=>⟨42,0,[(15,.v (.int .i64 i)),(14,.v (.int .i64 o.length)),(13,.ro (o.map Part.row)),(5,.v (.int .i64 (sumI fK (o.take i)))),(6,.v (.int .i64 (sumI fP (o.take i)))),(7,.v (.int .i64 (sumI fD (o.take i))))],[]⟩) (fun i=>o.length - i) 0 (by simp) (by simp [sumI]) (fun i hi=>?_);by_cases h : i < o.length
  ·have hp:=ho.1 _ (List.getElem_mem h)
   have hb1:=sumI_bound (f:=fK) (fun p h=>fK_b h) (take_ok ho.1 i);have hb2:=sumI_bound (f:=fP) (fun p h=>fP_b h) (take_ok ho.1 i);have hb3:=sumI_bound (f:=fD) (fun p h=>fD_b h) (take_ok ho.1 i);have hpb:=hp.bounds;have hlen:=ho.2;have hlt : (o.take i).length≤600:=by simp;omega
   have hs1:=sumI_suc (f:=fK) h;have hs2:=sumI_suc (f:=fP) h;have hs3:=sumI_suc (f:=fD) h;obtain ⟨q1,hq1⟩ : ∃ q,sumI fK (o.take i) = q:=⟨_,rfl⟩;obtain ⟨q2,hq2⟩ : ∃ q,sumI fP (o.take i) = q:=⟨_,rfl⟩;obtain ⟨q3,hq3⟩ : ∃ q,sumI fD (o.take i) = q:=⟨_,rfl⟩;have e : Go.IntKind.i64.wrap ((i : Int) + 1) = ((i + 1 : Nat) : Int):=i64_suc (by omega);rw [hq1] at hs1 hb1;rw [hq2] at hs2 hb2;rw [hq3] at hs3 hb3;simp [h,Part.row,hq1,hq2,hq3];intros;have e1 : Go.IntKind.i64.wrap (q1 + o[i].n) = q1 + o[i].n:=Go.IntWalk.i64_in _ (by omega);have e2 : Go.IntKind.i64.wrap (q2 + (o[i].signs.length : Int)) = q2 + o[i].signs.length:=Go.IntWalk.i64_in _ (by omega);have e3 : Go.IntKind.i64.wrap (q3 + o[i].n) = q3 + o[i].n:=Go.IntWalk.i64_in _ (by omega);by_cases k1 : o[i].kind = 1
   ·simp [k1,e1]
    refine ⟨i + 1,by omega,by omega,e,?_,?_,?_⟩
    ·rw [hs1];simp [fK,k1]
    ·rw [hs2];simp [fP,k1]
    ·rw [hs3];simp [fD,k1]
   ·by_cases k2 : o[i].kind = 2
    ·simp [k2,e2]
     refine ⟨i + 1,by omega,by omega,e,?_,?_,?_⟩
     ·rw [hs1];simp [fK,k2]
     ·rw [hs2];simp [fP,k2]
     ·rw [hs3];simp [fD,k2]
    ·simp [k1,k2,e3]
     refine ⟨i + 1,by omega,by omega,e,?_,?_,?_⟩
     ·rw [hs1];simp [fK,k1]
     ·rw [hs2];simp [fP,k2]
     ·rw [hs3];simp [fD,k1,k2]
  ·simp [h]
   rw [List.take_of_length_le (by omega)];simp
 ·have e : dc (partsOk o) = false:=by rw [dc_no];exact ho
  have hr : l02Sum o = (0,0,0):=by unfold l02Sum;rw [if_neg ho]
  simp [e,hr]
noncomputable def opFrom (o : List Part) : Int:=(l02Sum o).1 + (l02Sum o).2.2
noncomputable def opTo (o : List Part) : Int:=(l02Sum o).1 + (l02Sum o).2.1
theorem opFrom_size (o : List Part) : sizeOf o 2 = opFrom o:=by
 unfold sizeOf opFrom l02Sum
 split
 ·rename_i h
  show _ = sumI fK o + sumI fD o
  rw [← sumI_add];exact sumI_congr (fun p hp=>but2 (h.1 p hp))
 ·rfl
theorem opTo_size (o : List Part) : sizeOf o 3 = opTo o:=by
 unfold sizeOf opTo l02Sum
 split
 ·rename_i h
  show _ = sumI fK o + sumI fP o
  rw [← sumI_add];exact sumI_congr (fun p hp=>but3 (h.1 p hp))
 ·rfl
theorem l02Sum_b (o : List Part) : (0≤(l02Sum o).1∧(l02Sum o).1≤120000)∧(0≤(l02Sum o).2.1∧(l02Sum o).2.1≤120000)∧0≤(l02Sum o).2.2∧(l02Sum o).2.2≤120000:=by
 unfold l02Sum
 split
 ·rename_i h
  have h1:=sumI_bound (f:=fK) (fun p h=>fK_b h) h.1;have h2:=sumI_bound (f:=fP) (fun p h=>fP_b h) h.1;have h3:=sumI_bound (f:=fD) (fun p h=>fD_b h) h.1;have h4:=h.2;simp only;omega
 ·simp
theorem implOpFrom_c (o : List Part) (hl : nL nPart o≤2 ^ 40) : PureC Try.prog 36 [.c (.s (o.map Part.row))] (.one (.c (vi (opFrom o)) 1)):=by
 refine PureC.intro' tt_ok Try.func36 (by kernel_rfl) rfl rfl rfl (Nat.le_of_ble_eq_true rfl) (fun w0 base=>?_);simp;refine ACall.pure (implSizeOf_c o hl 2) (by simp) ?_;simp [opFrom_size]
theorem implOpTo_c (o : List Part) (hl : nL nPart o≤2 ^ 40) : PureC Try.prog 39 [.c (.s (o.map Part.row))] (.one (.c (vi (opTo o)) 1)):=by
 refine PureC.intro' tt_ok Try.func39 (by kernel_rfl) rfl rfl rfl (Nat.le_of_ble_eq_true rfl) (fun w0 base=>?_);simp;refine ACall.pure (implSizeOf_c o hl 3) (by simp) ?_;simp [opTo_size]
theorem specOpFrom_c (o : List Part) (hl : nL nPart o≤2 ^ 40) : PureC Try.prog 104 [.c (.s (o.map Part.row))] (.one (.c (vi (opFrom o)) 1)):=by
 refine PureC.intro' tt_ok Try.func104 (by kernel_rfl) rfl rfl rfl (Nat.le_of_ble_eq_true rfl) (fun w0 base=>?_);simp;refine ACall.pure (l02Sum_c o hl) (by simp) ?_;have:=l02Sum_b o;have e : Go.IntKind.i64.wrap ((l02Sum o).1 + (l02Sum o).2.2) = opFrom o:=Go.IntWalk.i64_in _ (by omega);simp [e]
theorem specOpTo_c (o : List Part) (hl : nL nPart o≤2 ^ 40) : PureC Try.prog 70 [.c (.s (o.map Part.row))] (.one (.c (vi (opTo o)) 1)):=by
 refine PureC.intro' tt_ok Try.func70 (by kernel_rfl) rfl rfl rfl (Nat.le_of_ble_eq_true rfl) (fun w0 base=>?_);simp;refine ACall.pure (l02Sum_c o hl) (by simp) ?_;have:=l02Sum_b o;have e : Go.IntKind.i64.wrap ((l02Sum o).1 + (l02Sum o).2.1) = opTo o:=Go.IntWalk.i64_in _ (by omega);simp [e]
def opOk (o : List Part) : Prop:=partsOk o∧opFrom o≤200∧opTo o≤200
theorem implOpOk_c (o : List Part) (hl : nL nPart o≤2 ^ 40) : PureC Try.prog 34 [.c (.s (o.map Part.row))] (.one (.c (vb (opOk o)) 1)):=by
 refine PureC.intro' tt_ok Try.func34 (by kernel_rfl) rfl rfl rfl (Nat.le_of_ble_eq_true rfl) (fun w0 base=>?_);simp;refine ACall.pure (implPartsOk_c o hl) (by simp) ?_;by_cases h : partsOk o
 ·simp [h]
  refine ACall.pure (implOpFrom_c o hl) (by simp) ?_;by_cases h1 : opFrom o≤200
  ·simp [h1]
   refine ACall.pure (implOpTo_c o hl) (by simp) ?_;simp [opOk,h,h1]
  ·simp [h1,opOk,h]
 ·simp [h,opOk]
theorem specOpOk_c (o : List Part) (hl : nL nPart o≤2 ^ 40) : PureC Try.prog 79 [.c (.s (o.map Part.row))] (.one (.c (vb (opOk o)) 1)):=by
 refine PureC.intro' tt_ok Try.func79 (by kernel_rfl) rfl rfl rfl (Nat.le_of_ble_eq_true rfl) (fun w0 base=>?_);simp;refine ACall.pure (specPartsOk_c o hl) (by simp) ?_;by_cases h : partsOk o
 ·simp [h]
  refine ACall.pure (specOpFrom_c o hl) (by simp) ?_;by_cases h1 : opFrom o≤200
  ·simp [h1]
   refine ACall.pure (specOpTo_c o hl) (by simp) ?_;simp [opOk,h,h1]
  ·simp [h1,opOk,h]
 ·simp [h,opOk]
def nbFlush (L : List Part) (P : List Int) (D : Int) : List Part:=L ++ ((if P = [] then [] else [⟨2,0,P⟩]) ++ (if 0 < D then [⟨3,D,[]⟩] else []))
def nbKeep (L : List Part) (n : Int) : List Part:=
 if h : 0 < L.length then
  if (L[L.length - 1]'(by omega)).kind = 1 then L.set (L.length - 1) ⟨1,(L[L.length - 1]'(by omega)).n + n,(L[L.length - 1]'(by omega)).signs⟩ else L ++ [⟨1,n,[]⟩]
 else [⟨1,n,[]⟩]
def nbStep (s : List Part × List Int × Int) (p : Part) : List Part × List Int × Int:=
 if p.kind = 2 then (s.1,s.2.1 ++ p.signs,s.2.2)
 else if p.kind = 3 then (s.1,s.2.1,s.2.2 + p.n)
 else if 0 < p.n then (nbKeep (nbFlush s.1 s.2.1 s.2.2) p.n,[],0) else s
def nbRun (o : List Part) : List Part × List Int × Int:=o.foldl nbStep ([],[],0)
def normal (o : List Part) : List Part:=nbFlush (nbRun o).1 (nbRun o).2.1 (nbRun o).2.2
theorem nbRun_suc {o : List Part} {i : Nat} (h : i < o.length) : nbRun (o.take (i + 1)) = nbStep (nbRun (o.take i)) o[i]:=by
 unfold nbRun;rw [← List.take_append_getElem h,List.foldl_append];rfl
structure NbOk (m : Nat) (s : List Part × List Int × Int) : Prop where
 l : s.1.length≤3 * m
 p : s.2.1.length≤200 * m
 d0 : 0≤s.2.2
 d : s.2.2≤200 * m
 q : ∀ q∈s.1,0≤q.n∧q.n≤200 * m
theorem nbFlush_len (L : List Part) (P : List Int) (D : Int) : (nbFlush L P D).length≤L.length + 2:=by
 unfold nbFlush
 split<;>split<;>simp
theorem nbFlush_q {L : List Part} {P : List Int} {D B : Int} (h0 : 0≤D) (hD : D≤B) (hL : ∀ q∈L,0≤q.n∧q.n≤B) : ∀ q∈nbFlush L P D,0≤q.n∧q.n≤B:=by
 intro q hq;unfold nbFlush at hq;simp only [List.mem_append] at hq;rcases hq with hq | hq | hq
 ·exact hL q hq
 ·split at hq
  ·simp at hq
  ·simp at hq;subst hq;simp;omega
 ·split at hq
  ·simp at hq;subst hq;simp;omega
  ·simp at hq
theorem nbRun_ok {o : List Part} (ho : ∀ p∈o,partOk p) : ∀ (i : Nat),i≤o.length→NbOk i (nbRun (o.take i))
 | 0,_=>by
   simp [nbRun];exact ⟨by simp,by simp,by simp,by simp,by simp⟩
 | i + 1,hi=>by
   have ih:=nbRun_ok ho i (by omega);have hlt : i < o.length:=by omega
   rw [nbRun_suc hlt];have hp:=(ho _ (List.getElem_mem hlt)).bounds;generalize nbRun (o.take i) = s at ih;generalize o[i] = p at hp;obtain ⟨L,P,D⟩:=s;obtain ⟨h1,h2,h3,h4,h5⟩:=ih;simp only at h1 h2 h3 h4 h5;have w : ∀ q∈L,0≤q.n∧q.n≤200 * ((i + 1 : Nat) : Int):=fun q hq=>by have:=h5 q hq;omega
   unfold nbStep
   split
   ·exact ⟨by simp;omega,by simp;omega,h3,by simp;omega,w⟩
   ·split
    ·exact ⟨by simp;omega,by simp;omega,by simp;omega,by simp;omega,w⟩
    ·split
     ·have f1:=nbFlush_len L P D
      have f2:=nbFlush_q (P:=P) h3 h4 h5;refine ⟨?_,by simp,by simp,by simp;omega,?_⟩
      ·simp only [nbKeep]
       split
       ·split<;>simp<;>omega
       ·simp;omega
      ·simp only [nbKeep]
       intro q hq
       split at hq
       ·split at hq
        ·rcases List.mem_or_eq_of_mem_set hq with hq | rfl
         ·have:=f2 q hq;omega
         ·have:=f2 _ (List.getElem_mem (show (nbFlush L P D).length - 1 < (nbFlush L P D).length by omega))
          simp only;omega
        ·rcases List.mem_append.1 hq with hq | hq
         ·have:=f2 q hq;omega
         ·simp at hq;subst hq;simp;omega
       ·simp at hq;subst hq;simp;omega
     ·exact ⟨by simp;omega,by simp;omega,h3,by simp;omega,w⟩
theorem flush1 {L : List Part} {P : List Int} {D : Int} (hP : ¬ P = []) (hD : 0 < D) : nbFlush L P D = L ++ [⟨2,0,P⟩] ++ [⟨3,D,[]⟩]:=by simp [nbFlush,hP,hD]
theorem flush2 {L : List Part} {P : List Int} {D : Int} (hP : ¬ P = []) (hD : ¬ 0 < D) : nbFlush L P D = L ++ [⟨2,0,P⟩]:=by simp [nbFlush,hP,hD]
theorem flush3 {L : List Part} {P : List Int} {D : Int} (hP : P = []) (hD : 0 < D) : nbFlush L P D = L ++ [⟨3,D,[]⟩]:=by simp [nbFlush,hP,hD]
theorem flush4 {L : List Part} {P : List Int} {D : Int} (hP : P = []) (hD : ¬ 0 < D) : nbFlush L P D = L:=by simp [nbFlush,hP,hD]
theorem implFlush_call {w0 : World} {bF bG : Nat→Prop} {bl : Bool} {st : ASt} {dst : Option Nat} {K : ASt→Prop} {L : List Part} {P : List Int} {D : Int} {b3 b4 b5 : Nat} {Hl Hp : Hd} (hL : L.length≤2 ^ 20) (_hP : P.length≤2 ^ 40)
 (g48 : st.h.get 48 = .vars b3 24 [.sl 5000 Hl 3 0 L.length]) (g64 : st.h.get 64 = .vars b4 23 [.sl 5001 Hp 1 0 P.length]) (g80 : st.h.get 80 = .vars b5 3 [.v (.int .i64 D)])
 (g5000 : st.h.get 5000 = .rows Hl 3 (L.map Part.row) true) (g5001 : st.h.get 5001 = .rows Hp 1 (P.map intR) true)
 (hK : ∀ Hl' h',AH.get h' 48 = .vars b3 24 [.sl 5000 Hl' 3 0 (nbFlush L P D).length] → AH.get h' 5000 = .rows Hl' 3 ((nbFlush L P D).map Part.row) true → AH.get h' 64 = .vars b4 23 [.nil] → AH.get h' 80 = .vars b5 3 [.v (.int .i64 0)] →
  AH.get h' 128 = st.h.get 128→aPut ⟨st.n,st.kb,st.t,h'⟩ dst (.tup []) K) : ACall ⟨Try.prog,tt,w0,⟨bF,bG,bl,fun _=>True⟩⟩ 84 [.p 64 b4 0,.p 48 b3 0,.p 80 b5 0] st dst K:=by
 refine ACall.inline tt_ok Try.func84 (by kernel_rfl) rfl rfl rfl (Nat.le_of_ble_eq_true rfl) 20000 (fun w1 F=>?_);simp [g64];by_cases hp : P = []
 ·have hp0 : ¬ 0 < P.length:=by simp [hp]
  simp [hp0,g80];by_cases hd : 0 < D
  ·simp [hd,g48,g5000,g80,g64]
   intro b;refine ⟨by omega,fun H=>hK H _ ?_ ?_ ?_ ?_ ?_⟩<;>simp [flush3 hp hd,Part.row]
  ·simp [hd,g80,g64]
   refine hK Hl _ ?_ ?_ ?_ ?_ ?_<;>simp [flush4 hp hd,g48,g5000]
 ·have hp0 : 0 < P.length:=List.length_pos_iff.2 hp
  simp [hp0,g80,g48,g5000,g5001,g64];intro b;refine ⟨by omega,fun H=>?_⟩;by_cases hd : 0 < D
  ·simp [hd,g80,g64]
   intro b2;refine ⟨by omega,fun H2=>hK H2 _ ?_ ?_ ?_ ?_ ?_⟩<;>simp [flush1 hp hd,Part.row]
  ·simp [hd,g80,g64]
   refine hK H _ ?_ ?_ ?_ ?_ ?_<;>simp [flush2 hp hd,Part.row]
theorem modify_row {F : List Part} {m : Nat} (h : m < F.length) {g : List CD→List CD} {p : Part} (hg : g F[m].row = p.row) : (F.map Part.row).modify m g = (F.set m p).map Part.row:=by
 apply List.ext_getElem?
 intro j;rw [List.getElem?_modify];simp only [List.getElem?_map,List.getElem?_set];by_cases hj : m = j
 ·subst hj
  simp [h,hg]
 ·simp [hj]
theorem normal_c (o : List Part) (ho : ∀ p∈o,partOk p) (hl : o.length≤10000) : PureC Try.prog 54 [.c (.s (o.map Part.row))] (.one (.c (.s ((normal o).map Part.row)) 3)):=by
 refine PureC.intro' tt_ok Try.func54 (by kernel_rfl) rfl rfl rfl (Nat.le_of_ble_eq_true rfl) (fun w0 base=>?_);simp;intro b3 b4 b5
 refine LoopT.introG eok (fun x : Nat × Hd × Hd=>x.1≤o.length) (fun x=>⟨73,0,[(13,.v (.int .i64 x.1)),(12,.v (.int .i64 o.length)),(11,.ro (o.map Part.row)),(3,.p 48 b3 0),(4,.p 64 b4 0),(5,.p 80 b5 0),(6,.clo 84 [.p 64 b4 0,.p 48 b3 0,.p 80 b5 0])],
  [(48,.vars b3 24 [.sl 5000 x.2.1 3 0 (nbRun (o.take x.1)).1.length]),(64,.vars b4 23 [.sl 5001 x.2.2 1 0 (nbRun (o.take x.1)).2.1.length]),(80,.vars b5 3 [.v (.int .i64 (nbRun (o.take x.1)).2.2)]),
   (5000,.rows x.2.1 3 ((nbRun (o.take x.1)).1.map Part.row) true),(5001,.rows x.2.2 1 ((nbRun (o.take x.1)).2.1.map intR) true)]⟩) (fun x=>o.length - x.1) (0,none,none) (by simp) (by simp [nbRun]) (fun x hx=>Ent.refl ?_)
 obtain ⟨i,Hl,Hp⟩:=x;simp only at hx ⊢;have hok:=nbRun_ok ho i hx;by_cases h : i < o.length
 ·have hs:=nbRun_suc h
  have hpb:=(ho _ (List.getElem_mem h)).bounds;generalize nbRun (o.take i) = s at hok hs;obtain ⟨L,P,D⟩:=s;obtain ⟨k1,k2,k3,k4,k5⟩:=hok;simp only at k1 k2 k3 k4 k5;have e : Go.IntKind.i64.wrap ((i : Int) + 1) = ((i + 1 : Nat) : Int):=i64_suc (by omega);simp [h,Part.row];intro b8;by_cases c2 : o[i].kind = 2
  ·simp [c2]
   refine ⟨by omega,fun H=>?_⟩;refine Ent.refl ⟨i + 1,by omega,by omega,Hl,H,?_⟩;rw [hs];simp [nbStep,c2,e]
  ·by_cases c3 : o[i].kind = 3
   ·have e3 : Go.IntKind.i64.wrap (D + o[i].n) = D + o[i].n:=Go.IntWalk.i64_in _ (by omega)
    simp [c3,e3];refine Ent.refl ⟨i + 1,by omega,by omega,Hl,Hp,?_⟩;rw [hs];simp [nbStep,c3,e]
   ·by_cases cn : 0 < o[i].n
    ·simp [c2,c3,cn]
     refine implFlush_call (L:=L) (P:=P) (D:=D) (Hl:=Hl) (Hp:=Hp) (by omega) (by omega) (by simp) (by simp) (by simp) (by simp) (by simp) (fun Hl' h' g48 g5000 g64 g80 g128=>?_);have f1:=nbFlush_len L P D;have f2:=nbFlush_q (P:=P) k3 k4 k5;have hstep : nbStep (L,P,D) o[i] = (nbKeep (nbFlush L P D) o[i].n,[],0):=by simp [nbStep,c2,c3,cn]
     rw [hstep] at hs;generalize nbFlush L P D = F at f1 f2 g48 g5000 hs;simp at g128;by_cases hF : 0 < F.length
     ·obtain ⟨m,hm⟩ : ∃ m,F.length = m + 1:=⟨F.length - 1,by omega⟩
      have hmlt : m < F.length:=by omega
      have em : Go.IntKind.i64.wrap (m : Int) = m:=i64_nat (by omega)
      have hk : nbKeep F o[i].n = if F[m].kind = 1 then F.set m ⟨1,F[m].n + o[i].n,F[m].signs⟩ else F ++ [⟨1,o[i].n,[]⟩]:=by
       have e0 : F.length - 1 = m:=by omega
       simp [nbKeep,hF,e0]
      have hq:=f2 _ (List.getElem_mem hmlt);simp [g48,g5000,hm,em,Part.row];by_cases ck : F[m].kind = 1
      ·rw [if_pos ck] at hk
       have em2 : Go.IntKind.i64.wrap (F[m].n + o[i].n) = F[m].n + o[i].n:=Go.IntWalk.i64_in _ (by omega);have hmm : (m : Int) < m + 1:=by omega
       simp [ck,hmm];refine DrawT.introP eok mix [0,1,2,3,4,5,6,7,8,9,10] [11] [([true,false,true,true,true,true,true,true,true,true,true],[false,true,false,false,false,false,false,false,false,false,false])] [false,true,false,false,false,false,false,false,false,false,false] (by kernel_rfl) ?_;simp [g48,g5000,g128,hm,em,Part.row,ck,em2,hmm];refine Ent.kill 5001 (Ent.refl ⟨i + 1,by omega,by omega,Hl',none,?_⟩);rw [hs,hk];have hmod:=modify_row (F:=F) (m:=m) hmlt (g:=fun row=>putL row 1 [CD.v (Value.int IntKind.i64 (F[m].n + o[i].n))]) (p:=⟨1,F[m].n + o[i].n,F[m].signs⟩) (by simp [Part.row,ck]);simp [e,g48,g64,g80,hm,hmod]
      ·rw [if_neg ck] at hk
       simp [ck,g48,g5000,g128,hm];refine ⟨by omega,fun b=>⟨by omega,fun H=>?_⟩⟩;refine Ent.kill 5001 (Ent.refl ⟨i + 1,by omega,by omega,H,none,?_⟩);rw [hs,hk];simp [e,Part.row,g64,g80,hm]
     ·have hF0 : F = []:=List.eq_nil_of_length_eq_zero (by omega)
      subst hF0;have hk : nbKeep [] o[i].n = [⟨1,o[i].n,[]⟩]:=by simp [nbKeep]
      simp [g48,g5000,g128];intro b H;refine Ent.kill 5001 (Ent.refl ⟨i + 1,by omega,by omega,H,none,?_⟩);rw [hs,hk];simp [e,Part.row,g64,g80]
    ·simp [c2,c3,cn]
     refine Ent.refl ⟨i + 1,by omega,by omega,Hl,Hp,?_⟩;rw [hs];simp [nbStep,c2,c3,cn,e]
 ·have he : o.take i = o:=List.take_of_length_le (by omega)
  rw [he] at hok ⊢;have hn : normal o = nbFlush (nbRun o).1 (nbRun o).2.1 (nbRun o).2.2:=rfl;rw [hn];generalize nbRun o = s at hok;obtain ⟨L,P,D⟩:=s;obtain ⟨k1,k2,k3,k4,k5⟩:=hok;simp only at k1 k2 k3 k4 k5;simp [h];refine implFlush_call (L:=L) (P:=P) (D:=D) (Hl:=Hl) (Hp:=Hp) (by omega) (by omega) (by simp) (by simp) (by simp) (by simp) (by simp) (fun Hl' h' g48 g5000 g64 g80 g128=>?_);simp [g48,g5000]
theorem specFlush_call {w0 : World} {bF bG : Nat→Prop} {bl : Bool} {st : ASt} {dst : Option Nat} {K : ASt→Prop} {L : List Part} {P : List Int} {D : Int} {b : Nat} {Hl Hp : Hd} (hL : L.length≤2 ^ 20) (_hP : P.length≤2 ^ 40)
 (g160 : st.h.get 160 = .vars b 121 [.sl 5000 Hl 3 0 L.length,.sl 5001 Hp 1 0 P.length,.v (.int .i64 D)])
 (g5000 : st.h.get 5000 = .rows Hl 3 (L.map Part.row) true) (g5001 : st.h.get 5001 = .rows Hp 1 (P.map intR) true)
 (hK : ∀ Hl' h',AH.get h' 160 = .vars b 121 [.sl 5000 Hl' 3 0 (nbFlush L P D).length,.nil,.v (.int .i64 0)] → AH.get h' 5000 = .rows Hl' 3 ((nbFlush L P D).map Part.row) true →
  AH.get h' 80 = st.h.get 80→aPut ⟨st.n,st.kb,st.t,h'⟩ dst (.tup []) K) : ACall ⟨Try.prog,tt,w0,⟨bF,bG,bl,fun _=>True⟩⟩ 105 [.p 160 b 0] st dst K:=by
 refine ACall.inline tt_ok Try.func105 (by kernel_rfl) rfl rfl rfl (Nat.le_of_ble_eq_true rfl) 20000 (fun w1 F=>?_);simp [g160];by_cases hp : P = []
 ·have hp0 : ¬ 0 < P.length:=by simp [hp]
  simp [hp0,g160];by_cases hd : 0 < D
  ·simp [hd]
   refine DrawT.introP eok mix [0,1,2,3,4,5,6,7,8,9,12,13] [10,11,14] [([false,false,true,false,false,false,false,false,false,false,false,false],[true,true,false,true,true,true,true,true,true,true,true,true]),([false,false,false,false,false,false,false,true,false,false,false,false],[true,true,false,true,true,true,true,false,true,true,true,true]),([true,false,false,true,true,true,true,false,true,true,true,true],[false,true,false,false,false,false,false,false,false,false,false,false])] [false,true,false,false,false,false,false,false,false,false,false,false] (by kernel_rfl) ?_;simp [g160,g5000];intro b1;refine ⟨by omega,fun H=>hK H _ ?_ ?_ ?_⟩<;>simp [flush3 hp hd,Part.row]
  ·simp [hd,g160]
   refine hK Hl _ ?_ ?_ ?_<;>simp [flush4 hp hd,g5000]
 ·have hp0 : 0 < P.length:=List.length_pos_iff.2 hp
  simp [hp0];refine DrawT.introP eok mix [0,1,2,3,4,5,6,7,8,9,12,13] [10,11,14] [([false,false,true,false,false,false,false,false,false,false,false,false],[true,true,false,true,true,true,true,true,true,true,true,true]),([false,false,false,false,false,false,false,true,false,false,false,false],[true,true,false,true,true,true,true,false,true,true,true,true]),([true,false,false,true,true,true,true,false,true,true,true,true],[false,true,false,false,false,false,false,false,false,false,false,false])] [false,true,false,false,false,false,false,false,false,false,false,false] (by kernel_rfl) ?_;simp [g160,g5000,g5001];intro b1;refine ⟨by omega,fun H=>?_⟩;by_cases hd : 0 < D
  ·simp [hd]
   refine DrawT.introP eok mix [0,1,2,3,4,5,6,7,8,9,12,13] [10,11,14] [([false,false,true,false,false,false,false,false,false,false,false,false],[true,true,false,true,true,true,true,true,true,true,true,true]),([false,false,false,false,false,false,false,true,false,false,false,false],[true,true,false,true,true,true,true,false,true,true,true,true]),([true,false,false,true,true,true,true,false,true,true,true,true],[false,true,false,false,false,false,false,false,false,false,false,false])] [false,true,false,false,false,false,false,false,false,false,false,false] (by kernel_rfl) ?_;simp;intro b2;refine ⟨by omega,fun H2=>hK H2 _ ?_ ?_ ?_⟩<;>simp [flush1 hp hd,Part.row]
  ·simp [hd]
   refine hK H _ ?_ ?_ ?_<;>simp [flush2 hp hd,Part.row]
theorem specKeep_call {w0 : World} {bF bG : Nat→Prop} {bl : Bool} {st : ASt} {dst : Option Nat} {K : ASt→Prop} {L : List Part} {P : List Int} {D n : Int} {b : Nat} {Hl Hp : Hd} (hL : L.length≤2 ^ 19) (hP : P.length≤2 ^ 40) (hn0 : 0 < n) (hn : n≤200) (hF : ∀ q∈nbFlush L P D,0≤q.n∧q.n≤2 ^ 40)
 (g160 : st.h.get 160 = .vars b 121 [.sl 5000 Hl 3 0 L.length,.sl 5001 Hp 1 0 P.length,.v (.int .i64 D)])
 (g5000 : st.h.get 5000 = .rows Hl 3 (L.map Part.row) true) (g5001 : st.h.get 5001 = .rows Hp 1 (P.map intR) true)
 (hK : ∀ Hl' h',AH.get h' 160 = .vars b 121 [.sl 5000 Hl' 3 0 (nbKeep (nbFlush L P D) n).length,.nil,.v (.int .i64 0)] → AH.get h' 5000 = .rows Hl' 3 ((nbKeep (nbFlush L P D) n).map Part.row) true →
  AH.get h' 80 = st.h.get 80→aPut ⟨st.n,st.kb,st.t,h'⟩ dst (.tup []) K) : ACall ⟨Try.prog,tt,w0,⟨bF,bG,bl,fun _=>True⟩⟩ 80 [.p 160 b 0,.v (.int .i64 n)] st dst K:=by
 refine ACall.inline tt_ok Try.func80 (by kernel_rfl) rfl rfl rfl (Nat.le_of_ble_eq_true rfl) 30000 (fun w1 F=>?_);have n0 : ¬ n = 0:=by omega
 simp [n0];refine specFlush_call (L:=L) (P:=P) (D:=D) (Hl:=Hl) (Hp:=Hp) (by omega) hP (by simp [g160]) (by simp [g5000]) (by simp [g5001]) (fun Hl' h' k160 k5000 k80=>?_);have f1:=nbFlush_len L P D;generalize nbFlush L P D = F at f1 hF k160 k5000 hK;by_cases hF0 : 0 < F.length
 ·obtain ⟨m,hm⟩ : ∃ m,F.length = m + 1:=⟨F.length - 1,by omega⟩
  have hmlt : m < F.length:=by omega
  have hmm : (m : Int) < m + 1:=by omega
  have em : Go.IntKind.i64.wrap (m : Int) = m:=i64_nat (by omega)
  have hk : nbKeep F n = if F[m].kind = 1 then F.set m ⟨1,F[m].n + n,F[m].signs⟩ else F ++ [⟨1,n,[]⟩]:=by
   have e0 : F.length - 1 = m:=by omega
   simp [nbKeep,hF0,e0]
  have hq:=hF _ (List.getElem_mem hmlt);have em2 : Go.IntKind.i64.wrap (F[m].n + n) = F[m].n + n:=Go.IntWalk.i64_in _ (by omega);simp [k160,k5000,hm,em,hmm,Part.row];by_cases ck : F[m].kind = 1
  ·rw [if_pos ck] at hk
   simp [ck];refine DrawT.introP eok mix [0,1,2,3,4,5,6,7,8,9,10,11,12,13,14,15,16,17,18] [19] [([true,false,true,true,true,true,true,true,true,true,true,true,true,true,true,true,true,true,true],[false,true,false,false,false,false,false,false,false,false,false,false,false,false,false,false,false,false,false])] [false,true,false,false,false,false,false,false,false,false,false,false,false,false,false,false,false,false,false] (by kernel_rfl) ?_;simp [k160,k5000,hm,em,hmm,Part.row,ck,em2];have hmod:=modify_row (F:=F) (m:=m) hmlt (g:=fun row=>putL row 1 [CD.v (Value.int IntKind.i64 (F[m].n + n))]) (p:=⟨1,F[m].n + n,F[m].signs⟩) (by simp [Part.row,ck]);refine hK Hl' _ ?_ ?_ ?_
   ·simp [k160,hk,hm]
   ·simp [hk,hmod]
   ·simp [k80]
  ·rw [if_neg ck] at hk
   simp [ck,k160,k5000,hm];intro b1;refine ⟨by omega,fun H=>hK H _ ?_ ?_ ?_⟩<;>simp [hk,hm,Part.row,k80]
 ·have hF1 : F = []:=List.eq_nil_of_length_eq_zero (by omega)
  subst hF1;have hk : nbKeep [] n = [⟨1,n,[]⟩]:=by simp [nbKeep]
  simp [k160,k5000];intro b1 H;refine hK H _ ?_ ?_ ?_<;>simp [hk,Part.row,k80]
open Classical in
noncomputable def opNorm (o : List Part) : List Part:=if opOk o then normal o else []
theorem implOpNorm_c (o : List Part) (hl : nL nPart o≤2 ^ 40) : PureC Try.prog 76 [.c (.s (o.map Part.row))] (.one (.c (.s ((opNorm o).map Part.row)) 3)):=by
 refine PureC.intro' tt_ok Try.func76 (by kernel_rfl) rfl rfl rfl (Nat.le_of_ble_eq_true rfl) (fun w0 base=>?_);simp;refine ACall.pure (implOpOk_c o hl) (by simp) ?_;by_cases h : opOk o
 ·have e : opNorm o = normal o:=by unfold opNorm;rw [if_pos h]
  simp [h,e];refine ACall.pure (normal_c o h.1.1 (by have:=h.1.2;omega)) (by simp) ?_;simp
 ·have e : opNorm o = []:=by unfold opNorm;rw [if_neg h]
  have e2 : dc (opOk o) = false:=by rw [dc_no];exact h
  simp [e,e2]
theorem specOpNorm_c (o : List Part) (hl : nL nPart o≤2 ^ 40) : PureC Try.prog 48 [.c (.s (o.map Part.row))] (.one (.c (.s ((opNorm o).map Part.row)) 3)):=by
 refine PureC.intro' tt_ok Try.func48 (by kernel_rfl) rfl rfl rfl (Nat.le_of_ble_eq_true rfl) (fun w0 base=>?_);simp;refine ACall.pure (specOpOk_c o hl) (by simp) ?_;by_cases hopk : opOk o
 rotate_left
 ·have e : opNorm o = []:=by unfold opNorm;rw [if_neg hopk]
  have e2 : dc (opOk o) = false:=by rw [dc_no];exact hopk
  simp [e,e2]
 have e : opNorm o = normal o:=by unfold opNorm;rw [if_pos hopk]
 have ho:=hopk.1.1;have hlen:=hopk.1.2;simp [hopk,e];intro b
 refine LoopT.introG eok (fun x : Nat × Hd × Hd=>x.1≤o.length) (fun x=>⟨38,0,[(13,.v (.int .i64 x.1)),(12,.v (.int .i64 o.length)),(11,.ro (o.map Part.row)),(3,.p 160 b 0)],
  [(160,.vars b 121 [.sl 5000 x.2.1 3 0 (nbRun (o.take x.1)).1.length,.sl 5001 x.2.2 1 0 (nbRun (o.take x.1)).2.1.length,.v (.int .i64 (nbRun (o.take x.1)).2.2)]),
   (5000,.rows x.2.1 3 ((nbRun (o.take x.1)).1.map Part.row) true),(5001,.rows x.2.2 1 ((nbRun (o.take x.1)).2.1.map intR) true)]⟩) (fun x=>o.length - x.1) (0,none,none) (by simp) (by simp [nbRun]) (fun x hx=>Ent.refl ?_)
 obtain ⟨i,Hl,Hp⟩:=x;simp only at hx ⊢;have hok:=nbRun_ok ho i hx;by_cases h : i < o.length
 ·have hs:=nbRun_suc h
  have hpb:=(ho _ (List.getElem_mem h)).bounds;generalize nbRun (o.take i) = s at hok hs;obtain ⟨L,P,D⟩:=s;obtain ⟨k1,k2,k3,k4,k5⟩:=hok;simp only at k1 k2 k3 k4 k5;have e : Go.IntKind.i64.wrap ((i : Int) + 1) = ((i + 1 : Nat) : Int):=i64_suc (by omega);simp [h,Part.row];intro b5;by_cases c1 : o[i].kind = 1
  ·simp [c1]
   by_cases cn : 0 < o[i].n
   ·have hstep : nbStep (L,P,D) o[i] = (nbKeep (nbFlush L P D) o[i].n,[],0):=by simp [nbStep,c1,cn]
    rw [hstep] at hs;have f2:=nbFlush_q (P:=P) k3 k4 k5;refine specKeep_call (L:=L) (P:=P) (D:=D) (Hl:=Hl) (Hp:=Hp) (by omega) (by omega) cn hpb.2.2.1 (fun q hq=>by have:=f2 q hq;omega) (by simp) (by simp) (by simp) (fun Hl' h' k160 k5000 k80=>?_);simp;refine Ent.kill 5001 (Ent.refl ⟨i + 1,by omega,by omega,Hl',none,?_⟩);rw [hs];simp [e,k160,k5000]
   ·have cn0 : o[i].n = 0:=by omega
    refine ACall.inline tt_ok Try.func80 (by kernel_rfl) rfl rfl rfl (Nat.le_of_ble_eq_true rfl) 30000 (fun w1 F=>?_);simp [cn0];refine Ent.refl ⟨i + 1,by omega,by omega,Hl,Hp,?_⟩;rw [hs];simp [nbStep,c1,cn0,e]
  ·by_cases c2 : o[i].kind = 2
   ·simp [c2]
    refine ACall.inline tt_ok Try.func81 (by kernel_rfl) rfl rfl rfl (Nat.le_of_ble_eq_true rfl) 30000 (fun w1 F=>?_);simp;refine ⟨by omega,fun H=>?_⟩;refine Ent.refl ⟨i + 1,by omega,by omega,Hl,H,?_⟩;rw [hs];simp [nbStep,c2,e]
   ·have c3 : o[i].kind = 3:=by omega
    have e3 : Go.IntKind.i64.wrap (D + o[i].n) = D + o[i].n:=Go.IntWalk.i64_in _ (by omega);simp [c1,c2];refine ACall.inline tt_ok Try.func82 (by kernel_rfl) rfl rfl rfl (Nat.le_of_ble_eq_true rfl) 30000 (fun w1 F=>?_);simp [e3];refine Ent.refl ⟨i + 1,by omega,by omega,Hl,Hp,?_⟩;rw [hs];simp [nbStep,c3,e]
 ·have he : o.take i = o:=List.take_of_length_le (by omega)
  rw [he] at hok ⊢;have hn : normal o = nbFlush (nbRun o).1 (nbRun o).2.1 (nbRun o).2.2:=rfl;rw [hn];generalize nbRun o = s at hok;obtain ⟨L,P,D⟩:=s;obtain ⟨k1,k2,k3,k4,k5⟩:=hok;simp only at k1 k2 k3 k4 k5;simp [h];refine ACall.inline tt_ok Try.func83 (by kernel_rfl) rfl rfl rfl (Nat.le_of_ble_eq_true rfl) 30000 (fun w1 F=>?_);simp;refine specFlush_call (L:=L) (P:=P) (D:=D) (Hl:=Hl) (Hp:=Hp) (by omega) (by omega) (by simp) (by simp) (by simp) (fun Hl' h' k160 k5000 k80=>?_);simp [k160,k5000]
theorem slEqInt_c (a b : List Int) (hl : a.length≤2 ^ 40) : PureC Try.prog 40 [.c (.s (a.map intR)),.c (.s (b.map intR))] (.one (.c (vb (a = b)) 1)):=by
 refine PureC.intro' tt_ok Try.func40 (by kernel_rfl) rfl rfl rfl (Nat.le_of_ble_eq_true rfl) (fun w0 base=>?_);by_cases h : a.length = b.length
 ·simp [h]
  refine LoopT.intro eok (fun i : Nat=>i≤a.length∧a.take i = b.take i) (fun i=>⟨26,0,[(13,.v (.int .i64 i)),(12,.v (.int .i64 b.length)),(1,.ro (b.map intR)),(0,.ro (a.map intR))],[]⟩) (fun i=>a.length - i) 0 (by simp) (by simp) (fun i hi=>?_);by_cases hlt : i < a.length
  ·have hlt' : i < b.length:=by omega
   simp [hlt'];refine DrawT.quiet eok mix (by kernel_rfl) ?_;simp [hlt,hlt'];refine Br.mk (fun h1=>?_) (fun h1=>?_)
   ·simp
    exact ⟨i + 1,⟨by omega,take_next hlt hlt' hi.2 (of_yes h1)⟩,by omega,i64_suc (by omega)⟩
   ·simp [dc_no]
    exact ne_at hlt hlt' (of_no h1)
  ·have hlt' : ¬ i < b.length:=by omega
   simp [hlt',dc_yes];exact take_all (by omega) (by omega) hi.2
 ·have hz : ¬ (a.length : Int) = b.length:=by omega
  simp [hz,dc_no];exact fun h2=>absurd (by rw [h2]) h
theorem signsSame_c (a b : List Int) (hl : a.length≤2 ^ 40) : PureC Try.prog 132 [.c (.s (a.map intR)),.c (.s (b.map intR))] (.one (.c (vb (a = b)) 1)):=by
 refine PureC.intro' tt_ok Try.func132 (by kernel_rfl) rfl rfl rfl (Nat.le_of_ble_eq_true rfl) (fun w0 base=>?_);by_cases h : a.length = b.length
 ·simp [h]
  refine LoopT.intro eok (fun i : Nat=>i≤a.length∧a.take i = b.take i) (fun i=>⟨26,0,[(13,.v (.int .i64 i)),(12,.v (.int .i64 b.length)),(1,.ro (b.map intR)),(0,.ro (a.map intR))],[]⟩) (fun i=>a.length - i) 0 (by simp) (by simp) (fun i hi=>?_);by_cases hlt : i < a.length
  ·have hlt' : i < b.length:=by omega
   simp [hlt'];refine DrawT.quiet eok mix (by kernel_rfl) ?_;simp [hlt,hlt'];refine Br.mk (fun h1=>?_) (fun h1=>?_)
   ·simp
    exact ⟨i + 1,⟨by omega,take_next hlt hlt' hi.2 (of_yes h1)⟩,by omega,i64_suc (by omega)⟩
   ·simp [dc_no]
    exact ne_at hlt hlt' (of_no h1)
  ·have hlt' : ¬ i < b.length:=by omega
   simp [hlt',dc_yes];exact take_all (by omega) (by omega) hi.2
 ·have hz : ¬ (a.length : Int) = b.length:=by omega
  simp [hz,dc_no];exact fun h2=>absurd (by rw [h2]) h
theorem samePart_c (p q : Part) (hl : p.signs.length≤2 ^ 40) : PureC Try.prog 46 [.agg p.row,.agg q.row] (.one (.c (vb (p = q)) 1)):=by
 refine PureC.intro' tt_ok Try.func46 (by kernel_rfl) rfl rfl rfl (Nat.le_of_ble_eq_true rfl) (fun w0 base=>?_);obtain ⟨k1,n1,s1⟩:=p;obtain ⟨k2,n2,s2⟩:=q;simp [Part.row];intro b1 b2;by_cases h1 : k1 = k2
 ·by_cases h2 : n1 = n2
  ·simp [h1,h2]
   refine ACall.pure (slEqInt_c s1 s2 hl) (by simp) ?_;simp
  ·simp [h1,h2]
 ·simp [h1]
theorem equalFunc_c (a b : List Part) (hl : a.length≤2 ^ 40) (hs : ∀ p∈a,p.signs.length≤2 ^ 40) : PureC Try.prog 45 [.c (.s (a.map Part.row)),.c (.s (b.map Part.row)),.c (.v (.func (.func 46) #[] #[]))] (.one (.c (vb (a = b)) 1)):=by
 refine PureC.intro' tt_ok Try.func45 (by kernel_rfl) rfl rfl rfl (Nat.le_of_ble_eq_true rfl) (fun w0 base=>?_);by_cases h : a.length = b.length
 ·simp [h]
  refine LoopT.intro eok (fun i : Nat=>i≤a.length∧a.take i = b.take i) (fun i=>⟨32,0,[(17,.v (.int .i64 i)),(16,.v (.int .i64 b.length)),(15,.ro (a.map Part.row)),(2,.v (.func (.func 46) #[] #[])),(1,.ro (b.map Part.row))],[]⟩) (fun i=>a.length - i) 0 (by simp) (by simp) (fun i hi=>?_);by_cases hlt : i < a.length
  ·have hlt' : i < b.length:=by omega
   simp [hlt,hlt',Part.row];intro b1 b2;refine ACall.pure (samePart_c a[i] b[i] (hs _ (List.getElem_mem hlt))) (by simp [Part.row]) ?_;simp;refine Br.mk (fun h1=>?_) (fun h1=>?_)
   ·simp
    exact ⟨i + 1,⟨by omega,take_next hlt hlt' hi.2 (of_yes h1)⟩,by omega,i64_suc (by omega)⟩
   ·simp [dc_no]
    exact ne_at hlt hlt' (of_no h1)
  ·have hlt' : ¬ i < b.length:=by omega
   simp [hlt',dc_yes];exact take_all (by omega) (by omega) hi.2
 ·have hz : ¬ (a.length : Int) = b.length:=by omega
  simp [hz,dc_no];exact fun h2=>absurd (by rw [h2]) h
theorem opSame_c (a b : List Part) (hl : a.length≤2 ^ 40) (hs : ∀ p∈a,p.signs.length≤2 ^ 40) : PureC Try.prog 17 [.c (.s (a.map Part.row)),.c (.s (b.map Part.row))] (.one (.c (vb (a = b)) 1)):=by
 refine PureC.intro' tt_ok Try.func17 (by kernel_rfl) rfl rfl rfl (Nat.le_of_ble_eq_true rfl) (fun w0 base=>?_);simp;refine ACall.pure (equalFunc_c a b hl hs) (by simp) ?_;simp
theorem specOpSame_c (a b : List Part) (hl : a.length≤2 ^ 40) (hs : ∀ p∈a,p.signs.length≤2 ^ 40) : PureC Try.prog 127 [.c (.s (a.map Part.row)),.c (.s (b.map Part.row))] (.one (.c (vb (a = b)) 1)):=by
 refine PureC.intro' tt_ok Try.func127 (by kernel_rfl) rfl rfl rfl (Nat.le_of_ble_eq_true rfl) (fun w0 base=>?_);by_cases h : a.length = b.length
 ·simp [h]
  refine LoopT.intro eok (fun i : Nat=>i≤a.length∧a.take i = b.take i) (fun i=>⟨49,0,[(14,.v (.int .i64 i)),(13,.v (.int .i64 b.length)),(12,.ro (a.map Part.row)),(1,.ro (b.map Part.row))],[]⟩) (fun i=>a.length - i) 0 (by simp) (by simp) (fun i hi=>?_);by_cases hlt : i < a.length
  ·have hlt' : i < b.length:=by omega
   simp [hlt,hlt',Part.row];intro b1;refine DrawT.quiet eok mix (by kernel_rfl) ?_;simp [hlt',Part.row];by_cases h1 : a[i].kind = b[i].kind
   ·by_cases h2 : a[i].n = b[i].n
    ·simp [h1,h2,hlt',Part.row]
     refine ⟨_,_,signsSame_c a[i].signs b[i].signs (hs _ (List.getElem_mem hlt)),by simp,?_⟩;simp;by_cases h3 : a[i].signs = b[i].signs
     ·simp [h3]
      have he : a[i] = b[i]:=by
       cases hx : a[i];cases hy : b[i]
       rw [hx,hy] at h1 h2 h3;simp at h1 h2 h3;rw [h1,h2,h3]
      exact ⟨i + 1,⟨by omega,take_next hlt hlt' hi.2 he⟩,by omega,i64_suc (by omega)⟩
     ·simp [h3,dc_no]
      exact ne_at hlt hlt' (fun he=>h3 (by rw [he]))
    ·simp [h1,h2,hlt',Part.row,dc_no]
     exact ne_at hlt hlt' (fun he=>h2 (by rw [he]))
   ·simp [h1,dc_no]
    exact ne_at hlt hlt' (fun he=>h1 (by rw [he]))
  ·have hlt' : ¬ i < b.length:=by omega
   simp [hlt',dc_yes];exact take_all (by omega) (by omega) hi.2
 ·have hz : ¬ (a.length : Int) = b.length:=by omega
  simp [hz,dc_no];exact fun h2=>absurd (by rw [h2]) h
theorem implOpSame_c (a b : List Part) (h : nL nPart a≤2 ^ 40) : PureC Try.prog 17 [.c (.s (a.map Part.row)),.c (.s (b.map Part.row))] (.one (.c (vb (a = b)) 1)):=opSame_c a b (nL_len h) (fun _p hp=>nL_mem h hp)
theorem specOpSame_c' (a b : List Part) (h : nL nPart a≤2 ^ 40) : PureC Try.prog 127 [.c (.s (a.map Part.row)),.c (.s (b.map Part.row))] (.one (.c (vb (a = b)) 1)):=specOpSame_c a b (nL_len h) (fun _p hp=>nL_mem h hp)
theorem sumN_append {α : Type} {f : α→Nat} : ∀ (a b : List α),sumN f (a ++ b) = sumN f a + sumN f b
 | [],b=>by simp [sumN]
 | x :: a,b=>by simp only [List.cons_append,sumN,sumN_append a b];omega
theorem sumN_set {α : Type} {f : α→Nat} : ∀ (l : List α) (i : Nat) (h : i < l.length) (x : α),f x = f l[i]→sumN f (l.set i x) = sumN f l
 | a :: l,0,_,x,hx=>by simp at hx;simp [sumN,hx]
 | a :: l,i + 1,h,x,hx=>by
   simp only [List.set_cons_succ,sumN];rw [sumN_set l i (by simpa using h) x (by simpa using hx)]
theorem nbFlush_sum {L : List Part} {P : List Int} {D : Int} : sumN nPart (nbFlush L P D) = sumN nPart L + P.length:=by
 unfold nbFlush;rw [sumN_append,sumN_append];by_cases hp : P = []<;>by_cases hd : 0 < D<;>simp [hp,hd,sumN,nPart]
theorem nbKeep_sum {L : List Part} {n : Int} : sumN nPart (nbKeep L n) = sumN nPart L:=by
 unfold nbKeep
 split
 ·rename_i h
  split
  ·exact sumN_set L _ (by omega) _ rfl
  ·rw [sumN_append];simp [sumN,nPart]
 ·rename_i h
  have : L = []:=List.eq_nil_of_length_eq_zero (by omega);subst this;simp [sumN,nPart]
theorem nbRun_sum {o : List Part} : ∀ (i : Nat),i≤o.length→sumN nPart (nbRun (o.take i)).1 + (nbRun (o.take i)).2.1.length≤sumN nPart (o.take i)
 | 0,_=>by simp [nbRun,sumN]
 | i + 1,hi=>by
   have ih:=nbRun_sum (o:=o) i (by omega);have hlt : i < o.length:=by omega
   rw [nbRun_suc hlt,← List.take_append_getElem hlt,sumN_append];generalize nbRun (o.take i) = s at ih;generalize o[i] = p;obtain ⟨L,P,D⟩:=s;simp only at ih;have hp : sumN nPart [p] = p.signs.length:=by simp [sumN,nPart]
   rw [hp];unfold nbStep
   split
   ·simp;omega
   ·split
    ·simp;omega
    ·split
     ·simp only [nbKeep_sum,nbFlush_sum];simp;omega
     ·simp;omega
theorem normal_sum (o : List Part) : sumN nPart (normal o)≤sumN nPart o:=by
 have h:=nbRun_sum (o:=o) o.length (by omega);rw [List.take_length] at h;unfold normal;rw [nbFlush_sum];exact h
theorem normal_len {o : List Part} (ho : ∀ p∈o,partOk p) : (normal o).length≤3 * o.length + 2:=by
 have h:=(nbRun_ok ho o.length (by omega)).l;rw [List.take_length] at h;have:=nbFlush_len (nbRun o).1 (nbRun o).2.1 (nbRun o).2.2;unfold normal;omega
theorem sumN_parts {o : List Part} (ho : ∀ p∈o,partOk p) : sumN nPart o≤200 * o.length:=by
 induction o with
 | nil=>simp [sumN]
 | cons p o ih=>
   have h1:=(ho p (List.mem_cons_self ..)).bounds;have h2:=ih (fun q hq=>ho q (List.mem_cons_of_mem _ hq));simp only [sumN,nPart,List.length_cons];omega
theorem nL_parts {o : List Part} (ho : ∀ p∈o,partOk p) : nL nPart o≤201 * o.length:=by
 have:=sumN_parts ho;unfold nL;omega
theorem nL_normal {o : List Part} (ho : ∀ p∈o,partOk p) : nL nPart (normal o)≤203 * o.length + 2:=by
 have h1:=normal_sum o;have h2:=normal_len ho;have h3:=sumN_parts ho;unfold nL;omega
theorem opNorm_n (o : List Part) : nL nPart (opNorm o)≤2 ^ 20:=by
 unfold opNorm
 split
 ·rename_i h
  have:=nL_normal h.1.1;have:=h.1.2;omega
 ·simp [nL,sumN]
def isNorm (o : List Part) : Prop:=opOk o∧opNorm o = o
theorem implIsNorm_c (o : List Part) (hl : nL nPart o≤2 ^ 40) : PureC Try.prog 38 [.c (.s (o.map Part.row))] (.one (.c (vb (isNorm o)) 1)):=by
 refine PureC.intro' tt_ok Try.func38 (by kernel_rfl) rfl rfl rfl (Nat.le_of_ble_eq_true rfl) (fun w0 base=>?_);simp;refine ACall.pure (implOpOk_c o hl) (by simp) ?_;by_cases h : opOk o
 ·simp [h]
  refine ACall.pure (implOpNorm_c o hl) (by simp) ?_;simp;intro H;refine ACall.pure (implOpSame_c o (opNorm o) hl) (by simp) ?_;simp [isNorm,h];exact dc_congr ⟨fun h=>h.symm,fun h=>h.symm⟩
 ·simp [h,isNorm]
theorem specIsNorm_c (o : List Part) (hl : nL nPart o≤2 ^ 40) : PureC Try.prog 114 [.c (.s (o.map Part.row))] (.one (.c (vb (isNorm o)) 1)):=by
 refine PureC.intro' tt_ok Try.func114 (by kernel_rfl) rfl rfl rfl (Nat.le_of_ble_eq_true rfl) (fun w0 base=>?_);simp;refine ACall.pure (specOpOk_c o hl) (by simp) ?_;by_cases h : opOk o
 ·simp [h]
  refine ACall.pure (specOpNorm_c o hl) (by simp) ?_;simp;intro H;refine ACall.pure (specOpSame_c' (opNorm o) o (Nat.le_trans (opNorm_n o) (by decide))) (by simp) ?_;simp [isNorm,h]
 ·simp [h,isNorm]
open Classical in
noncomputable def puts (o : List Part) : Int:=if opOk o then sumI fP o else 0
open Classical in
noncomputable def drops (o : List Part) : Int:=if opOk o then sumI fD o else 0
open Classical in
noncomputable def sizeOfKind (o : List Part) (k : Int) : Int:=if opOk o then sumI (fOf k) o else 0
theorem puts_size (o : List Part) : sizeOfKind o 2 = puts o:=by
 unfold sizeOfKind puts
 split
 ·rename_i h;exact sumI_congr (fun p hp=>of2 (h.1.1 p hp))
 ·rfl
theorem drops_size (o : List Part) : sizeOfKind o 3 = drops o:=by
 unfold sizeOfKind drops
 split
 ·rename_i h;exact sumI_congr (fun p hp=>of3 (h.1.1 p hp))
 ·rfl
theorem implSizeOfKind_c (o : List Part) (hl : nL nPart o≤2 ^ 40) (k : Int) : PureC Try.prog 77 [.c (.s (o.map Part.row)),.c (vi k)] (.one (.c (vi (sizeOfKind o k)) 1)):=by
 refine PureC.intro' tt_ok Try.func77 (by kernel_rfl) rfl rfl rfl (Nat.le_of_ble_eq_true rfl) (fun w0 base=>?_);have hle:=nL_len hl;simp;refine ACall.pure (implOpOk_c o hl) (by simp) ?_;by_cases hok : opOk o
 ·have ho:=hok.1
  have hr : sizeOfKind o k = sumI (fOf k) o:=by unfold sizeOfKind;rw [if_pos hok]
  simp [hok,hr];refine LoopT.intro eok (fun i : Nat=>i≤o.length) (fun i=>⟨27,0,[(13,.v (.int .i64 i)),(12,.v (.int .i64 o.length)),(11,.ro (o.map Part.row)),(5,.v (.int .i64 (sumI (fOf k) (o.take i)))),(1,.v (.int .i64 k))],[]⟩) (fun i=>o.length - i) 0 (by simp) (by simp [sumI]) (fun i hi=>?_);by_cases h : i < o.length
  ·have hp:=ho.1 _ (List.getElem_mem h)
   have hb:=sumI_bound (f:=fOf k) (fun p h=>fOf_b h) (take_ok ho.1 i);have hb2:=hp.bounds;have hlen:=ho.2;have hlt : (o.take i).length≤600:=by simp;omega
   have hs:=sumI_suc (f:=fOf k) h;obtain ⟨q,hq⟩ : ∃ q,sumI (fOf k) (o.take i) = q:=⟨_,rfl⟩;have e : Go.IntKind.i64.wrap ((i : Int) + 1) = ((i + 1 : Nat) : Int):=i64_suc (by omega);rw [hq] at hs hb;simp [h,Part.row,hq];intros;by_cases hk : o[i].kind = k
   ·simp [hk]
    refine ACall.pure (size_c o[i] hp) (by simp [Part.row,hk]) ?_;have e2 : Go.IntKind.i64.wrap (q + (o[i].n + (o[i].signs.length : Int))) = q + (o[i].n + o[i].signs.length):=Go.IntWalk.i64_in _ (by omega);simp [e2];refine ⟨i + 1,by omega,by omega,e,?_⟩;rw [hs];simp [fOf,hk]
   ·simp [hk]
    refine ⟨i + 1,by omega,by omega,e,?_⟩;rw [hs];simp [fOf,hk]
  ·simp [h]
   rw [List.take_of_length_le (by omega)]
 ·have e : dc (opOk o) = false:=by rw [dc_no];exact hok
  have hr : sizeOfKind o k = 0:=by unfold sizeOfKind;rw [if_neg hok]
  simp [e,hr]
theorem implPuts_c (o : List Part) (hl : nL nPart o≤2 ^ 40) : PureC Try.prog 43 [.c (.s (o.map Part.row))] (.one (.c (vi (puts o)) 1)):=by
 refine PureC.intro' tt_ok Try.func43 (by kernel_rfl) rfl rfl rfl (Nat.le_of_ble_eq_true rfl) (fun w0 base=>?_);simp;refine ACall.pure (implSizeOfKind_c o hl 2) (by simp) ?_;simp [puts_size]
theorem implDrops_c (o : List Part) (hl : nL nPart o≤2 ^ 40) : PureC Try.prog 44 [.c (.s (o.map Part.row))] (.one (.c (vi (drops o)) 1)):=by
 refine PureC.intro' tt_ok Try.func44 (by kernel_rfl) rfl rfl rfl (Nat.le_of_ble_eq_true rfl) (fun w0 base=>?_);simp;refine ACall.pure (implSizeOfKind_c o hl 3) (by simp) ?_;simp [drops_size]
theorem specPuts_c (o : List Part) (hl : nL nPart o≤2 ^ 40) : PureC Try.prog 115 [.c (.s (o.map Part.row))] (.one (.c (vi (puts o)) 1)):=by
 refine PureC.intro' tt_ok Try.func115 (by kernel_rfl) rfl rfl rfl (Nat.le_of_ble_eq_true rfl) (fun w0 base=>?_);simp;refine ACall.pure (specOpOk_c o hl) (by simp) ?_;by_cases h : opOk o
 ·simp [h]
  refine ACall.pure (l02Sum_c o hl) (by simp) ?_;simp [puts,h,l02Sum,h.1]
 ·have e : dc (opOk o) = false:=by rw [dc_no];exact h
  simp [puts,h]
theorem specDrops_c (o : List Part) (hl : nL nPart o≤2 ^ 40) : PureC Try.prog 116 [.c (.s (o.map Part.row))] (.one (.c (vi (drops o)) 1)):=by
 refine PureC.intro' tt_ok Try.func116 (by kernel_rfl) rfl rfl rfl (Nat.le_of_ble_eq_true rfl) (fun w0 base=>?_);simp;refine ACall.pure (specOpOk_c o hl) (by simp) ?_;by_cases h : opOk o
 ·simp [h]
  refine ACall.pure (l02Sum_c o hl) (by simp) ?_;simp [drops,h,l02Sum,h.1]
 ·have e : dc (opOk o) = false:=by rw [dc_no];exact h
  simp [drops,h]
def idle (o : List Part) : Prop:=opOk o∧puts o = 0∧drops o = 0
theorem implIdle_c (o : List Part) (hl : nL nPart o≤2 ^ 40) : PureC Try.prog 14 [.c (.s (o.map Part.row))] (.one (.c (vb (idle o)) 1)):=by
 refine PureC.intro' tt_ok Try.func14 (by kernel_rfl) rfl rfl rfl (Nat.le_of_ble_eq_true rfl) (fun w0 base=>?_);simp;refine ACall.pure (implOpOk_c o hl) (by simp) ?_;by_cases h : opOk o
 ·simp [h]
  refine ACall.pure (implPuts_c o hl) (by simp) ?_;by_cases h1 : puts o = 0
  ·simp [h1]
   refine ACall.pure (implDrops_c o hl) (by simp) ?_;simp [idle,h,h1]
  ·simp [h1,idle]
 ·simp [h,idle]
theorem specIdle_c (o : List Part) (hl : nL nPart o≤2 ^ 40) : PureC Try.prog 95 [.c (.s (o.map Part.row))] (.one (.c (vb (idle o)) 1)):=by
 refine PureC.intro' tt_ok Try.func95 (by kernel_rfl) rfl rfl rfl (Nat.le_of_ble_eq_true rfl) (fun w0 base=>?_);simp;refine ACall.pure (specOpOk_c o hl) (by simp) ?_;by_cases h : opOk o
 ·simp [h]
  refine ACall.pure (specPuts_c o hl) (by simp) ?_;by_cases h1 : puts o = 0
  ·simp [h1]
   refine ACall.pure (specDrops_c o hl) (by simp) ?_;simp [idle,h,h1]
  ·simp [h1,idle]
 ·simp [h,idle]
def textOk (t : List Int) : Prop:=t.length≤200∧signsOk t
theorem implTextOk_c (t : List Int) (hl : t.length≤2 ^ 40) : PureC Try.prog 35 [.c (.s (t.map intR))] (.one (.c (vb (textOk t)) 1)):=by
 refine PureC.intro' tt_ok Try.func35 (by kernel_rfl) rfl rfl rfl (Nat.le_of_ble_eq_true rfl) (fun w0 base=>?_);by_cases h : t.length≤200
 ·have h' : (t.length : Int)≤200:=by omega
  simp [h'];refine ACall.pure (implSignsOk_c t hl) (by simp) ?_;simp [textOk,h]
 ·have h' : ¬ (t.length : Int)≤200:=by omega
  simp [h',textOk,h]
theorem specTextOk_c (t : List Int) (hl : t.length≤2 ^ 40) : PureC Try.prog 113 [.c (.s (t.map intR))] (.one (.c (vb (textOk t)) 1)):=by
 refine PureC.intro' tt_ok Try.func113 (by kernel_rfl) rfl rfl rfl (Nat.le_of_ble_eq_true rfl) (fun w0 base=>?_);simp;refine ACall.pure (specSignsOk_c t hl) (by simp) ?_;have e : ((t.length : Int)≤200) = (t.length≤200):=by simp;omega
 by_cases hg : signsOk t
 ·simp [hg,textOk,e]
 ·simp [hg,textOk]
open Classical in
noncomputable def keeping (n : Int) : List Part:=if 1≤n∧n≤200 then [⟨1,n,[]⟩] else []
theorem implKeeping_c (n : Int) : PureC Try.prog 41 [.c (vi n)] (.one (.c (.s ((keeping n).map Part.row)) 3)):=by
 refine PureC.intro' tt_ok Try.func41 (by kernel_rfl) rfl rfl rfl (Nat.le_of_ble_eq_true rfl) (fun w0 base=>?_);simp;refine ACall.pure (within_c n 1 200) (by simp) ?_;by_cases h : 1≤n∧n≤200
 ·simp [h,keeping,Part.row]
 ·have e : dc (1≤n∧n≤200) = false:=by rw [dc_no];exact h
  have k : keeping n = []:=by unfold keeping;rw [if_neg h]
  simp [e,k]
theorem specKeeping_c (n : Int) : PureC Try.prog 93 [.c (vi n)] (.one (.c (.s ((keeping n).map Part.row)) 3)):=by
 refine PureC.intro' tt_ok Try.func93 (by kernel_rfl) rfl rfl rfl (Nat.le_of_ble_eq_true rfl) (fun w0 base=>?_);simp;refine ACall.pure (l01In_c n 1 200) (by simp) ?_;by_cases h : 1≤n∧n≤200
 ·simp [h,keeping,Part.row]
 ·have e : dc (1≤n∧n≤200) = false:=by rw [dc_no];exact h
  have k : keeping n = []:=by unfold keeping;rw [if_neg h]
  simp [e,k]
end Go.Proofs.Ytoldjebobgocpaa
