import Derived.Test.YtoeofekglbdemaaGreatNA
import Derived.Test.YtoeofekglbdemaaGreatMG
namespace Go.Proofs.YtoeofekglbdemaaGreat
open Go.AM
set_option maxRecDepth 20000
theorem toTask_c (x : Task) (h : nTask x≤2 ^ 36) : PureC Tryz.prog 135 [.agg x.row] (.one (.agg x.res)):=by
 refine PureC.intro' tt_ok Tryz.func135 (by kernel_rfl) rfl rfl rfl (Nat.le_of_ble_eq_true rfl) (fun w0 base=>?_);unfold nTask at h;simp [Task.row,Task.res]
 try intros
 refine ACall.pure (toCall_c x.c (by omega)) (by simp [Call.row]) ?_;simp [Call.res]
 try intros
 refine ACall.pure (toAnswer_c x.a (by omega)) (by simp [Answer.row]) ?_;simp [Answer.res]
 try intros
theorem eqTask_c (x y : Task) (h : nTask x≤2 ^ 36) : PureC Tryz.prog 139 [.agg x.row,.agg y.row] (.one (.c (vb (x = y)) 1)):=by
 refine PureC.intro' tt_ok Tryz.func139 (by kernel_rfl) rfl rfl rfl (Nat.le_of_ble_eq_true rfl) (fun w0 base=>?_);unfold nTask at h;obtain ⟨a0,a1,a2,a3,a4,a5⟩:=x;obtain ⟨b0,b1,b2,b3,b4,b5⟩:=y;simp only at h;simp [Task.row]
 try intros
 refine ACall.pure (eqCall_c a0 b0 (by omega)) (by simp [Call.row]) ?_;simp;by_cases h0 : a0 = b0
 rotate_left
 ·simp [h0]
 subst h0
 try simp
 by_cases h1 : a1 = b1
 rotate_left
 ·simp [h1]
 subst h1
 try simp
 by_cases h2 : a2 = b2
 rotate_left
 ·simp [h2]
 subst h2
 try simp
 by_cases h3 : a3 = b3
 rotate_left
 ·simp [h3]
 subst h3
 try simp
 by_cases h4 : a4 = b4
 rotate_left
 ·simp [h4]
 subst h4
 try simp
 refine ACall.pure (eqAnswer_c a5 b5 (by omega)) (by simp [Answer.row]) ?_;simp;by_cases h5 : a5 = b5
 rotate_left
 ·simp [h5]
 subst h5
 try simp
theorem szTask_c (x : Task) (h : x.fits) (left : Nat) (hf : left≤2 ^ 20) : PureC Tryz.prog 126 [.agg x.row,.c (vi left)] (.one (.c (vi (szR (nTask x) left)) 1)):=by
 refine PureC.intro' tt_ok Tryz.func126 (by kernel_rfl) rfl rfl rfl (Nat.le_of_ble_eq_true rfl) (fun w0 base=>?_);obtain ⟨f0,f1,f2,f3,f4,f5⟩:=h;obtain ⟨r,hr⟩ : ∃ r,szR (nTask x) left = r:=⟨_,rfl⟩;rw [hr];have hn : nTask x = nCall x.c + (nAnswer x.a):=rfl;simp [Task.row]
 try intros
 refine ACall.pure (szCall_c x.c f0 left (by omega)) (by simp [Call.row]) ?_;by_cases k0 : nCall x.c≤left
 rotate_left
 ·have : r = -1:=by rw [← hr];exact szR_no (by omega)
  rw [szR_no k0];simp [this]
 rw [szR_ok k0];obtain ⟨m0,hm0⟩ : ∃ m,left - nCall x.c = m:=⟨_,rfl⟩;rw [hm0];simp;refine ACall.pure (szAnswer_c x.a f5 m0 (by omega)) (by simp [Answer.row]) ?_;by_cases k1 : nAnswer x.a≤m0
 rotate_left
 ·have : r = -1:=by rw [← hr];exact szR_no (by omega)
  rw [szR_no k1];simp [this]
 rw [szR_ok k1];obtain ⟨m1,hm1⟩ : ∃ m,m0 - nAnswer x.a = m:=⟨_,rfl⟩;rw [hm1];have : r = (m1 : Int):=by rw [← hr,szR_ok (by omega)];omega
 simp [this]
theorem toTaskS_c (l : List Task) (hl : nL nTask l≤2 ^ 36) : PureC Tryz.prog 57 [.c (.s (l.map Task.row))] (.one (.c (.s (l.map Task.row)) 15)):=by
 refine PureC.intro' tt_ok Tryz.func57 (by kernel_rfl) rfl rfl rfl (Nat.le_of_ble_eq_true rfl) (fun w0 base=>?_);have hle:=nL_len hl;simp;refine ⟨by omega,fun b=>?_⟩
 refine LoopT.intro eok (fun i : Nat=>i≤l.length) (fun i=>⟨23,0,[(4,.v (.int .i64 i)),(3,.sl 112 (some (b,0,l.length)) 15 0 l.length),(0,.ro (l.map Task.row))],
  [(112,.rows (some (b,0,l.length)) 15 (fillR Task.row [.v (.int .i64 0),.v (.string ⟨#[]⟩),.v (.int .i64 0),.v (.int .i64 0),.v (.int .i64 0),.s [],.s [],.v (.int .i64 0),.v (.int .i64 0),.v (.int .i64 0),.v (.int .i64 0),.v (.int .i64 0),.v (.int .i64 0),.s [],.s []] l i) true)]⟩) (fun i=>l.length - i) 0 (by simp) (by simp [fillR_0]) (fun i hi=>?_)
 by_cases h : i < l.length
 ·simp [h,Task.row]
  refine ACall.pure (toTask_c l[i] (nL_at hl h)) (by simp [Task.row]) ?_;simp [Task.res,fillR_length hi,h];exact ⟨i + 1,by omega,by omega,i64_suc (by omega),fillR_set (f:=Task.row) h⟩
 ·have : i = l.length:=by omega
  subst this;simp [fillR_all,cut]
  try exact fun a _=>rfl
theorem eqTaskS_c (a b : List Task) (hl : nL nTask a≤2 ^ 36) : PureC Tryz.prog 64 [.c (.s (a.map Task.row)),.c (.s (b.map Task.row))] (.one (.c (vb (a = b)) 1)):=by
 refine PureC.intro' tt_ok Tryz.func64 (by kernel_rfl) rfl rfl rfl (Nat.le_of_ble_eq_true rfl) (fun w0 base=>?_);have hle:=nL_len hl;by_cases h : a.length = b.length
 ·simp [h]
  refine LoopT.intro eok (fun i : Nat=>i≤a.length∧a.take i = b.take i) (fun i=>⟨27,0,[(5,.v (.int .i64 i)),(1,.ro (b.map Task.row)),(0,.ro (a.map Task.row))],[]⟩) (fun i=>a.length - i) 0 (by simp) (by simp) (fun i hi=>?_);by_cases hlt : i < a.length
  ·simp [hlt]
   have hlt' : i < b.length:=by omega
   refine DrawT.quiet eok mix (by kernel_rfl) ?_;simp [hlt,hlt',Task.row];refine ⟨_,_,eqTask_c a[i] b[i] (nL_at hl hlt),by simp [Task.row],?_⟩;simp;refine Br.mk (fun h1=>?_) (fun h1=>?_)
   ·simp
    exact ⟨i + 1,⟨by omega,take_next hlt hlt' hi.2 (of_yes h1)⟩,by omega,i64_suc (by omega)⟩
   ·simp [dc_no]
    exact ne_at hlt hlt' (of_no h1)
  ·simp [hlt,dc_yes]
   exact take_all (by omega) (by omega) hi.2
 ·have hz : ¬ (a.length : Int) = b.length:=by omega
  simp [hz,dc_no];exact fun h2=>absurd (by rw [h2]) h
theorem szTaskS_c (l : List Task) (hl : l.length≤9223372036854775807) (hs : ∀ y∈l,y.fits) (left : Nat) (hf : left≤2 ^ 20) : PureC Tryz.prog 51 [.c (.s (l.map Task.row)),.c (vi left)] (.one (.c (vi (szR (nL nTask l) left)) 1)):=by
 refine PureC.intro' tt_ok Tryz.func51 (by kernel_rfl) rfl rfl rfl (Nat.le_of_ble_eq_true rfl) (fun w0 base=>?_);have hw : IntKind.i64.wrap ((left : Int) - (l.length : Int)) = (left : Int) - l.length:=IntWalk.i64_in _ (by omega);have hn : nL nTask l = l.length + sumN nTask l:=rfl;by_cases h : l.length≤left
 ·obtain ⟨lf,hlf⟩ : ∃ lf : Nat,left - l.length = lf:=⟨_,rfl⟩
  have hlz : (left : Int) - l.length = (lf : Int):=by omega
  have hw2 : IntKind.i64.wrap (lf : Int) = lf:=i64_nat (by omega);simp [hlz,hw2];obtain ⟨r,hr⟩ : ∃ r,szR (nL nTask l) left = r:=⟨_,rfl⟩;have hr0 : szR (sumN nTask l) lf = r:=by rw [← hr];unfold szR;split<;>split<;>omega
  rw [hr];refine LoopT.intro eok (fun x : Nat × Nat=>x.1≤l.length∧x.2≤2 ^ 20∧szR (sumN nTask (l.drop x.1)) x.2 = r) (fun x=>⟨27,0,[(5,.v (.int .i64 x.1)),(1,.v (.int .i64 x.2)),(0,.ro (l.map Task.row))],[]⟩) (fun x=>l.length - x.1) (0,lf) (by simp [hr0];omega) (by simp) ?_
  rintro ⟨i,m⟩ ⟨hi,hm,hx⟩
  simp only at hi hm hx ⊢;by_cases hlt : i < l.length
  ·rw [sumN_drop hlt] at hx
   simp [hlt,Task.row];refine ACall.pure (szTask_c l[i] (hs _ (List.getElem_mem hlt)) m hm) (by simp [Task.row]) ?_;by_cases hk : nTask l[i]≤m
   ·rw [szR_ok hk]
    have hz : ¬ ((m - nTask l[i] : Nat) : Int) < 0:=by omega
    simp [hz];refine ⟨i + 1,m - nTask l[i],⟨by omega,by omega,?_⟩,by omega,i64_suc (by omega),rfl⟩;rw [← hx];unfold szR;split<;>split<;>omega
   ·rw [szR_no (show ¬ nTask l[i] + sumN nTask (l.drop (i + 1))≤m by omega)] at hx
    rw [szR_no hk];simp [← hx]
  ·have : i = l.length:=by omega
   subst this;simp only [List.drop_length,sumN,szR,Nat.zero_le,if_true,Nat.sub_zero] at hx;simp [hx]
 ·have hz : (left : Int) - l.length < 0:=by omega
  simp [hw,hz,szR_no (show ¬ nL nTask l≤left by omega)]
theorem markTaskS_c (l : List Task) (k : Int) (h0 : 0≤k) (hk : k + cntL Task.cnt l≤4611686018427387904) (hl : nL nTask l≤2 ^ 36) : MarkC Tryz.prog 67 (.c (.s (l.map Task.row)) 15) k (k + cntL Task.cnt l) (.c (.s ((markL Task.mark Task.cnt l k).map Task.row)) 15):=by
 refine MarkC.intro tt_ok Tryz.func67 (by kernel_rfl) rfl rfl rfl (by decide) (fun w0 base=>?_);have hle:=nL_len hl;simp;intro H;refine LoopT.introG eok (fun i : Nat=>i≤l.length) (fun i=>⟨130,0,[(5,.v (.int .i64 i)),(1,.v (.int .i64 (k + cntL Task.cnt (l.take i)))),(0,.ml 0 H 15 l.length)],[(0,.rows H 15 (marked Task.mark Task.cnt Task.row l k i) true)]⟩) (fun i=>l.length - i) 0 (by simp) (by simp [marked_0,cntL]) (fun i hi=>?_);by_cases h : i < l.length
 ·have hc:=cntL_cell_le (cn:=Task.cnt) h
  have hs:=cntL_take_suc (cn:=Task.cnt) h;have hni:=nL_at hl h;simp only [nTask,nCall,nAnswer] at hni;obtain ⟨q0,hq0⟩ : ∃ q,k + ((cntL Task.cnt (l.take i) : Nat) : Int) = q:=⟨_,rfl⟩;have hpc : l[i].cnt = 11 + (cntL Part.cnt l[i].c.o + (l[i].c.text.length + (l[i].a.text.length + (cntL Entry.cnt l[i].a.list)))):=rfl;rw [hq0,← marked_row h];have e0 : Go.IntKind.i64.wrap q0 = q0:=Go.IntWalk.i64_in _ (by omega);obtain ⟨q1,hq1⟩ : ∃ q,q0 + 1 = q:=⟨_,rfl⟩;have e1 : Go.IntKind.i64.wrap q1 = q1:=Go.IntWalk.i64_in _ (by omega);obtain ⟨q2,hq2⟩ : ∃ q,q1 + 1 = q:=⟨_,rfl⟩;have e2 : Go.IntKind.i64.wrap q2 = q2:=Go.IntWalk.i64_in _ (by omega);obtain ⟨q3,hq3⟩ : ∃ q,q2 + 1 = q:=⟨_,rfl⟩;have e3 : Go.IntKind.i64.wrap q3 = q3:=Go.IntWalk.i64_in _ (by omega);obtain ⟨q4,hq4⟩ : ∃ q,q3 + 1 = q:=⟨_,rfl⟩
  have e4 : Go.IntKind.i64.wrap q4 = q4:=Go.IntWalk.i64_in _ (by omega);obtain ⟨q5,hq5⟩ : ∃ q,q4 + 1 = q:=⟨_,rfl⟩;have e5 : Go.IntKind.i64.wrap q5 = q5:=Go.IntWalk.i64_in _ (by omega);obtain ⟨q6,hq6⟩ : ∃ q,q5 + ((cntL Part.cnt l[i].c.o : Nat) : Int) = q:=⟨_,rfl⟩;have e6 : Go.IntKind.i64.wrap q6 = q6:=Go.IntWalk.i64_in _ (by omega);obtain ⟨q7,hq7⟩ : ∃ q,q6 + ((l[i].c.text.length : Nat) : Int) = q:=⟨_,rfl⟩;have e7 : Go.IntKind.i64.wrap q7 = q7:=Go.IntWalk.i64_in _ (by omega);obtain ⟨q8,hq8⟩ : ∃ q,q7 + 1 = q:=⟨_,rfl⟩;have e8 : Go.IntKind.i64.wrap q8 = q8:=Go.IntWalk.i64_in _ (by omega);obtain ⟨q9,hq9⟩ : ∃ q,q8 + 1 = q:=⟨_,rfl⟩;have e9 : Go.IntKind.i64.wrap q9 = q9:=Go.IntWalk.i64_in _ (by omega);obtain ⟨q10,hq10⟩ : ∃ q,q9 + 1 = q:=⟨_,rfl⟩;have e10 : Go.IntKind.i64.wrap q10 = q10:=Go.IntWalk.i64_in _ (by omega)
  obtain ⟨q11,hq11⟩ : ∃ q,q10 + 1 = q:=⟨_,rfl⟩;have e11 : Go.IntKind.i64.wrap q11 = q11:=Go.IntWalk.i64_in _ (by omega);obtain ⟨q12,hq12⟩ : ∃ q,q11 + 1 = q:=⟨_,rfl⟩;have e12 : Go.IntKind.i64.wrap q12 = q12:=Go.IntWalk.i64_in _ (by omega);obtain ⟨q13,hq13⟩ : ∃ q,q12 + 1 = q:=⟨_,rfl⟩;have e13 : Go.IntKind.i64.wrap q13 = q13:=Go.IntWalk.i64_in _ (by omega);obtain ⟨q14,hq14⟩ : ∃ q,q13 + ((l[i].a.text.length : Nat) : Int) = q:=⟨_,rfl⟩;have e14 : Go.IntKind.i64.wrap q14 = q14:=Go.IntWalk.i64_in _ (by omega);obtain ⟨q15,hq15⟩ : ∃ q,q14 + ((cntL Entry.cnt l[i].a.list : Nat) : Int) = q:=⟨_,rfl⟩;have e15 : Go.IntKind.i64.wrap q15 = q15:=Go.IntWalk.i64_in _ (by omega);have e : Go.IntKind.i64.wrap ((i : Int) + 1) = ((i + 1 : Nat) : Int):=i64_suc (by omega)
  refine Ent.open (fun _ h=>h) (k:=0) (i:=i) (j:=5) (k':=905) (sz':=3) (sz:=15) (H:=H) (rows:=((marked Task.mark Task.cnt Task.row l k i).set i l[i].row)) (srows:=l[i].c.o.map Part.row) (row:=l[i].row) (by simp) (by simp [marked_length,h]) rfl (by simp) (by decide) (by simp [Part.row]) (by simp) (fun H5=>?_)
  refine Ent.open (fun _ h=>h) (k:=0) (i:=i) (j:=6) (k':=906) (sz':=1) (sz:=15) (H:=H) (rows:=((marked Task.mark Task.cnt Task.row l k i).set i [vi l[i].c.kind,.v (.string l[i].c.doc),vi l[i].c.client,vi l[i].c.seq,vi l[i].c.n,.h 905 H5 3 l[i].c.o.length,.s (l[i].c.text.map intR),vi l[i].pc,vi l[i].inv,vi l[i].lin,vi l[i].rs,vi l[i].a.code,vi l[i].a.rev,.s (l[i].a.text.map intR),.s (l[i].a.list.map Entry.row)])) (srows:=l[i].c.text.map intR) (row:=[vi l[i].c.kind,.v (.string l[i].c.doc),vi l[i].c.client,vi l[i].c.seq,vi l[i].c.n,.h 905 H5 3 l[i].c.o.length,.s (l[i].c.text.map intR),vi l[i].pc,vi l[i].inv,vi l[i].lin,vi l[i].rs,vi l[i].a.code,vi l[i].a.rev,.s (l[i].a.text.map intR),.s (l[i].a.list.map Entry.row)]) (by simp [setC_set,Task.row]) (by simp [marked_length,h]) rfl (by simp) (by decide) (by simp [intR]) (by simp) (fun H6=>?_)
  refine Ent.open (fun _ h=>h) (k:=0) (i:=i) (j:=13) (k':=913) (sz':=1) (sz:=15) (H:=H) (rows:=((marked Task.mark Task.cnt Task.row l k i).set i [vi l[i].c.kind,.v (.string l[i].c.doc),vi l[i].c.client,vi l[i].c.seq,vi l[i].c.n,.h 905 H5 3 l[i].c.o.length,.h 906 H6 1 l[i].c.text.length,vi l[i].pc,vi l[i].inv,vi l[i].lin,vi l[i].rs,vi l[i].a.code,vi l[i].a.rev,.s (l[i].a.text.map intR),.s (l[i].a.list.map Entry.row)])) (srows:=l[i].a.text.map intR) (row:=[vi l[i].c.kind,.v (.string l[i].c.doc),vi l[i].c.client,vi l[i].c.seq,vi l[i].c.n,.h 905 H5 3 l[i].c.o.length,.h 906 H6 1 l[i].c.text.length,vi l[i].pc,vi l[i].inv,vi l[i].lin,vi l[i].rs,vi l[i].a.code,vi l[i].a.rev,.s (l[i].a.text.map intR),.s (l[i].a.list.map Entry.row)]) (by simp [setC_set,Task.row]) (by simp [marked_length,h]) rfl (by simp) (by decide) (by simp [intR]) (by simp) (fun H13=>?_)
  refine Ent.open (fun _ h=>h) (k:=0) (i:=i) (j:=14) (k':=914) (sz':=3) (sz:=15) (H:=H) (rows:=((marked Task.mark Task.cnt Task.row l k i).set i [vi l[i].c.kind,.v (.string l[i].c.doc),vi l[i].c.client,vi l[i].c.seq,vi l[i].c.n,.h 905 H5 3 l[i].c.o.length,.h 906 H6 1 l[i].c.text.length,vi l[i].pc,vi l[i].inv,vi l[i].lin,vi l[i].rs,vi l[i].a.code,vi l[i].a.rev,.h 913 H13 1 l[i].a.text.length,.s (l[i].a.list.map Entry.row)])) (srows:=l[i].a.list.map Entry.row) (row:=[vi l[i].c.kind,.v (.string l[i].c.doc),vi l[i].c.client,vi l[i].c.seq,vi l[i].c.n,.h 905 H5 3 l[i].c.o.length,.h 906 H6 1 l[i].c.text.length,vi l[i].pc,vi l[i].inv,vi l[i].lin,vi l[i].rs,vi l[i].a.code,vi l[i].a.rev,.h 913 H13 1 l[i].a.text.length,.s (l[i].a.list.map Entry.row)]) (by simp [setC_set,Task.row]) (by simp [marked_length,h]) rfl (by simp) (by decide) (by simp [Entry.row]) (by simp) (fun H14=>?_)
  refine Ent.refl ?_;simp [h,marked_length,Task.row,setC_set,modify_set,hq1,e1];refine ACall.pure (markText_c q1 (by omega) (by omega)) (by simp) ?_;simp [h,marked_length,modify_set,hq2,e2,hq3,e3,hq4,e4,hq5,e5];refine ACall.mark (markPartS_c l[i].c.o q5 (by omega) (by omega) (by omega)) rfl (fun _ h=>h) (by simp) ?_;simp [h,marked_length,hq6];refine ACall.mark (markIntS_c l[i].c.text q6 (by omega) (by omega)) rfl (fun _ h=>h) (by simp) ?_;simp [h,marked_length,modify_set,hq7,hq8,e8,hq9,e9,hq10,e10,hq11,e11,hq12,e12,hq13,e13];refine ACall.mark (markIntS_c l[i].a.text q13 (by omega) (by omega)) rfl (fun _ h=>h) (by simp) ?_;simp [h,marked_length,hq14];refine ACall.mark (markEntryS_c l[i].a.list q14 (by omega) (by omega) (by omega)) rfl (fun _ h=>h) (by simp) ?_;simp [e,hq15]
  refine Ent.close (k:=0) (i:=i) (j:=5) (k':=905) (sz':=3) (sz:=15) (H:=H) (rows:=(marked Task.mark Task.cnt Task.row l k i).set i [vi q0,.v (.string (markT q1)),vi q2,vi q3,vi q4,.h 905 H5 3 l[i].c.o.length,.h 906 H6 1 l[i].c.text.length,vi q7,vi q8,vi q9,vi q10,vi q11,vi q12,.h 913 H13 1 l[i].a.text.length,.h 914 H14 3 l[i].a.list.length]) (row:=[vi q0,.v (.string (markT q1)),vi q2,vi q3,vi q4,.h 905 H5 3 l[i].c.o.length,.h 906 H6 1 l[i].c.text.length,vi q7,vi q8,vi q9,vi q10,vi q11,vi q12,.h 913 H13 1 l[i].a.text.length,.h 914 H14 3 l[i].a.list.length]) (H':=H5) (srows:=(markL Part.mark Part.cnt l[i].c.o q5).map Part.row) (by simp) (by simp [marked_length,h]) (by simp [markL_length]) (by simp) (by decide) (by simp) ?_
  refine Ent.close (k:=0) (i:=i) (j:=6) (k':=906) (sz':=1) (sz:=15) (H:=H) (rows:=(marked Task.mark Task.cnt Task.row l k i).set i [vi q0,.v (.string (markT q1)),vi q2,vi q3,vi q4,.s ((markL Part.mark Part.cnt l[i].c.o q5).map Part.row),.h 906 H6 1 l[i].c.text.length,vi q7,vi q8,vi q9,vi q10,vi q11,vi q12,.h 913 H13 1 l[i].a.text.length,.h 914 H14 3 l[i].a.list.length]) (row:=[vi q0,.v (.string (markT q1)),vi q2,vi q3,vi q4,.s ((markL Part.mark Part.cnt l[i].c.o q5).map Part.row),.h 906 H6 1 l[i].c.text.length,vi q7,vi q8,vi q9,vi q10,vi q11,vi q12,.h 913 H13 1 l[i].a.text.length,.h 914 H14 3 l[i].a.list.length]) (H':=H6) (srows:=(markL intM one l[i].c.text q6).map intR) (by simp [setC_set]) (by simp [marked_length,h]) (by simp [markL_length]) (by simp) (by decide) (by simp) ?_
  refine Ent.close (k:=0) (i:=i) (j:=13) (k':=913) (sz':=1) (sz:=15) (H:=H) (rows:=(marked Task.mark Task.cnt Task.row l k i).set i [vi q0,.v (.string (markT q1)),vi q2,vi q3,vi q4,.s ((markL Part.mark Part.cnt l[i].c.o q5).map Part.row),.s ((markL intM one l[i].c.text q6).map intR),vi q7,vi q8,vi q9,vi q10,vi q11,vi q12,.h 913 H13 1 l[i].a.text.length,.h 914 H14 3 l[i].a.list.length]) (row:=[vi q0,.v (.string (markT q1)),vi q2,vi q3,vi q4,.s ((markL Part.mark Part.cnt l[i].c.o q5).map Part.row),.s ((markL intM one l[i].c.text q6).map intR),vi q7,vi q8,vi q9,vi q10,vi q11,vi q12,.h 913 H13 1 l[i].a.text.length,.h 914 H14 3 l[i].a.list.length]) (H':=H13) (srows:=(markL intM one l[i].a.text q13).map intR) (by simp [setC_set]) (by simp [marked_length,h]) (by simp [markL_length]) (by simp) (by decide) (by simp) ?_
  refine Ent.close (k:=0) (i:=i) (j:=14) (k':=914) (sz':=3) (sz:=15) (H:=H) (rows:=(marked Task.mark Task.cnt Task.row l k i).set i [vi q0,.v (.string (markT q1)),vi q2,vi q3,vi q4,.s ((markL Part.mark Part.cnt l[i].c.o q5).map Part.row),.s ((markL intM one l[i].c.text q6).map intR),vi q7,vi q8,vi q9,vi q10,vi q11,vi q12,.s ((markL intM one l[i].a.text q13).map intR),.h 914 H14 3 l[i].a.list.length]) (row:=[vi q0,.v (.string (markT q1)),vi q2,vi q3,vi q4,.s ((markL Part.mark Part.cnt l[i].c.o q5).map Part.row),.s ((markL intM one l[i].c.text q6).map intR),vi q7,vi q8,vi q9,vi q10,vi q11,vi q12,.s ((markL intM one l[i].a.text q13).map intR),.h 914 H14 3 l[i].a.list.length]) (H':=H14) (srows:=(markL Entry.mark Entry.cnt l[i].a.list q14).map Entry.row) (by simp [setC_set]) (by simp [marked_length,h]) (by simp [markL_length]) (by simp) (by decide) (by simp) ?_
  refine Ent.refl ⟨i + 1,by omega,by omega,?_⟩;simp [setC_set,hs,hpc];refine ⟨by omega,?_⟩;refine marked_set h ?_;rw [hq0];subst hq1 hq2 hq3 hq4 hq5 hq6 hq7 hq8 hq9 hq10 hq11 hq12 hq13 hq14 hq15;rfl
 ·have : i = l.length:=by omega
  subst this;refine Ent.refl ?_;simp [marked_all,markL_length,Task.row]
theorem heldTaskS_c (l : List Task) (k : Int) (h0 : 0≤k) (hk : k + cntL Task.cnt l≤4611686018427387904) (hl : nL nTask l≤2 ^ 36) : PureC Tryz.prog 71 [.c (.s ((markL Task.mark Task.cnt l k).map Task.row)),.c (vi k)] (.one (.c (vi (k + cntL Task.cnt l)) 1)):=by
 refine PureC.intro' tt_ok Tryz.func71 (by kernel_rfl) rfl rfl rfl (Nat.le_of_ble_eq_true rfl) (fun w0 base=>?_);have hle:=nL_len hl;simp;refine LoopT.intro eok (fun i : Nat=>i≤l.length) (fun i=>⟨160,0,[(5,.v (.int .i64 i)),(1,.v (.int .i64 (k + cntL Task.cnt (l.take i)))),(0,.ro ((markL Task.mark Task.cnt l k).map Task.row))],[]⟩) (fun i=>l.length - i) 0 (by simp) (by simp [cntL]) (fun i hi=>?_);by_cases h : i < l.length
 ·have hc:=cntL_cell_le (cn:=Task.cnt) h
  have hs:=cntL_take_suc (cn:=Task.cnt) h;have hni:=nL_at hl h;simp only [nTask,nCall,nAnswer] at hni;have hm:=markL_cell (mk:=Task.mark) (cn:=Task.cnt) (k:=k) h;obtain ⟨q0,hq0⟩ : ∃ q,k + ((cntL Task.cnt (l.take i) : Nat) : Int) = q:=⟨_,rfl⟩;have hpc : l[i].cnt = 11 + (cntL Part.cnt l[i].c.o + (l[i].c.text.length + (l[i].a.text.length + (cntL Entry.cnt l[i].a.list)))):=rfl;rw [hq0] at hm;rw [hq0];have z0 : ¬ q0 < 0:=by omega
  have e0 : Go.IntKind.i64.wrap q0 = q0:=Go.IntWalk.i64_in _ (by omega);obtain ⟨q1,hq1⟩ : ∃ q,q0 + 1 = q:=⟨_,rfl⟩;have e1 : Go.IntKind.i64.wrap q1 = q1:=Go.IntWalk.i64_in _ (by omega);have z1 : ¬ q1 < 0:=by omega
  obtain ⟨q2,hq2⟩ : ∃ q,q1 + 1 = q:=⟨_,rfl⟩;have e2 : Go.IntKind.i64.wrap q2 = q2:=Go.IntWalk.i64_in _ (by omega);have z2 : ¬ q2 < 0:=by omega
  obtain ⟨q3,hq3⟩ : ∃ q,q2 + 1 = q:=⟨_,rfl⟩;have e3 : Go.IntKind.i64.wrap q3 = q3:=Go.IntWalk.i64_in _ (by omega);have z3 : ¬ q3 < 0:=by omega
  obtain ⟨q4,hq4⟩ : ∃ q,q3 + 1 = q:=⟨_,rfl⟩;have e4 : Go.IntKind.i64.wrap q4 = q4:=Go.IntWalk.i64_in _ (by omega);have z4 : ¬ q4 < 0:=by omega
  obtain ⟨q5,hq5⟩ : ∃ q,q4 + 1 = q:=⟨_,rfl⟩;have e5 : Go.IntKind.i64.wrap q5 = q5:=Go.IntWalk.i64_in _ (by omega);have z5 : ¬ q5 < 0:=by omega
  obtain ⟨q6,hq6⟩ : ∃ q,q5 + ((cntL Part.cnt l[i].c.o : Nat) : Int) = q:=⟨_,rfl⟩;have e6 : Go.IntKind.i64.wrap q6 = q6:=Go.IntWalk.i64_in _ (by omega);have z6 : ¬ q6 < 0:=by omega
  obtain ⟨q7,hq7⟩ : ∃ q,q6 + ((l[i].c.text.length : Nat) : Int) = q:=⟨_,rfl⟩;have e7 : Go.IntKind.i64.wrap q7 = q7:=Go.IntWalk.i64_in _ (by omega);have z7 : ¬ q7 < 0:=by omega
  obtain ⟨q8,hq8⟩ : ∃ q,q7 + 1 = q:=⟨_,rfl⟩;have e8 : Go.IntKind.i64.wrap q8 = q8:=Go.IntWalk.i64_in _ (by omega);have z8 : ¬ q8 < 0:=by omega
  obtain ⟨q9,hq9⟩ : ∃ q,q8 + 1 = q:=⟨_,rfl⟩;have e9 : Go.IntKind.i64.wrap q9 = q9:=Go.IntWalk.i64_in _ (by omega);have z9 : ¬ q9 < 0:=by omega
  obtain ⟨q10,hq10⟩ : ∃ q,q9 + 1 = q:=⟨_,rfl⟩;have e10 : Go.IntKind.i64.wrap q10 = q10:=Go.IntWalk.i64_in _ (by omega);have z10 : ¬ q10 < 0:=by omega
  obtain ⟨q11,hq11⟩ : ∃ q,q10 + 1 = q:=⟨_,rfl⟩;have e11 : Go.IntKind.i64.wrap q11 = q11:=Go.IntWalk.i64_in _ (by omega);have z11 : ¬ q11 < 0:=by omega
  obtain ⟨q12,hq12⟩ : ∃ q,q11 + 1 = q:=⟨_,rfl⟩;have e12 : Go.IntKind.i64.wrap q12 = q12:=Go.IntWalk.i64_in _ (by omega);have z12 : ¬ q12 < 0:=by omega
  obtain ⟨q13,hq13⟩ : ∃ q,q12 + 1 = q:=⟨_,rfl⟩;have e13 : Go.IntKind.i64.wrap q13 = q13:=Go.IntWalk.i64_in _ (by omega);have z13 : ¬ q13 < 0:=by omega
  obtain ⟨q14,hq14⟩ : ∃ q,q13 + ((l[i].a.text.length : Nat) : Int) = q:=⟨_,rfl⟩;have e14 : Go.IntKind.i64.wrap q14 = q14:=Go.IntWalk.i64_in _ (by omega);have z14 : ¬ q14 < 0:=by omega
  obtain ⟨q15,hq15⟩ : ∃ q,q14 + ((cntL Entry.cnt l[i].a.list : Nat) : Int) = q:=⟨_,rfl⟩;have e15 : Go.IntKind.i64.wrap q15 = q15:=Go.IntWalk.i64_in _ (by omega);have z15 : ¬ q15 < 0:=by omega
  have e : Go.IntKind.i64.wrap ((i : Int) + 1) = ((i + 1 : Nat) : Int):=i64_suc (by omega);simp [h,markL_length,hm,Task.row,Task.mark,hq1,e1,hq2,hq3,hq4,hq5,hq6,hq7,hq8,hq9,hq10,hq11,hq12,hq13,hq14];refine DrawT.quiet eok mix (by kernel_rfl) ?_;simp [h,markL_length,hm,Task.row,Task.mark,hq1,hq2,hq3,hq4,hq5,hq6,hq7,hq8,hq9,hq10,hq11,hq12,hq13,hq14];refine ⟨_,_,markText_c q1 (by omega) (by omega),by simp,?_⟩;simp [h,markL_length,hm,Task.row,Task.mark,hq1,hq2,e2,hq3,e3,hq4,e4,hq5,e5,hq6,hq7,hq8,hq9,hq10,hq11,hq12,hq13,hq14];refine ACall.pure (heldPartS_c l[i].c.o q5 (by omega) (by omega) (by omega)) (by simp) ?_;simp [h,markL_length,hm,Task.row,Task.mark,hq1,hq2,hq3,hq4,hq5,hq6,z6,hq7,hq8,hq9,hq10,hq11,hq12,hq13,hq14]
  refine ACall.pure (heldIntS_c l[i].c.text q6 (by omega) (by omega)) (by simp) ?_;simp [h,markL_length,hm,Task.row,Task.mark,hq1,hq2,hq3,hq4,hq5,hq6,hq7,z7,hq8,e8,hq9,e9,hq10,e10,hq11,e11,hq12,e12,hq13,e13,hq14];refine ACall.pure (heldIntS_c l[i].a.text q13 (by omega) (by omega)) (by simp) ?_;simp [h,markL_length,hm,Task.row,Task.mark,hq1,hq2,hq3,hq4,hq5,hq6,hq7,hq8,hq9,hq10,hq11,hq12,hq13,hq14,z14];refine ACall.pure (heldEntryS_c l[i].a.list q14 (by omega) (by omega) (by omega)) (by simp) ?_;simp [hq15,z15];refine ⟨i + 1,by omega,by omega,?_⟩;simp [e,hs,hpc];omega
 ·have : i = l.length:=by omega
  subst this;simp [markL_length]
theorem toWorld_c (x : Wld) (h : nWorld x≤2 ^ 36) : PureC Tryz.prog 13 [.agg x.row] (.one (.agg x.res)):=by
 refine PureC.intro' tt_ok Tryz.func13 (by kernel_rfl) rfl rfl rfl (Nat.le_of_ble_eq_true rfl) (fun w0 base=>?_);unfold nWorld at h;simp [Wld.row,Wld.res]
 try intros
 refine ACall.pure (toHub_c x.h (by omega)) (by simp [Hub.row]) ?_;simp [Hub.res]
 try intros
 refine ACall.pure (toIntS_c x.locks (by omega)) (by simp) ?_;simp
 try intros
 refine ACall.pure (toQueueS_c x.queues (by omega)) (by simp) ?_;simp
 try intros
 refine ACall.pure (toTaskS_c x.tasks (by omega)) (by simp) ?_;simp
 try intros
theorem eqWorld_c (x y : Wld) (h : nWorld x≤2 ^ 36) : PureC Tryz.prog 15 [.agg x.row,.agg y.row] (.one (.c (vb (x = y)) 1)):=by
 refine PureC.intro' tt_ok Tryz.func15 (by kernel_rfl) rfl rfl rfl (Nat.le_of_ble_eq_true rfl) (fun w0 base=>?_);unfold nWorld at h;obtain ⟨a0,a1,a2,a3,a4⟩:=x;obtain ⟨b0,b1,b2,b3,b4⟩:=y;simp only at h;simp [Wld.row]
 try intros
 refine ACall.pure (eqHub_c a0 b0 (by omega)) (by simp [Hub.row]) ?_;simp;by_cases h0 : a0 = b0
 rotate_left
 ·simp [h0]
 subst h0
 try simp
 refine ACall.pure (eqIntS_c a1 b1 (by omega)) (by simp) ?_;simp;by_cases h1 : a1 = b1
 rotate_left
 ·simp [h1]
 subst h1
 try simp
 refine ACall.pure (eqQueueS_c a2 b2 (by omega)) (by simp) ?_;simp;by_cases h2 : a2 = b2
 rotate_left
 ·simp [h2]
 subst h2
 try simp
 refine ACall.pure (eqTaskS_c a3 b3 (by omega)) (by simp) ?_;simp;by_cases h3 : a3 = b3
 rotate_left
 ·simp [h3]
 subst h3
 try simp
 by_cases h4 : a4 = b4
 rotate_left
 ·simp [h4]
 subst h4
 try simp
theorem szWorld_c (x : Wld) (h : x.fits) (left : Nat) (hf : left≤2 ^ 20) : PureC Tryz.prog 11 [.agg x.row,.c (vi left)] (.one (.c (vi (szR (nWorld x) left)) 1)):=by
 refine PureC.intro' tt_ok Tryz.func11 (by kernel_rfl) rfl rfl rfl (Nat.le_of_ble_eq_true rfl) (fun w0 base=>?_);obtain ⟨f0,f1,f2,f3,f4⟩:=h;obtain ⟨r,hr⟩ : ∃ r,szR (nWorld x) left = r:=⟨_,rfl⟩;rw [hr];have hn : nWorld x = nHub x.h + (x.locks.length + (nL nQueue x.queues + (nL nTask x.tasks))):=rfl;simp [Wld.row]
 try intros
 refine ACall.pure (szHub_c x.h f0 left (by omega)) (by simp [Hub.row]) ?_;by_cases k0 : nHub x.h≤left
 rotate_left
 ·have : r = -1:=by rw [← hr];exact szR_no (by omega)
  rw [szR_no k0];simp [this]
 rw [szR_ok k0];obtain ⟨m0,hm0⟩ : ∃ m,left - nHub x.h = m:=⟨_,rfl⟩;rw [hm0];simp;refine ACall.pure (szIntS_c x.locks f1.1 m0 (by omega)) (by simp) ?_;by_cases k1 : x.locks.length≤m0
 rotate_left
 ·have : r = -1:=by rw [← hr];exact szR_no (by omega)
  rw [szR_no k1];simp [this]
 rw [szR_ok k1];obtain ⟨m1,hm1⟩ : ∃ m,m0 - x.locks.length = m:=⟨_,rfl⟩;rw [hm1];simp;refine ACall.pure (szQueueS_c x.queues f2.1 f2.2 m1 (by omega)) (by simp) ?_;by_cases k2 : nL nQueue x.queues≤m1
 rotate_left
 ·have : r = -1:=by rw [← hr];exact szR_no (by omega)
  rw [szR_no k2];simp [this]
 rw [szR_ok k2];obtain ⟨m2,hm2⟩ : ∃ m,m1 - nL nQueue x.queues = m:=⟨_,rfl⟩;rw [hm2];simp;refine ACall.pure (szTaskS_c x.tasks f3.1 f3.2 m2 (by omega)) (by simp) ?_;by_cases k3 : nL nTask x.tasks≤m2
 rotate_left
 ·have : r = -1:=by rw [← hr];exact szR_no (by omega)
  rw [szR_no k3];simp [this]
 rw [szR_ok k3];obtain ⟨m3,hm3⟩ : ∃ m,m2 - nL nTask x.tasks = m:=⟨_,rfl⟩;rw [hm3];have : r = (m3 : Int):=by rw [← hr,szR_ok (by omega)];omega
 simp [this]
theorem markWorld_c (x : Wld) (k : Int) (h0 : 0≤k) (hk : k + x.cntT≤4611686018427387904) (hl : nWorld x≤2 ^ 36) : MarkC Tryz.prog 16 (.agg x.res) k (k + x.cntT) (.agg (x.markT k).res):=by
 refine MarkC.intro tt_ok Tryz.func16 (by kernel_rfl) rfl rfl rfl (by decide) (fun w0 base=>?_);simp only [Wld.cntT] at hk;unfold nWorld at hl;have hs_h : x.h.cntT = cntL Doc.cnt x.h.docs + (cntL Sub.cnt x.h.subs):=rfl;simp [Wld.res]
 try intros
 refine ACall.mark (markHub_c x.h (k) (by omega) (by omega) (by omega)) rfl (fun _ h=>h) (by simp) ?_;simp [Hub.res,Hub.markT];refine ACall.mark (markIntS_c x.locks (k + ((x.h.cntT : Nat) : Int)) (by omega) (by omega)) rfl (fun _ h=>h) (by simp) ?_;simp;refine ACall.mark (markQueueS_c x.queues (k + ((x.h.cntT : Nat) : Int) + ((x.locks.length : Nat) : Int)) (by omega) (by omega) (by omega)) rfl (fun _ h=>h) (by simp) ?_;simp;refine ACall.mark (markTaskS_c x.tasks (k + ((x.h.cntT : Nat) : Int) + ((x.locks.length : Nat) : Int) + ((cntL Queue.cnt x.queues : Nat) : Int)) (by omega) (by omega) (by omega)) rfl (fun _ h=>h) (by simp) ?_;simp;simp [Wld.markT,Wld.cntT,markL_length,Hub.cntT,Int.add_assoc]
 try omega
theorem heldWorld_c (x : Wld) (k : Int) (h0 : 0≤k) (hk : k + x.cntT≤4611686018427387904) (hl : nWorld x≤2 ^ 36) : PureC Tryz.prog 17 [.agg (x.markT k).row,.c (vi k)] (.one (.c (vi (k + x.cntT)) 1)):=by
 refine PureC.intro' tt_ok Tryz.func17 (by kernel_rfl) rfl rfl rfl (Nat.le_of_ble_eq_true rfl) (fun w0 base=>?_);simp only [Wld.cntT] at hk;unfold nWorld at hl;have hs_h : x.h.cntT = cntL Doc.cnt x.h.docs + (cntL Sub.cnt x.h.subs):=rfl;simp [Wld.row,Wld.markT]
 try intros
 refine ACall.pure (heldHub_c x.h k (by omega) (by omega) (by omega)) (by simp [Hub.row,Hub.markT]) ?_;obtain ⟨q0,hq0⟩ : ∃ q,k + ((x.h.cntT : Nat) : Int) = q:=⟨_,rfl⟩;rw [hq0];have z0 : ¬ q0 < 0:=by omega
 simp [z0];refine ACall.pure (heldIntS_c x.locks q0 (by omega) (by omega)) (by simp [← hq0,hs_h,Int.add_assoc]) ?_;obtain ⟨q1,hq1⟩ : ∃ q,q0 + ((x.locks.length : Nat) : Int) = q:=⟨_,rfl⟩;rw [hq1];have z1 : ¬ q1 < 0:=by omega
 simp [z1];refine ACall.pure (heldQueueS_c x.queues q1 (by omega) (by omega) (by omega)) (by simp [← hq1,← hq0,hs_h,Int.add_assoc]) ?_;obtain ⟨q2,hq2⟩ : ∃ q,q1 + ((cntL Queue.cnt x.queues : Nat) : Int) = q:=⟨_,rfl⟩;rw [hq2];have z2 : ¬ q2 < 0:=by omega
 simp [z2];refine ACall.pure (heldTaskS_c x.tasks q2 (by omega) (by omega) (by omega)) (by simp [← hq2,← hq1,← hq0,hs_h,Int.add_assoc]) ?_;obtain ⟨q3,hq3⟩ : ∃ q,q2 + ((cntL Task.cnt x.tasks : Nat) : Int) = q:=⟨_,rfl⟩;rw [hq3];have z3 : ¬ q3 < 0:=by omega
 simp [z3]
 try (simp only [Wld.cntT];omega)
set_option maxHeartbeats 1600000
def strR (s : ByteArray) : List CD:=[.v (.string s)]
@[simp] theorem strR_len (s : ByteArray) : (strR s).length = 1:=rfl
open Go.AM Go.ChangeShapes Go.WideShapes Go.ChangeAt Go.RowKit
theorem own : ownKnob Tryz.prog.godebug = none:=by kernel_rfl
theorem laid : laidOutB Tryz.prog = true:=by kernel_rfl
theorem fits_i64 {D : Nat} {ds : List CD} (h : Fits Tryz.prog D 3 ds) : ∃ n : Int,ds = [vi n]∧i64r n:=by
 obtain ⟨n,h1,h2⟩:=fits_int Tryz.underlying3 h;exact ⟨n,h1,wf_i64 h2⟩
theorem mL : maxLen = 9223372036854775807:=rfl
theorem fits_ints {D : Nat} {ds : List CD} (h : Fits Tryz.prog D 26 ds) : ∃ l : List Int,ds = [.s (l.map intR)]∧l.length≤9223372036854775807∧∀ n∈l,i64r n:=by
 obtain ⟨rows,rfl,h1,D',h2⟩:=fits_slice Tryz.underlying26 h;obtain ⟨l,rfl,hl⟩:=rows_map (f:=intR) (ok:=i64r) rows (fun row hrow=>fits_i64 (h2 row hrow).2);exact ⟨l,rfl,by simpa [mL] using h1,hl⟩
theorem cells295 : Tryz.prog.cellsOf 295 = 3:=by kernel_rfl
theorem lenF3 {α : Type} {l : List α} (h : l.length = 3) : ∃ x0 x1 x2,l = [x0,x1,x2]:=by
 match l,h with
 | [x0,x1,x2],_=>exact ⟨x0,x1,x2,rfl⟩
theorem cells3 : Tryz.prog.cellsOf 3 = 1:=by kernel_rfl
theorem cells26 : Tryz.prog.cellsOf 26 = 1:=by kernel_rfl
theorem fits_Part {D : Nat} {ds : List CD} (h : Fits Tryz.prog D 295 ds) : ∃ x : Part,ds = x.row∧x.fits:=by
 obtain ⟨hl,D',hf⟩:=fits_struct Tryz.underlying295 h;rw [cells295] at hl;obtain ⟨d0,d1,d2,rfl⟩:=lenF3 hl;simp [cells3,cells26] at hf;obtain ⟨h0,h1,h2⟩:=hf;obtain ⟨n0,e0,k0⟩:=fits_i64 h0;simp at e0;subst e0;obtain ⟨n1,e1,k1⟩:=fits_i64 h1;simp at e1;subst e1;obtain ⟨n2,e2,k2⟩:=fits_ints h2;simp at e2;subst e2;exact ⟨⟨n0,n1,n2⟩,rfl,k0,k1,k2⟩
theorem fits_PartS {D : Nat} {ds : List CD} (h : Fits Tryz.prog D 157 ds) : ∃ l : List Part,ds = [.s (l.map Part.row)]∧l.length≤9223372036854775807∧∀ y∈l,y.fits:=by
 obtain ⟨rows,rfl,h1,D',h2⟩:=fits_slice Tryz.underlying157 h;obtain ⟨l,rfl,hl⟩:=rows_map (f:=Part.row) (ok:=Part.fits) rows (fun row hrow=>fits_Part (h2 row hrow).2);exact ⟨l,rfl,by simpa [mL] using h1,hl⟩
theorem cells280 : Tryz.prog.cellsOf 280 = 3:=by kernel_rfl
theorem cells157 : Tryz.prog.cellsOf 157 = 1:=by kernel_rfl
theorem fits_Entry {D : Nat} {ds : List CD} (h : Fits Tryz.prog D 280 ds) : ∃ x : Entry,ds = x.row∧x.fits:=by
 obtain ⟨hl,D',hf⟩:=fits_struct Tryz.underlying280 h;rw [cells280] at hl;obtain ⟨d0,d1,d2,rfl⟩:=lenF3 hl;simp [cells3,cells157] at hf;obtain ⟨h0,h1,h2⟩:=hf;obtain ⟨n0,e0,k0⟩:=fits_i64 h0;simp at e0;subst e0;obtain ⟨n1,e1,k1⟩:=fits_i64 h1;simp at e1;subst e1;obtain ⟨n2,e2,k2⟩:=fits_PartS h2;simp at e2;subst e2;exact ⟨⟨n0,n1,n2⟩,rfl,k0,k1,k2⟩
theorem fits_EntryS {D : Nat} {ds : List CD} (h : Fits Tryz.prog D 160 ds) : ∃ l : List Entry,ds = [.s (l.map Entry.row)]∧l.length≤9223372036854775807∧∀ y∈l,y.fits:=by
 obtain ⟨rows,rfl,h1,D',h2⟩:=fits_slice Tryz.underlying160 h;obtain ⟨l,rfl,hl⟩:=rows_map (f:=Entry.row) (ok:=Entry.fits) rows (fun row hrow=>fits_Entry (h2 row hrow).2);exact ⟨l,rfl,by simpa [mL] using h1,hl⟩
theorem cells284 : Tryz.prog.cellsOf 284 = 3:=by kernel_rfl
theorem fits_Seen {D : Nat} {ds : List CD} (h : Fits Tryz.prog D 284 ds) : ∃ x : Seen,ds = x.row∧x.fits:=by
 obtain ⟨hl,D',hf⟩:=fits_struct Tryz.underlying284 h;rw [cells284] at hl;obtain ⟨d0,d1,d2,rfl⟩:=lenF3 hl;simp [cells3] at hf;obtain ⟨h0,h1,h2⟩:=hf;obtain ⟨n0,e0,k0⟩:=fits_i64 h0;simp at e0;subst e0;obtain ⟨n1,e1,k1⟩:=fits_i64 h1;simp at e1;subst e1;obtain ⟨n2,e2,k2⟩:=fits_i64 h2;simp at e2;subst e2;exact ⟨⟨n0,n1,n2⟩,rfl,k0,k1,k2⟩
theorem fits_SeenS {D : Nat} {ds : List CD} (h : Fits Tryz.prog D 180 ds) : ∃ l : List Seen,ds = [.s (l.map Seen.row)]∧l.length≤9223372036854775807∧∀ y∈l,y.fits:=by
 obtain ⟨rows,rfl,h1,D',h2⟩:=fits_slice Tryz.underlying180 h;obtain ⟨l,rfl,hl⟩:=rows_map (f:=Seen.row) (ok:=Seen.fits) rows (fun row hrow=>fits_Seen (h2 row hrow).2);exact ⟨l,rfl,by simpa [mL] using h1,hl⟩
theorem cells182 : Tryz.prog.cellsOf 182 = 5:=by kernel_rfl
theorem lenF5 {α : Type} {l : List α} (h : l.length = 5) : ∃ x0 x1 x2 x3 x4,l = [x0,x1,x2,x3,x4]:=by
 match l,h with
 | [x0,x1,x2,x3,x4],_=>exact ⟨x0,x1,x2,x3,x4,rfl⟩
theorem cells9 : Tryz.prog.cellsOf 9 = 1:=by kernel_rfl
theorem cells160 : Tryz.prog.cellsOf 160 = 1:=by kernel_rfl
theorem cells180 : Tryz.prog.cellsOf 180 = 1:=by kernel_rfl
theorem fits_Doc {D : Nat} {ds : List CD} (h : Fits Tryz.prog D 182 ds) : ∃ x : Doc,ds = x.row∧x.fits:=by
 obtain ⟨hl,D',hf⟩:=fits_struct Tryz.underlying182 h;rw [cells182] at hl;obtain ⟨d0,d1,d2,d3,d4,rfl⟩:=lenF5 hl;simp [cells3,cells9,cells26,cells160,cells180] at hf;obtain ⟨h0,h1,h2,h3,h4⟩:=hf;obtain ⟨n0,e0,k0⟩:=fits_string Tryz.underlying9 h0;simp at e0;subst e0;obtain ⟨n1,e1,k1⟩:=fits_i64 h1;simp at e1;subst e1;obtain ⟨n2,e2,k2⟩:=fits_ints h2;simp at e2;subst e2;obtain ⟨n3,e3,k3⟩:=fits_EntryS h3;simp at e3;subst e3;obtain ⟨n4,e4,k4⟩:=fits_SeenS h4;simp at e4;subst e4;exact ⟨⟨n0,n1,n2,n3,n4⟩,rfl,(by rw [mL] at k0;exact k0),k1,k2,k3,k4⟩
theorem fits_DocS {D : Nat} {ds : List CD} (h : Fits Tryz.prog D 22 ds) : ∃ l : List Doc,ds = [.s (l.map Doc.row)]∧l.length≤9223372036854775807∧∀ y∈l,y.fits:=by
 obtain ⟨rows,rfl,h1,D',h2⟩:=fits_slice Tryz.underlying22 h;obtain ⟨l,rfl,hl⟩:=rows_map (f:=Doc.row) (ok:=Doc.fits) rows (fun row hrow=>fits_Doc (h2 row hrow).2);exact ⟨l,rfl,by simpa [mL] using h1,hl⟩
theorem cells185 : Tryz.prog.cellsOf 185 = 4:=by kernel_rfl
theorem lenF4 {α : Type} {l : List α} (h : l.length = 4) : ∃ x0 x1 x2 x3,l = [x0,x1,x2,x3]:=by
 match l,h with
 | [x0,x1,x2,x3],_=>exact ⟨x0,x1,x2,x3,rfl⟩
theorem cells4 : Tryz.prog.cellsOf 4 = 1:=by kernel_rfl
theorem fits_Ring {D : Nat} {ds : List CD} (h : Fits Tryz.prog D 185 ds) : ∃ x : Ring,ds = x.row∧x.fits:=by
 obtain ⟨hl,D',hf⟩:=fits_struct Tryz.underlying185 h;rw [cells185] at hl;obtain ⟨d0,d1,d2,d3,rfl⟩:=lenF4 hl;simp [cells3,cells4,cells160] at hf;obtain ⟨h0,h1,h2,h3⟩:=hf;obtain ⟨n0,e0,k0⟩:=fits_i64 h0;simp at e0;subst e0;obtain ⟨n1,e1,k1⟩:=fits_i64 h1;simp at e1;subst e1;obtain ⟨n2,e2⟩:=fits_bool Tryz.underlying4 h2;simp at e2;subst e2;obtain ⟨n3,e3,k3⟩:=fits_EntryS h3;simp at e3;subst e3;exact ⟨⟨n0,n1,n2,n3⟩,rfl,k0,k1,trivial,k3⟩
theorem cells187 : Tryz.prog.cellsOf 187 = 6:=by kernel_rfl
theorem lenF6 {α : Type} {l : List α} (h : l.length = 6) : ∃ x0 x1 x2 x3 x4 x5,l = [x0,x1,x2,x3,x4,x5]:=by
 match l,h with
 | [x0,x1,x2,x3,x4,x5],_=>exact ⟨x0,x1,x2,x3,x4,x5,rfl⟩
theorem fits_Sub {D : Nat} {ds : List CD} (h : Fits Tryz.prog D 187 ds) : ∃ x : Sub,ds = x.row∧x.fits:=by
 obtain ⟨hl,D',hf⟩:=fits_struct Tryz.underlying187 h;rw [cells187] at hl;obtain ⟨d0,d1,d2,d3,d4,d5,rfl⟩:=lenF6 hl;simp [cells3,cells9,cells185] at hf;obtain ⟨h0,h1,h2⟩:=hf;obtain ⟨n0,e0,k0⟩:=fits_i64 h0;simp at e0;subst e0;obtain ⟨n1,e1,k1⟩:=fits_string Tryz.underlying9 h1;simp at e1;subst e1;obtain ⟨n2,e2,k2⟩:=fits_Ring h2;simp [Ring.row] at e2;obtain ⟨e2_0,e2_1,e2_2,e2_3⟩:=e2;subst e2_0 e2_1 e2_2 e2_3;exact ⟨⟨n0,n1,n2⟩,rfl,k0,(by rw [mL] at k1;exact k1),k2⟩
theorem fits_SubS {D : Nat} {ds : List CD} (h : Fits Tryz.prog D 23 ds) : ∃ l : List Sub,ds = [.s (l.map Sub.row)]∧l.length≤9223372036854775807∧∀ y∈l,y.fits:=by
 obtain ⟨rows,rfl,h1,D',h2⟩:=fits_slice Tryz.underlying23 h;obtain ⟨l,rfl,hl⟩:=rows_map (f:=Sub.row) (ok:=Sub.fits) rows (fun row hrow=>fits_Sub (h2 row hrow).2);exact ⟨l,rfl,by simpa [mL] using h1,hl⟩
theorem cells25 : Tryz.prog.cellsOf 25 = 4:=by kernel_rfl
theorem cells22 : Tryz.prog.cellsOf 22 = 1:=by kernel_rfl
theorem cells23 : Tryz.prog.cellsOf 23 = 1:=by kernel_rfl
theorem fits_Hub {D : Nat} {ds : List CD} (h : Fits Tryz.prog D 25 ds) : ∃ x : Hub,ds = x.row∧x.fits:=by
 obtain ⟨hl,D',hf⟩:=fits_struct Tryz.underlying25 h;rw [cells25] at hl;obtain ⟨d0,d1,d2,d3,rfl⟩:=lenF4 hl;simp [cells3,cells4,cells22,cells23] at hf;obtain ⟨h0,h1,h2,h3⟩:=hf;obtain ⟨n0,e0⟩:=fits_bool Tryz.underlying4 h0;simp at e0;subst e0;obtain ⟨n1,e1,k1⟩:=fits_DocS h1;simp at e1;subst e1;obtain ⟨n2,e2,k2⟩:=fits_SubS h2;simp at e2;subst e2;obtain ⟨n3,e3,k3⟩:=fits_i64 h3;simp at e3;subst e3;exact ⟨⟨n0,n1,n2,n3⟩,rfl,trivial,k1,k2,k3⟩
theorem cells159 : Tryz.prog.cellsOf 159 = 7:=by kernel_rfl
theorem lenF7 {α : Type} {l : List α} (h : l.length = 7) : ∃ x0 x1 x2 x3 x4 x5 x6,l = [x0,x1,x2,x3,x4,x5,x6]:=by
 match l,h with
 | [x0,x1,x2,x3,x4,x5,x6],_=>exact ⟨x0,x1,x2,x3,x4,x5,x6,rfl⟩
theorem fits_Call {D : Nat} {ds : List CD} (h : Fits Tryz.prog D 159 ds) : ∃ x : Call,ds = x.row∧x.fits:=by
 obtain ⟨hl,D',hf⟩:=fits_struct Tryz.underlying159 h;rw [cells159] at hl;obtain ⟨d0,d1,d2,d3,d4,d5,d6,rfl⟩:=lenF7 hl;simp [cells3,cells9,cells26,cells157] at hf;obtain ⟨h0,h1,h2,h3,h4,h5,h6⟩:=hf;obtain ⟨n0,e0,k0⟩:=fits_i64 h0;simp at e0;subst e0;obtain ⟨n1,e1,k1⟩:=fits_string Tryz.underlying9 h1;simp at e1;subst e1;obtain ⟨n2,e2,k2⟩:=fits_i64 h2;simp at e2;subst e2;obtain ⟨n3,e3,k3⟩:=fits_i64 h3;simp at e3;subst e3;obtain ⟨n4,e4,k4⟩:=fits_i64 h4;simp at e4;subst e4;obtain ⟨n5,e5,k5⟩:=fits_PartS h5;simp at e5;subst e5;obtain ⟨n6,e6,k6⟩:=fits_ints h6;simp at e6;subst e6;exact ⟨⟨n0,n1,n2,n3,n4,n5,n6⟩,rfl,k0,(by rw [mL] at k1;exact k1),k2,k3,k4,k5,k6⟩
theorem cells162 : Tryz.prog.cellsOf 162 = 4:=by kernel_rfl
theorem fits_Answer {D : Nat} {ds : List CD} (h : Fits Tryz.prog D 162 ds) : ∃ x : Answer,ds = x.row∧x.fits:=by
 obtain ⟨hl,D',hf⟩:=fits_struct Tryz.underlying162 h;rw [cells162] at hl;obtain ⟨d0,d1,d2,d3,rfl⟩:=lenF4 hl;simp [cells3,cells26,cells160] at hf;obtain ⟨h0,h1,h2,h3⟩:=hf;obtain ⟨n0,e0,k0⟩:=fits_i64 h0;simp at e0;subst e0;obtain ⟨n1,e1,k1⟩:=fits_i64 h1;simp at e1;subst e1;obtain ⟨n2,e2,k2⟩:=fits_ints h2;simp at e2;subst e2;obtain ⟨n3,e3,k3⟩:=fits_EntryS h3;simp at e3;subst e3;exact ⟨⟨n0,n1,n2,n3⟩,rfl,k0,k1,k2,k3⟩
theorem cells164 : Tryz.prog.cellsOf 164 = 15:=by kernel_rfl
theorem lenF15 {α : Type} {l : List α} (h : l.length = 15) : ∃ x0 x1 x2 x3 x4 x5 x6 x7 x8 x9 x10 x11 x12 x13 x14,l = [x0,x1,x2,x3,x4,x5,x6,x7,x8,x9,x10,x11,x12,x13,x14]:=by
 match l,h with
 | [x0,x1,x2,x3,x4,x5,x6,x7,x8,x9,x10,x11,x12,x13,x14],_=>exact ⟨x0,x1,x2,x3,x4,x5,x6,x7,x8,x9,x10,x11,x12,x13,x14,rfl⟩
theorem fits_Task {D : Nat} {ds : List CD} (h : Fits Tryz.prog D 164 ds) : ∃ x : Task,ds = x.row∧x.fits:=by
 obtain ⟨hl,D',hf⟩:=fits_struct Tryz.underlying164 h;rw [cells164] at hl;obtain ⟨d0,d1,d2,d3,d4,d5,d6,d7,d8,d9,d10,d11,d12,d13,d14,rfl⟩:=lenF15 hl;simp [cells3,cells159,cells162] at hf;obtain ⟨h0,h1,h2,h3,h4,h5⟩:=hf;obtain ⟨n0,e0,k0⟩:=fits_Call h0;simp [Call.row] at e0;obtain ⟨e0_0,e0_1,e0_2,e0_3,e0_4,e0_5,e0_6⟩:=e0;subst e0_0 e0_1 e0_2 e0_3 e0_4 e0_5 e0_6;obtain ⟨n1,e1,k1⟩:=fits_i64 h1;simp at e1;subst e1;obtain ⟨n2,e2,k2⟩:=fits_i64 h2;simp at e2;subst e2;obtain ⟨n3,e3,k3⟩:=fits_i64 h3;simp at e3;subst e3;obtain ⟨n4,e4,k4⟩:=fits_i64 h4;simp at e4;subst e4;obtain ⟨n5,e5,k5⟩:=fits_Answer h5;simp [Answer.row] at e5;obtain ⟨e5_0,e5_1,e5_2,e5_3⟩:=e5;subst e5_0 e5_1 e5_2 e5_3;exact ⟨⟨n0,n1,n2,n3,n4,n5⟩,rfl,k0,k1,k2,k3,k4,k5⟩
theorem fits_TaskS {D : Nat} {ds : List CD} (h : Fits Tryz.prog D 28 ds) : ∃ l : List Task,ds = [.s (l.map Task.row)]∧l.length≤9223372036854775807∧∀ y∈l,y.fits:=by
 obtain ⟨rows,rfl,h1,D',h2⟩:=fits_slice Tryz.underlying28 h;obtain ⟨l,rfl,hl⟩:=rows_map (f:=Task.row) (ok:=Task.fits) rows (fun row hrow=>fits_Task (h2 row hrow).2);exact ⟨l,rfl,by simpa [mL] using h1,hl⟩
theorem cells155 : Tryz.prog.cellsOf 155 = 2:=by kernel_rfl
theorem lenF2 {α : Type} {l : List α} (h : l.length = 2) : ∃ x0 x1,l = [x0,x1]:=by
 match l,h with
 | [x0,x1],_=>exact ⟨x0,x1,rfl⟩
theorem fits_Queue {D : Nat} {ds : List CD} (h : Fits Tryz.prog D 155 ds) : ∃ x : Queue,ds = x.row∧x.fits:=by
 obtain ⟨hl,D',hf⟩:=fits_struct Tryz.underlying155 h;rw [cells155] at hl;obtain ⟨d0,d1,rfl⟩:=lenF2 hl;simp [cells9,cells26] at hf;obtain ⟨h0,h1⟩:=hf;obtain ⟨n0,e0,k0⟩:=fits_string Tryz.underlying9 h0;simp at e0;subst e0;obtain ⟨n1,e1,k1⟩:=fits_ints h1;simp at e1;subst e1;exact ⟨⟨n0,n1⟩,rfl,(by rw [mL] at k0;exact k0),k1⟩
theorem fits_QueueS {D : Nat} {ds : List CD} (h : Fits Tryz.prog D 27 ds) : ∃ l : List Queue,ds = [.s (l.map Queue.row)]∧l.length≤9223372036854775807∧∀ y∈l,y.fits:=by
 obtain ⟨rows,rfl,h1,D',h2⟩:=fits_slice Tryz.underlying27 h;obtain ⟨l,rfl,hl⟩:=rows_map (f:=Queue.row) (ok:=Queue.fits) rows (fun row hrow=>fits_Queue (h2 row hrow).2);exact ⟨l,rfl,by simpa [mL] using h1,hl⟩
theorem cells30 : Tryz.prog.cellsOf 30 = 8:=by kernel_rfl
theorem lenF8 {α : Type} {l : List α} (h : l.length = 8) : ∃ x0 x1 x2 x3 x4 x5 x6 x7,l = [x0,x1,x2,x3,x4,x5,x6,x7]:=by
 match l,h with
 | [x0,x1,x2,x3,x4,x5,x6,x7],_=>exact ⟨x0,x1,x2,x3,x4,x5,x6,x7,rfl⟩
theorem cells27 : Tryz.prog.cellsOf 27 = 1:=by kernel_rfl
theorem cells28 : Tryz.prog.cellsOf 28 = 1:=by kernel_rfl
theorem fits_World {D : Nat} {ds : List CD} (h : Fits Tryz.prog D 30 ds) : ∃ x : Wld,ds = x.row∧x.fits:=by
 obtain ⟨hl,D',hf⟩:=fits_struct Tryz.underlying30 h;rw [cells30] at hl;obtain ⟨d0,d1,d2,d3,d4,d5,d6,d7,rfl⟩:=lenF8 hl;simp [cells3,cells25,cells26,cells27,cells28] at hf;obtain ⟨h0,h1,h2,h3,h4⟩:=hf;obtain ⟨n0,e0,k0⟩:=fits_Hub h0;simp [Hub.row] at e0;obtain ⟨e0_0,e0_1,e0_2,e0_3⟩:=e0;subst e0_0 e0_1 e0_2 e0_3;obtain ⟨n1,e1,k1⟩:=fits_ints h1;simp at e1;subst e1;obtain ⟨n2,e2,k2⟩:=fits_QueueS h2;simp at e2;subst e2;obtain ⟨n3,e3,k3⟩:=fits_TaskS h3;simp at e3;subst e3;obtain ⟨n4,e4,k4⟩:=fits_i64 h4;simp at e4;subst e4;exact ⟨⟨n0,n1,n2,n3,n4⟩,rfl,k0,k1,k2,k3,k4⟩
theorem fitsV_struct {D : Nat} {t : TypeId} {vd : VD} {fs : Array Field} (hu : Tryz.prog.underlying t = some (.struct fs)) (hc : Tryz.prog.cellsOf t≠1) (h : FitsV Tryz.prog D t vd) : ∃ ds,vd = .agg ds∧Fits Tryz.prog D t ds:=by
 cases vd with
 | c d=>
   have:=(fits_struct hu h).1;exact absurd this.symm hc
 | agg ds=>exact ⟨ds,rfl,h.2⟩
end Go.Proofs.YtoeofekglbdemaaGreat
