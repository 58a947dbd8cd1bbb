import Derived.Test.YtoeofekglbdemaaGreatMG
namespace Go.Proofs.YtoeofekglbdemaaGreat
open Go.AM
set_option maxRecDepth 20000
theorem toPart_c (x : Part) (h : nPart x≤2 ^ 40) : PureC Tryz.prog 313 [.agg x.row] (.one (.agg x.res)):=by
 refine PureC.intro' tt_ok Tryz.func313 (by kernel_rfl) rfl rfl rfl (Nat.le_of_ble_eq_true rfl) (fun w0 base=>?_);unfold nPart at h;simp [Part.row,Part.res]
 try intros
 refine ACall.pure (toIntS_c x.signs (by omega)) (by simp) ?_;simp
 try intros
theorem eqPart_c (x y : Part) (h : nPart x≤2 ^ 40) : PureC Tryz.prog 314 [.agg x.row,.agg y.row] (.one (.c (vb (x = y)) 1)):=by
 refine PureC.intro' tt_ok Tryz.func314 (by kernel_rfl) rfl rfl rfl (Nat.le_of_ble_eq_true rfl) (fun w0 base=>?_);unfold nPart at h;obtain ⟨a0,a1,a2⟩:=x;obtain ⟨b0,b1,b2⟩:=y;simp only at h;simp [Part.row]
 try intros
 by_cases h0 : a0 = b0
 rotate_left
 ·simp [h0]
 subst h0
 try simp
 by_cases h1 : a1 = b1
 rotate_left
 ·simp [h1]
 subst h1
 try simp
 refine ACall.pure (eqIntS_c a2 b2 (by omega)) (by simp) ?_;simp;by_cases h2 : a2 = b2
 rotate_left
 ·simp [h2]
 subst h2
 try simp
theorem szPart_c (x : Part) (h : x.fits) (left : Nat) (hf : left≤2 ^ 20) : PureC Tryz.prog 309 [.agg x.row,.c (vi left)] (.one (.c (vi (szR (nPart x) left)) 1)):=by
 refine PureC.intro' tt_ok Tryz.func309 (by kernel_rfl) rfl rfl rfl (Nat.le_of_ble_eq_true rfl) (fun w0 base=>?_);obtain ⟨f0,f1,f2⟩:=h;obtain ⟨r,hr⟩ : ∃ r,szR (nPart x) left = r:=⟨_,rfl⟩;rw [hr];have hn : nPart x = x.signs.length:=rfl;simp [Part.row]
 try intros
 refine ACall.pure (szIntS_c x.signs f2.1 left (by omega)) (by simp) ?_;by_cases k0 : x.signs.length≤left
 rotate_left
 ·have : r = -1:=by rw [← hr];exact szR_no (by omega)
  rw [szR_no k0];simp [this]
 rw [szR_ok k0];obtain ⟨m0,hm0⟩ : ∃ m,left - x.signs.length = m:=⟨_,rfl⟩;rw [hm0];have : r = (m0 : Int):=by rw [← hr,szR_ok (by omega)];omega
 simp [this]
theorem toPartS_c (l : List Part) (hl : nL nPart l≤2 ^ 40) : PureC Tryz.prog 283 [.c (.s (l.map Part.row))] (.one (.c (.s (l.map Part.row)) 3)):=by
 refine PureC.intro' tt_ok Tryz.func283 (by kernel_rfl) rfl rfl rfl (Nat.le_of_ble_eq_true rfl) (fun w0 base=>?_);have hle:=nL_len hl;simp;refine ⟨by omega,fun b=>?_⟩
 refine LoopT.intro eok (fun i : Nat=>i≤l.length) (fun i=>⟨23,0,[(4,.v (.int .i64 i)),(3,.sl 112 (some (b,0,l.length)) 3 0 l.length),(0,.ro (l.map Part.row))],
  [(112,.rows (some (b,0,l.length)) 3 (fillR Part.row [.v (.int .i64 0),.v (.int .i64 0),.s []] l i) true)]⟩) (fun i=>l.length - i) 0 (by simp) (by simp [fillR_0]) (fun i hi=>?_)
 by_cases h : i < l.length
 ·simp [h,Part.row]
  refine ACall.pure (toPart_c l[i] (nL_at hl h)) (by simp [Part.row]) ?_;simp [Part.res,fillR_length hi,h];exact ⟨i + 1,by omega,by omega,i64_suc (by omega),fillR_set (f:=Part.row) h⟩
 ·have : i = l.length:=by omega
  subst this;simp [fillR_all,cut]
  try exact fun a _=>rfl
theorem eqPartS_c (a b : List Part) (hl : nL nPart a≤2 ^ 40) : PureC Tryz.prog 284 [.c (.s (a.map Part.row)),.c (.s (b.map Part.row))] (.one (.c (vb (a = b)) 1)):=by
 refine PureC.intro' tt_ok Tryz.func284 (by kernel_rfl) rfl rfl rfl (Nat.le_of_ble_eq_true rfl) (fun w0 base=>?_);have hle:=nL_len hl;by_cases h : a.length = b.length
 ·simp [h]
  refine LoopT.intro eok (fun i : Nat=>i≤a.length∧a.take i = b.take i) (fun i=>⟨27,0,[(5,.v (.int .i64 i)),(1,.ro (b.map Part.row)),(0,.ro (a.map Part.row))],[]⟩) (fun i=>a.length - i) 0 (by simp) (by simp) (fun i hi=>?_);by_cases hlt : i < a.length
  ·simp [hlt]
   have hlt' : i < b.length:=by omega
   refine DrawT.quiet eok mix (by kernel_rfl) ?_;simp [hlt,hlt',Part.row];refine ⟨_,_,eqPart_c a[i] b[i] (nL_at hl hlt),by simp [Part.row],?_⟩;simp;refine Br.mk (fun h1=>?_) (fun h1=>?_)
   ·simp
    exact ⟨i + 1,⟨by omega,take_next hlt hlt' hi.2 (of_yes h1)⟩,by omega,i64_suc (by omega)⟩
   ·simp [dc_no]
    exact ne_at hlt hlt' (of_no h1)
  ·simp [hlt,dc_yes]
   exact take_all (by omega) (by omega) hi.2
 ·have hz : ¬ (a.length : Int) = b.length:=by omega
  simp [hz,dc_no];exact fun h2=>absurd (by rw [h2]) h
theorem szPartS_c (l : List Part) (hl : l.length≤9223372036854775807) (hs : ∀ y∈l,y.fits) (left : Nat) (hf : left≤2 ^ 20) : PureC Tryz.prog 272 [.c (.s (l.map Part.row)),.c (vi left)] (.one (.c (vi (szR (nL nPart l) left)) 1)):=by
 refine PureC.intro' tt_ok Tryz.func272 (by kernel_rfl) rfl rfl rfl (Nat.le_of_ble_eq_true rfl) (fun w0 base=>?_);have hw : IntKind.i64.wrap ((left : Int) - (l.length : Int)) = (left : Int) - l.length:=IntWalk.i64_in _ (by omega);have hn : nL nPart l = l.length + sumN nPart l:=rfl;by_cases h : l.length≤left
 ·obtain ⟨lf,hlf⟩ : ∃ lf : Nat,left - l.length = lf:=⟨_,rfl⟩
  have hlz : (left : Int) - l.length = (lf : Int):=by omega
  have hw2 : IntKind.i64.wrap (lf : Int) = lf:=i64_nat (by omega);simp [hlz,hw2];obtain ⟨r,hr⟩ : ∃ r,szR (nL nPart l) left = r:=⟨_,rfl⟩;have hr0 : szR (sumN nPart l) lf = r:=by rw [← hr];unfold szR;split<;>split<;>omega
  rw [hr];refine LoopT.intro eok (fun x : Nat × Nat=>x.1≤l.length∧x.2≤2 ^ 20∧szR (sumN nPart (l.drop x.1)) x.2 = r) (fun x=>⟨27,0,[(5,.v (.int .i64 x.1)),(1,.v (.int .i64 x.2)),(0,.ro (l.map Part.row))],[]⟩) (fun x=>l.length - x.1) (0,lf) (by simp [hr0];omega) (by simp) ?_
  rintro ⟨i,m⟩ ⟨hi,hm,hx⟩
  simp only at hi hm hx ⊢;by_cases hlt : i < l.length
  ·rw [sumN_drop hlt] at hx
   simp [hlt,Part.row];refine ACall.pure (szPart_c l[i] (hs _ (List.getElem_mem hlt)) m hm) (by simp [Part.row]) ?_;by_cases hk : nPart l[i]≤m
   ·rw [szR_ok hk]
    have hz : ¬ ((m - nPart l[i] : Nat) : Int) < 0:=by omega
    simp [hz];refine ⟨i + 1,m - nPart l[i],⟨by omega,by omega,?_⟩,by omega,i64_suc (by omega),rfl⟩;rw [← hx];unfold szR;split<;>split<;>omega
   ·rw [szR_no (show ¬ nPart l[i] + sumN nPart (l.drop (i + 1))≤m by omega)] at hx
    rw [szR_no hk];simp [← hx]
  ·have : i = l.length:=by omega
   subst this;simp only [List.drop_length,sumN,szR,Nat.zero_le,if_true,Nat.sub_zero] at hx;simp [hx]
 ·have hz : (left : Int) - l.length < 0:=by omega
  simp [hw,hz,szR_no (show ¬ nL nPart l≤left by omega)]
theorem markPartS_c (l : List Part) (k : Int) (h0 : 0≤k) (hk : k + cntL Part.cnt l≤4611686018427387904) (hl : nL nPart l≤2 ^ 40) : MarkC Tryz.prog 143 (.c (.s (l.map Part.row)) 3) k (k + cntL Part.cnt l) (.c (.s ((markL Part.mark Part.cnt l k).map Part.row)) 3):=by
 refine MarkC.intro tt_ok Tryz.func143 (by kernel_rfl) rfl rfl rfl (by decide) (fun w0 base=>?_);have hle:=nL_len hl;simp;intro H;refine LoopT.introG eok (fun i : Nat=>i≤l.length) (fun i=>⟨34,0,[(5,.v (.int .i64 i)),(1,.v (.int .i64 (k + cntL Part.cnt (l.take i)))),(0,.ml 0 H 3 l.length)],[(0,.rows H 3 (marked Part.mark Part.cnt Part.row l k i) true)]⟩) (fun i=>l.length - i) 0 (by simp) (by simp [marked_0,cntL]) (fun i hi=>?_);by_cases h : i < l.length
 ·have hc:=cntL_cell_le (cn:=Part.cnt) h
  have hs:=cntL_take_suc (cn:=Part.cnt) h;have hni:=nL_at hl h;simp only [nPart] at hni;obtain ⟨q0,hq0⟩ : ∃ q,k + ((cntL Part.cnt (l.take i) : Nat) : Int) = q:=⟨_,rfl⟩;have hpc : l[i].cnt = 2 + (l[i].signs.length):=rfl;rw [hq0,← marked_row h];have e0 : Go.IntKind.i64.wrap q0 = q0:=Go.IntWalk.i64_in _ (by omega);obtain ⟨q1,hq1⟩ : ∃ q,q0 + 1 = q:=⟨_,rfl⟩;have e1 : Go.IntKind.i64.wrap q1 = q1:=Go.IntWalk.i64_in _ (by omega);obtain ⟨q2,hq2⟩ : ∃ q,q1 + 1 = q:=⟨_,rfl⟩;have e2 : Go.IntKind.i64.wrap q2 = q2:=Go.IntWalk.i64_in _ (by omega);obtain ⟨q3,hq3⟩ : ∃ q,q2 + ((l[i].signs.length : Nat) : Int) = q:=⟨_,rfl⟩;have e3 : Go.IntKind.i64.wrap q3 = q3:=Go.IntWalk.i64_in _ (by omega);have e : Go.IntKind.i64.wrap ((i : Int) + 1) = ((i + 1 : Nat) : Int):=i64_suc (by omega)
  refine Ent.open (fun _ h=>h) (k:=0) (i:=i) (j:=2) (k':=902) (sz':=1) (sz:=3) (H:=H) (rows:=((marked Part.mark Part.cnt Part.row l k i).set i l[i].row)) (srows:=l[i].signs.map intR) (row:=l[i].row) (by simp) (by simp [marked_length,h]) rfl (by simp) (by decide) (by simp [intR]) (by simp) (fun H2=>?_);refine Ent.refl ?_;simp [h,marked_length,Part.row,setC_set,modify_set,hq1,e1,hq2,e2];refine ACall.mark (markIntS_c l[i].signs q2 (by omega) (by omega)) rfl (fun _ h=>h) (by simp) ?_;simp [e,hq3]
  refine Ent.close (k:=0) (i:=i) (j:=2) (k':=902) (sz':=1) (sz:=3) (H:=H) (rows:=(marked Part.mark Part.cnt Part.row l k i).set i [vi q0,vi q1,.h 902 H2 1 l[i].signs.length]) (row:=[vi q0,vi q1,.h 902 H2 1 l[i].signs.length]) (H':=H2) (srows:=(markL intM one l[i].signs q2).map intR) (by simp) (by simp [marked_length,h]) (by simp [markL_length]) (by simp) (by decide) (by simp) ?_;refine Ent.refl ⟨i + 1,by omega,by omega,?_⟩;simp [setC_set,hs,hpc];refine ⟨by omega,?_⟩;refine marked_set h ?_;rw [hq0];subst hq1 hq2 hq3;rfl
 ·have : i = l.length:=by omega
  subst this;refine Ent.refl ?_;simp [marked_all,markL_length,Part.row]
theorem heldPartS_c (l : List Part) (k : Int) (h0 : 0≤k) (hk : k + cntL Part.cnt l≤4611686018427387904) (hl : nL nPart l≤2 ^ 40) : PureC Tryz.prog 147 [.c (.s ((markL Part.mark Part.cnt l k).map Part.row)),.c (vi k)] (.one (.c (vi (k + cntL Part.cnt l)) 1)):=by
 refine PureC.intro' tt_ok Tryz.func147 (by kernel_rfl) rfl rfl rfl (Nat.le_of_ble_eq_true rfl) (fun w0 base=>?_);have hle:=nL_len hl;simp;refine LoopT.intro eok (fun i : Nat=>i≤l.length) (fun i=>⟨40,0,[(5,.v (.int .i64 i)),(1,.v (.int .i64 (k + cntL Part.cnt (l.take i)))),(0,.ro ((markL Part.mark Part.cnt l k).map Part.row))],[]⟩) (fun i=>l.length - i) 0 (by simp) (by simp [cntL]) (fun i hi=>?_);by_cases h : i < l.length
 ·have hc:=cntL_cell_le (cn:=Part.cnt) h
  have hs:=cntL_take_suc (cn:=Part.cnt) h;have hni:=nL_at hl h;simp only [nPart] at hni;have hm:=markL_cell (mk:=Part.mark) (cn:=Part.cnt) (k:=k) h;obtain ⟨q0,hq0⟩ : ∃ q,k + ((cntL Part.cnt (l.take i) : Nat) : Int) = q:=⟨_,rfl⟩;have hpc : l[i].cnt = 2 + (l[i].signs.length):=rfl;rw [hq0] at hm;rw [hq0];have z0 : ¬ q0 < 0:=by omega
  have e0 : Go.IntKind.i64.wrap q0 = q0:=Go.IntWalk.i64_in _ (by omega);obtain ⟨q1,hq1⟩ : ∃ q,q0 + 1 = q:=⟨_,rfl⟩;have e1 : Go.IntKind.i64.wrap q1 = q1:=Go.IntWalk.i64_in _ (by omega);have z1 : ¬ q1 < 0:=by omega
  obtain ⟨q2,hq2⟩ : ∃ q,q1 + 1 = q:=⟨_,rfl⟩;have e2 : Go.IntKind.i64.wrap q2 = q2:=Go.IntWalk.i64_in _ (by omega);have z2 : ¬ q2 < 0:=by omega
  obtain ⟨q3,hq3⟩ : ∃ q,q2 + ((l[i].signs.length : Nat) : Int) = q:=⟨_,rfl⟩;have e3 : Go.IntKind.i64.wrap q3 = q3:=Go.IntWalk.i64_in _ (by omega);have z3 : ¬ q3 < 0:=by omega
  have e : Go.IntKind.i64.wrap ((i : Int) + 1) = ((i + 1 : Nat) : Int):=i64_suc (by omega);simp [h,markL_length,hm,Part.row,Part.mark,hq1,e1,hq2,e2];refine ACall.pure (heldIntS_c l[i].signs q2 (by omega) (by omega)) (by simp) ?_;simp [hq3,z3];refine ⟨i + 1,by omega,by omega,?_⟩;simp [e,hs,hpc];omega
 ·have : i = l.length:=by omega
  subst this;simp [markL_length]
theorem toEntry_c (x : Entry) (h : nEntry x≤2 ^ 40) : PureC Tryz.prog 289 [.agg x.row] (.one (.agg x.res)):=by
 refine PureC.intro' tt_ok Tryz.func289 (by kernel_rfl) rfl rfl rfl (Nat.le_of_ble_eq_true rfl) (fun w0 base=>?_);unfold nEntry at h;simp [Entry.row,Entry.res]
 try intros
 refine ACall.pure (toPartS_c x.o (by omega)) (by simp) ?_;simp
 try intros
theorem eqEntry_c (x y : Entry) (h : nEntry x≤2 ^ 40) : PureC Tryz.prog 293 [.agg x.row,.agg y.row] (.one (.c (vb (x = y)) 1)):=by
 refine PureC.intro' tt_ok Tryz.func293 (by kernel_rfl) rfl rfl rfl (Nat.le_of_ble_eq_true rfl) (fun w0 base=>?_);unfold nEntry at h;obtain ⟨a0,a1,a2⟩:=x;obtain ⟨b0,b1,b2⟩:=y;simp only at h;simp [Entry.row]
 try intros
 by_cases h0 : a0 = b0
 rotate_left
 ·simp [h0]
 subst h0
 try simp
 by_cases h1 : a1 = b1
 rotate_left
 ·simp [h1]
 subst h1
 try simp
 refine ACall.pure (eqPartS_c a2 b2 (by omega)) (by simp) ?_;simp;by_cases h2 : a2 = b2
 rotate_left
 ·simp [h2]
 subst h2
 try simp
theorem szEntry_c (x : Entry) (h : x.fits) (left : Nat) (hf : left≤2 ^ 20) : PureC Tryz.prog 286 [.agg x.row,.c (vi left)] (.one (.c (vi (szR (nEntry x) left)) 1)):=by
 refine PureC.intro' tt_ok Tryz.func286 (by kernel_rfl) rfl rfl rfl (Nat.le_of_ble_eq_true rfl) (fun w0 base=>?_);obtain ⟨f0,f1,f2⟩:=h;obtain ⟨r,hr⟩ : ∃ r,szR (nEntry x) left = r:=⟨_,rfl⟩;rw [hr];have hn : nEntry x = nL nPart x.o:=rfl;simp [Entry.row]
 try intros
 refine ACall.pure (szPartS_c x.o f2.1 f2.2 left (by omega)) (by simp) ?_;by_cases k0 : nL nPart x.o≤left
 rotate_left
 ·have : r = -1:=by rw [← hr];exact szR_no (by omega)
  rw [szR_no k0];simp [this]
 rw [szR_ok k0];obtain ⟨m0,hm0⟩ : ∃ m,left - nL nPart x.o = m:=⟨_,rfl⟩;rw [hm0];have : r = (m0 : Int):=by rw [← hr,szR_ok (by omega)];omega
 simp [this]
theorem toEntryS_c (l : List Entry) (hl : nL nEntry l≤2 ^ 40) : PureC Tryz.prog 234 [.c (.s (l.map Entry.row))] (.one (.c (.s (l.map Entry.row)) 3)):=by
 refine PureC.intro' tt_ok Tryz.func234 (by kernel_rfl) rfl rfl rfl (Nat.le_of_ble_eq_true rfl) (fun w0 base=>?_);have hle:=nL_len hl;simp;refine ⟨by omega,fun b=>?_⟩
 refine LoopT.intro eok (fun i : Nat=>i≤l.length) (fun i=>⟨23,0,[(4,.v (.int .i64 i)),(3,.sl 112 (some (b,0,l.length)) 3 0 l.length),(0,.ro (l.map Entry.row))],
  [(112,.rows (some (b,0,l.length)) 3 (fillR Entry.row [.v (.int .i64 0),.v (.int .i64 0),.s []] l i) true)]⟩) (fun i=>l.length - i) 0 (by simp) (by simp [fillR_0]) (fun i hi=>?_)
 by_cases h : i < l.length
 ·simp [h,Entry.row]
  refine ACall.pure (toEntry_c l[i] (nL_at hl h)) (by simp [Entry.row]) ?_;simp [Entry.res,fillR_length hi,h];exact ⟨i + 1,by omega,by omega,i64_suc (by omega),fillR_set (f:=Entry.row) h⟩
 ·have : i = l.length:=by omega
  subst this;simp [fillR_all,cut]
  try exact fun a _=>rfl
theorem eqEntryS_c (a b : List Entry) (hl : nL nEntry a≤2 ^ 40) : PureC Tryz.prog 241 [.c (.s (a.map Entry.row)),.c (.s (b.map Entry.row))] (.one (.c (vb (a = b)) 1)):=by
 refine PureC.intro' tt_ok Tryz.func241 (by kernel_rfl) rfl rfl rfl (Nat.le_of_ble_eq_true rfl) (fun w0 base=>?_);have hle:=nL_len hl;by_cases h : a.length = b.length
 ·simp [h]
  refine LoopT.intro eok (fun i : Nat=>i≤a.length∧a.take i = b.take i) (fun i=>⟨27,0,[(5,.v (.int .i64 i)),(1,.ro (b.map Entry.row)),(0,.ro (a.map Entry.row))],[]⟩) (fun i=>a.length - i) 0 (by simp) (by simp) (fun i hi=>?_);by_cases hlt : i < a.length
  ·simp [hlt]
   have hlt' : i < b.length:=by omega
   refine DrawT.quiet eok mix (by kernel_rfl) ?_;simp [hlt,hlt',Entry.row];refine ⟨_,_,eqEntry_c a[i] b[i] (nL_at hl hlt),by simp [Entry.row],?_⟩;simp;refine Br.mk (fun h1=>?_) (fun h1=>?_)
   ·simp
    exact ⟨i + 1,⟨by omega,take_next hlt hlt' hi.2 (of_yes h1)⟩,by omega,i64_suc (by omega)⟩
   ·simp [dc_no]
    exact ne_at hlt hlt' (of_no h1)
  ·simp [hlt,dc_yes]
   exact take_all (by omega) (by omega) hi.2
 ·have hz : ¬ (a.length : Int) = b.length:=by omega
  simp [hz,dc_no];exact fun h2=>absurd (by rw [h2]) h
theorem szEntryS_c (l : List Entry) (hl : l.length≤9223372036854775807) (hs : ∀ y∈l,y.fits) (left : Nat) (hf : left≤2 ^ 20) : PureC Tryz.prog 227 [.c (.s (l.map Entry.row)),.c (vi left)] (.one (.c (vi (szR (nL nEntry l) left)) 1)):=by
 refine PureC.intro' tt_ok Tryz.func227 (by kernel_rfl) rfl rfl rfl (Nat.le_of_ble_eq_true rfl) (fun w0 base=>?_);have hw : IntKind.i64.wrap ((left : Int) - (l.length : Int)) = (left : Int) - l.length:=IntWalk.i64_in _ (by omega);have hn : nL nEntry l = l.length + sumN nEntry l:=rfl;by_cases h : l.length≤left
 ·obtain ⟨lf,hlf⟩ : ∃ lf : Nat,left - l.length = lf:=⟨_,rfl⟩
  have hlz : (left : Int) - l.length = (lf : Int):=by omega
  have hw2 : IntKind.i64.wrap (lf : Int) = lf:=i64_nat (by omega);simp [hlz,hw2];obtain ⟨r,hr⟩ : ∃ r,szR (nL nEntry l) left = r:=⟨_,rfl⟩;have hr0 : szR (sumN nEntry l) lf = r:=by rw [← hr];unfold szR;split<;>split<;>omega
  rw [hr];refine LoopT.intro eok (fun x : Nat × Nat=>x.1≤l.length∧x.2≤2 ^ 20∧szR (sumN nEntry (l.drop x.1)) x.2 = r) (fun x=>⟨27,0,[(5,.v (.int .i64 x.1)),(1,.v (.int .i64 x.2)),(0,.ro (l.map Entry.row))],[]⟩) (fun x=>l.length - x.1) (0,lf) (by simp [hr0];omega) (by simp) ?_
  rintro ⟨i,m⟩ ⟨hi,hm,hx⟩
  simp only at hi hm hx ⊢;by_cases hlt : i < l.length
  ·rw [sumN_drop hlt] at hx
   simp [hlt,Entry.row];refine ACall.pure (szEntry_c l[i] (hs _ (List.getElem_mem hlt)) m hm) (by simp [Entry.row]) ?_;by_cases hk : nEntry l[i]≤m
   ·rw [szR_ok hk]
    have hz : ¬ ((m - nEntry l[i] : Nat) : Int) < 0:=by omega
    simp [hz];refine ⟨i + 1,m - nEntry l[i],⟨by omega,by omega,?_⟩,by omega,i64_suc (by omega),rfl⟩;rw [← hx];unfold szR;split<;>split<;>omega
   ·rw [szR_no (show ¬ nEntry l[i] + sumN nEntry (l.drop (i + 1))≤m by omega)] at hx
    rw [szR_no hk];simp [← hx]
  ·have : i = l.length:=by omega
   subst this;simp only [List.drop_length,sumN,szR,Nat.zero_le,if_true,Nat.sub_zero] at hx;simp [hx]
 ·have hz : (left : Int) - l.length < 0:=by omega
  simp [hw,hz,szR_no (show ¬ nL nEntry l≤left by omega)]
theorem markEntryS_c (l : List Entry) (k : Int) (h0 : 0≤k) (hk : k + cntL Entry.cnt l≤4611686018427387904) (hl : nL nEntry l≤2 ^ 40) : MarkC Tryz.prog 144 (.c (.s (l.map Entry.row)) 3) k (k + cntL Entry.cnt l) (.c (.s ((markL Entry.mark Entry.cnt l k).map Entry.row)) 3):=by
 refine MarkC.intro tt_ok Tryz.func144 (by kernel_rfl) rfl rfl rfl (by decide) (fun w0 base=>?_);have hle:=nL_len hl;simp;intro H;refine LoopT.introG eok (fun i : Nat=>i≤l.length) (fun i=>⟨34,0,[(5,.v (.int .i64 i)),(1,.v (.int .i64 (k + cntL Entry.cnt (l.take i)))),(0,.ml 0 H 3 l.length)],[(0,.rows H 3 (marked Entry.mark Entry.cnt Entry.row l k i) true)]⟩) (fun i=>l.length - i) 0 (by simp) (by simp [marked_0,cntL]) (fun i hi=>?_);by_cases h : i < l.length
 ·have hc:=cntL_cell_le (cn:=Entry.cnt) h
  have hs:=cntL_take_suc (cn:=Entry.cnt) h;have hni:=nL_at hl h;simp only [nEntry] at hni;obtain ⟨q0,hq0⟩ : ∃ q,k + ((cntL Entry.cnt (l.take i) : Nat) : Int) = q:=⟨_,rfl⟩;have hpc : l[i].cnt = 2 + (cntL Part.cnt l[i].o):=rfl;rw [hq0,← marked_row h];have e0 : Go.IntKind.i64.wrap q0 = q0:=Go.IntWalk.i64_in _ (by omega);obtain ⟨q1,hq1⟩ : ∃ q,q0 + 1 = q:=⟨_,rfl⟩;have e1 : Go.IntKind.i64.wrap q1 = q1:=Go.IntWalk.i64_in _ (by omega);obtain ⟨q2,hq2⟩ : ∃ q,q1 + 1 = q:=⟨_,rfl⟩;have e2 : Go.IntKind.i64.wrap q2 = q2:=Go.IntWalk.i64_in _ (by omega);obtain ⟨q3,hq3⟩ : ∃ q,q2 + ((cntL Part.cnt l[i].o : Nat) : Int) = q:=⟨_,rfl⟩;have e3 : Go.IntKind.i64.wrap q3 = q3:=Go.IntWalk.i64_in _ (by omega);have e : Go.IntKind.i64.wrap ((i : Int) + 1) = ((i + 1 : Nat) : Int):=i64_suc (by omega)
  refine Ent.open (fun _ h=>h) (k:=0) (i:=i) (j:=2) (k':=902) (sz':=3) (sz:=3) (H:=H) (rows:=((marked Entry.mark Entry.cnt Entry.row l k i).set i l[i].row)) (srows:=l[i].o.map Part.row) (row:=l[i].row) (by simp) (by simp [marked_length,h]) rfl (by simp) (by decide) (by simp [Part.row]) (by simp) (fun H2=>?_);refine Ent.refl ?_;simp [h,marked_length,Entry.row,setC_set,modify_set,hq1,e1,hq2,e2];refine ACall.mark (markPartS_c l[i].o q2 (by omega) (by omega) (by omega)) rfl (fun _ h=>h) (by simp) ?_;simp [e,hq3]
  refine Ent.close (k:=0) (i:=i) (j:=2) (k':=902) (sz':=3) (sz:=3) (H:=H) (rows:=(marked Entry.mark Entry.cnt Entry.row l k i).set i [vi q0,vi q1,.h 902 H2 3 l[i].o.length]) (row:=[vi q0,vi q1,.h 902 H2 3 l[i].o.length]) (H':=H2) (srows:=(markL Part.mark Part.cnt l[i].o q2).map Part.row) (by simp) (by simp [marked_length,h]) (by simp [markL_length]) (by simp) (by decide) (by simp) ?_;refine Ent.refl ⟨i + 1,by omega,by omega,?_⟩;simp [setC_set,hs,hpc];refine ⟨by omega,?_⟩;refine marked_set h ?_;rw [hq0];subst hq1 hq2 hq3;rfl
 ·have : i = l.length:=by omega
  subst this;refine Ent.refl ?_;simp [marked_all,markL_length,Entry.row]
theorem heldEntryS_c (l : List Entry) (k : Int) (h0 : 0≤k) (hk : k + cntL Entry.cnt l≤4611686018427387904) (hl : nL nEntry l≤2 ^ 40) : PureC Tryz.prog 148 [.c (.s ((markL Entry.mark Entry.cnt l k).map Entry.row)),.c (vi k)] (.one (.c (vi (k + cntL Entry.cnt l)) 1)):=by
 refine PureC.intro' tt_ok Tryz.func148 (by kernel_rfl) rfl rfl rfl (Nat.le_of_ble_eq_true rfl) (fun w0 base=>?_);have hle:=nL_len hl;simp;refine LoopT.intro eok (fun i : Nat=>i≤l.length) (fun i=>⟨40,0,[(5,.v (.int .i64 i)),(1,.v (.int .i64 (k + cntL Entry.cnt (l.take i)))),(0,.ro ((markL Entry.mark Entry.cnt l k).map Entry.row))],[]⟩) (fun i=>l.length - i) 0 (by simp) (by simp [cntL]) (fun i hi=>?_);by_cases h : i < l.length
 ·have hc:=cntL_cell_le (cn:=Entry.cnt) h
  have hs:=cntL_take_suc (cn:=Entry.cnt) h;have hni:=nL_at hl h;simp only [nEntry] at hni;have hm:=markL_cell (mk:=Entry.mark) (cn:=Entry.cnt) (k:=k) h;obtain ⟨q0,hq0⟩ : ∃ q,k + ((cntL Entry.cnt (l.take i) : Nat) : Int) = q:=⟨_,rfl⟩;have hpc : l[i].cnt = 2 + (cntL Part.cnt l[i].o):=rfl;rw [hq0] at hm;rw [hq0];have z0 : ¬ q0 < 0:=by omega
  have e0 : Go.IntKind.i64.wrap q0 = q0:=Go.IntWalk.i64_in _ (by omega);obtain ⟨q1,hq1⟩ : ∃ q,q0 + 1 = q:=⟨_,rfl⟩;have e1 : Go.IntKind.i64.wrap q1 = q1:=Go.IntWalk.i64_in _ (by omega);have z1 : ¬ q1 < 0:=by omega
  obtain ⟨q2,hq2⟩ : ∃ q,q1 + 1 = q:=⟨_,rfl⟩;have e2 : Go.IntKind.i64.wrap q2 = q2:=Go.IntWalk.i64_in _ (by omega);have z2 : ¬ q2 < 0:=by omega
  obtain ⟨q3,hq3⟩ : ∃ q,q2 + ((cntL Part.cnt l[i].o : Nat) : Int) = q:=⟨_,rfl⟩;have e3 : Go.IntKind.i64.wrap q3 = q3:=Go.IntWalk.i64_in _ (by omega);have z3 : ¬ q3 < 0:=by omega
  have e : Go.IntKind.i64.wrap ((i : Int) + 1) = ((i + 1 : Nat) : Int):=i64_suc (by omega);simp [h,markL_length,hm,Entry.row,Entry.mark,hq1,e1,hq2,e2];refine ACall.pure (heldPartS_c l[i].o q2 (by omega) (by omega) (by omega)) (by simp) ?_;simp [hq3,z3];refine ⟨i + 1,by omega,by omega,?_⟩;simp [e,hs,hpc];omega
 ·have : i = l.length:=by omega
  subst this;simp [markL_length]
def digAcc (k : Nat) (out : List UInt8) : List UInt8:=if h : k = 0 then out else digAcc (k / 10) (UInt8.ofNat (48 + k % 10) :: out)
termination_by k
decreasing_by omega
theorem digAcc_zero {out : List UInt8} : digAcc 0 out = out:=by rw [digAcc];simp
theorem digAcc_pos {k : Nat} {out : List UInt8} (h : k≠0) : digAcc k out = digAcc (k / 10) (UInt8.ofNat (48 + k % 10) :: out):=by rw [digAcc];simp [h]
theorem digs_acc : ∀ (k : Nat) (out : List UInt8),0 < k→digAcc k out = digs k ++ out:=by
 intro k
 induction k using Nat.strongRecOn with
 | _ k ih=>
   intro out hk;rw [digAcc_pos (by omega),digs];by_cases h : k < 10
   ·rw [show k / 10 = 0 by omega,digAcc_zero]
    simp [h,Nat.mod_eq_of_lt h]
   ·rw [ih (k / 10) (by omega) _ (by omega)]
    simp [h]
theorem bytes_append (a b : List UInt8) : (⟨a.toArray⟩ ++ ⟨b.toArray⟩ : ByteArray) = ⟨(a ++ b).toArray⟩:=by
 apply ByteArray.ext
 rw [ByteArray.data_append];simp
theorem pow_bound {n : Nat} (h : 10 ^ n≤4611686018427387904) : n≤18:=by
 rcases Nat.lt_or_ge 18 n with hn | hn
 ·have:=Nat.pow_le_pow_right (n:=10) (by omega) (show 19≤n from hn)
  omega
 ·exact hn
theorem markText_c (k : Int) (h0 : 0≤k) (hk : k≤4611686018427387904) : PureC Tryz.prog 142 [.c (vi k)] (.one (.c (.v (.string (markT k))) 1)):=by
 refine PureC.intro' tt_ok Tryz.func142 (by kernel_rfl) rfl rfl rfl (Nat.le_of_ble_eq_true rfl) (fun w0 base=>?_);obtain ⟨n,rfl⟩ : ∃ n : Nat,k = n:=⟨k.toNat,by omega⟩;by_cases hz : n = 0
 ·subst hz
  have e : markT 0 = ⟨#[109,48]⟩:=by unfold markT;rw [digs];simp
  simp [e]
 have hz' : ¬ (n : Int)≤0:=by omega
 simp [hz];refine LoopT.intro eok (fun x : Nat × List UInt8=>digAcc x.1 x.2 = digs n∧x.2.length≤19∧x.1 * 10 ^ x.2.length≤4611686018427387904) (fun x=>⟨20,0,[(0,.v (.int .i64 x.1)),(3,.v (.string ⟨x.2.toArray⟩))],[]⟩) (fun x=>x.1) (n,[]) ⟨by rw [digs_acc n [] (by omega)];simp,by simp,by simp;omega⟩ (by simp) (fun x hi=>?_);obtain ⟨m,out⟩:=x;obtain ⟨hi,hl,hp⟩:=hi;simp only at hi hl hp ⊢;by_cases hm : m = 0
 ·subst hm
  rw [digAcc_zero] at hi
  have hs : (⟨#[109]⟩ ++ ⟨out.toArray⟩ : ByteArray) = markT n:=by
   rw [show (⟨#[109]⟩ : ByteArray) = ⟨[109].toArray⟩ from rfl,bytes_append,hi];rfl
  have hsz : (⟨out.toArray⟩ : ByteArray).size = out.length:=by simp [ByteArray.size]
  have hs1 : (⟨#[109]⟩ : ByteArray).size = 1:=rfl;simp [hs,hsz,hs1];omega
 ·have hm' : 0 < m:=by omega
  have hpow : 10 ^ out.length≤4611686018427387904:=Nat.le_trans (Nat.le_mul_of_pos_left _ hm') hp;have hlen:=pow_bound hpow;have hmN : m≤4611686018427387904:=Nat.le_trans (Nat.le_mul_of_pos_right _ (Nat.pow_pos (by omega))) hp;have e2 : Go.IntKind.i64.wrap (48 + (m : Int) % 10) = 48 + (m : Int) % 10:=Go.IntWalk.i64_in _ (by omega);have e3 : Go.IntKind.u8.wrap (48 + (m : Int) % 10) = 48 + (m : Int) % 10:=Go.IntWalk.u8_in _ (by omega);have e4 : Go.IntKind.i64.wrap ((m : Int) / 10) = ((m / 10 : Nat) : Int):=by rw [Go.IntWalk.i64_in _ (by omega)];omega
  rw [digAcc_pos hm] at hi;have hb : ((UInt8.ofNat (48 + m % 10)).toNat : Int) = 48 + (m : Int) % 10:=by simp;omega
  have hsz : (⟨out.toArray⟩ : ByteArray).size = out.length:=by simp [ByteArray.size]
  simp [hm',e4];refine ⟨[UInt8.ofNat (48 + m % 10)],by simp only [List.map_cons,List.map_nil,byteRow,hb];rw [Int.tmod_eq_emod_of_nonneg (by omega),e2,e3],?_,m / 10,UInt8.ofNat (48 + m % 10) :: out,⟨hi,by simp;omega,?_⟩,by omega,by first | exact e4 | omega | (rw [Int.tdiv_eq_ediv_of_nonneg (by omega)];exact e4),?_⟩
  ·rw [hsz];show 1 + out.length≤_;omega
  ·rw [List.length_cons,Nat.pow_succ]
   have h1 : m / 10 * 10≤m:=Nat.div_mul_le_self m 10;have h2:=Nat.mul_le_mul_right (10 ^ out.length) h1;have h3 : m / 10 * (10 ^ out.length * 10) = m / 10 * 10 * 10 ^ out.length:=by rw [Nat.mul_assoc,Nat.mul_comm 10]
   omega
  ·rw [bytes_append];rfl
theorem toSeen_c (x : Seen) : PureC Tryz.prog 290 [.agg x.row] (.one (.agg x.res)):=by
 refine PureC.intro' tt_ok Tryz.func290 (by kernel_rfl) rfl rfl rfl (Nat.le_of_ble_eq_true rfl) (fun w0 base=>?_);simp [Seen.row,Seen.res]
 try intros
theorem eqSeen_c (x y : Seen) : PureC Tryz.prog 294 [.agg x.row,.agg y.row] (.one (.c (vb (x = y)) 1)):=by
 refine PureC.intro' tt_ok Tryz.func294 (by kernel_rfl) rfl rfl rfl (Nat.le_of_ble_eq_true rfl) (fun w0 base=>?_);obtain ⟨a0,a1,a2⟩:=x;obtain ⟨b0,b1,b2⟩:=y;simp [Seen.row]
 try intros
 by_cases h0 : a0 = b0
 rotate_left
 ·simp [h0]
 subst h0
 try simp
 by_cases h1 : a1 = b1
 rotate_left
 ·simp [h1]
 subst h1
 try simp
 by_cases h2 : a2 = b2
 rotate_left
 ·simp [h2]
 subst h2
 try simp
theorem toSeenS_c (l : List Seen) (hl : l.length≤2 ^ 40) : PureC Tryz.prog 235 [.c (.s (l.map Seen.row))] (.one (.c (.s (l.map Seen.row)) 3)):=by
 refine PureC.intro' tt_ok Tryz.func235 (by kernel_rfl) rfl rfl rfl (Nat.le_of_ble_eq_true rfl) (fun w0 base=>?_);simp;refine ⟨by omega,fun b=>?_⟩
 refine LoopT.intro eok (fun i : Nat=>i≤l.length) (fun i=>⟨23,0,[(4,.v (.int .i64 i)),(3,.sl 112 (some (b,0,l.length)) 3 0 l.length),(0,.ro (l.map Seen.row))],
  [(112,.rows (some (b,0,l.length)) 3 (fillR Seen.row [.v (.int .i64 0),.v (.int .i64 0),.v (.int .i64 0)] l i) true)]⟩) (fun i=>l.length - i) 0 (by simp) (by simp [fillR_0]) (fun i hi=>?_)
 by_cases h : i < l.length
 ·simp [h,Seen.row]
  refine ACall.pure (toSeen_c l[i]) (by simp [Seen.row]) ?_;simp [Seen.res,fillR_length hi,h];exact ⟨i + 1,by omega,by omega,i64_suc (by omega),fillR_set (f:=Seen.row) h⟩
 ·have : i = l.length:=by omega
  subst this;simp [fillR_all,cut]
  try exact fun a _=>rfl
theorem eqSeenS_c (a b : List Seen) (hl : a.length≤2 ^ 40) : PureC Tryz.prog 242 [.c (.s (a.map Seen.row)),.c (.s (b.map Seen.row))] (.one (.c (vb (a = b)) 1)):=by
 refine PureC.intro' tt_ok Tryz.func242 (by kernel_rfl) rfl rfl rfl (Nat.le_of_ble_eq_true rfl) (fun w0 base=>?_);by_cases h : a.length = b.length
 ·simp [h]
  refine LoopT.intro eok (fun i : Nat=>i≤a.length∧a.take i = b.take i) (fun i=>⟨27,0,[(5,.v (.int .i64 i)),(1,.ro (b.map Seen.row)),(0,.ro (a.map Seen.row))],[]⟩) (fun i=>a.length - i) 0 (by simp) (by simp) (fun i hi=>?_);by_cases hlt : i < a.length
  ·simp [hlt]
   have hlt' : i < b.length:=by omega
   refine DrawT.quiet eok mix (by kernel_rfl) ?_;simp [hlt,hlt',Seen.row];refine ⟨_,_,eqSeen_c a[i] b[i],by simp [Seen.row],?_⟩;simp;refine Br.mk (fun h1=>?_) (fun h1=>?_)
   ·simp
    exact ⟨i + 1,⟨by omega,take_next hlt hlt' hi.2 (of_yes h1)⟩,by omega,i64_suc (by omega)⟩
   ·simp [dc_no]
    exact ne_at hlt hlt' (of_no h1)
  ·simp [hlt,dc_yes]
   exact take_all (by omega) (by omega) hi.2
 ·have hz : ¬ (a.length : Int) = b.length:=by omega
  simp [hz,dc_no];exact fun h2=>absurd (by rw [h2]) h
theorem szSeenS_c (l : List Seen) (hl : l.length≤9223372036854775807) (left : Nat) (hf : left≤2 ^ 20) : PureC Tryz.prog 228 [.c (.s (l.map Seen.row)),.c (vi left)] (.one (.c (vi (szR l.length left)) 1)):=by
 refine PureC.intro' tt_ok Tryz.func228 (by kernel_rfl) rfl rfl rfl (Nat.le_of_ble_eq_true rfl) (fun w0 base=>?_);have hw : IntKind.i64.wrap ((left : Int) - (l.length : Int)) = (left : Int) - l.length:=IntWalk.i64_in _ (by omega);simp [hw];by_cases h : l.length≤left
 ·have hz : ¬ (left : Int) - l.length < 0:=by omega
  simp [hz,szR_ok h];omega
 ·have hz : (left : Int) - l.length < 0:=by omega
  simp [hz,szR_no h]
theorem markSeenS_c (l : List Seen) (k : Int) (h0 : 0≤k) (hk : k + cntL Seen.cnt l≤4611686018427387904) (hl : l.length≤2 ^ 40) : MarkC Tryz.prog 223 (.c (.s (l.map Seen.row)) 3) k (k + cntL Seen.cnt l) (.c (.s ((markL Seen.mark Seen.cnt l k).map Seen.row)) 3):=by
 refine MarkC.intro tt_ok Tryz.func223 (by kernel_rfl) rfl rfl rfl (by decide) (fun w0 base=>?_);simp;intro H;refine LoopT.introG eok (fun i : Nat=>i≤l.length) (fun i=>⟨34,0,[(5,.v (.int .i64 i)),(1,.v (.int .i64 (k + cntL Seen.cnt (l.take i)))),(0,.ml 0 H 3 l.length)],[(0,.rows H 3 (marked Seen.mark Seen.cnt Seen.row l k i) true)]⟩) (fun i=>l.length - i) 0 (by simp) (by simp [marked_0,cntL]) (fun i hi=>?_);by_cases h : i < l.length
 ·have hc:=cntL_cell_le (cn:=Seen.cnt) h
  have hs:=cntL_take_suc (cn:=Seen.cnt) h;obtain ⟨q0,hq0⟩ : ∃ q,k + ((cntL Seen.cnt (l.take i) : Nat) : Int) = q:=⟨_,rfl⟩;have hpc : l[i].cnt = 3:=rfl;rw [hq0,← marked_row h];have e0 : Go.IntKind.i64.wrap q0 = q0:=Go.IntWalk.i64_in _ (by omega);obtain ⟨q1,hq1⟩ : ∃ q,q0 + 1 = q:=⟨_,rfl⟩;have e1 : Go.IntKind.i64.wrap q1 = q1:=Go.IntWalk.i64_in _ (by omega);obtain ⟨q2,hq2⟩ : ∃ q,q1 + 1 = q:=⟨_,rfl⟩;have e2 : Go.IntKind.i64.wrap q2 = q2:=Go.IntWalk.i64_in _ (by omega);obtain ⟨q3,hq3⟩ : ∃ q,q2 + 1 = q:=⟨_,rfl⟩;have e3 : Go.IntKind.i64.wrap q3 = q3:=Go.IntWalk.i64_in _ (by omega);have e : Go.IntKind.i64.wrap ((i : Int) + 1) = ((i + 1 : Nat) : Int):=i64_suc (by omega);refine Ent.refl ?_;simp [h,marked_length,Seen.row,modify_set,hq1,e1,hq2,e2,hq3,e3];refine Ent.refl ⟨i + 1,by omega,by omega,?_⟩;simp [hs,hpc,e]
  refine ⟨by omega,?_⟩;refine marked_set h ?_;rw [hq0];subst hq1 hq2 hq3;rfl
 ·have : i = l.length:=by omega
  subst this;refine Ent.refl ?_;simp [marked_all,markL_length,Seen.row]
theorem heldSeenS_c (l : List Seen) (k : Int) (h0 : 0≤k) (hk : k + cntL Seen.cnt l≤4611686018427387904) (hl : l.length≤2 ^ 40) : PureC Tryz.prog 224 [.c (.s ((markL Seen.mark Seen.cnt l k).map Seen.row)),.c (vi k)] (.one (.c (vi (k + cntL Seen.cnt l)) 1)):=by
 refine PureC.intro' tt_ok Tryz.func224 (by kernel_rfl) rfl rfl rfl (Nat.le_of_ble_eq_true rfl) (fun w0 base=>?_);simp;refine LoopT.intro eok (fun i : Nat=>i≤l.length) (fun i=>⟨40,0,[(5,.v (.int .i64 i)),(1,.v (.int .i64 (k + cntL Seen.cnt (l.take i)))),(0,.ro ((markL Seen.mark Seen.cnt l k).map Seen.row))],[]⟩) (fun i=>l.length - i) 0 (by simp) (by simp [cntL]) (fun i hi=>?_);by_cases h : i < l.length
 ·have hc:=cntL_cell_le (cn:=Seen.cnt) h
  have hs:=cntL_take_suc (cn:=Seen.cnt) h;have hm:=markL_cell (mk:=Seen.mark) (cn:=Seen.cnt) (k:=k) h;obtain ⟨q0,hq0⟩ : ∃ q,k + ((cntL Seen.cnt (l.take i) : Nat) : Int) = q:=⟨_,rfl⟩;have hpc : l[i].cnt = 3:=rfl;rw [hq0] at hm;rw [hq0];have z0 : ¬ q0 < 0:=by omega
  have e0 : Go.IntKind.i64.wrap q0 = q0:=Go.IntWalk.i64_in _ (by omega);obtain ⟨q1,hq1⟩ : ∃ q,q0 + 1 = q:=⟨_,rfl⟩;have e1 : Go.IntKind.i64.wrap q1 = q1:=Go.IntWalk.i64_in _ (by omega);have z1 : ¬ q1 < 0:=by omega
  obtain ⟨q2,hq2⟩ : ∃ q,q1 + 1 = q:=⟨_,rfl⟩;have e2 : Go.IntKind.i64.wrap q2 = q2:=Go.IntWalk.i64_in _ (by omega);have z2 : ¬ q2 < 0:=by omega
  obtain ⟨q3,hq3⟩ : ∃ q,q2 + 1 = q:=⟨_,rfl⟩;have e3 : Go.IntKind.i64.wrap q3 = q3:=Go.IntWalk.i64_in _ (by omega);have z3 : ¬ q3 < 0:=by omega
  have e : Go.IntKind.i64.wrap ((i : Int) + 1) = ((i + 1 : Nat) : Int):=i64_suc (by omega);simp [h,markL_length,hm,Seen.row,Seen.mark,hq1,e1,hq2,e2,hq3,e3];refine ⟨i + 1,by omega,by omega,?_⟩;simp [e,hs,hpc];omega
 ·have : i = l.length:=by omega
  subst this;simp [markL_length]
theorem toDoc_c (x : Doc) (h : nDoc x≤2 ^ 40) : PureC Tryz.prog 165 [.agg x.row] (.one (.agg x.res)):=by
 refine PureC.intro' tt_ok Tryz.func165 (by kernel_rfl) rfl rfl rfl (Nat.le_of_ble_eq_true rfl) (fun w0 base=>?_);unfold nDoc at h;simp [Doc.row,Doc.res]
 try intros
 refine ACall.pure (toIntS_c x.text (by omega)) (by simp) ?_;simp
 try intros
 refine ACall.pure (toEntryS_c x.list (by omega)) (by simp) ?_;simp
 try intros
 refine ACall.pure (toSeenS_c x.seen (by omega)) (by simp) ?_;simp
 try intros
theorem eqDoc_c (x y : Doc) (h : nDoc x≤2 ^ 40) : PureC Tryz.prog 170 [.agg x.row,.agg y.row] (.one (.c (vb (x = y)) 1)):=by
 refine PureC.intro' tt_ok Tryz.func170 (by kernel_rfl) rfl rfl rfl (Nat.le_of_ble_eq_true rfl) (fun w0 base=>?_);unfold nDoc at h;obtain ⟨a0,a1,a2,a3,a4⟩:=x;obtain ⟨b0,b1,b2,b3,b4⟩:=y;simp only at h;simp [Doc.row]
 try intros
 by_cases h0 : a0 = b0
 rotate_left
 ·simp [h0]
 subst h0
 try simp
 by_cases h1 : a1 = b1
 rotate_left
 ·simp [h1]
 subst h1
 try simp
 refine ACall.pure (eqIntS_c a2 b2 (by omega)) (by simp) ?_;simp;by_cases h2 : a2 = b2
 rotate_left
 ·simp [h2]
 subst h2
 try simp
 refine ACall.pure (eqEntryS_c a3 b3 (by omega)) (by simp) ?_;simp;by_cases h3 : a3 = b3
 rotate_left
 ·simp [h3]
 subst h3
 try simp
 refine ACall.pure (eqSeenS_c a4 b4 (by omega)) (by simp) ?_;simp;by_cases h4 : a4 = b4
 rotate_left
 ·simp [h4]
 subst h4
 try simp
theorem szDoc_c (x : Doc) (h : x.fits) (left : Nat) (hf : left≤2 ^ 20) : PureC Tryz.prog 156 [.agg x.row,.c (vi left)] (.one (.c (vi (szR (nDoc x) left)) 1)):=by
 refine PureC.intro' tt_ok Tryz.func156 (by kernel_rfl) rfl rfl rfl (Nat.le_of_ble_eq_true rfl) (fun w0 base=>?_);obtain ⟨f0,f1,f2,f3,f4⟩:=h;obtain ⟨r,hr⟩ : ∃ r,szR (nDoc x) left = r:=⟨_,rfl⟩;rw [hr];have hn : nDoc x = x.name.size + (x.text.length + (nL nEntry x.list + (x.seen.length))):=rfl;simp [Doc.row]
 try intros
 by_cases k0 : x.name.size≤left
 rotate_left
 ·have hw : IntKind.i64.wrap ((left : Int) - (x.name.size : Int)) = (left : Int) - x.name.size:=IntWalk.i64_in _ (by omega)
  have hz : (left : Int) - x.name.size < 0:=by omega
  have : r = -1:=by rw [← hr];exact szR_no (by omega)
  simp [hw,hz,this]
 obtain ⟨m0,hm0⟩ : ∃ m,left - x.name.size = m:=⟨_,rfl⟩;have w0 : IntKind.i64.wrap ((left : Int) - (x.name.size : Int)) = (m0 : Int):=by rw [IntWalk.i64_in _ (by omega)];omega
 simp [w0];refine ACall.pure (szIntS_c x.text f2.1 m0 (by omega)) (by simp) ?_;by_cases k1 : x.text.length≤m0
 rotate_left
 ·have : r = -1:=by rw [← hr];exact szR_no (by omega)
  rw [szR_no k1];simp [this]
 rw [szR_ok k1];obtain ⟨m1,hm1⟩ : ∃ m,m0 - x.text.length = m:=⟨_,rfl⟩;rw [hm1];simp;refine ACall.pure (szEntryS_c x.list f3.1 f3.2 m1 (by omega)) (by simp) ?_;by_cases k2 : nL nEntry x.list≤m1
 rotate_left
 ·have : r = -1:=by rw [← hr];exact szR_no (by omega)
  rw [szR_no k2];simp [this]
 rw [szR_ok k2];obtain ⟨m2,hm2⟩ : ∃ m,m1 - nL nEntry x.list = m:=⟨_,rfl⟩;rw [hm2];simp;refine ACall.pure (szSeenS_c x.seen f4.1 m2 (by omega)) (by simp) ?_;by_cases k3 : x.seen.length≤m2
 rotate_left
 ·have : r = -1:=by rw [← hr];exact szR_no (by omega)
  rw [szR_no k3];simp [this]
 rw [szR_ok k3];obtain ⟨m3,hm3⟩ : ∃ m,m2 - x.seen.length = m:=⟨_,rfl⟩;rw [hm3];have : r = (m3 : Int):=by rw [← hr,szR_ok (by omega)];omega
 simp [this]
theorem toDocS_c (l : List Doc) (hl : nL nDoc l≤2 ^ 40) : PureC Tryz.prog 91 [.c (.s (l.map Doc.row))] (.one (.c (.s (l.map Doc.row)) 5)):=by
 refine PureC.intro' tt_ok Tryz.func91 (by kernel_rfl) rfl rfl rfl (Nat.le_of_ble_eq_true rfl) (fun w0 base=>?_);have hle:=nL_len hl;simp;refine ⟨by omega,fun b=>?_⟩
 refine LoopT.intro eok (fun i : Nat=>i≤l.length) (fun i=>⟨23,0,[(4,.v (.int .i64 i)),(3,.sl 112 (some (b,0,l.length)) 5 0 l.length),(0,.ro (l.map Doc.row))],
  [(112,.rows (some (b,0,l.length)) 5 (fillR Doc.row [.v (.string ⟨#[]⟩),.v (.int .i64 0),.s [],.s [],.s []] l i) true)]⟩) (fun i=>l.length - i) 0 (by simp) (by simp [fillR_0]) (fun i hi=>?_)
 by_cases h : i < l.length
 ·simp [h,Doc.row]
  refine ACall.pure (toDoc_c l[i] (nL_at hl h)) (by simp [Doc.row]) ?_;simp [Doc.res,fillR_length hi,h];exact ⟨i + 1,by omega,by omega,i64_suc (by omega),fillR_set (f:=Doc.row) h⟩
 ·have : i = l.length:=by omega
  subst this;simp [fillR_all,cut]
  try exact fun a _=>rfl
theorem eqDocS_c (a b : List Doc) (hl : nL nDoc a≤2 ^ 40) : PureC Tryz.prog 94 [.c (.s (a.map Doc.row)),.c (.s (b.map Doc.row))] (.one (.c (vb (a = b)) 1)):=by
 refine PureC.intro' tt_ok Tryz.func94 (by kernel_rfl) rfl rfl rfl (Nat.le_of_ble_eq_true rfl) (fun w0 base=>?_);have hle:=nL_len hl;by_cases h : a.length = b.length
 ·simp [h]
  refine LoopT.intro eok (fun i : Nat=>i≤a.length∧a.take i = b.take i) (fun i=>⟨27,0,[(5,.v (.int .i64 i)),(1,.ro (b.map Doc.row)),(0,.ro (a.map Doc.row))],[]⟩) (fun i=>a.length - i) 0 (by simp) (by simp) (fun i hi=>?_);by_cases hlt : i < a.length
  ·simp [hlt]
   have hlt' : i < b.length:=by omega
   refine DrawT.quiet eok mix (by kernel_rfl) ?_;simp [hlt,hlt',Doc.row];refine ⟨_,_,eqDoc_c a[i] b[i] (nL_at hl hlt),by simp [Doc.row],?_⟩;simp;refine Br.mk (fun h1=>?_) (fun h1=>?_)
   ·simp
    exact ⟨i + 1,⟨by omega,take_next hlt hlt' hi.2 (of_yes h1)⟩,by omega,i64_suc (by omega)⟩
   ·simp [dc_no]
    exact ne_at hlt hlt' (of_no h1)
  ·simp [hlt,dc_yes]
   exact take_all (by omega) (by omega) hi.2
 ·have hz : ¬ (a.length : Int) = b.length:=by omega
  simp [hz,dc_no];exact fun h2=>absurd (by rw [h2]) h
theorem szDocS_c (l : List Doc) (hl : l.length≤9223372036854775807) (hs : ∀ y∈l,y.fits) (left : Nat) (hf : left≤2 ^ 20) : PureC Tryz.prog 83 [.c (.s (l.map Doc.row)),.c (vi left)] (.one (.c (vi (szR (nL nDoc l) left)) 1)):=by
 refine PureC.intro' tt_ok Tryz.func83 (by kernel_rfl) rfl rfl rfl (Nat.le_of_ble_eq_true rfl) (fun w0 base=>?_);have hw : IntKind.i64.wrap ((left : Int) - (l.length : Int)) = (left : Int) - l.length:=IntWalk.i64_in _ (by omega);have hn : nL nDoc l = l.length + sumN nDoc l:=rfl;by_cases h : l.length≤left
 ·obtain ⟨lf,hlf⟩ : ∃ lf : Nat,left - l.length = lf:=⟨_,rfl⟩
  have hlz : (left : Int) - l.length = (lf : Int):=by omega
  have hw2 : IntKind.i64.wrap (lf : Int) = lf:=i64_nat (by omega);simp [hlz,hw2];obtain ⟨r,hr⟩ : ∃ r,szR (nL nDoc l) left = r:=⟨_,rfl⟩;have hr0 : szR (sumN nDoc l) lf = r:=by rw [← hr];unfold szR;split<;>split<;>omega
  rw [hr];refine LoopT.intro eok (fun x : Nat × Nat=>x.1≤l.length∧x.2≤2 ^ 20∧szR (sumN nDoc (l.drop x.1)) x.2 = r) (fun x=>⟨27,0,[(5,.v (.int .i64 x.1)),(1,.v (.int .i64 x.2)),(0,.ro (l.map Doc.row))],[]⟩) (fun x=>l.length - x.1) (0,lf) (by simp [hr0];omega) (by simp) ?_
  rintro ⟨i,m⟩ ⟨hi,hm,hx⟩
  simp only at hi hm hx ⊢;by_cases hlt : i < l.length
  ·rw [sumN_drop hlt] at hx
   simp [hlt,Doc.row];refine ACall.pure (szDoc_c l[i] (hs _ (List.getElem_mem hlt)) m hm) (by simp [Doc.row]) ?_;by_cases hk : nDoc l[i]≤m
   ·rw [szR_ok hk]
    have hz : ¬ ((m - nDoc l[i] : Nat) : Int) < 0:=by omega
    simp [hz];refine ⟨i + 1,m - nDoc l[i],⟨by omega,by omega,?_⟩,by omega,i64_suc (by omega),rfl⟩;rw [← hx];unfold szR;split<;>split<;>omega
   ·rw [szR_no (show ¬ nDoc l[i] + sumN nDoc (l.drop (i + 1))≤m by omega)] at hx
    rw [szR_no hk];simp [← hx]
  ·have : i = l.length:=by omega
   subst this;simp only [List.drop_length,sumN,szR,Nat.zero_le,if_true,Nat.sub_zero] at hx;simp [hx]
 ·have hz : (left : Int) - l.length < 0:=by omega
  simp [hw,hz,szR_no (show ¬ nL nDoc l≤left by omega)]
theorem markDocS_c (l : List Doc) (k : Int) (h0 : 0≤k) (hk : k + cntL Doc.cnt l≤4611686018427387904) (hl : nL nDoc l≤2 ^ 40) : MarkC Tryz.prog 140 (.c (.s (l.map Doc.row)) 5) k (k + cntL Doc.cnt l) (.c (.s ((markL Doc.mark Doc.cnt l k).map Doc.row)) 5):=by
 refine MarkC.intro tt_ok Tryz.func140 (by kernel_rfl) rfl rfl rfl (by decide) (fun w0 base=>?_);have hle:=nL_len hl;simp;intro H;refine LoopT.introG eok (fun i : Nat=>i≤l.length) (fun i=>⟨49,0,[(5,.v (.int .i64 i)),(1,.v (.int .i64 (k + cntL Doc.cnt (l.take i)))),(0,.ml 0 H 5 l.length)],[(0,.rows H 5 (marked Doc.mark Doc.cnt Doc.row l k i) true)]⟩) (fun i=>l.length - i) 0 (by simp) (by simp [marked_0,cntL]) (fun i hi=>?_);by_cases h : i < l.length
 ·have hc:=cntL_cell_le (cn:=Doc.cnt) h
  have hs:=cntL_take_suc (cn:=Doc.cnt) h;have hni:=nL_at hl h;simp only [nDoc] at hni;obtain ⟨q0,hq0⟩ : ∃ q,k + ((cntL Doc.cnt (l.take i) : Nat) : Int) = q:=⟨_,rfl⟩;have hpc : l[i].cnt = 2 + (l[i].text.length + (cntL Entry.cnt l[i].list + (cntL Seen.cnt l[i].seen))):=rfl;rw [hq0,← marked_row h];have e0 : Go.IntKind.i64.wrap q0 = q0:=Go.IntWalk.i64_in _ (by omega);obtain ⟨q1,hq1⟩ : ∃ q,q0 + 1 = q:=⟨_,rfl⟩;have e1 : Go.IntKind.i64.wrap q1 = q1:=Go.IntWalk.i64_in _ (by omega);obtain ⟨q2,hq2⟩ : ∃ q,q1 + 1 = q:=⟨_,rfl⟩;have e2 : Go.IntKind.i64.wrap q2 = q2:=Go.IntWalk.i64_in _ (by omega);obtain ⟨q3,hq3⟩ : ∃ q,q2 + ((l[i].text.length : Nat) : Int) = q:=⟨_,rfl⟩;have e3 : Go.IntKind.i64.wrap q3 = q3:=Go.IntWalk.i64_in _ (by omega);obtain ⟨q4,hq4⟩ : ∃ q,q3 + ((cntL Entry.cnt l[i].list : Nat) : Int) = q:=⟨_,rfl⟩
  have e4 : Go.IntKind.i64.wrap q4 = q4:=Go.IntWalk.i64_in _ (by omega);obtain ⟨q5,hq5⟩ : ∃ q,q4 + ((cntL Seen.cnt l[i].seen : Nat) : Int) = q:=⟨_,rfl⟩;have e5 : Go.IntKind.i64.wrap q5 = q5:=Go.IntWalk.i64_in _ (by omega);have e : Go.IntKind.i64.wrap ((i : Int) + 1) = ((i + 1 : Nat) : Int):=i64_suc (by omega);refine Ent.open (fun _ h=>h) (k:=0) (i:=i) (j:=2) (k':=902) (sz':=1) (sz:=5) (H:=H) (rows:=((marked Doc.mark Doc.cnt Doc.row l k i).set i l[i].row)) (srows:=l[i].text.map intR) (row:=l[i].row) (by simp) (by simp [marked_length,h]) rfl (by simp) (by decide) (by simp [intR]) (by simp) (fun H2=>?_)
  refine Ent.open (fun _ h=>h) (k:=0) (i:=i) (j:=3) (k':=903) (sz':=3) (sz:=5) (H:=H) (rows:=((marked Doc.mark Doc.cnt Doc.row l k i).set i [.v (.string l[i].name),vi l[i].fr,.h 902 H2 1 l[i].text.length,.s (l[i].list.map Entry.row),.s (l[i].seen.map Seen.row)])) (srows:=l[i].list.map Entry.row) (row:=[.v (.string l[i].name),vi l[i].fr,.h 902 H2 1 l[i].text.length,.s (l[i].list.map Entry.row),.s (l[i].seen.map Seen.row)]) (by simp [setC_set,Doc.row]) (by simp [marked_length,h]) rfl (by simp) (by decide) (by simp [Entry.row]) (by simp) (fun H3=>?_)
  refine Ent.open (fun _ h=>h) (k:=0) (i:=i) (j:=4) (k':=904) (sz':=3) (sz:=5) (H:=H) (rows:=((marked Doc.mark Doc.cnt Doc.row l k i).set i [.v (.string l[i].name),vi l[i].fr,.h 902 H2 1 l[i].text.length,.h 903 H3 3 l[i].list.length,.s (l[i].seen.map Seen.row)])) (srows:=l[i].seen.map Seen.row) (row:=[.v (.string l[i].name),vi l[i].fr,.h 902 H2 1 l[i].text.length,.h 903 H3 3 l[i].list.length,.s (l[i].seen.map Seen.row)]) (by simp [setC_set,Doc.row]) (by simp [marked_length,h]) rfl (by simp) (by decide) (by simp [Seen.row]) (by simp) (fun H4=>?_);refine Ent.refl ?_;simp [h,Doc.row,setC_set];refine ACall.pure (markText_c q0 (by omega) (by omega)) (by simp) ?_;simp [h,marked_length,modify_set,hq1,e1,hq2,e2];refine ACall.mark (markIntS_c l[i].text q2 (by omega) (by omega)) rfl (fun _ h=>h) (by simp) ?_;simp [h,marked_length,hq3]
  refine ACall.mark (markEntryS_c l[i].list q3 (by omega) (by omega) (by omega)) rfl (fun _ h=>h) (by simp) ?_;simp [h,marked_length,hq4];refine ACall.mark (markSeenS_c l[i].seen q4 (by omega) (by omega) (by omega)) rfl (fun _ h=>h) (by simp) ?_;simp [e,hq5];refine Ent.close (k:=0) (i:=i) (j:=2) (k':=902) (sz':=1) (sz:=5) (H:=H) (rows:=(marked Doc.mark Doc.cnt Doc.row l k i).set i [.v (.string (markT q0)),vi q1,.h 902 H2 1 l[i].text.length,.h 903 H3 3 l[i].list.length,.h 904 H4 3 l[i].seen.length]) (row:=[.v (.string (markT q0)),vi q1,.h 902 H2 1 l[i].text.length,.h 903 H3 3 l[i].list.length,.h 904 H4 3 l[i].seen.length]) (H':=H2) (srows:=(markL intM one l[i].text q2).map intR) (by simp) (by simp [marked_length,h]) (by simp [markL_length]) (by simp) (by decide) (by simp) ?_
  refine Ent.close (k:=0) (i:=i) (j:=3) (k':=903) (sz':=3) (sz:=5) (H:=H) (rows:=(marked Doc.mark Doc.cnt Doc.row l k i).set i [.v (.string (markT q0)),vi q1,.s ((markL intM one l[i].text q2).map intR),.h 903 H3 3 l[i].list.length,.h 904 H4 3 l[i].seen.length]) (row:=[.v (.string (markT q0)),vi q1,.s ((markL intM one l[i].text q2).map intR),.h 903 H3 3 l[i].list.length,.h 904 H4 3 l[i].seen.length]) (H':=H3) (srows:=(markL Entry.mark Entry.cnt l[i].list q3).map Entry.row) (by simp [setC_set]) (by simp [marked_length,h]) (by simp [markL_length]) (by simp) (by decide) (by simp) ?_
  refine Ent.close (k:=0) (i:=i) (j:=4) (k':=904) (sz':=3) (sz:=5) (H:=H) (rows:=(marked Doc.mark Doc.cnt Doc.row l k i).set i [.v (.string (markT q0)),vi q1,.s ((markL intM one l[i].text q2).map intR),.s ((markL Entry.mark Entry.cnt l[i].list q3).map Entry.row),.h 904 H4 3 l[i].seen.length]) (row:=[.v (.string (markT q0)),vi q1,.s ((markL intM one l[i].text q2).map intR),.s ((markL Entry.mark Entry.cnt l[i].list q3).map Entry.row),.h 904 H4 3 l[i].seen.length]) (H':=H4) (srows:=(markL Seen.mark Seen.cnt l[i].seen q4).map Seen.row) (by simp [setC_set]) (by simp [marked_length,h]) (by simp [markL_length]) (by simp) (by decide) (by simp) ?_;refine Ent.refl ⟨i + 1,by omega,by omega,?_⟩;simp [setC_set,hs,hpc];refine ⟨by omega,?_⟩;refine marked_set h ?_;rw [hq0];subst hq1 hq2 hq3 hq4 hq5;rfl
 ·have : i = l.length:=by omega
  subst this;refine Ent.refl ?_;simp [marked_all,markL_length,Doc.row]
theorem heldDocS_c (l : List Doc) (k : Int) (h0 : 0≤k) (hk : k + cntL Doc.cnt l≤4611686018427387904) (hl : nL nDoc l≤2 ^ 40) : PureC Tryz.prog 145 [.c (.s ((markL Doc.mark Doc.cnt l k).map Doc.row)),.c (vi k)] (.one (.c (vi (k + cntL Doc.cnt l)) 1)):=by
 refine PureC.intro' tt_ok Tryz.func145 (by kernel_rfl) rfl rfl rfl (Nat.le_of_ble_eq_true rfl) (fun w0 base=>?_);have hle:=nL_len hl;simp;refine LoopT.intro eok (fun i : Nat=>i≤l.length) (fun i=>⟨59,0,[(5,.v (.int .i64 i)),(1,.v (.int .i64 (k + cntL Doc.cnt (l.take i)))),(0,.ro ((markL Doc.mark Doc.cnt l k).map Doc.row))],[]⟩) (fun i=>l.length - i) 0 (by simp) (by simp [cntL]) (fun i hi=>?_);by_cases h : i < l.length
 ·have hc:=cntL_cell_le (cn:=Doc.cnt) h
  have hs:=cntL_take_suc (cn:=Doc.cnt) h;have hni:=nL_at hl h;simp only [nDoc] at hni;have hm:=markL_cell (mk:=Doc.mark) (cn:=Doc.cnt) (k:=k) h;obtain ⟨q0,hq0⟩ : ∃ q,k + ((cntL Doc.cnt (l.take i) : Nat) : Int) = q:=⟨_,rfl⟩;have hpc : l[i].cnt = 2 + (l[i].text.length + (cntL Entry.cnt l[i].list + (cntL Seen.cnt l[i].seen))):=rfl;rw [hq0] at hm;rw [hq0];have z0 : ¬ q0 < 0:=by omega
  have e0 : Go.IntKind.i64.wrap q0 = q0:=Go.IntWalk.i64_in _ (by omega);obtain ⟨q1,hq1⟩ : ∃ q,q0 + 1 = q:=⟨_,rfl⟩;have e1 : Go.IntKind.i64.wrap q1 = q1:=Go.IntWalk.i64_in _ (by omega);have z1 : ¬ q1 < 0:=by omega
  obtain ⟨q2,hq2⟩ : ∃ q,q1 + 1 = q:=⟨_,rfl⟩;have e2 : Go.IntKind.i64.wrap q2 = q2:=Go.IntWalk.i64_in _ (by omega);have z2 : ¬ q2 < 0:=by omega
  obtain ⟨q3,hq3⟩ : ∃ q,q2 + ((l[i].text.length : Nat) : Int) = q:=⟨_,rfl⟩;have e3 : Go.IntKind.i64.wrap q3 = q3:=Go.IntWalk.i64_in _ (by omega);have z3 : ¬ q3 < 0:=by omega
  obtain ⟨q4,hq4⟩ : ∃ q,q3 + ((cntL Entry.cnt l[i].list : Nat) : Int) = q:=⟨_,rfl⟩;have e4 : Go.IntKind.i64.wrap q4 = q4:=Go.IntWalk.i64_in _ (by omega);have z4 : ¬ q4 < 0:=by omega
  obtain ⟨q5,hq5⟩ : ∃ q,q4 + ((cntL Seen.cnt l[i].seen : Nat) : Int) = q:=⟨_,rfl⟩;have e5 : Go.IntKind.i64.wrap q5 = q5:=Go.IntWalk.i64_in _ (by omega);have z5 : ¬ q5 < 0:=by omega
  have e : Go.IntKind.i64.wrap ((i : Int) + 1) = ((i + 1 : Nat) : Int):=i64_suc (by omega);simp [h,markL_length];refine DrawT.quiet eok mix (by kernel_rfl) ?_;simp [h,markL_length,hm,Doc.row,Doc.mark,hq1,hq2,hq3,hq4];refine ⟨_,_,markText_c q0 (by omega) (by omega),by simp,?_⟩;simp [h,markL_length,hm,Doc.row,Doc.mark,hq1,e1,hq2,e2,hq3,hq4];refine ACall.pure (heldIntS_c l[i].text q2 (by omega) (by omega)) (by simp) ?_;simp [h,markL_length,hm,Doc.row,Doc.mark,hq1,hq2,hq3,z3,hq4];refine ACall.pure (heldEntryS_c l[i].list q3 (by omega) (by omega) (by omega)) (by simp) ?_;simp [h,markL_length,hm,Doc.row,Doc.mark,hq1,hq2,hq3,hq4,z4];refine ACall.pure (heldSeenS_c l[i].seen q4 (by omega) (by omega) (by omega)) (by simp) ?_;simp [hq5,z5];refine ⟨i + 1,by omega,by omega,?_⟩;simp [e,hs,hpc];omega
 ·have : i = l.length:=by omega
  subst this;simp [markL_length]
theorem toRing_c (x : Ring) (h : nRing x≤2 ^ 40) : PureC Tryz.prog 236 [.agg x.row] (.one (.agg x.res)):=by
 refine PureC.intro' tt_ok Tryz.func236 (by kernel_rfl) rfl rfl rfl (Nat.le_of_ble_eq_true rfl) (fun w0 base=>?_);unfold nRing at h;simp [Ring.row,Ring.res]
 try intros
 refine ACall.pure (toEntryS_c x.list (by omega)) (by simp) ?_;simp
 try intros
theorem eqRing_c (x y : Ring) (h : nRing x≤2 ^ 40) : PureC Tryz.prog 243 [.agg x.row,.agg y.row] (.one (.c (vb (x = y)) 1)):=by
 refine PureC.intro' tt_ok Tryz.func243 (by kernel_rfl) rfl rfl rfl (Nat.le_of_ble_eq_true rfl) (fun w0 base=>?_);unfold nRing at h;obtain ⟨a0,a1,a2,a3⟩:=x;obtain ⟨b0,b1,b2,b3⟩:=y;simp only at h;simp [Ring.row]
 try intros
 by_cases h0 : a0 = b0
 rotate_left
 ·simp [h0]
 subst h0
 try simp
 by_cases h1 : a1 = b1
 rotate_left
 ·simp [h1]
 subst h1
 try simp
 by_cases h2 : a2 = b2
 rotate_left
 ·simp [h2]
 subst h2
 try simp
 refine ACall.pure (eqEntryS_c a3 b3 (by omega)) (by simp) ?_;simp;by_cases h3 : a3 = b3
 rotate_left
 ·simp [h3]
 subst h3
 try simp
theorem szRing_c (x : Ring) (h : x.fits) (left : Nat) (hf : left≤2 ^ 20) : PureC Tryz.prog 229 [.agg x.row,.c (vi left)] (.one (.c (vi (szR (nRing x) left)) 1)):=by
 refine PureC.intro' tt_ok Tryz.func229 (by kernel_rfl) rfl rfl rfl (Nat.le_of_ble_eq_true rfl) (fun w0 base=>?_);obtain ⟨f0,f1,f2,f3⟩:=h;obtain ⟨r,hr⟩ : ∃ r,szR (nRing x) left = r:=⟨_,rfl⟩;rw [hr];have hn : nRing x = nL nEntry x.list:=rfl;simp [Ring.row]
 try intros
 refine ACall.pure (szEntryS_c x.list f3.1 f3.2 left (by omega)) (by simp) ?_;by_cases k0 : nL nEntry x.list≤left
 rotate_left
 ·have : r = -1:=by rw [← hr];exact szR_no (by omega)
  rw [szR_no k0];simp [this]
 rw [szR_ok k0];obtain ⟨m0,hm0⟩ : ∃ m,left - nL nEntry x.list = m:=⟨_,rfl⟩;rw [hm0];have : r = (m0 : Int):=by rw [← hr,szR_ok (by omega)];omega
 simp [this]
theorem toSub_c (x : Sub) (h : nSub x≤2 ^ 40) : PureC Tryz.prog 166 [.agg x.row] (.one (.agg x.res)):=by
 refine PureC.intro' tt_ok Tryz.func166 (by kernel_rfl) rfl rfl rfl (Nat.le_of_ble_eq_true rfl) (fun w0 base=>?_);unfold nSub at h;simp [Sub.row,Sub.res]
 try intros
 refine ACall.pure (toRing_c x.r (by omega)) (by simp [Ring.row]) ?_;simp [Ring.res]
 try intros
theorem eqSub_c (x y : Sub) (h : nSub x≤2 ^ 40) : PureC Tryz.prog 171 [.agg x.row,.agg y.row] (.one (.c (vb (x = y)) 1)):=by
 refine PureC.intro' tt_ok Tryz.func171 (by kernel_rfl) rfl rfl rfl (Nat.le_of_ble_eq_true rfl) (fun w0 base=>?_);unfold nSub at h;obtain ⟨a0,a1,a2⟩:=x;obtain ⟨b0,b1,b2⟩:=y;simp only at h;simp [Sub.row]
 try intros
 by_cases h0 : a0 = b0
 rotate_left
 ·simp [h0]
 subst h0
 try simp
 by_cases h1 : a1 = b1
 rotate_left
 ·simp [h1]
 subst h1
 try simp
 refine ACall.pure (eqRing_c a2 b2 (by omega)) (by simp [Ring.row]) ?_;simp;by_cases h2 : a2 = b2
 rotate_left
 ·simp [h2]
 subst h2
 try simp
theorem szSub_c (x : Sub) (h : x.fits) (left : Nat) (hf : left≤2 ^ 20) : PureC Tryz.prog 157 [.agg x.row,.c (vi left)] (.one (.c (vi (szR (nSub x) left)) 1)):=by
 refine PureC.intro' tt_ok Tryz.func157 (by kernel_rfl) rfl rfl rfl (Nat.le_of_ble_eq_true rfl) (fun w0 base=>?_);obtain ⟨f0,f1,f2⟩:=h;obtain ⟨r,hr⟩ : ∃ r,szR (nSub x) left = r:=⟨_,rfl⟩;rw [hr];have hn : nSub x = x.doc.size + (nRing x.r):=rfl;simp [Sub.row]
 try intros
 by_cases k0 : x.doc.size≤left
 rotate_left
 ·have hw : IntKind.i64.wrap ((left : Int) - (x.doc.size : Int)) = (left : Int) - x.doc.size:=IntWalk.i64_in _ (by omega)
  have hz : (left : Int) - x.doc.size < 0:=by omega
  have : r = -1:=by rw [← hr];exact szR_no (by omega)
  simp [hw,hz,this]
 obtain ⟨m0,hm0⟩ : ∃ m,left - x.doc.size = m:=⟨_,rfl⟩;have w0 : IntKind.i64.wrap ((left : Int) - (x.doc.size : Int)) = (m0 : Int):=by rw [IntWalk.i64_in _ (by omega)];omega
 simp [w0];refine ACall.pure (szRing_c x.r f2 m0 (by omega)) (by simp [Ring.row]) ?_;by_cases k1 : nRing x.r≤m0
 rotate_left
 ·have : r = -1:=by rw [← hr];exact szR_no (by omega)
  rw [szR_no k1];simp [this]
 rw [szR_ok k1];obtain ⟨m1,hm1⟩ : ∃ m,m0 - nRing x.r = m:=⟨_,rfl⟩;rw [hm1];have : r = (m1 : Int):=by rw [← hr,szR_ok (by omega)];omega
 simp [this]
theorem toSubS_c (l : List Sub) (hl : nL nSub l≤2 ^ 40) : PureC Tryz.prog 92 [.c (.s (l.map Sub.row))] (.one (.c (.s (l.map Sub.row)) 6)):=by
 refine PureC.intro' tt_ok Tryz.func92 (by kernel_rfl) rfl rfl rfl (Nat.le_of_ble_eq_true rfl) (fun w0 base=>?_);have hle:=nL_len hl;simp;refine ⟨by omega,fun b=>?_⟩
 refine LoopT.intro eok (fun i : Nat=>i≤l.length) (fun i=>⟨23,0,[(4,.v (.int .i64 i)),(3,.sl 112 (some (b,0,l.length)) 6 0 l.length),(0,.ro (l.map Sub.row))],
  [(112,.rows (some (b,0,l.length)) 6 (fillR Sub.row [.v (.int .i64 0),.v (.string ⟨#[]⟩),.v (.int .i64 0),.v (.int .i64 0),.v (.bool false),.s []] l i) true)]⟩) (fun i=>l.length - i) 0 (by simp) (by simp [fillR_0]) (fun i hi=>?_)
 by_cases h : i < l.length
 ·simp [h,Sub.row]
  refine ACall.pure (toSub_c l[i] (nL_at hl h)) (by simp [Sub.row]) ?_;simp [Sub.res,fillR_length hi,h];exact ⟨i + 1,by omega,by omega,i64_suc (by omega),fillR_set (f:=Sub.row) h⟩
 ·have : i = l.length:=by omega
  subst this;simp [fillR_all,cut]
  try exact fun a _=>rfl
theorem eqSubS_c (a b : List Sub) (hl : nL nSub a≤2 ^ 40) : PureC Tryz.prog 95 [.c (.s (a.map Sub.row)),.c (.s (b.map Sub.row))] (.one (.c (vb (a = b)) 1)):=by
 refine PureC.intro' tt_ok Tryz.func95 (by kernel_rfl) rfl rfl rfl (Nat.le_of_ble_eq_true rfl) (fun w0 base=>?_);have hle:=nL_len hl;by_cases h : a.length = b.length
 ·simp [h]
  refine LoopT.intro eok (fun i : Nat=>i≤a.length∧a.take i = b.take i) (fun i=>⟨27,0,[(5,.v (.int .i64 i)),(1,.ro (b.map Sub.row)),(0,.ro (a.map Sub.row))],[]⟩) (fun i=>a.length - i) 0 (by simp) (by simp) (fun i hi=>?_);by_cases hlt : i < a.length
  ·simp [hlt]
   have hlt' : i < b.length:=by omega
   refine DrawT.quiet eok mix (by kernel_rfl) ?_;simp [hlt,hlt',Sub.row];refine ⟨_,_,eqSub_c a[i] b[i] (nL_at hl hlt),by simp [Sub.row],?_⟩;simp;refine Br.mk (fun h1=>?_) (fun h1=>?_)
   ·simp
    exact ⟨i + 1,⟨by omega,take_next hlt hlt' hi.2 (of_yes h1)⟩,by omega,i64_suc (by omega)⟩
   ·simp [dc_no]
    exact ne_at hlt hlt' (of_no h1)
  ·simp [hlt,dc_yes]
   exact take_all (by omega) (by omega) hi.2
 ·have hz : ¬ (a.length : Int) = b.length:=by omega
  simp [hz,dc_no];exact fun h2=>absurd (by rw [h2]) h
theorem szSubS_c (l : List Sub) (hl : l.length≤9223372036854775807) (hs : ∀ y∈l,y.fits) (left : Nat) (hf : left≤2 ^ 20) : PureC Tryz.prog 84 [.c (.s (l.map Sub.row)),.c (vi left)] (.one (.c (vi (szR (nL nSub l) left)) 1)):=by
 refine PureC.intro' tt_ok Tryz.func84 (by kernel_rfl) rfl rfl rfl (Nat.le_of_ble_eq_true rfl) (fun w0 base=>?_);have hw : IntKind.i64.wrap ((left : Int) - (l.length : Int)) = (left : Int) - l.length:=IntWalk.i64_in _ (by omega);have hn : nL nSub l = l.length + sumN nSub l:=rfl;by_cases h : l.length≤left
 ·obtain ⟨lf,hlf⟩ : ∃ lf : Nat,left - l.length = lf:=⟨_,rfl⟩
  have hlz : (left : Int) - l.length = (lf : Int):=by omega
  have hw2 : IntKind.i64.wrap (lf : Int) = lf:=i64_nat (by omega);simp [hlz,hw2];obtain ⟨r,hr⟩ : ∃ r,szR (nL nSub l) left = r:=⟨_,rfl⟩;have hr0 : szR (sumN nSub l) lf = r:=by rw [← hr];unfold szR;split<;>split<;>omega
  rw [hr];refine LoopT.intro eok (fun x : Nat × Nat=>x.1≤l.length∧x.2≤2 ^ 20∧szR (sumN nSub (l.drop x.1)) x.2 = r) (fun x=>⟨27,0,[(5,.v (.int .i64 x.1)),(1,.v (.int .i64 x.2)),(0,.ro (l.map Sub.row))],[]⟩) (fun x=>l.length - x.1) (0,lf) (by simp [hr0];omega) (by simp) ?_
  rintro ⟨i,m⟩ ⟨hi,hm,hx⟩
  simp only at hi hm hx ⊢;by_cases hlt : i < l.length
  ·rw [sumN_drop hlt] at hx
   simp [hlt,Sub.row];refine ACall.pure (szSub_c l[i] (hs _ (List.getElem_mem hlt)) m hm) (by simp [Sub.row]) ?_;by_cases hk : nSub l[i]≤m
   ·rw [szR_ok hk]
    have hz : ¬ ((m - nSub l[i] : Nat) : Int) < 0:=by omega
    simp [hz];refine ⟨i + 1,m - nSub l[i],⟨by omega,by omega,?_⟩,by omega,i64_suc (by omega),rfl⟩;rw [← hx];unfold szR;split<;>split<;>omega
   ·rw [szR_no (show ¬ nSub l[i] + sumN nSub (l.drop (i + 1))≤m by omega)] at hx
    rw [szR_no hk];simp [← hx]
  ·have : i = l.length:=by omega
   subst this;simp only [List.drop_length,sumN,szR,Nat.zero_le,if_true,Nat.sub_zero] at hx;simp [hx]
 ·have hz : (left : Int) - l.length < 0:=by omega
  simp [hw,hz,szR_no (show ¬ nL nSub l≤left by omega)]
theorem markSubS_c (l : List Sub) (k : Int) (h0 : 0≤k) (hk : k + cntL Sub.cnt l≤4611686018427387904) (hl : nL nSub l≤2 ^ 40) : MarkC Tryz.prog 141 (.c (.s (l.map Sub.row)) 6) k (k + cntL Sub.cnt l) (.c (.s ((markL Sub.mark Sub.cnt l k).map Sub.row)) 6):=by
 refine MarkC.intro tt_ok Tryz.func141 (by kernel_rfl) rfl rfl rfl (by decide) (fun w0 base=>?_);have hle:=nL_len hl;simp;intro H;refine LoopT.introG eok (fun i : Nat=>i≤l.length) (fun i=>⟨62,0,[(5,.v (.int .i64 i)),(1,.v (.int .i64 (k + cntL Sub.cnt (l.take i)))),(0,.ml 0 H 6 l.length)],[(0,.rows H 6 (marked Sub.mark Sub.cnt Sub.row l k i) true)]⟩) (fun i=>l.length - i) 0 (by simp) (by simp [marked_0,cntL]) (fun i hi=>?_);by_cases h : i < l.length
 ·have hc:=cntL_cell_le (cn:=Sub.cnt) h
  have hs:=cntL_take_suc (cn:=Sub.cnt) h;have hni:=nL_at hl h;simp only [nSub,nRing] at hni;obtain ⟨q0,hq0⟩ : ∃ q,k + ((cntL Sub.cnt (l.take i) : Nat) : Int) = q:=⟨_,rfl⟩;have hpc : l[i].cnt = 5 + (cntL Entry.cnt l[i].r.list):=rfl;rw [hq0,← marked_row h];have e0 : Go.IntKind.i64.wrap q0 = q0:=Go.IntWalk.i64_in _ (by omega);obtain ⟨q1,hq1⟩ : ∃ q,q0 + 1 = q:=⟨_,rfl⟩;have e1 : Go.IntKind.i64.wrap q1 = q1:=Go.IntWalk.i64_in _ (by omega);obtain ⟨q2,hq2⟩ : ∃ q,q1 + 1 = q:=⟨_,rfl⟩;have e2 : Go.IntKind.i64.wrap q2 = q2:=Go.IntWalk.i64_in _ (by omega);obtain ⟨q3,hq3⟩ : ∃ q,q2 + 1 = q:=⟨_,rfl⟩;have e3 : Go.IntKind.i64.wrap q3 = q3:=Go.IntWalk.i64_in _ (by omega);obtain ⟨q4,hq4⟩ : ∃ q,q3 + 1 = q:=⟨_,rfl⟩;have e4 : Go.IntKind.i64.wrap q4 = q4:=Go.IntWalk.i64_in _ (by omega);obtain ⟨q5,hq5⟩ : ∃ q,q4 + 1 = q:=⟨_,rfl⟩
  have e5 : Go.IntKind.i64.wrap q5 = q5:=Go.IntWalk.i64_in _ (by omega);obtain ⟨q6,hq6⟩ : ∃ q,q5 + ((cntL Entry.cnt l[i].r.list : Nat) : Int) = q:=⟨_,rfl⟩;have e6 : Go.IntKind.i64.wrap q6 = q6:=Go.IntWalk.i64_in _ (by omega);have e : Go.IntKind.i64.wrap ((i : Int) + 1) = ((i + 1 : Nat) : Int):=i64_suc (by omega);refine Ent.open (fun _ h=>h) (k:=0) (i:=i) (j:=5) (k':=905) (sz':=3) (sz:=6) (H:=H) (rows:=((marked Sub.mark Sub.cnt Sub.row l k i).set i l[i].row)) (srows:=l[i].r.list.map Entry.row) (row:=l[i].row) (by simp) (by simp [marked_length,h]) rfl (by simp) (by decide) (by simp [Entry.row]) (by simp) (fun H5=>?_);refine Ent.refl ?_;simp [h,marked_length,Sub.row,setC_set,modify_set,hq1,e1];refine ACall.pure (markText_c q1 (by omega) (by omega)) (by simp) ?_;simp [h,marked_length,modify_set,hq2,e2,hq3,e3,hq4,e4,hq5,e5]
  refine ACall.mark (markEntryS_c l[i].r.list q5 (by omega) (by omega) (by omega)) rfl (fun _ h=>h) (by simp) ?_;simp [e,hq6];refine Ent.close (k:=0) (i:=i) (j:=5) (k':=905) (sz':=3) (sz:=6) (H:=H) (rows:=(marked Sub.mark Sub.cnt Sub.row l k i).set i [vi q0,.v (.string (markT q1)),vi q2,vi q3,.v (.bool (markB q4)),.h 905 H5 3 l[i].r.list.length]) (row:=[vi q0,.v (.string (markT q1)),vi q2,vi q3,.v (.bool (markB q4)),.h 905 H5 3 l[i].r.list.length]) (H':=H5) (srows:=(markL Entry.mark Entry.cnt l[i].r.list q5).map Entry.row) (by simp [markB]) (by simp [marked_length,h]) (by simp [markL_length]) (by simp) (by decide) (by simp) ?_;refine Ent.refl ⟨i + 1,by omega,by omega,?_⟩;simp [setC_set,hs,hpc];refine ⟨by omega,?_⟩;refine marked_set h ?_;rw [hq0];subst hq1 hq2 hq3 hq4 hq5 hq6;rfl
 ·have : i = l.length:=by omega
  subst this;refine Ent.refl ?_;simp [marked_all,markL_length,Sub.row]
theorem heldSubS_c (l : List Sub) (k : Int) (h0 : 0≤k) (hk : k + cntL Sub.cnt l≤4611686018427387904) (hl : nL nSub l≤2 ^ 40) : PureC Tryz.prog 146 [.c (.s ((markL Sub.mark Sub.cnt l k).map Sub.row)),.c (vi k)] (.one (.c (vi (k + cntL Sub.cnt l)) 1)):=by
 refine PureC.intro' tt_ok Tryz.func146 (by kernel_rfl) rfl rfl rfl (Nat.le_of_ble_eq_true rfl) (fun w0 base=>?_);have hle:=nL_len hl;simp;refine LoopT.intro eok (fun i : Nat=>i≤l.length) (fun i=>⟨74,0,[(5,.v (.int .i64 i)),(1,.v (.int .i64 (k + cntL Sub.cnt (l.take i)))),(0,.ro ((markL Sub.mark Sub.cnt l k).map Sub.row))],[]⟩) (fun i=>l.length - i) 0 (by simp) (by simp [cntL]) (fun i hi=>?_);by_cases h : i < l.length
 ·have hc:=cntL_cell_le (cn:=Sub.cnt) h
  have hs:=cntL_take_suc (cn:=Sub.cnt) h;have hni:=nL_at hl h;simp only [nSub,nRing] at hni;have hm:=markL_cell (mk:=Sub.mark) (cn:=Sub.cnt) (k:=k) h;obtain ⟨q0,hq0⟩ : ∃ q,k + ((cntL Sub.cnt (l.take i) : Nat) : Int) = q:=⟨_,rfl⟩;have hpc : l[i].cnt = 5 + (cntL Entry.cnt l[i].r.list):=rfl;rw [hq0] at hm;rw [hq0];have z0 : ¬ q0 < 0:=by omega
  have e0 : Go.IntKind.i64.wrap q0 = q0:=Go.IntWalk.i64_in _ (by omega);obtain ⟨q1,hq1⟩ : ∃ q,q0 + 1 = q:=⟨_,rfl⟩;have e1 : Go.IntKind.i64.wrap q1 = q1:=Go.IntWalk.i64_in _ (by omega);have z1 : ¬ q1 < 0:=by omega
  obtain ⟨q2,hq2⟩ : ∃ q,q1 + 1 = q:=⟨_,rfl⟩;have e2 : Go.IntKind.i64.wrap q2 = q2:=Go.IntWalk.i64_in _ (by omega);have z2 : ¬ q2 < 0:=by omega
  obtain ⟨q3,hq3⟩ : ∃ q,q2 + 1 = q:=⟨_,rfl⟩;have e3 : Go.IntKind.i64.wrap q3 = q3:=Go.IntWalk.i64_in _ (by omega);have z3 : ¬ q3 < 0:=by omega
  obtain ⟨q4,hq4⟩ : ∃ q,q3 + 1 = q:=⟨_,rfl⟩;have e4 : Go.IntKind.i64.wrap q4 = q4:=Go.IntWalk.i64_in _ (by omega);have z4 : ¬ q4 < 0:=by omega
  obtain ⟨q5,hq5⟩ : ∃ q,q4 + 1 = q:=⟨_,rfl⟩;have e5 : Go.IntKind.i64.wrap q5 = q5:=Go.IntWalk.i64_in _ (by omega);have z5 : ¬ q5 < 0:=by omega
  obtain ⟨q6,hq6⟩ : ∃ q,q5 + ((cntL Entry.cnt l[i].r.list : Nat) : Int) = q:=⟨_,rfl⟩;have e6 : Go.IntKind.i64.wrap q6 = q6:=Go.IntWalk.i64_in _ (by omega);have z6 : ¬ q6 < 0:=by omega
  have e : Go.IntKind.i64.wrap ((i : Int) + 1) = ((i + 1 : Nat) : Int):=i64_suc (by omega);simp [h,markL_length,hm,Sub.row,Sub.mark,hq1,e1,hq2,hq3,hq4,hq5,markB];refine DrawT.quiet eok mix (by kernel_rfl) ?_;simp [h,markL_length,hm,Sub.row,Sub.mark,hq1,hq2,hq3,hq4,hq5,markB];refine ⟨_,_,markText_c q1 (by omega) (by omega),by simp,?_⟩;simp [h,markL_length,hm,Sub.row,Sub.mark,hq1,hq2,e2,hq3,e3,hq4,e4,hq5,e5,markB];refine ACall.pure (heldEntryS_c l[i].r.list q5 (by omega) (by omega) (by omega)) (by simp) ?_;simp [hq6,z6];refine ⟨i + 1,by omega,by omega,?_⟩;simp [e,hs,hpc];omega
 ·have : i = l.length:=by omega
  subst this;simp [markL_length]
theorem toHub_c (x : Hub) (h : nHub x≤2 ^ 40) : PureC Tryz.prog 27 [.agg x.row] (.one (.agg x.res)):=by
 refine PureC.intro' tt_ok Tryz.func27 (by kernel_rfl) rfl rfl rfl (Nat.le_of_ble_eq_true rfl) (fun w0 base=>?_);unfold nHub at h;simp [Hub.row,Hub.res]
 try intros
 refine ACall.pure (toDocS_c x.docs (by omega)) (by simp) ?_;simp
 try intros
 refine ACall.pure (toSubS_c x.subs (by omega)) (by simp) ?_;simp
 try intros
theorem eqHub_c (x y : Hub) (h : nHub x≤2 ^ 40) : PureC Tryz.prog 29 [.agg x.row,.agg y.row] (.one (.c (vb (x = y)) 1)):=by
 refine PureC.intro' tt_ok Tryz.func29 (by kernel_rfl) rfl rfl rfl (Nat.le_of_ble_eq_true rfl) (fun w0 base=>?_);unfold nHub at h;obtain ⟨a0,a1,a2,a3⟩:=x;obtain ⟨b0,b1,b2,b3⟩:=y;simp only at h;simp [Hub.row]
 try intros
 by_cases h0 : a0 = b0
 rotate_left
 ·simp [h0]
 subst h0
 try simp
 refine ACall.pure (eqDocS_c a1 b1 (by omega)) (by simp) ?_;simp;by_cases h1 : a1 = b1
 rotate_left
 ·simp [h1]
 subst h1
 try simp
 refine ACall.pure (eqSubS_c a2 b2 (by omega)) (by simp) ?_;simp;by_cases h2 : a2 = b2
 rotate_left
 ·simp [h2]
 subst h2
 try simp
 by_cases h3 : a3 = b3
 rotate_left
 ·simp [h3]
 subst h3
 try simp
theorem szHub_c (x : Hub) (h : x.fits) (left : Nat) (hf : left≤2 ^ 20) : PureC Tryz.prog 25 [.agg x.row,.c (vi left)] (.one (.c (vi (szR (nHub x) left)) 1)):=by
 refine PureC.intro' tt_ok Tryz.func25 (by kernel_rfl) rfl rfl rfl (Nat.le_of_ble_eq_true rfl) (fun w0 base=>?_);obtain ⟨f0,f1,f2,f3⟩:=h;obtain ⟨r,hr⟩ : ∃ r,szR (nHub x) left = r:=⟨_,rfl⟩;rw [hr];have hn : nHub x = nL nDoc x.docs + (nL nSub x.subs):=rfl;simp [Hub.row]
 try intros
 refine ACall.pure (szDocS_c x.docs f1.1 f1.2 left (by omega)) (by simp) ?_;by_cases k0 : nL nDoc x.docs≤left
 rotate_left
 ·have : r = -1:=by rw [← hr];exact szR_no (by omega)
  rw [szR_no k0];simp [this]
 rw [szR_ok k0];obtain ⟨m0,hm0⟩ : ∃ m,left - nL nDoc x.docs = m:=⟨_,rfl⟩;rw [hm0];simp;refine ACall.pure (szSubS_c x.subs f2.1 f2.2 m0 (by omega)) (by simp) ?_;by_cases k1 : nL nSub x.subs≤m0
 rotate_left
 ·have : r = -1:=by rw [← hr];exact szR_no (by omega)
  rw [szR_no k1];simp [this]
 rw [szR_ok k1];obtain ⟨m1,hm1⟩ : ∃ m,m0 - nL nSub x.subs = m:=⟨_,rfl⟩;rw [hm1];have : r = (m1 : Int):=by rw [← hr,szR_ok (by omega)];omega
 simp [this]
theorem markHub_c (x : Hub) (k : Int) (h0 : 0≤k) (hk : k + x.cntT≤4611686018427387904) (hl : nHub x≤2 ^ 40) : MarkC Tryz.prog 65 (.agg x.res) k (k + x.cntT) (.agg (x.markT k).res):=by
 refine MarkC.intro tt_ok Tryz.func65 (by kernel_rfl) rfl rfl rfl (by decide) (fun w0 base=>?_);simp only [Hub.cntT] at hk;unfold nHub at hl;simp [Hub.res]
 try intros
 refine ACall.mark (markDocS_c x.docs (k) (by omega) (by omega) (by omega)) rfl (fun _ h=>h) (by simp) ?_;simp;refine ACall.mark (markSubS_c x.subs (k + ((cntL Doc.cnt x.docs : Nat) : Int)) (by omega) (by omega) (by omega)) rfl (fun _ h=>h) (by simp) ?_;simp;simp [Hub.markT,Hub.cntT,markL_length]
 try omega
theorem heldHub_c (x : Hub) (k : Int) (h0 : 0≤k) (hk : k + x.cntT≤4611686018427387904) (hl : nHub x≤2 ^ 40) : PureC Tryz.prog 68 [.agg (x.markT k).row,.c (vi k)] (.one (.c (vi (k + x.cntT)) 1)):=by
 refine PureC.intro' tt_ok Tryz.func68 (by kernel_rfl) rfl rfl rfl (Nat.le_of_ble_eq_true rfl) (fun w0 base=>?_);simp only [Hub.cntT] at hk;unfold nHub at hl;simp [Hub.row,Hub.markT]
 try intros
 refine ACall.pure (heldDocS_c x.docs k (by omega) (by omega) (by omega)) (by simp) ?_;obtain ⟨q1,hq1⟩ : ∃ q,k + ((cntL Doc.cnt x.docs : Nat) : Int) = q:=⟨_,rfl⟩;rw [hq1];have z1 : ¬ q1 < 0:=by omega
 simp [z1];refine ACall.pure (heldSubS_c x.subs q1 (by omega) (by omega) (by omega)) (by simp) ?_;obtain ⟨q2,hq2⟩ : ∃ q,q1 + ((cntL Sub.cnt x.subs : Nat) : Int) = q:=⟨_,rfl⟩;rw [hq2];have z2 : ¬ q2 < 0:=by omega
 simp [z2]
 try (simp only [Hub.cntT];omega)
theorem toQueue_c (x : Queue) (h : nQueue x≤2 ^ 40) : PureC Tryz.prog 134 [.agg x.row] (.one (.agg x.res)):=by
 refine PureC.intro' tt_ok Tryz.func134 (by kernel_rfl) rfl rfl rfl (Nat.le_of_ble_eq_true rfl) (fun w0 base=>?_);unfold nQueue at h;simp [Queue.row,Queue.res]
 try intros
 refine ACall.pure (toIntS_c x.list (by omega)) (by simp) ?_;simp
 try intros
theorem eqQueue_c (x y : Queue) (h : nQueue x≤2 ^ 40) : PureC Tryz.prog 138 [.agg x.row,.agg y.row] (.one (.c (vb (x = y)) 1)):=by
 refine PureC.intro' tt_ok Tryz.func138 (by kernel_rfl) rfl rfl rfl (Nat.le_of_ble_eq_true rfl) (fun w0 base=>?_);unfold nQueue at h;obtain ⟨a0,a1⟩:=x;obtain ⟨b0,b1⟩:=y;simp only at h;simp [Queue.row]
 try intros
 by_cases h0 : a0 = b0
 rotate_left
 ·simp [h0]
 subst h0
 try simp
 refine ACall.pure (eqIntS_c a1 b1 (by omega)) (by simp) ?_;simp;by_cases h1 : a1 = b1
 rotate_left
 ·simp [h1]
 subst h1
 try simp
theorem szQueue_c (x : Queue) (h : x.fits) (left : Nat) (hf : left≤2 ^ 20) : PureC Tryz.prog 125 [.agg x.row,.c (vi left)] (.one (.c (vi (szR (nQueue x) left)) 1)):=by
 refine PureC.intro' tt_ok Tryz.func125 (by kernel_rfl) rfl rfl rfl (Nat.le_of_ble_eq_true rfl) (fun w0 base=>?_);obtain ⟨f0,f1⟩:=h;obtain ⟨r,hr⟩ : ∃ r,szR (nQueue x) left = r:=⟨_,rfl⟩;rw [hr];have hn : nQueue x = x.doc.size + (x.list.length):=rfl;simp [Queue.row]
 try intros
 by_cases k0 : x.doc.size≤left
 rotate_left
 ·have hw : IntKind.i64.wrap ((left : Int) - (x.doc.size : Int)) = (left : Int) - x.doc.size:=IntWalk.i64_in _ (by omega)
  have hz : (left : Int) - x.doc.size < 0:=by omega
  have : r = -1:=by rw [← hr];exact szR_no (by omega)
  simp [hw,hz,this]
 obtain ⟨m0,hm0⟩ : ∃ m,left - x.doc.size = m:=⟨_,rfl⟩;have w0 : IntKind.i64.wrap ((left : Int) - (x.doc.size : Int)) = (m0 : Int):=by rw [IntWalk.i64_in _ (by omega)];omega
 simp [w0];refine ACall.pure (szIntS_c x.list f1.1 m0 (by omega)) (by simp) ?_;by_cases k1 : x.list.length≤m0
 rotate_left
 ·have : r = -1:=by rw [← hr];exact szR_no (by omega)
  rw [szR_no k1];simp [this]
 rw [szR_ok k1];obtain ⟨m1,hm1⟩ : ∃ m,m0 - x.list.length = m:=⟨_,rfl⟩;rw [hm1];have : r = (m1 : Int):=by rw [← hr,szR_ok (by omega)];omega
 simp [this]
theorem toQueueS_c (l : List Queue) (hl : nL nQueue l≤2 ^ 40) : PureC Tryz.prog 56 [.c (.s (l.map Queue.row))] (.one (.c (.s (l.map Queue.row)) 2)):=by
 refine PureC.intro' tt_ok Tryz.func56 (by kernel_rfl) rfl rfl rfl (Nat.le_of_ble_eq_true rfl) (fun w0 base=>?_);have hle:=nL_len hl;simp;refine ⟨by omega,fun b=>?_⟩
 refine LoopT.intro eok (fun i : Nat=>i≤l.length) (fun i=>⟨23,0,[(4,.v (.int .i64 i)),(3,.sl 112 (some (b,0,l.length)) 2 0 l.length),(0,.ro (l.map Queue.row))],
  [(112,.rows (some (b,0,l.length)) 2 (fillR Queue.row [.v (.string ⟨#[]⟩),.s []] l i) true)]⟩) (fun i=>l.length - i) 0 (by simp) (by simp [fillR_0]) (fun i hi=>?_)
 by_cases h : i < l.length
 ·simp [h,Queue.row]
  refine ACall.pure (toQueue_c l[i] (nL_at hl h)) (by simp [Queue.row]) ?_;simp [Queue.res,fillR_length hi,h];exact ⟨i + 1,by omega,by omega,i64_suc (by omega),fillR_set (f:=Queue.row) h⟩
 ·have : i = l.length:=by omega
  subst this;simp [fillR_all,cut]
  try exact fun a _=>rfl
theorem eqQueueS_c (a b : List Queue) (hl : nL nQueue a≤2 ^ 40) : PureC Tryz.prog 63 [.c (.s (a.map Queue.row)),.c (.s (b.map Queue.row))] (.one (.c (vb (a = b)) 1)):=by
 refine PureC.intro' tt_ok Tryz.func63 (by kernel_rfl) rfl rfl rfl (Nat.le_of_ble_eq_true rfl) (fun w0 base=>?_);have hle:=nL_len hl;by_cases h : a.length = b.length
 ·simp [h]
  refine LoopT.intro eok (fun i : Nat=>i≤a.length∧a.take i = b.take i) (fun i=>⟨27,0,[(5,.v (.int .i64 i)),(1,.ro (b.map Queue.row)),(0,.ro (a.map Queue.row))],[]⟩) (fun i=>a.length - i) 0 (by simp) (by simp) (fun i hi=>?_);by_cases hlt : i < a.length
  ·simp [hlt]
   have hlt' : i < b.length:=by omega
   refine DrawT.quiet eok mix (by kernel_rfl) ?_;simp [hlt,hlt',Queue.row];refine ⟨_,_,eqQueue_c a[i] b[i] (nL_at hl hlt),by simp [Queue.row],?_⟩;simp;refine Br.mk (fun h1=>?_) (fun h1=>?_)
   ·simp
    exact ⟨i + 1,⟨by omega,take_next hlt hlt' hi.2 (of_yes h1)⟩,by omega,i64_suc (by omega)⟩
   ·simp [dc_no]
    exact ne_at hlt hlt' (of_no h1)
  ·simp [hlt,dc_yes]
   exact take_all (by omega) (by omega) hi.2
 ·have hz : ¬ (a.length : Int) = b.length:=by omega
  simp [hz,dc_no];exact fun h2=>absurd (by rw [h2]) h
theorem szQueueS_c (l : List Queue) (hl : l.length≤9223372036854775807) (hs : ∀ y∈l,y.fits) (left : Nat) (hf : left≤2 ^ 20) : PureC Tryz.prog 50 [.c (.s (l.map Queue.row)),.c (vi left)] (.one (.c (vi (szR (nL nQueue l) left)) 1)):=by
 refine PureC.intro' tt_ok Tryz.func50 (by kernel_rfl) rfl rfl rfl (Nat.le_of_ble_eq_true rfl) (fun w0 base=>?_);have hw : IntKind.i64.wrap ((left : Int) - (l.length : Int)) = (left : Int) - l.length:=IntWalk.i64_in _ (by omega);have hn : nL nQueue l = l.length + sumN nQueue l:=rfl;by_cases h : l.length≤left
 ·obtain ⟨lf,hlf⟩ : ∃ lf : Nat,left - l.length = lf:=⟨_,rfl⟩
  have hlz : (left : Int) - l.length = (lf : Int):=by omega
  have hw2 : IntKind.i64.wrap (lf : Int) = lf:=i64_nat (by omega);simp [hlz,hw2];obtain ⟨r,hr⟩ : ∃ r,szR (nL nQueue l) left = r:=⟨_,rfl⟩;have hr0 : szR (sumN nQueue l) lf = r:=by rw [← hr];unfold szR;split<;>split<;>omega
  rw [hr];refine LoopT.intro eok (fun x : Nat × Nat=>x.1≤l.length∧x.2≤2 ^ 20∧szR (sumN nQueue (l.drop x.1)) x.2 = r) (fun x=>⟨27,0,[(5,.v (.int .i64 x.1)),(1,.v (.int .i64 x.2)),(0,.ro (l.map Queue.row))],[]⟩) (fun x=>l.length - x.1) (0,lf) (by simp [hr0];omega) (by simp) ?_
  rintro ⟨i,m⟩ ⟨hi,hm,hx⟩
  simp only at hi hm hx ⊢;by_cases hlt : i < l.length
  ·rw [sumN_drop hlt] at hx
   simp [hlt,Queue.row];refine ACall.pure (szQueue_c l[i] (hs _ (List.getElem_mem hlt)) m hm) (by simp [Queue.row]) ?_;by_cases hk : nQueue l[i]≤m
   ·rw [szR_ok hk]
    have hz : ¬ ((m - nQueue l[i] : Nat) : Int) < 0:=by omega
    simp [hz];refine ⟨i + 1,m - nQueue l[i],⟨by omega,by omega,?_⟩,by omega,i64_suc (by omega),rfl⟩;rw [← hx];unfold szR;split<;>split<;>omega
   ·rw [szR_no (show ¬ nQueue l[i] + sumN nQueue (l.drop (i + 1))≤m by omega)] at hx
    rw [szR_no hk];simp [← hx]
  ·have : i = l.length:=by omega
   subst this;simp only [List.drop_length,sumN,szR,Nat.zero_le,if_true,Nat.sub_zero] at hx;simp [hx]
 ·have hz : (left : Int) - l.length < 0:=by omega
  simp [hw,hz,szR_no (show ¬ nL nQueue l≤left by omega)]
theorem markQueueS_c (l : List Queue) (k : Int) (h0 : 0≤k) (hk : k + cntL Queue.cnt l≤4611686018427387904) (hl : nL nQueue l≤2 ^ 40) : MarkC Tryz.prog 66 (.c (.s (l.map Queue.row)) 2) k (k + cntL Queue.cnt l) (.c (.s ((markL Queue.mark Queue.cnt l k).map Queue.row)) 2):=by
 refine MarkC.intro tt_ok Tryz.func66 (by kernel_rfl) rfl rfl rfl (by decide) (fun w0 base=>?_);have hle:=nL_len hl;simp;intro H;refine LoopT.introG eok (fun i : Nat=>i≤l.length) (fun i=>⟨28,0,[(5,.v (.int .i64 i)),(1,.v (.int .i64 (k + cntL Queue.cnt (l.take i)))),(0,.ml 0 H 2 l.length)],[(0,.rows H 2 (marked Queue.mark Queue.cnt Queue.row l k i) true)]⟩) (fun i=>l.length - i) 0 (by simp) (by simp [marked_0,cntL]) (fun i hi=>?_);by_cases h : i < l.length
 ·have hc:=cntL_cell_le (cn:=Queue.cnt) h
  have hs:=cntL_take_suc (cn:=Queue.cnt) h;have hni:=nL_at hl h;simp only [nQueue] at hni;obtain ⟨q0,hq0⟩ : ∃ q,k + ((cntL Queue.cnt (l.take i) : Nat) : Int) = q:=⟨_,rfl⟩;have hpc : l[i].cnt = 1 + (l[i].list.length):=rfl;rw [hq0,← marked_row h];have e0 : Go.IntKind.i64.wrap q0 = q0:=Go.IntWalk.i64_in _ (by omega);obtain ⟨q1,hq1⟩ : ∃ q,q0 + 1 = q:=⟨_,rfl⟩;have e1 : Go.IntKind.i64.wrap q1 = q1:=Go.IntWalk.i64_in _ (by omega);obtain ⟨q2,hq2⟩ : ∃ q,q1 + ((l[i].list.length : Nat) : Int) = q:=⟨_,rfl⟩;have e2 : Go.IntKind.i64.wrap q2 = q2:=Go.IntWalk.i64_in _ (by omega);have e : Go.IntKind.i64.wrap ((i : Int) + 1) = ((i + 1 : Nat) : Int):=i64_suc (by omega)
  refine Ent.open (fun _ h=>h) (k:=0) (i:=i) (j:=1) (k':=901) (sz':=1) (sz:=2) (H:=H) (rows:=((marked Queue.mark Queue.cnt Queue.row l k i).set i l[i].row)) (srows:=l[i].list.map intR) (row:=l[i].row) (by simp) (by simp [marked_length,h]) rfl (by simp) (by decide) (by simp [intR]) (by simp) (fun H1=>?_);refine Ent.refl ?_;simp [h,Queue.row,setC_set];refine ACall.pure (markText_c q0 (by omega) (by omega)) (by simp) ?_;simp [h,marked_length,modify_set,hq1,e1];refine ACall.mark (markIntS_c l[i].list q1 (by omega) (by omega)) rfl (fun _ h=>h) (by simp) ?_;simp [e,hq2]
  refine Ent.close (k:=0) (i:=i) (j:=1) (k':=901) (sz':=1) (sz:=2) (H:=H) (rows:=(marked Queue.mark Queue.cnt Queue.row l k i).set i [.v (.string (markT q0)),.h 901 H1 1 l[i].list.length]) (row:=[.v (.string (markT q0)),.h 901 H1 1 l[i].list.length]) (H':=H1) (srows:=(markL intM one l[i].list q1).map intR) (by simp) (by simp [marked_length,h]) (by simp [markL_length]) (by simp) (by decide) (by simp) ?_;refine Ent.refl ⟨i + 1,by omega,by omega,?_⟩;simp [setC_set,hs,hpc];refine ⟨by omega,?_⟩;refine marked_set h ?_;rw [hq0];subst hq1 hq2;rfl
 ·have : i = l.length:=by omega
  subst this;refine Ent.refl ?_;simp [marked_all,markL_length,Queue.row]
theorem heldQueueS_c (l : List Queue) (k : Int) (h0 : 0≤k) (hk : k + cntL Queue.cnt l≤4611686018427387904) (hl : nL nQueue l≤2 ^ 40) : PureC Tryz.prog 70 [.c (.s ((markL Queue.mark Queue.cnt l k).map Queue.row)),.c (vi k)] (.one (.c (vi (k + cntL Queue.cnt l)) 1)):=by
 refine PureC.intro' tt_ok Tryz.func70 (by kernel_rfl) rfl rfl rfl (Nat.le_of_ble_eq_true rfl) (fun w0 base=>?_);have hle:=nL_len hl;simp;refine LoopT.intro eok (fun i : Nat=>i≤l.length) (fun i=>⟨32,0,[(5,.v (.int .i64 i)),(1,.v (.int .i64 (k + cntL Queue.cnt (l.take i)))),(0,.ro ((markL Queue.mark Queue.cnt l k).map Queue.row))],[]⟩) (fun i=>l.length - i) 0 (by simp) (by simp [cntL]) (fun i hi=>?_);by_cases h : i < l.length
 ·have hc:=cntL_cell_le (cn:=Queue.cnt) h
  have hs:=cntL_take_suc (cn:=Queue.cnt) h;have hni:=nL_at hl h;simp only [nQueue] at hni;have hm:=markL_cell (mk:=Queue.mark) (cn:=Queue.cnt) (k:=k) h;obtain ⟨q0,hq0⟩ : ∃ q,k + ((cntL Queue.cnt (l.take i) : Nat) : Int) = q:=⟨_,rfl⟩;have hpc : l[i].cnt = 1 + (l[i].list.length):=rfl;rw [hq0] at hm;rw [hq0];have z0 : ¬ q0 < 0:=by omega
  have e0 : Go.IntKind.i64.wrap q0 = q0:=Go.IntWalk.i64_in _ (by omega);obtain ⟨q1,hq1⟩ : ∃ q,q0 + 1 = q:=⟨_,rfl⟩;have e1 : Go.IntKind.i64.wrap q1 = q1:=Go.IntWalk.i64_in _ (by omega);have z1 : ¬ q1 < 0:=by omega
  obtain ⟨q2,hq2⟩ : ∃ q,q1 + ((l[i].list.length : Nat) : Int) = q:=⟨_,rfl⟩;have e2 : Go.IntKind.i64.wrap q2 = q2:=Go.IntWalk.i64_in _ (by omega);have z2 : ¬ q2 < 0:=by omega
  have e : Go.IntKind.i64.wrap ((i : Int) + 1) = ((i + 1 : Nat) : Int):=i64_suc (by omega);simp [h,markL_length];refine DrawT.quiet eok mix (by kernel_rfl) ?_;simp [h,markL_length,hm,Queue.row,Queue.mark,hq1];refine ⟨_,_,markText_c q0 (by omega) (by omega),by simp,?_⟩;simp [h,markL_length,hm,Queue.row,Queue.mark,hq1,e1];refine ACall.pure (heldIntS_c l[i].list q1 (by omega) (by omega)) (by simp) ?_;simp [hq2,z2];refine ⟨i + 1,by omega,by omega,?_⟩;simp [e,hs,hpc];omega
 ·have : i = l.length:=by omega
  subst this;simp [markL_length]
theorem toAnswer_c (x : Answer) (h : nAnswer x≤2 ^ 40) : PureC Tryz.prog 219 [.agg x.row] (.one (.agg x.res)):=by
 refine PureC.intro' tt_ok Tryz.func219 (by kernel_rfl) rfl rfl rfl (Nat.le_of_ble_eq_true rfl) (fun w0 base=>?_);unfold nAnswer at h;simp [Answer.row,Answer.res]
 try intros
 refine ACall.pure (toIntS_c x.text (by omega)) (by simp) ?_;simp
 try intros
 refine ACall.pure (toEntryS_c x.list (by omega)) (by simp) ?_;simp
 try intros
theorem eqAnswer_c (x y : Answer) (h : nAnswer x≤2 ^ 40) : PureC Tryz.prog 222 [.agg x.row,.agg y.row] (.one (.c (vb (x = y)) 1)):=by
 refine PureC.intro' tt_ok Tryz.func222 (by kernel_rfl) rfl rfl rfl (Nat.le_of_ble_eq_true rfl) (fun w0 base=>?_);unfold nAnswer at h;obtain ⟨a0,a1,a2,a3⟩:=x;obtain ⟨b0,b1,b2,b3⟩:=y;simp only at h;simp [Answer.row]
 try intros
 by_cases h0 : a0 = b0
 rotate_left
 ·simp [h0]
 subst h0
 try simp
 by_cases h1 : a1 = b1
 rotate_left
 ·simp [h1]
 subst h1
 try simp
 refine ACall.pure (eqIntS_c a2 b2 (by omega)) (by simp) ?_;simp;by_cases h2 : a2 = b2
 rotate_left
 ·simp [h2]
 subst h2
 try simp
 refine ACall.pure (eqEntryS_c a3 b3 (by omega)) (by simp) ?_;simp;by_cases h3 : a3 = b3
 rotate_left
 ·simp [h3]
 subst h3
 try simp
theorem szAnswer_c (x : Answer) (h : x.fits) (left : Nat) (hf : left≤2 ^ 20) : PureC Tryz.prog 207 [.agg x.row,.c (vi left)] (.one (.c (vi (szR (nAnswer x) left)) 1)):=by
 refine PureC.intro' tt_ok Tryz.func207 (by kernel_rfl) rfl rfl rfl (Nat.le_of_ble_eq_true rfl) (fun w0 base=>?_);obtain ⟨f0,f1,f2,f3⟩:=h;obtain ⟨r,hr⟩ : ∃ r,szR (nAnswer x) left = r:=⟨_,rfl⟩;rw [hr];have hn : nAnswer x = x.text.length + (nL nEntry x.list):=rfl;simp [Answer.row]
 try intros
 refine ACall.pure (szIntS_c x.text f2.1 left (by omega)) (by simp) ?_;by_cases k0 : x.text.length≤left
 rotate_left
 ·have : r = -1:=by rw [← hr];exact szR_no (by omega)
  rw [szR_no k0];simp [this]
 rw [szR_ok k0];obtain ⟨m0,hm0⟩ : ∃ m,left - x.text.length = m:=⟨_,rfl⟩;rw [hm0];simp;refine ACall.pure (szEntryS_c x.list f3.1 f3.2 m0 (by omega)) (by simp) ?_;by_cases k1 : nL nEntry x.list≤m0
 rotate_left
 ·have : r = -1:=by rw [← hr];exact szR_no (by omega)
  rw [szR_no k1];simp [this]
 rw [szR_ok k1];obtain ⟨m1,hm1⟩ : ∃ m,m0 - nL nEntry x.list = m:=⟨_,rfl⟩;rw [hm1];have : r = (m1 : Int):=by rw [← hr,szR_ok (by omega)];omega
 simp [this]
theorem toCall_c (x : Call) (h : nCall x≤2 ^ 40) : PureC Tryz.prog 218 [.agg x.row] (.one (.agg x.res)):=by
 refine PureC.intro' tt_ok Tryz.func218 (by kernel_rfl) rfl rfl rfl (Nat.le_of_ble_eq_true rfl) (fun w0 base=>?_);unfold nCall at h;simp [Call.row,Call.res]
 try intros
 refine ACall.pure (toPartS_c x.o (by omega)) (by simp) ?_;simp
 try intros
 refine ACall.pure (toIntS_c x.text (by omega)) (by simp) ?_;simp
 try intros
theorem eqCall_c (x y : Call) (h : nCall x≤2 ^ 40) : PureC Tryz.prog 221 [.agg x.row,.agg y.row] (.one (.c (vb (x = y)) 1)):=by
 refine PureC.intro' tt_ok Tryz.func221 (by kernel_rfl) rfl rfl rfl (Nat.le_of_ble_eq_true rfl) (fun w0 base=>?_);unfold nCall at h;obtain ⟨a0,a1,a2,a3,a4,a5,a6⟩:=x;obtain ⟨b0,b1,b2,b3,b4,b5,b6⟩:=y;simp only at h;simp [Call.row]
 try intros
 by_cases h0 : a0 = b0
 rotate_left
 ·simp [h0]
 subst h0
 try simp
 by_cases h1 : a1 = b1
 rotate_left
 ·simp [h1]
 subst h1
 try simp
 by_cases h2 : a2 = b2
 rotate_left
 ·simp [h2]
 subst h2
 try simp
 by_cases h3 : a3 = b3
 rotate_left
 ·simp [h3]
 subst h3
 try simp
 by_cases h4 : a4 = b4
 rotate_left
 ·simp [h4]
 subst h4
 try simp
 refine ACall.pure (eqPartS_c a5 b5 (by omega)) (by simp) ?_;simp;by_cases h5 : a5 = b5
 rotate_left
 ·simp [h5]
 subst h5
 try simp
 refine ACall.pure (eqIntS_c a6 b6 (by omega)) (by simp) ?_;simp;by_cases h6 : a6 = b6
 rotate_left
 ·simp [h6]
 subst h6
 try simp
theorem szCall_c (x : Call) (h : x.fits) (left : Nat) (hf : left≤2 ^ 20) : PureC Tryz.prog 206 [.agg x.row,.c (vi left)] (.one (.c (vi (szR (nCall x) left)) 1)):=by
 refine PureC.intro' tt_ok Tryz.func206 (by kernel_rfl) rfl rfl rfl (Nat.le_of_ble_eq_true rfl) (fun w0 base=>?_);obtain ⟨f0,f1,f2,f3,f4,f5,f6⟩:=h;obtain ⟨r,hr⟩ : ∃ r,szR (nCall x) left = r:=⟨_,rfl⟩;rw [hr];have hn : nCall x = x.doc.size + (nL nPart x.o + (x.text.length)):=rfl;simp [Call.row]
 try intros
 by_cases k0 : x.doc.size≤left
 rotate_left
 ·have hw : IntKind.i64.wrap ((left : Int) - (x.doc.size : Int)) = (left : Int) - x.doc.size:=IntWalk.i64_in _ (by omega)
  have hz : (left : Int) - x.doc.size < 0:=by omega
  have : r = -1:=by rw [← hr];exact szR_no (by omega)
  simp [hw,hz,this]
 obtain ⟨m0,hm0⟩ : ∃ m,left - x.doc.size = m:=⟨_,rfl⟩;have w0 : IntKind.i64.wrap ((left : Int) - (x.doc.size : Int)) = (m0 : Int):=by rw [IntWalk.i64_in _ (by omega)];omega
 simp [w0];refine ACall.pure (szPartS_c x.o f5.1 f5.2 m0 (by omega)) (by simp) ?_;by_cases k1 : nL nPart x.o≤m0
 rotate_left
 ·have : r = -1:=by rw [← hr];exact szR_no (by omega)
  rw [szR_no k1];simp [this]
 rw [szR_ok k1];obtain ⟨m1,hm1⟩ : ∃ m,m0 - nL nPart x.o = m:=⟨_,rfl⟩;rw [hm1];simp;refine ACall.pure (szIntS_c x.text f6.1 m1 (by omega)) (by simp) ?_;by_cases k2 : x.text.length≤m1
 rotate_left
 ·have : r = -1:=by rw [← hr];exact szR_no (by omega)
  rw [szR_no k2];simp [this]
 rw [szR_ok k2];obtain ⟨m2,hm2⟩ : ∃ m,m1 - x.text.length = m:=⟨_,rfl⟩;rw [hm2];have : r = (m2 : Int):=by rw [← hr,szR_ok (by omega)];omega
 simp [this]
end Go.Proofs.YtoeofekglbdemaaGreat
