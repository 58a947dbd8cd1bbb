import Derived.Test.YtmfcmlldnjffeaaDoorMH
namespace Go.Proofs.YtmfcmlldnjffeaaDoor
open Go.AM
set_option maxRecDepth 20000
theorem pb (x:Part) (h:ay x<=2 ^ 40):ag Tryd.prog 46 [.agg x.row] (.one (.agg x.res)):=by
 refine ag.intro' ak Tryd.func46 (by kernel_rfl) rfl rfl rfl (Nat.le_of_ble_eq_true rfl) (λw0 base=>?_);unfold ay at h;simp [Part.row,Part.res]
 try intros
 refine ab.pure (kv x.signs (by omega)) (by simp) ?_;simp
 try intros
theorem qK (x y:Part) (h:ay x<=2 ^ 40):ag Tryd.prog 50 [.agg x.row,.agg y.row] (.one (.c (vb (x=y)) 1)):=by
 refine ag.intro' ak Tryd.func50 (by kernel_rfl) rfl rfl rfl (Nat.le_of_ble_eq_true rfl) (λw0 base=>?_);unfold ay at h;obtain ⟨a0,a1,a2⟩:=x;obtain ⟨b0,b1,b2⟩:=y;simp only at h;simp [Part.row]
 try intros
 by_cases h0:a0=b0
 rotate_left
 ·simp [h0]
 subst h0
 try simp
 by_cases h1:a1=b1
 rotate_left
 ·simp [h1]
 subst h1
 try simp
 refine ab.pure (lm a2 b2 (by omega)) (by simp) ?_;simp;by_cases h2:a2=b2
 rotate_left
 ·simp [h2]
 subst h2
 try simp
theorem pr (x:Part) (h:x.fits) (left:Nat) (hf:left<=2 ^ 20):ag Tryd.prog 44 [.agg x.row,.c (vi left)] (.one (.c (vi (szR (ay x) left)) 1)):=by
 refine ag.intro' ak Tryd.func44 (by kernel_rfl) rfl rfl rfl (Nat.le_of_ble_eq_true rfl) (λw0 base=>?_);obtain ⟨f0,f1,f2⟩:=h;obtain ⟨r,hr⟩:∃ r,szR (ay x) left=r:=⟨_,rfl⟩;rw [hr];have hn:ay x=x.signs.length:=rfl;simp [Part.row]
 try intros
 refine ab.pure (kx x.signs f2.1 left (by omega)) (by simp) ?_;by_cases k0:x.signs.length<=left
 rotate_left
 ·have:r = -1:=by rw [<- hr];exact bE (by omega)
  rw [bE k0];simp [this]
 rw [cB k0];obtain ⟨m0,hm0⟩:∃ m,left - x.signs.length=m:=⟨_,rfl⟩;rw [hm0];have:r=(m0:Int):=by rw [<- hr,cB (by omega)];omega
 simp [this]
theorem nz (l:List Part) (hl:nL ay l<=2 ^ 40):ag Tryd.prog 24 [.c (.s (l.map Part.row))] (.one (.c (.s (l.map Part.row)) 3)):=by
 refine ag.intro' ak Tryd.func24 (by kernel_rfl) rfl rfl rfl (Nat.le_of_ble_eq_true rfl) (λw0 base=>?_);have hle:=cX hl;simp;refine ⟨by omega,λb=>?_⟩
 refine aO.intro eok (λi:Nat=>i<=l.length) (λi=>⟨23,0,[(4,.v (.int .i64 i)),(3,.sl 112 (some (b,0,l.length)) 3 0 l.length),(0,.ro (l.map Part.row))],
  [(112,.rows (some (b,0,l.length)) 3 (dE Part.row [.v (.int .i64 0),.v (.int .i64 0),.s []] l i) true)]⟩) (λi=>l.length - i) 0 (by simp) (by simp [j3]) (λi hi=>?_)
 by_cases h:i<l.length
 ·simp [h,Part.row]
  refine ab.pure (pb l[i] (fM hl h)) (by simp [Part.row]) ?_;simp [Part.res,dq hi,h];exact ⟨i+1,by omega,by omega,aq (by omega),fv (f:=Part.row) h⟩
 ·have:i=l.length:=by omega
  subst this;simp [fw,cut]
  try exact λa _=>rfl
theorem ot (a b:List Part) (hl:nL ay a<=2 ^ 40):ag Tryd.prog 27 [.c (.s (a.map Part.row)),.c (.s (b.map Part.row))] (.one (.c (vb (a=b)) 1)):=by
 refine ag.intro' ak Tryd.func27 (by kernel_rfl) rfl rfl rfl (Nat.le_of_ble_eq_true rfl) (λw0 base=>?_);have hle:=cX hl;by_cases h:a.length=b.length
 ·simp [h]
  refine aO.intro eok (λi:Nat=>i<=a.length/\a.take i=b.take i) (λi=>⟨27,0,[(5,.v (.int .i64 i)),(1,.ro (b.map Part.row)),(0,.ro (a.map Part.row))],[]⟩) (λi=>a.length - i) 0 (by simp) (by simp) (λi hi=>?_);by_cases hlt:i<a.length
  ·simp [hlt]
   have hlt':i<b.length:=by omega
   refine au.quiet eok mix (by kernel_rfl) ?_;simp [hlt,hlt',Part.row];refine ⟨_,_,qK a[i] b[i] (fM hl hlt),by simp [Part.row],?_⟩;simp;refine Br.mk (λh1=>?_) (λh1=>?_)
   ·simp
    exact ⟨i+1,⟨by omega,fc hlt hlt' hi.2 (ep h1)⟩,by omega,aq (by omega)⟩
   ·simp [bT]
    exact pY hlt hlt' (gI h1)
  ·simp [hlt,ex]
   exact gE (by omega) (by omega) hi.2
 ·have hz:¬ (a.length:Int)=b.length:=by omega
  simp [hz,bT];exact λh2=>absurd (by rw [h2]) h
theorem nF (l:List Part) (hl:l.length<=9223372036854775807) (hs:∀ y∈l,y.fits) (left:Nat) (hf:left<=2 ^ 20):ag Tryd.prog 21 [.c (.s (l.map Part.row)),.c (vi left)] (.one (.c (vi (szR (nL ay l) left)) 1)):=by
 refine ag.intro' ak Tryd.func21 (by kernel_rfl) rfl rfl rfl (Nat.le_of_ble_eq_true rfl) (λw0 base=>?_);have hw:IntKind.i64.wrap ((left:Int) - (l.length:Int))=(left:Int) - l.length:=IntWalk.i64_in _ (by omega);have hn:nL ay l=l.length+ec ay l:=rfl;by_cases h:l.length<=left
 ·obtain ⟨lf,hlf⟩:∃ lf:Nat,left - l.length=lf:=⟨_,rfl⟩
  have hlz:(left:Int) - l.length=(lf:Int):=by omega
  have hw2:IntKind.i64.wrap (lf:Int)=lf:=gt (by omega);simp [hlz,hw2];obtain ⟨r,hr⟩:∃ r,szR (nL ay l) left=r:=⟨_,rfl⟩;have hr0:szR (ec ay l) lf=r:=by rw [<- hr];unfold szR;split<;>split<;>omega
  rw [hr];refine aO.intro eok (λx:Nat×Nat=>x.1<=l.length/\x.2<=2 ^ 20/\szR (ec ay (l.drop x.1)) x.2=r) (λx=>⟨27,0,[(5,.v (.int .i64 x.1)),(1,.v (.int .i64 x.2)),(0,.ro (l.map Part.row))],[]⟩) (λx=>l.length - x.1) (0,lf) (by simp [hr0];omega) (by simp) ?_
  rintro ⟨i,m⟩ ⟨hi,hm,hx⟩
  simp only at hi hm hx ⊢;by_cases hlt:i<l.length
  ·rw [fd hlt] at hx
   simp [hlt,Part.row];refine ab.pure (pr l[i] (hs _ (List.getElem_mem hlt)) m hm) (by simp [Part.row]) ?_;by_cases hk:ay l[i]<=m
   ·rw [cB hk]
    have hz:¬ ((m - ay l[i]:Nat):Int)<0:=by omega
    simp [hz];refine ⟨i+1,m - ay l[i],⟨by omega,by omega,?_⟩,by omega,aq (by omega),rfl⟩;rw [<- hx];unfold szR;split<;>split<;>omega
   ·rw [bE (show ¬ ay l[i]+ec ay (l.drop (i+1))<=m by omega)] at hx
    rw [bE hk];simp [<- hx]
  ·have:i=l.length:=by omega
   subst this;simp only [List.drop_length,ec,szR,Nat.zero_le,if_true,Nat.sub_zero] at hx;simp [hx]
 ·have hz:(left:Int) - l.length<0:=by omega
  simp [hw,hz,bE (show ¬ nL ay l<=left by omega)]
theorem nB (x:Entry) (h:aB x<=2 ^ 40):ag Tryd.prog 8 [.agg x.row] (.one (.agg x.res)):=by
 refine ag.intro' ak Tryd.func8 (by kernel_rfl) rfl rfl rfl (Nat.le_of_ble_eq_true rfl) (λw0 base=>?_);unfold aB at h;simp [Entry.row,Entry.res]
 try intros
 refine ab.pure (nz x.o (by omega)) (by simp) ?_;simp
 try intros
theorem ou (x y:Entry) (h:aB x<=2 ^ 40):ag Tryd.prog 10 [.agg x.row,.agg y.row] (.one (.c (vb (x=y)) 1)):=by
 refine ag.intro' ak Tryd.func10 (by kernel_rfl) rfl rfl rfl (Nat.le_of_ble_eq_true rfl) (λw0 base=>?_);unfold aB at h;obtain ⟨a0,a1,a2⟩:=x;obtain ⟨b0,b1,b2⟩:=y;simp only at h;simp [Entry.row]
 try intros
 by_cases h0:a0=b0
 rotate_left
 ·simp [h0]
 subst h0
 try simp
 by_cases h1:a1=b1
 rotate_left
 ·simp [h1]
 subst h1
 try simp
 refine ab.pure (ot a2 b2 (by omega)) (by simp) ?_;simp;by_cases h2:a2=b2
 rotate_left
 ·simp [h2]
 subst h2
 try simp
theorem nG (x:Entry) (h:x.fits) (left:Nat) (hf:left<=2 ^ 20):ag Tryd.prog 6 [.agg x.row,.c (vi left)] (.one (.c (vi (szR (aB x) left)) 1)):=by
 refine ag.intro' ak Tryd.func6 (by kernel_rfl) rfl rfl rfl (Nat.le_of_ble_eq_true rfl) (λw0 base=>?_);obtain ⟨f0,f1,f2⟩:=h;obtain ⟨r,hr⟩:∃ r,szR (aB x) left=r:=⟨_,rfl⟩;rw [hr];have hn:aB x=nL ay x.o:=rfl;simp [Entry.row]
 try intros
 refine ab.pure (nF x.o f2.1 f2.2 left (by omega)) (by simp) ?_;by_cases k0:nL ay x.o<=left
 rotate_left
 ·have:r = -1:=by rw [<- hr];exact bE (by omega)
  rw [bE k0];simp [this]
 rw [cB k0];obtain ⟨m0,hm0⟩:∃ m,left - nL ay x.o=m:=⟨_,rfl⟩;rw [hm0];have:r=(m0:Int):=by rw [<- hr,cB (by omega)];omega
 simp [this]
theorem lO (l:List Entry) (hl:nL aB l<=2 ^ 40):ag Tryd.prog 39 [.c (.s (l.map Entry.row))] (.one (.c (.s (l.map Entry.row)) 3)):=by
 refine ag.intro' ak Tryd.func39 (by kernel_rfl) rfl rfl rfl (Nat.le_of_ble_eq_true rfl) (λw0 base=>?_);have hle:=cX hl;simp;refine ⟨by omega,λb=>?_⟩
 refine aO.intro eok (λi:Nat=>i<=l.length) (λi=>⟨23,0,[(4,.v (.int .i64 i)),(3,.sl 112 (some (b,0,l.length)) 3 0 l.length),(0,.ro (l.map Entry.row))],
  [(112,.rows (some (b,0,l.length)) 3 (dE Entry.row [.v (.int .i64 0),.v (.int .i64 0),.s []] l i) true)]⟩) (λi=>l.length - i) 0 (by simp) (by simp [j3]) (λi hi=>?_)
 by_cases h:i<l.length
 ·simp [h,Entry.row]
  refine ab.pure (nB l[i] (fM hl h)) (by simp [Entry.row]) ?_;simp [Entry.res,dq hi,h];exact ⟨i+1,by omega,by omega,aq (by omega),fv (f:=Entry.row) h⟩
 ·have:i=l.length:=by omega
  subst this;simp [fw,cut]
  try exact λa _=>rfl
theorem mm (a b:List Entry) (hl:nL aB a<=2 ^ 40):ag Tryd.prog 43 [.c (.s (a.map Entry.row)),.c (.s (b.map Entry.row))] (.one (.c (vb (a=b)) 1)):=by
 refine ag.intro' ak Tryd.func43 (by kernel_rfl) rfl rfl rfl (Nat.le_of_ble_eq_true rfl) (λw0 base=>?_);have hle:=cX hl;by_cases h:a.length=b.length
 ·simp [h]
  refine aO.intro eok (λi:Nat=>i<=a.length/\a.take i=b.take i) (λi=>⟨27,0,[(5,.v (.int .i64 i)),(1,.ro (b.map Entry.row)),(0,.ro (a.map Entry.row))],[]⟩) (λi=>a.length - i) 0 (by simp) (by simp) (λi hi=>?_);by_cases hlt:i<a.length
  ·simp [hlt]
   have hlt':i<b.length:=by omega
   refine au.quiet eok mix (by kernel_rfl) ?_;simp [hlt,hlt',Entry.row];refine ⟨_,_,ou a[i] b[i] (fM hl hlt),by simp [Entry.row],?_⟩;simp;refine Br.mk (λh1=>?_) (λh1=>?_)
   ·simp
    exact ⟨i+1,⟨by omega,fc hlt hlt' hi.2 (ep h1)⟩,by omega,aq (by omega)⟩
   ·simp [bT]
    exact pY hlt hlt' (gI h1)
  ·simp [hlt,ex]
   exact gE (by omega) (by omega) hi.2
 ·have hz:¬ (a.length:Int)=b.length:=by omega
  simp [hz,bT];exact λh2=>absurd (by rw [h2]) h
theorem lR (l:List Entry) (hl:l.length<=9223372036854775807) (hs:∀ y∈l,y.fits) (left:Nat) (hf:left<=2 ^ 20):ag Tryd.prog 35 [.c (.s (l.map Entry.row)),.c (vi left)] (.one (.c (vi (szR (nL aB l) left)) 1)):=by
 refine ag.intro' ak Tryd.func35 (by kernel_rfl) rfl rfl rfl (Nat.le_of_ble_eq_true rfl) (λw0 base=>?_);have hw:IntKind.i64.wrap ((left:Int) - (l.length:Int))=(left:Int) - l.length:=IntWalk.i64_in _ (by omega);have hn:nL aB l=l.length+ec aB l:=rfl;by_cases h:l.length<=left
 ·obtain ⟨lf,hlf⟩:∃ lf:Nat,left - l.length=lf:=⟨_,rfl⟩
  have hlz:(left:Int) - l.length=(lf:Int):=by omega
  have hw2:IntKind.i64.wrap (lf:Int)=lf:=gt (by omega);simp [hlz,hw2];obtain ⟨r,hr⟩:∃ r,szR (nL aB l) left=r:=⟨_,rfl⟩;have hr0:szR (ec aB l) lf=r:=by rw [<- hr];unfold szR;split<;>split<;>omega
  rw [hr];refine aO.intro eok (λx:Nat×Nat=>x.1<=l.length/\x.2<=2 ^ 20/\szR (ec aB (l.drop x.1)) x.2=r) (λx=>⟨27,0,[(5,.v (.int .i64 x.1)),(1,.v (.int .i64 x.2)),(0,.ro (l.map Entry.row))],[]⟩) (λx=>l.length - x.1) (0,lf) (by simp [hr0];omega) (by simp) ?_
  rintro ⟨i,m⟩ ⟨hi,hm,hx⟩
  simp only at hi hm hx ⊢;by_cases hlt:i<l.length
  ·rw [fd hlt] at hx
   simp [hlt,Entry.row];refine ab.pure (nG l[i] (hs _ (List.getElem_mem hlt)) m hm) (by simp [Entry.row]) ?_;by_cases hk:aB l[i]<=m
   ·rw [cB hk]
    have hz:¬ ((m - aB l[i]:Nat):Int)<0:=by omega
    simp [hz];refine ⟨i+1,m - aB l[i],⟨by omega,by omega,?_⟩,by omega,aq (by omega),rfl⟩;rw [<- hx];unfold szR;split<;>split<;>omega
   ·rw [bE (show ¬ aB l[i]+ec aB (l.drop (i+1))<=m by omega)] at hx
    rw [bE hk];simp [<- hx]
  ·have:i=l.length:=by omega
   subst this;simp only [List.drop_length,ec,szR,Nat.zero_le,if_true,Nat.sub_zero] at hx;simp [hx]
 ·have hz:(left:Int) - l.length<0:=by omega
  simp [hw,hz,bE (show ¬ nL aB l<=left by omega)]
theorem en (x:Answer) (h:ba x<=2 ^ 40):ag Tryd.prog 18 [.agg x.row] (.one (.agg x.res)):=by
 refine ag.intro' ak Tryd.func18 (by kernel_rfl) rfl rfl rfl (Nat.le_of_ble_eq_true rfl) (λw0 base=>?_);unfold ba at h;simp [Answer.row,Answer.res]
 try intros
 refine ab.pure (kv x.text (by omega)) (by simp) ?_;simp
 try intros
 refine ab.pure (lO x.list (by omega)) (by simp) ?_;simp
 try intros
theorem mn (x y:Answer) (h:ba x<=2 ^ 40):ag Tryd.prog 20 [.agg x.row,.agg y.row] (.one (.c (vb (x=y)) 1)):=by
 refine ag.intro' ak Tryd.func20 (by kernel_rfl) rfl rfl rfl (Nat.le_of_ble_eq_true rfl) (λw0 base=>?_);unfold ba at h;obtain ⟨a0,a1,a2,a3⟩:=x;obtain ⟨b0,b1,b2,b3⟩:=y;simp only at h;simp [Answer.row]
 try intros
 by_cases h0:a0=b0
 rotate_left
 ·simp [h0]
 subst h0
 try simp
 by_cases h1:a1=b1
 rotate_left
 ·simp [h1]
 subst h1
 try simp
 refine ab.pure (lm a2 b2 (by omega)) (by simp) ?_;simp;by_cases h2:a2=b2
 rotate_left
 ·simp [h2]
 subst h2
 try simp
 refine ab.pure (mm a3 b3 (by omega)) (by simp) ?_;simp;by_cases h3:a3=b3
 rotate_left
 ·simp [h3]
 subst h3
 try simp
theorem lS (x:Answer) (h:x.fits) (left:Nat) (hf:left<=2 ^ 20):ag Tryd.prog 16 [.agg x.row,.c (vi left)] (.one (.c (vi (szR (ba x) left)) 1)):=by
 refine ag.intro' ak Tryd.func16 (by kernel_rfl) rfl rfl rfl (Nat.le_of_ble_eq_true rfl) (λw0 base=>?_);obtain ⟨f0,f1,f2,f3⟩:=h;obtain ⟨r,hr⟩:∃ r,szR (ba x) left=r:=⟨_,rfl⟩;rw [hr];have hn:ba x=x.text.length+(nL aB x.list):=rfl;simp [Answer.row]
 try intros
 refine ab.pure (kx x.text f2.1 left (by omega)) (by simp) ?_;by_cases k0:x.text.length<=left
 rotate_left
 ·have:r = -1:=by rw [<- hr];exact bE (by omega)
  rw [bE k0];simp [this]
 rw [cB k0];obtain ⟨m0,hm0⟩:∃ m,left - x.text.length=m:=⟨_,rfl⟩;rw [hm0];simp;refine ab.pure (lR x.list f3.1 f3.2 m0 (by omega)) (by simp) ?_;by_cases k1:nL aB x.list<=m0
 rotate_left
 ·have:r = -1:=by rw [<- hr];exact bE (by omega)
  rw [bE k1];simp [this]
 rw [cB k1];obtain ⟨m1,hm1⟩:∃ m,m0 - nL aB x.list=m:=⟨_,rfl⟩;rw [hm1];have:r=(m1:Int):=by rw [<- hr,cB (by omega)];omega
 simp [this]
open Go.AM Go.ChangeShapes Go.WideShapes Go.ChangeAt Go.RowKit
theorem own:ownKnob Tryd.prog.godebug=none:=by kernel_rfl
theorem laid:laidOutB Tryd.prog=true:=by kernel_rfl
theorem cI {D:Nat} {ds:List CD} (h:bS Tryd.prog D 3 ds):∃ n:Int,ds=[vi n]/\bk n:=by
 obtain ⟨n,h1,h2⟩:=qE Tryd.underlying3 h;exact ⟨n,h1,tA h2⟩
theorem mL:maxLen=9223372036854775807:=rfl
theorem jf {D:Nat} {ds:List CD} (h:bS Tryd.prog D 42 ds):∃ l:List Int,ds=[.s (l.map aS)]/\l.length<=9223372036854775807/\∀ n∈l,bk n:=by
 obtain ⟨rows,rfl,h1,D',h2⟩:=eu Tryd.underlying42 h;obtain ⟨l,rfl,hl⟩:=eE (f:=aS) (ok:=bk) rows (λrow hrow=>cI (h2 row hrow).2);exact ⟨l,rfl,by simpa [mL] using h1,hl⟩
theorem sR:Tryd.prog.cellsOf 70=3:=by kernel_rfl
theorem tu {α:Type} {l:List α} (h:l.length=3):∃ x0 x1 x2,l=[x0,x1,x2]:=by
 match l,h with
 | [x0,x1,x2],_=>exact ⟨x0,x1,x2,rfl⟩
theorem mr:Tryd.prog.cellsOf 3=1:=by kernel_rfl
theorem nv:Tryd.prog.cellsOf 42=1:=by kernel_rfl
theorem om {D:Nat} {ds:List CD} (h:bS Tryd.prog D 70 ds):∃ x:Part,ds=x.row/\x.fits:=by
 obtain ⟨hl,D',hf⟩:=cR Tryd.underlying70 h;rw [sR] at hl;obtain ⟨d0,d1,d2,rfl⟩:=tu hl;simp [mr,nv] at hf;obtain ⟨h0,h1,h2⟩:=hf;obtain ⟨n0,e0,k0⟩:=cI h0;simp at e0;subst e0;obtain ⟨n1,e1,k1⟩:=cI h1;simp at e1;subst e1;obtain ⟨n2,e2,k2⟩:=jf h2;simp at e2;subst e2;exact ⟨⟨n0,n1,n2⟩,rfl,k0,k1,k2⟩
theorem mh {D:Nat} {ds:List CD} (h:bS Tryd.prog D 22 ds):∃ l:List Part,ds=[.s (l.map Part.row)]/\l.length<=9223372036854775807/\∀ y∈l,y.fits:=by
 obtain ⟨rows,rfl,h1,D',h2⟩:=eu Tryd.underlying22 h;obtain ⟨l,rfl,hl⟩:=eE (f:=Part.row) (ok:=Part.fits) rows (λrow hrow=>om (h2 row hrow).2);exact ⟨l,rfl,by simpa [mL] using h1,hl⟩
theorem sT:Tryd.prog.cellsOf 24=3:=by kernel_rfl
theorem sU:Tryd.prog.cellsOf 22=1:=by kernel_rfl
theorem mi {D:Nat} {ds:List CD} (h:bS Tryd.prog D 24 ds):∃ x:Entry,ds=x.row/\x.fits:=by
 obtain ⟨hl,D',hf⟩:=cR Tryd.underlying24 h;rw [sT] at hl;obtain ⟨d0,d1,d2,rfl⟩:=tu hl;simp [mr,sU] at hf;obtain ⟨h0,h1,h2⟩:=hf;obtain ⟨n0,e0,k0⟩:=cI h0;simp at e0;subst e0;obtain ⟨n1,e1,k1⟩:=cI h1;simp at e1;subst e1;obtain ⟨n2,e2,k2⟩:=mh h2;simp at e2;subst e2;exact ⟨⟨n0,n1,n2⟩,rfl,k0,k1,k2⟩
theorem lh {D:Nat} {ds:List CD} (h:bS Tryd.prog D 43 ds):∃ l:List Entry,ds=[.s (l.map Entry.row)]/\l.length<=9223372036854775807/\∀ y∈l,y.fits:=by
 obtain ⟨rows,rfl,h1,D',h2⟩:=eu Tryd.underlying43 h;obtain ⟨l,rfl,hl⟩:=eE (f:=Entry.row) (ok:=Entry.fits) rows (λrow hrow=>mi (h2 row hrow).2);exact ⟨l,rfl,by simpa [mL] using h1,hl⟩
theorem nu:Tryd.prog.cellsOf 45=4:=by kernel_rfl
theorem x9 {α:Type} {l:List α} (h:l.length=4):∃ x0 x1 x2 x3,l=[x0,x1,x2,x3]:=by
 match l,h with
 | [x0,x1,x2,x3],_=>exact ⟨x0,x1,x2,x3,rfl⟩
theorem sS:Tryd.prog.cellsOf 43=1:=by kernel_rfl
theorem li {D:Nat} {ds:List CD} (h:bS Tryd.prog D 45 ds):∃ x:Answer,ds=x.row/\x.fits:=by
 obtain ⟨hl,D',hf⟩:=cR Tryd.underlying45 h;rw [nu] at hl;obtain ⟨d0,d1,d2,d3,rfl⟩:=x9 hl;simp [mr,nv,sS] at hf;obtain ⟨h0,h1,h2,h3⟩:=hf;obtain ⟨n0,e0,k0⟩:=cI h0;simp at e0;subst e0;obtain ⟨n1,e1,k1⟩:=cI h1;simp at e1;subst e1;obtain ⟨n2,e2,k2⟩:=jf h2;simp at e2;subst e2;obtain ⟨n3,e3,k3⟩:=lh h3;simp at e3;subst e3;exact ⟨⟨n0,n1,n2,n3⟩,rfl,k0,k1,k2,k3⟩
theorem j0 {D:Nat} {t:TypeId} {vd:VD} {fs:Array Field} (hu:Tryd.prog.underlying t=some (.struct fs)) (hc:Tryd.prog.cellsOf t≠1) (h:lJ Tryd.prog D t vd):∃ ds,vd=.agg ds/\bS Tryd.prog D t ds:=by
 cases vd with
 | c d =>
   have:=(cR hu h).1;exact absurd this.symm hc
 |agg ds=>exact ⟨ds,rfl,h.2⟩
end Go.Proofs.YtmfcmlldnjffeaaDoor
