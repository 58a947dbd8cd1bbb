import Derived.Test.YtmfcmlldnjffeaaDoorMH
namespace Go.Proofs.YtmfcmlldnjffeaaDoor
open Go.AM
set_option maxRecDepth 20000
theorem oO (x:Part) (h:au x<=2 ^ 40):ai Tryd.prog 46 [.agg x.row] (.one (.agg x.res)):=by
 refine ai.intro' am Tryd.func46 (by kernel_rfl) rfl rfl rfl (Nat.le_of_ble_eq_true rfl) (λw0 base=>?_);unfold au at h;simp [Part.row,Part.res]
 try intros
 refine ab.pure (oP x.signs (by omega)) (by simp) ?_;simp
 try intros
theorem qq (x y:Part) (h:au x<=2 ^ 40):ai Tryd.prog 50 [.agg x.row,.agg y.row] (.one (.c (vb (x=y)) 1)):=by
 refine ai.intro' am Tryd.func50 (by kernel_rfl) rfl rfl rfl (Nat.le_of_ble_eq_true rfl) (λw0 base=>?_);unfold au at h;obtain ⟨a0,a1,a2⟩:=x;obtain ⟨b0,b1,b2⟩:=y;simp only at h;simp [Part.row]
 try intros
 by_cases h0:a0=b0
 rotate_left
 ·simp [h0]
 subst h0
 try simp
 by_cases h1:a1=b1
 rotate_left
 ·simp [h1]
 subst h1
 try simp
 refine ab.pure (qr a2 b2 (by omega)) (by simp) ?_;simp;by_cases h2:a2=b2
 rotate_left
 ·simp [h2]
 subst h2
 try simp
theorem o6 (x:Part) (h:x.fits) (left:Nat) (hf:left<=2 ^ 20):ai Tryd.prog 44 [.agg x.row,.c (vi left)] (.one (.c (vi (szR (au x) left)) 1)):=by
 refine ai.intro' am Tryd.func44 (by kernel_rfl) rfl rfl rfl (Nat.le_of_ble_eq_true rfl) (λw0 base=>?_);obtain ⟨f0,f1,f2⟩:=h;obtain ⟨r,hr⟩:∃ r,szR (au x) left=r:=⟨_,rfl⟩;rw [hr];have hn:au x=x.signs.length:=rfl;simp [Part.row]
 try intros
 refine ab.pure (o7 x.signs f2.1 left (by omega)) (by simp) ?_;by_cases k0:x.signs.length<=left
 rotate_left
 ·have:r = -1:=by rw [<- hr];exact df (by omega)
  rw [df k0];simp [this]
 rw [ei k0];obtain ⟨m0,hm0⟩:∃ m,left - x.signs.length=m:=⟨_,rfl⟩;rw [hm0];have:r=(m0:Int):=by rw [<- hr,ei (by omega)];omega
 simp [this]
theorem ne (l:List Part) (hl:nL au l<=2 ^ 40):ai Tryd.prog 24 [.c (.s (l.map Part.row))] (.one (.c (.s (l.map Part.row)) 3)):=by
 refine ai.intro' am Tryd.func24 (by kernel_rfl) rfl rfl rfl (Nat.le_of_ble_eq_true rfl) (λw0 base=>?_);have hle:=fb hl;simp;refine ⟨by omega,λb=>?_⟩
 refine aX.intro eok (λi:Nat=>i<=l.length) (λi=>⟨23,0,[(4,.v (.int .i64 i)),(3,.sl 112 (some (b,0,l.length)) 3 0 l.length),(0,.ro (l.map Part.row))],
  [(112,.rows (some (b,0,l.length)) 3 (dQ Part.row [.v (.int .i64 0),.v (.int .i64 0),.s []] l i) true)]⟩) (λi=>l.length - i) 0 (by simp) (by simp [m3]) (λi hi=>?_)
 by_cases h:i<l.length
 ·simp [h,Part.row]
  refine ab.pure (oO l[i] (mK hl h)) (by simp [Part.row]) ?_;simp [Part.res,eM hi,h];exact ⟨i+1,by omega,by omega,aC (by omega),iZ (f:=Part.row) h⟩
 ·have:i=l.length:=by omega
  subst this;simp [i6,cut]
  try exact λa _=>rfl
theorem nY (a b:List Part) (hl:nL au a<=2 ^ 40):ai Tryd.prog 27 [.c (.s (a.map Part.row)),.c (.s (b.map Part.row))] (.one (.c (vb (a=b)) 1)):=by
 refine ai.intro' am Tryd.func27 (by kernel_rfl) rfl rfl rfl (Nat.le_of_ble_eq_true rfl) (λw0 base=>?_);have hle:=fb hl;by_cases h:a.length=b.length
 ·simp [h]
  refine aX.intro eok (λi:Nat=>i<=a.length/\a.take i=b.take i) (λi=>⟨27,0,[(5,.v (.int .i64 i)),(1,.ro (b.map Part.row)),(0,.ro (a.map Part.row))],[]⟩) (λi=>a.length - i) 0 (by simp) (by simp) (λi hi=>?_);by_cases hlt:i<a.length
  ·simp [hlt]
   have hlt':i<b.length:=by omega
   refine aE.quiet eok mix (by kernel_rfl) ?_;simp [hlt,hlt',Part.row];refine ⟨_,_,qq a[i] b[i] (mK hl hlt),by simp [Part.row],?_⟩;simp;refine Br.mk (λh1=>?_) (λh1=>?_)
   ·simp
    exact ⟨i+1,⟨by omega,iC hlt hlt' hi.2 (e8 h1)⟩,by omega,aC (by omega)⟩
   ·simp [b7]
    exact s4 hlt hlt' (iP h1)
  ·simp [hlt,fg]
   exact kc (by omega) (by omega) hi.2
 ·have hz:¬ (a.length:Int)=b.length:=by omega
  simp [hz,b7];exact λh2=>absurd (by rw [h2]) h
theorem ni (l:List Part) (hl:l.length<=9223372036854775807) (hs:∀ y∈l,y.fits) (left:Nat) (hf:left<=2 ^ 20):ai Tryd.prog 21 [.c (.s (l.map Part.row)),.c (vi left)] (.one (.c (vi (szR (nL au l) left)) 1)):=by
 refine ai.intro' am Tryd.func21 (by kernel_rfl) rfl rfl rfl (Nat.le_of_ble_eq_true rfl) (λw0 base=>?_);have hw:IntKind.i64.wrap ((left:Int) - (l.length:Int))=(left:Int) - l.length:=IntWalk.i64_in _ (by omega);have hn:nL au l=l.length+gt au l:=rfl;by_cases h:l.length<=left
 ·obtain ⟨lf,hlf⟩:∃ lf:Nat,left - l.length=lf:=⟨_,rfl⟩
  have hlz:(left:Int) - l.length=(lf:Int):=by omega
  have hw2:IntKind.i64.wrap (lf:Int)=lf:=jI (by omega);simp [hlz,hw2];obtain ⟨r,hr⟩:∃ r,szR (nL au l) left=r:=⟨_,rfl⟩;have hr0:szR (gt au l) lf=r:=by rw [<- hr];unfold szR;split<;>split<;>omega
  rw [hr];refine aX.intro eok (λx:Nat×Nat=>x.1<=l.length/\x.2<=2 ^ 20/\szR (gt au (l.drop x.1)) x.2=r) (λx=>⟨27,0,[(5,.v (.int .i64 x.1)),(1,.v (.int .i64 x.2)),(0,.ro (l.map Part.row))],[]⟩) (λx=>l.length - x.1) (0,lf) (by simp [hr0];omega) (by simp) ?_
  rintro ⟨i,m⟩ ⟨hi,hm,hx⟩
  simp only at hi hm hx ⊢;by_cases hlt:i<l.length
  ·rw [iD hlt] at hx
   simp [hlt,Part.row];refine ab.pure (o6 l[i] (hs _ (List.getElem_mem hlt)) m hm) (by simp [Part.row]) ?_;by_cases hk:au l[i]<=m
   ·rw [ei hk]
    have hz:¬ ((m - au l[i]:Nat):Int)<0:=by omega
    simp [hz];refine ⟨i+1,m - au l[i],⟨by omega,by omega,?_⟩,by omega,aC (by omega),rfl⟩;rw [<- hx];unfold szR;split<;>split<;>omega
   ·rw [df (show ¬ au l[i]+gt au (l.drop (i+1))<=m by omega)] at hx
    rw [df hk];simp [<- hx]
  ·have:i=l.length:=by omega
   subst this;simp only [List.drop_length,gt,szR,Nat.zero_le,if_true,Nat.sub_zero] at hx;simp [hx]
 ·have hz:(left:Int) - l.length<0:=by omega
  simp [hw,hz,df (show ¬ nL au l<=left by omega)]
theorem eZ (x:Event) (h:bu x<=2 ^ 40):ai Tryd.prog 13 [.agg x.row] (.one (.agg x.res)):=by
 refine ai.intro' am Tryd.func13 (by kernel_rfl) rfl rfl rfl (Nat.le_of_ble_eq_true rfl) (λw0 base=>?_);unfold bu at h;simp [Event.row,Event.res]
 try intros
 refine ab.pure (ne x.o (by omega)) (by simp) ?_;simp
 try intros
theorem nZ (x y:Event) (h:bu x<=2 ^ 40):ai Tryd.prog 15 [.agg x.row,.agg y.row] (.one (.c (vb (x=y)) 1)):=by
 refine ai.intro' am Tryd.func15 (by kernel_rfl) rfl rfl rfl (Nat.le_of_ble_eq_true rfl) (λw0 base=>?_);unfold bu at h;obtain ⟨a0,a1,a2,a3⟩:=x;obtain ⟨b0,b1,b2,b3⟩:=y;simp only at h;simp [Event.row]
 try intros
 by_cases h0:a0=b0
 rotate_left
 ·simp [h0]
 subst h0
 try simp
 by_cases h1:a1=b1
 rotate_left
 ·simp [h1]
 subst h1
 try simp
 by_cases h2:a2=b2
 rotate_left
 ·simp [h2]
 subst h2
 try simp
 refine ab.pure (nY a3 b3 (by omega)) (by simp) ?_;simp;by_cases h3:a3=b3
 rotate_left
 ·simp [h3]
 subst h3
 try simp
theorem nj (x:Event) (h:x.fits) (left:Nat) (hf:left<=2 ^ 20):ai Tryd.prog 11 [.agg x.row,.c (vi left)] (.one (.c (vi (szR (bu x) left)) 1)):=by
 refine ai.intro' am Tryd.func11 (by kernel_rfl) rfl rfl rfl (Nat.le_of_ble_eq_true rfl) (λw0 base=>?_);obtain ⟨f0,f1,f2,f3⟩:=h;obtain ⟨r,hr⟩:∃ r,szR (bu x) left=r:=⟨_,rfl⟩;rw [hr];have hn:bu x=nL au x.o:=rfl;simp [Event.row]
 try intros
 refine ab.pure (ni x.o f3.1 f3.2 left (by omega)) (by simp) ?_;by_cases k0:nL au x.o<=left
 rotate_left
 ·have:r = -1:=by rw [<- hr];exact df (by omega)
  rw [df k0];simp [this]
 rw [ei k0];obtain ⟨m0,hm0⟩:∃ m,left - nL au x.o=m:=⟨_,rfl⟩;rw [hm0];have:r=(m0:Int):=by rw [<- hr,ei (by omega)];omega
 simp [this]
open Go.AM Go.ChangeShapes Go.WideShapes Go.ChangeAt Go.RowKit
theorem own:ownKnob Tryd.prog.godebug=none:=by kernel_rfl
theorem laid:laidOutB Tryd.prog=true:=by kernel_rfl
theorem cY {D:Nat} {ds:List CD} (h:bZ Tryd.prog D 3 ds):∃ n:Int,ds=[vi n]/\be n:=by
 obtain ⟨n,h1,h2⟩:=qk Tryd.underlying3 h;exact ⟨n,h1,s9 h2⟩
theorem mL:maxLen=9223372036854775807:=rfl
theorem nV {D:Nat} {ds:List CD} (h:bZ Tryd.prog D 42 ds):∃ l:List Int,ds=[.s (l.map aN)]/\l.length<=9223372036854775807/\∀ n∈l,be n:=by
 obtain ⟨rows,rfl,h1,D',h2⟩:=gG Tryd.underlying42 h;obtain ⟨l,rfl,hl⟩:=gu (f:=aN) (ok:=be) rows (λrow hrow=>cY (h2 row hrow).2);exact ⟨l,rfl,by simpa [mL] using h1,hl⟩
theorem sA:Tryd.prog.cellsOf 70=3:=by kernel_rfl
theorem xO {α:Type} {l:List α} (h:l.length=3):∃ x0 x1 x2,l=[x0,x1,x2]:=by
 match l,h with
 | [x0,x1,x2],_=>exact ⟨x0,x1,x2,rfl⟩
theorem qA:Tryd.prog.cellsOf 3=1:=by kernel_rfl
theorem sB:Tryd.prog.cellsOf 42=1:=by kernel_rfl
theorem nW {D:Nat} {ds:List CD} (h:bZ Tryd.prog D 70 ds):∃ x:Part,ds=x.row/\x.fits:=by
 obtain ⟨hl,D',hf⟩:=dP Tryd.underlying70 h;rw [sA] at hl;obtain ⟨d0,d1,d2,rfl⟩:=xO hl;simp [qA,sB] at hf;obtain ⟨h0,h1,h2⟩:=hf;obtain ⟨n0,e0,k0⟩:=cY h0;simp at e0;subst e0;obtain ⟨n1,e1,k1⟩:=cY h1;simp at e1;subst e1;obtain ⟨n2,e2,k2⟩:=nV h2;simp at e2;subst e2;exact ⟨⟨n0,n1,n2⟩,rfl,k0,k1,k2⟩
theorem l0 {D:Nat} {ds:List CD} (h:bZ Tryd.prog D 22 ds):∃ l:List Part,ds=[.s (l.map Part.row)]/\l.length<=9223372036854775807/\∀ y∈l,y.fits:=by
 obtain ⟨rows,rfl,h1,D',h2⟩:=gG Tryd.underlying22 h;obtain ⟨l,rfl,hl⟩:=gu (f:=Part.row) (ok:=Part.fits) rows (λrow hrow=>nW (h2 row hrow).2);exact ⟨l,rfl,by simpa [mL] using h1,hl⟩
theorem sC:Tryd.prog.cellsOf 22=1:=by kernel_rfl
theorem xN {α:Type} {l:List α} (h:l.length=4):∃ x0 x1 x2 x3,l=[x0,x1,x2,x3]:=by
 match l,h with
 | [x0,x1,x2,x3],_=>exact ⟨x0,x1,x2,x3,rfl⟩
theorem m8:Tryd.prog.cellsOf 34=4:=by kernel_rfl
theorem l1 {D:Nat} {ds:List CD} (h:bZ Tryd.prog D 34 ds):∃ x:Event,ds=x.row/\x.fits:=by
 obtain ⟨hl,D',hf⟩:=dP Tryd.underlying34 h;rw [m8] at hl;obtain ⟨d0,d1,d2,d3,rfl⟩:=xN hl;simp [qA,sC] at hf;obtain ⟨h0,h1,h2,h3⟩:=hf;obtain ⟨n0,e0,k0⟩:=cY h0;simp at e0;subst e0;obtain ⟨n1,e1,k1⟩:=cY h1;simp at e1;subst e1;obtain ⟨n2,e2,k2⟩:=cY h2;simp at e2;subst e2;obtain ⟨n3,e3,k3⟩:=l0 h3;simp at e3;subst e3;exact ⟨⟨n0,n1,n2,n3⟩,rfl,k0,k1,k2,k3⟩
theorem jN {D:Nat} {t:TypeId} {vd:VD} {fs:Array Field} (hu:Tryd.prog.underlying t=some (.struct fs)) (hc:Tryd.prog.cellsOf t≠1) (h:lv Tryd.prog D t vd):∃ ds,vd=.agg ds/\bZ Tryd.prog D t ds:=by
 cases vd with
 | c d =>
   have:=(dP hu h).1;exact absurd this.symm hc
 |agg ds=>exact ⟨ds,rfl,h.2⟩
end Go.Proofs.YtmfcmlldnjffeaaDoor
