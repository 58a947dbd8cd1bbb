import Derived.Test.YtmfcmlldnjffeaaDoorMH
namespace Go.Proofs.YtmfcmlldnjffeaaDoor
open Go.AM
set_option maxRecDepth 20000
theorem oC (x:Part) (h:ar x<=2 ^ 40):ai Tryd.prog 46 [.agg x.row] (.one (.agg x.res)):=by
 refine ai.intro' an Tryd.func46 (by kernel_rfl) rfl rfl rfl (Nat.le_of_ble_eq_true rfl) (λw0 base=>?_);unfold ar at h;simp [Part.row,Part.res]
 try intros
 refine ac.pure (oD x.signs (by omega)) (by simp) ?_;simp
 try intros
theorem qc (x y:Part) (h:ar x<=2 ^ 40):ai Tryd.prog 50 [.agg x.row,.agg y.row] (.one (.c (vb (x=y)) 1)):=by
 refine ai.intro' an Tryd.func50 (by kernel_rfl) rfl rfl rfl (Nat.le_of_ble_eq_true rfl) (λw0 base=>?_);unfold ar at h;obtain ⟨a0,a1,a2⟩:=x;obtain ⟨b0,b1,b2⟩:=y;simp only at h;simp [Part.row]
 try intros
 by_cases h0:a0=b0
 rotate_left
 ·simp [h0]
 subst h0
 try simp
 by_cases h1:a1=b1
 rotate_left
 ·simp [h1]
 subst h1
 try simp
 refine ac.pure (qd a2 b2 (by omega)) (by simp) ?_;simp;by_cases h2:a2=b2
 rotate_left
 ·simp [h2]
 subst h2
 try simp
theorem oR (x:Part) (h:x.fits) (left:Nat) (hf:left<=2 ^ 20):ai Tryd.prog 44 [.agg x.row,.c (vi left)] (.one (.c (vi (szR (ar x) left)) 1)):=by
 refine ai.intro' an Tryd.func44 (by kernel_rfl) rfl rfl rfl (Nat.le_of_ble_eq_true rfl) (λw0 base=>?_);obtain ⟨f0,f1,f2⟩:=h;obtain ⟨r,hr⟩:∃ r,szR (ar x) left=r:=⟨_,rfl⟩;rw [hr];have hn:ar x=x.signs.length:=rfl;simp [Part.row]
 try intros
 refine ac.pure (oS x.signs f2.1 left (by omega)) (by simp) ?_;by_cases k0:x.signs.length<=left
 rotate_left
 ·have:r = -1:=by rw [<- hr];exact c5 (by omega)
  rw [c5 k0];simp [this]
 rw [d8 k0];obtain ⟨m0,hm0⟩:∃ m,left - x.signs.length=m:=⟨_,rfl⟩;rw [hm0];have:r=(m0:Int):=by rw [<- hr,d8 (by omega)];omega
 simp [this]
theorem mZ (l:List Part) (hl:nL ar l<=2 ^ 40):ai Tryd.prog 24 [.c (.s (l.map Part.row))] (.one (.c (.s (l.map Part.row)) 3)):=by
 refine ai.intro' an Tryd.func24 (by kernel_rfl) rfl rfl rfl (Nat.le_of_ble_eq_true rfl) (λw0 base=>?_);have hle:=eU hl;simp;refine ⟨by omega,λb=>?_⟩
 refine aV.intro eok (λi:Nat=>i<=l.length) (λi=>⟨23,0,[(4,.v (.int .i64 i)),(3,.sl 112 (some (b,0,l.length)) 3 0 l.length),(0,.ro (l.map Part.row))],
  [(112,.rows (some (b,0,l.length)) 3 (dI Part.row [.v (.int .i64 0),.v (.int .i64 0),.s []] l i) true)]⟩) (λi=>l.length - i) 0 (by simp) (by simp [mP]) (λi hi=>?_)
 by_cases h:i<l.length
 ·simp [h,Part.row]
  refine ac.pure (oC l[i] (mz hl h)) (by simp [Part.row]) ?_;simp [Part.res,eB hi,h];exact ⟨i+1,by omega,by omega,aB (by omega),iP (f:=Part.row) h⟩
 ·have:i=l.length:=by omega
  subst this;simp [iQ,cut]
  try exact λa _=>rfl
theorem nM (a b:List Part) (hl:nL ar a<=2 ^ 40):ai Tryd.prog 27 [.c (.s (a.map Part.row)),.c (.s (b.map Part.row))] (.one (.c (vb (a=b)) 1)):=by
 refine ai.intro' an Tryd.func27 (by kernel_rfl) rfl rfl rfl (Nat.le_of_ble_eq_true rfl) (λw0 base=>?_);have hle:=eU hl;by_cases h:a.length=b.length
 ·simp [h]
  refine aV.intro eok (λi:Nat=>i<=a.length/\a.take i=b.take i) (λi=>⟨27,0,[(5,.v (.int .i64 i)),(1,.ro (b.map Part.row)),(0,.ro (a.map Part.row))],[]⟩) (λi=>a.length - i) 0 (by simp) (by simp) (λi hi=>?_);by_cases hlt:i<a.length
  ·simp [hlt]
   have hlt':i<b.length:=by omega
   refine aA.quiet eok mix (by kernel_rfl) ?_;simp [hlt,hlt',Part.row];refine ⟨_,_,qc a[i] b[i] (mz hl hlt),by simp [Part.row],?_⟩;simp;refine Br.mk (λh1=>?_) (λh1=>?_)
   ·simp
    exact ⟨i+1,⟨by omega,ir hlt hlt' hi.2 (eS h1)⟩,by omega,aB (by omega)⟩
   ·simp [bY]
    exact sR hlt hlt' (iF h1)
  ·simp [hlt,eZ]
   exact j0 (by omega) (by omega) hi.2
 ·have hz:¬ (a.length:Int)=b.length:=by omega
  simp [hz,bY];exact λh2=>absurd (by rw [h2]) h
theorem m5 (l:List Part) (hl:l.length<=9223372036854775807) (hs:∀ y∈l,y.fits) (left:Nat) (hf:left<=2 ^ 20):ai Tryd.prog 21 [.c (.s (l.map Part.row)),.c (vi left)] (.one (.c (vi (szR (nL ar l) left)) 1)):=by
 refine ai.intro' an Tryd.func21 (by kernel_rfl) rfl rfl rfl (Nat.le_of_ble_eq_true rfl) (λw0 base=>?_);have hw:IntKind.i64.wrap ((left:Int) - (l.length:Int))=(left:Int) - l.length:=IntWalk.i64_in _ (by omega);have hn:nL ar l=l.length+gg ar l:=rfl;by_cases h:l.length<=left
 ·obtain ⟨lf,hlf⟩:∃ lf:Nat,left - l.length=lf:=⟨_,rfl⟩
  have hlz:(left:Int) - l.length=(lf:Int):=by omega
  have hw2:IntKind.i64.wrap (lf:Int)=lf:=jy (by omega);simp [hlz,hw2];obtain ⟨r,hr⟩:∃ r,szR (nL ar l) left=r:=⟨_,rfl⟩;have hr0:szR (gg ar l) lf=r:=by rw [<- hr];unfold szR;split<;>split<;>omega
  rw [hr];refine aV.intro eok (λx:Nat×Nat=>x.1<=l.length/\x.2<=2 ^ 20/\szR (gg ar (l.drop x.1)) x.2=r) (λx=>⟨27,0,[(5,.v (.int .i64 x.1)),(1,.v (.int .i64 x.2)),(0,.ro (l.map Part.row))],[]⟩) (λx=>l.length - x.1) (0,lf) (by simp [hr0];omega) (by simp) ?_
  rintro ⟨i,m⟩ ⟨hi,hm,hx⟩
  simp only at hi hm hx ⊢;by_cases hlt:i<l.length
  ·rw [it hlt] at hx
   simp [hlt,Part.row];refine ac.pure (oR l[i] (hs _ (List.getElem_mem hlt)) m hm) (by simp [Part.row]) ?_;by_cases hk:ar l[i]<=m
   ·rw [d8 hk]
    have hz:¬ ((m - ar l[i]:Nat):Int)<0:=by omega
    simp [hz];refine ⟨i+1,m - ar l[i],⟨by omega,by omega,?_⟩,by omega,aB (by omega),rfl⟩;rw [<- hx];unfold szR;split<;>split<;>omega
   ·rw [c5 (show ¬ ar l[i]+gg ar (l.drop (i+1))<=m by omega)] at hx
    rw [c5 hk];simp [<- hx]
  ·have:i=l.length:=by omega
   subst this;simp only [List.drop_length,gg,szR,Nat.zero_le,if_true,Nat.sub_zero] at hx;simp [hx]
 ·have hz:(left:Int) - l.length<0:=by omega
  simp [hw,hz,c5 (show ¬ nL ar l<=left by omega)]
theorem eO (x:Entry) (h:bJ x<=2 ^ 40):ai Tryd.prog 8 [.agg x.row] (.one (.agg x.res)):=by
 refine ai.intro' an Tryd.func8 (by kernel_rfl) rfl rfl rfl (Nat.le_of_ble_eq_true rfl) (λw0 base=>?_);unfold bJ at h;simp [Entry.row,Entry.res]
 try intros
 refine ac.pure (mZ x.o (by omega)) (by simp) ?_;simp
 try intros
theorem nN (x y:Entry) (h:bJ x<=2 ^ 40):ai Tryd.prog 10 [.agg x.row,.agg y.row] (.one (.c (vb (x=y)) 1)):=by
 refine ai.intro' an Tryd.func10 (by kernel_rfl) rfl rfl rfl (Nat.le_of_ble_eq_true rfl) (λw0 base=>?_);unfold bJ at h;obtain ⟨a0,a1,a2⟩:=x;obtain ⟨b0,b1,b2⟩:=y;simp only at h;simp [Entry.row]
 try intros
 by_cases h0:a0=b0
 rotate_left
 ·simp [h0]
 subst h0
 try simp
 by_cases h1:a1=b1
 rotate_left
 ·simp [h1]
 subst h1
 try simp
 refine ac.pure (nM a2 b2 (by omega)) (by simp) ?_;simp;by_cases h2:a2=b2
 rotate_left
 ·simp [h2]
 subst h2
 try simp
theorem m6 (x:Entry) (h:x.fits) (left:Nat) (hf:left<=2 ^ 20):ai Tryd.prog 6 [.agg x.row,.c (vi left)] (.one (.c (vi (szR (bJ x) left)) 1)):=by
 refine ai.intro' an Tryd.func6 (by kernel_rfl) rfl rfl rfl (Nat.le_of_ble_eq_true rfl) (λw0 base=>?_);obtain ⟨f0,f1,f2⟩:=h;obtain ⟨r,hr⟩:∃ r,szR (bJ x) left=r:=⟨_,rfl⟩;rw [hr];have hn:bJ x=nL ar x.o:=rfl;simp [Entry.row]
 try intros
 refine ac.pure (m5 x.o f2.1 f2.2 left (by omega)) (by simp) ?_;by_cases k0:nL ar x.o<=left
 rotate_left
 ·have:r = -1:=by rw [<- hr];exact c5 (by omega)
  rw [c5 k0];simp [this]
 rw [d8 k0];obtain ⟨m0,hm0⟩:∃ m,left - nL ar x.o=m:=⟨_,rfl⟩;rw [hm0];have:r=(m0:Int):=by rw [<- hr,d8 (by omega)];omega
 simp [this]
open Go.AM Go.ChangeShapes Go.WideShapes Go.ChangeAt Go.RowKit
theorem own:ownKnob Tryd.prog.godebug=none:=by kernel_rfl
theorem laid:laidOutB Tryd.prog=true:=by kernel_rfl
theorem dH {D:Nat} {ds:List CD} (h:bW Tryd.prog D 3 ds):∃ n:Int,ds=[vi n]/\bc n:=by
 obtain ⟨n,h1,h2⟩:=p7 Tryd.underlying3 h;exact ⟨n,h1,sX h2⟩
theorem mL:maxLen=9223372036854775807:=rfl
theorem nI {D:Nat} {ds:List CD} (h:bW Tryd.prog D 42 ds):∃ l:List Int,ds=[.s (l.map aM)]/\l.length<=9223372036854775807/\∀ n∈l,bc n:=by
 obtain ⟨rows,rfl,h1,D',h2⟩:=gw Tryd.underlying42 h;obtain ⟨l,rfl,hl⟩:=gi (f:=aM) (ok:=bc) rows (λrow hrow=>dH (h2 row hrow).2);exact ⟨l,rfl,by simpa [mL] using h1,hl⟩
theorem si:Tryd.prog.cellsOf 70=3:=by kernel_rfl
theorem sT {α:Type} {l:List α} (h:l.length=3):∃ x0 x1 x2,l=[x0,x1,x2]:=by
 match l,h with
 | [x0,x1,x2],_=>exact ⟨x0,x1,x2,rfl⟩
theorem qo:Tryd.prog.cellsOf 3=1:=by kernel_rfl
theorem sj:Tryd.prog.cellsOf 42=1:=by kernel_rfl
theorem nJ {D:Nat} {ds:List CD} (h:bW Tryd.prog D 70 ds):∃ x:Part,ds=x.row/\x.fits:=by
 obtain ⟨hl,D',hf⟩:=dG Tryd.underlying70 h;rw [si] at hl;obtain ⟨d0,d1,d2,rfl⟩:=sT hl;simp [qo,sj] at hf;obtain ⟨h0,h1,h2⟩:=hf;obtain ⟨n0,e0,k0⟩:=dH h0;simp at e0;subst e0;obtain ⟨n1,e1,k1⟩:=dH h1;simp at e1;subst e1;obtain ⟨n2,e2,k2⟩:=nI h2;simp at e2;subst e2;exact ⟨⟨n0,n1,n2⟩,rfl,k0,k1,k2⟩
theorem lP {D:Nat} {ds:List CD} (h:bW Tryd.prog D 22 ds):∃ l:List Part,ds=[.s (l.map Part.row)]/\l.length<=9223372036854775807/\∀ y∈l,y.fits:=by
 obtain ⟨rows,rfl,h1,D',h2⟩:=gw Tryd.underlying22 h;obtain ⟨l,rfl,hl⟩:=gi (f:=Part.row) (ok:=Part.fits) rows (λrow hrow=>nJ (h2 row hrow).2);exact ⟨l,rfl,by simpa [mL] using h1,hl⟩
theorem mU:Tryd.prog.cellsOf 24=3:=by kernel_rfl
theorem sk:Tryd.prog.cellsOf 22=1:=by kernel_rfl
theorem lQ {D:Nat} {ds:List CD} (h:bW Tryd.prog D 24 ds):∃ x:Entry,ds=x.row/\x.fits:=by
 obtain ⟨hl,D',hf⟩:=dG Tryd.underlying24 h;rw [mU] at hl;obtain ⟨d0,d1,d2,rfl⟩:=sT hl;simp [qo,sk] at hf;obtain ⟨h0,h1,h2⟩:=hf;obtain ⟨n0,e0,k0⟩:=dH h0;simp at e0;subst e0;obtain ⟨n1,e1,k1⟩:=dH h1;simp at e1;subst e1;obtain ⟨n2,e2,k2⟩:=lP h2;simp at e2;subst e2;exact ⟨⟨n0,n1,n2⟩,rfl,k0,k1,k2⟩
theorem jD {D:Nat} {t:TypeId} {vd:VD} {fs:Array Field} (hu:Tryd.prog.underlying t=some (.struct fs)) (hc:Tryd.prog.cellsOf t≠1) (h:lg Tryd.prog D t vd):∃ ds,vd=.agg ds/\bW Tryd.prog D t ds:=by
 cases vd with
 | c d =>
   have:=(dG hu h).1;exact absurd this.symm hc
 |agg ds=>exact ⟨ds,rfl,h.2⟩
end Go.Proofs.YtmfcmlldnjffeaaDoor
