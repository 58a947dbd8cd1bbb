import Derived.Test.YthckkpphnmmfdaaGreatDoorMH
namespace Go.Proofs.YthckkpphnmmfdaaGreatDoor
open Go.AM
set_option maxRecDepth 20000
theorem p4 (x:Part) (h:aE x<=2 ^ 40):ak Tryz.prog 81 [.agg x.row] (.one (.agg x.res)):=by
 refine ak.intro' al Tryz.func81 (by kernel_rfl) rfl rfl rfl (Nat.le_of_ble_eq_true rfl) (λw0 base=>?_);unfold aE at h;simp [Part.row,Part.res]
 try intros
 refine aa.pure (lh x.signs (by omega)) (by simp) ?_;simp
 try intros
theorem r9 (x y:Part) (h:aE x<=2 ^ 40):ak Tryz.prog 93 [.agg x.row,.agg y.row] (.one (.c (vb (x=y)) 1)):=by
 refine ak.intro' al Tryz.func93 (by kernel_rfl) rfl rfl rfl (Nat.le_of_ble_eq_true rfl) (λw0 base=>?_);unfold aE at h;obtain ⟨a0,a1,a2⟩:=x;obtain ⟨b0,b1,b2⟩:=y;simp only at h;simp [Part.row]
 try intros
 by_cases h0:a0=b0
 rotate_left
 ·simp [h0]
 subst h0
 try simp
 by_cases h1:a1=b1
 rotate_left
 ·simp [h1]
 subst h1
 try simp
 refine aa.pure (l4 a2 b2 (by omega)) (by simp) ?_;simp;by_cases h2:a2=b2
 rotate_left
 ·simp [h2]
 subst h2
 try simp
theorem qI (x:Part) (h:x.fits) (left:Nat) (hf:left<=2 ^ 20):ak Tryz.prog 73 [.agg x.row,.c (vi left)] (.one (.c (vi (szR (aE x) left)) 1)):=by
 refine ak.intro' al Tryz.func73 (by kernel_rfl) rfl rfl rfl (Nat.le_of_ble_eq_true rfl) (λw0 base=>?_);obtain ⟨f0,f1,f2⟩:=h;obtain ⟨r,hr⟩:∃ r,szR (aE x) left=r:=⟨_,rfl⟩;rw [hr];have hn:aE x=x.signs.length:=rfl;simp [Part.row]
 try intros
 refine aa.pure (lj x.signs f2.1 left (by omega)) (by simp) ?_;by_cases k0:x.signs.length<=left
 rotate_left
 ·have:r = -1:=by rw [<- hr];exact cK (by omega)
  rw [cK k0];simp [this]
 rw [eb k0];obtain ⟨m0,hm0⟩:∃ m,left - x.signs.length=m:=⟨_,rfl⟩;rw [hm0];have:r=(m0:Int):=by rw [<- hr,eb (by omega)];omega
 simp [this]
theorem oC (l:List Part) (hl:nL aE l<=2 ^ 40):ak Tryz.prog 39 [.c (.s (l.map Part.row))] (.one (.c (.s (l.map Part.row)) 3)):=by
 refine ak.intro' al Tryz.func39 (by kernel_rfl) rfl rfl rfl (Nat.le_of_ble_eq_true rfl) (λw0 base=>?_);have hle:=eS hl;simp;refine ⟨by omega,λb=>?_⟩
 refine aQ.intro eok (λi:Nat=>i<=l.length) (λi=>⟨23,0,[(4,.v (.int .i64 i)),(3,.sl 112 (some (b,0,l.length)) 3 0 l.length),(0,.ro (l.map Part.row))],
  [(112,.rows (some (b,0,l.length)) 3 (ep Part.row [.v (.int .i64 0),.v (.int .i64 0),.s []] l i) true)]⟩) (λi=>l.length - i) 0 (by simp) (by simp [oq]) (λi hi=>?_)
 by_cases h:i<l.length
 ·simp [h,Part.row]
  refine aa.pure (p4 l[i] (nY hl h)) (by simp [Part.row]) ?_;simp [Part.res,fp hi,h];exact ⟨i+1,by omega,by omega,aA (by omega),jL (f:=Part.row) h⟩
 ·have:i=l.length:=by omega
  subst this;simp [jM,cut]
  try exact λa _=>rfl
theorem pm (a b:List Part) (hl:nL aE a<=2 ^ 40):ak Tryz.prog 50 [.c (.s (a.map Part.row)),.c (.s (b.map Part.row))] (.one (.c (vb (a=b)) 1)):=by
 refine ak.intro' al Tryz.func50 (by kernel_rfl) rfl rfl rfl (Nat.le_of_ble_eq_true rfl) (λw0 base=>?_);have hle:=eS hl;by_cases h:a.length=b.length
 ·simp [h]
  refine aQ.intro eok (λi:Nat=>i<=a.length/\a.take i=b.take i) (λi=>⟨27,0,[(5,.v (.int .i64 i)),(1,.ro (b.map Part.row)),(0,.ro (a.map Part.row))],[]⟩) (λi=>a.length - i) 0 (by simp) (by simp) (λi hi=>?_);by_cases hlt:i<a.length
  ·simp [hlt]
   have hlt':i<b.length:=by omega
   refine ay.quiet eok mix (by kernel_rfl) ?_;simp [hlt,hlt',Part.row];refine ⟨_,_,r9 a[i] b[i] (nY hl hlt),by simp [Part.row],?_⟩;simp;refine Br.mk (λh1=>?_) (λh1=>?_)
   ·simp
    exact ⟨i+1,⟨by omega,ez hlt hlt' hi.2 (eh h1)⟩,by omega,aA (by omega)⟩
   ·simp [bM]
    exact nX hlt hlt' (gb h1)
  ·simp [hlt,eq]
   exact e8 (by omega) (by omega) hi.2
 ·have hz:¬ (a.length:Int)=b.length:=by omega
  simp [hz,bM];exact λh2=>absurd (by rw [h2]) h
theorem oF (l:List Part) (hl:l.length<=9223372036854775807) (hs:∀ y∈l,y.fits) (left:Nat) (hf:left<=2 ^ 20):ak Tryz.prog 26 [.c (.s (l.map Part.row)),.c (vi left)] (.one (.c (vi (szR (nL aE l) left)) 1)):=by
 refine ak.intro' al Tryz.func26 (by kernel_rfl) rfl rfl rfl (Nat.le_of_ble_eq_true rfl) (λw0 base=>?_);have hw:IntKind.i64.wrap ((left:Int) - (l.length:Int))=(left:Int) - l.length:=IntWalk.i64_in _ (by omega);have hn:nL aE l=l.length+gW aE l:=rfl;by_cases h:l.length<=left
 ·obtain ⟨lf,hlf⟩:∃ lf:Nat,left - l.length=lf:=⟨_,rfl⟩
  have hlz:(left:Int) - l.length=(lf:Int):=by omega
  have hw2:IntKind.i64.wrap (lf:Int)=lf:=kz (by omega);simp [hlz,hw2];obtain ⟨r,hr⟩:∃ r,szR (nL aE l) left=r:=⟨_,rfl⟩;have hr0:szR (gW aE l) lf=r:=by rw [<- hr];unfold szR;split<;>split<;>omega
  rw [hr];refine aQ.intro eok (λx:Nat×Nat=>x.1<=l.length/\x.2<=2 ^ 20/\szR (gW aE (l.drop x.1)) x.2=r) (λx=>⟨27,0,[(5,.v (.int .i64 x.1)),(1,.v (.int .i64 x.2)),(0,.ro (l.map Part.row))],[]⟩) (λx=>l.length - x.1) (0,lf) (by simp [hr0];omega) (by simp) ?_
  rintro ⟨i,m⟩ ⟨hi,hm,hx⟩
  simp only at hi hm hx ⊢;by_cases hlt:i<l.length
  ·rw [jn hlt] at hx
   simp [hlt,Part.row];refine aa.pure (qI l[i] (hs _ (List.getElem_mem hlt)) m hm) (by simp [Part.row]) ?_;by_cases hk:aE l[i]<=m
   ·rw [eb hk]
    have hz:¬ ((m - aE l[i]:Nat):Int)<0:=by omega
    simp [hz];refine ⟨i+1,m - aE l[i],⟨by omega,by omega,?_⟩,by omega,aA (by omega),rfl⟩;rw [<- hx];unfold szR;split<;>split<;>omega
   ·rw [cK (show ¬ aE l[i]+gW aE (l.drop (i+1))<=m by omega)] at hx
    rw [cK hk];simp [<- hx]
  ·have:i=l.length:=by omega
   subst this;simp only [List.drop_length,gW,szR,Nat.zero_le,if_true,Nat.sub_zero] at hx;simp [hx]
 ·have hz:(left:Int) - l.length<0:=by omega
  simp [hw,hz,cK (show ¬ nL aE l<=left by omega)]
theorem gT (x:Call) (h:bK x<=2 ^ 40):ak Tryz.prog 9 [.agg x.row] (.one (.agg x.res)):=by
 refine ak.intro' al Tryz.func9 (by kernel_rfl) rfl rfl rfl (Nat.le_of_ble_eq_true rfl) (λw0 base=>?_);unfold bK at h;simp [Call.row,Call.res]
 try intros
 refine aa.pure (oC x.o (by omega)) (by simp) ?_;simp
 try intros
 refine aa.pure (lh x.text (by omega)) (by simp) ?_;simp
 try intros
theorem sa (x y:Call) (h:bK x<=2 ^ 40):ak Tryz.prog 11 [.agg x.row,.agg y.row] (.one (.c (vb (x=y)) 1)):=by
 refine ak.intro' al Tryz.func11 (by kernel_rfl) rfl rfl rfl (Nat.le_of_ble_eq_true rfl) (λw0 base=>?_);unfold bK at h;obtain ⟨a0,a1,a2,a3,a4,a5,a6⟩:=x;obtain ⟨b0,b1,b2,b3,b4,b5,b6⟩:=y;simp only at h;simp [Call.row]
 try intros
 by_cases h0:a0=b0
 rotate_left
 ·simp [h0]
 subst h0
 try simp
 by_cases h1:a1=b1
 rotate_left
 ·simp [h1]
 subst h1
 try simp
 by_cases h2:a2=b2
 rotate_left
 ·simp [h2]
 subst h2
 try simp
 by_cases h3:a3=b3
 rotate_left
 ·simp [h3]
 subst h3
 try simp
 by_cases h4:a4=b4
 rotate_left
 ·simp [h4]
 subst h4
 try simp
 refine aa.pure (pm a5 b5 (by omega)) (by simp) ?_;simp;by_cases h5:a5=b5
 rotate_left
 ·simp [h5]
 subst h5
 try simp
 refine aa.pure (l4 a6 b6 (by omega)) (by simp) ?_;simp;by_cases h6:a6=b6
 rotate_left
 ·simp [h6]
 subst h6
 try simp
theorem qJ (x:Call) (h:x.fits) (left:Nat) (hf:left<=2 ^ 20):ak Tryz.prog 7 [.agg x.row,.c (vi left)] (.one (.c (vi (szR (bK x) left)) 1)):=by
 refine ak.intro' al Tryz.func7 (by kernel_rfl) rfl rfl rfl (Nat.le_of_ble_eq_true rfl) (λw0 base=>?_);obtain ⟨f0,f1,f2,f3,f4,f5,f6⟩:=h;obtain ⟨r,hr⟩:∃ r,szR (bK x) left=r:=⟨_,rfl⟩;rw [hr];have hn:bK x=x.doc.size+(nL aE x.o+(x.text.length)):=rfl;simp [Call.row]
 try intros
 by_cases k0:x.doc.size<=left
 rotate_left
 ·have hw:IntKind.i64.wrap ((left:Int) - (x.doc.size:Int))=(left:Int) - x.doc.size:=IntWalk.i64_in _ (by omega)
  have hz:(left:Int) - x.doc.size<0:=by omega
  have:r = -1:=by rw [<- hr];exact cK (by omega)
  simp [hw,hz,this]
 obtain ⟨m0,hm0⟩:∃ m,left - x.doc.size=m:=⟨_,rfl⟩;have w0:IntKind.i64.wrap ((left:Int) - (x.doc.size:Int))=(m0:Int):=by rw [IntWalk.i64_in _ (by omega)];omega
 simp [w0];refine aa.pure (oF x.o f5.1 f5.2 m0 (by omega)) (by simp) ?_;by_cases k1:nL aE x.o<=m0
 rotate_left
 ·have:r = -1:=by rw [<- hr];exact cK (by omega)
  rw [cK k1];simp [this]
 rw [eb k1];obtain ⟨m1,hm1⟩:∃ m,m0 - nL aE x.o=m:=⟨_,rfl⟩;rw [hm1];simp;refine aa.pure (lj x.text f6.1 m1 (by omega)) (by simp) ?_;by_cases k2:x.text.length<=m1
 rotate_left
 ·have:r = -1:=by rw [<- hr];exact cK (by omega)
  rw [cK k2];simp [this]
 rw [eb k2];obtain ⟨m2,hm2⟩:∃ m,m1 - x.text.length=m:=⟨_,rfl⟩;rw [hm2];have:r=(m2:Int):=by rw [<- hr,eb (by omega)];omega
 simp [this]
open Go.AM Go.ChangeShapes Go.WideShapes Go.ChangeAt Go.RowKit
theorem own:ownKnob Tryz.prog.godebug=none:=by kernel_rfl
theorem laid:laidOutB Tryz.prog=true:=by kernel_rfl
theorem cZ {D:Nat} {ds:List CD} (h:ce Tryz.prog D 3 ds):∃ n:Int,ds=[vi n]/\bv n:=by
 obtain ⟨n,h1,h2⟩:=r4 Tryz.underlying3 h;exact ⟨n,h1,u3 h2⟩
theorem mL:maxLen=9223372036854775807:=rfl
theorem jJ {D:Nat} {ds:List CD} (h:ce Tryz.prog D 23 ds):∃ l:List Int,ds=[.s (l.map aJ)]/\l.length<=9223372036854775807/\∀ n∈l,bv n:=by
 obtain ⟨rows,rfl,h1,D',h2⟩:=im Tryz.underlying23 h;obtain ⟨l,rfl,hl⟩:=hI (f:=aJ) (ok:=bv) rows (λrow hrow=>cZ (h2 row hrow).2);exact ⟨l,rfl,by simpa [mL] using h1,hl⟩
theorem so:Tryz.prog.cellsOf 102=3:=by kernel_rfl
theorem zT {α:Type} {l:List α} (h:l.length=3):∃ x0 x1 x2,l=[x0,x1,x2]:=by
 match l,h with
 | [x0,x1,x2],_=>exact ⟨x0,x1,x2,rfl⟩
theorem sn:Tryz.prog.cellsOf 3=1:=by kernel_rfl
theorem oy:Tryz.prog.cellsOf 23=1:=by kernel_rfl
theorem pj {D:Nat} {ds:List CD} (h:ce Tryz.prog D 102 ds):∃ x:Part,ds=x.row/\x.fits:=by
 obtain ⟨hl,D',hf⟩:=eo Tryz.underlying102 h;rw [so] at hl;obtain ⟨d0,d1,d2,rfl⟩:=zT hl;simp [sn,oy] at hf;obtain ⟨h0,h1,h2⟩:=hf;obtain ⟨n0,e0,k0⟩:=cZ h0;simp at e0;subst e0;obtain ⟨n1,e1,k1⟩:=cZ h1;simp at e1;subst e1;obtain ⟨n2,e2,k2⟩:=jJ h2;simp at e2;subst e2;exact ⟨⟨n0,n1,n2⟩,rfl,k0,k1,k2⟩
theorem m8 {D:Nat} {ds:List CD} (h:ce Tryz.prog D 22 ds):∃ l:List Part,ds=[.s (l.map Part.row)]/\l.length<=9223372036854775807/\∀ y∈l,y.fits:=by
 obtain ⟨rows,rfl,h1,D',h2⟩:=im Tryz.underlying22 h;obtain ⟨l,rfl,hl⟩:=hI (f:=Part.row) (ok:=Part.fits) rows (λrow hrow=>pj (h2 row hrow).2);exact ⟨l,rfl,by simpa [mL] using h1,hl⟩
theorem ox:Tryz.prog.cellsOf 25=7:=by kernel_rfl
theorem zS {α:Type} {l:List α} (h:l.length=7):∃ x0 x1 x2 x3 x4 x5 x6,l=[x0,x1,x2,x3,x4,x5,x6]:=by
 match l,h with
 | [x0,x1,x2,x3,x4,x5,x6],_=>exact ⟨x0,x1,x2,x3,x4,x5,x6,rfl⟩
theorem xH:Tryz.prog.cellsOf 9=1:=by kernel_rfl
theorem uw:Tryz.prog.cellsOf 22=1:=by kernel_rfl
theorem pk {D:Nat} {ds:List CD} (h:ce Tryz.prog D 25 ds):∃ x:Call,ds=x.row/\x.fits:=by
 obtain ⟨hl,D',hf⟩:=eo Tryz.underlying25 h;rw [ox] at hl;obtain ⟨d0,d1,d2,d3,d4,d5,d6,rfl⟩:=zS hl;simp [sn,xH,uw,oy] at hf;obtain ⟨h0,h1,h2,h3,h4,h5,h6⟩:=hf;obtain ⟨n0,e0,k0⟩:=cZ h0;simp at e0;subst e0;obtain ⟨n1,e1,k1⟩:=l0 Tryz.underlying9 h1;simp at e1;subst e1;obtain ⟨n2,e2,k2⟩:=cZ h2;simp at e2;subst e2;obtain ⟨n3,e3,k3⟩:=cZ h3;simp at e3;subst e3;obtain ⟨n4,e4,k4⟩:=cZ h4;simp at e4;subst e4;obtain ⟨n5,e5,k5⟩:=m8 h5;simp at e5;subst e5;obtain ⟨n6,e6,k6⟩:=jJ h6;simp at e6;subst e6;exact ⟨⟨n0,n1,n2,n3,n4,n5,n6⟩,rfl,k0,(by rw [mL] at k1;exact k1),k2,k3,k4,k5,k6⟩
theorem kE {D:Nat} {t:TypeId} {vd:VD} {fs:Array Field} (hu:Tryz.prog.underlying t=some (.struct fs)) (hc:Tryz.prog.cellsOf t≠1) (h:mr Tryz.prog D t vd):∃ ds,vd=.agg ds/\ce Tryz.prog D t ds:=by
 cases vd with
 | c d =>
   have:=(eo hu h).1;exact absurd this.symm hc
 |agg ds=>exact ⟨ds,rfl,h.2⟩
end Go.Proofs.YthckkpphnmmfdaaGreatDoor
