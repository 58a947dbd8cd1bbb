import Derived.Test.YthckkpphnmmfdaaGreatDoorMH
namespace Go.Proofs.YthckkpphnmmfdaaGreatDoor
open Go.AM
set_option maxRecDepth 20000
theorem wh (x y:Part) (h:aL x<=2 ^ 40):az Tryz.prog 93 [.agg x.row,.agg y.row] (.one (.c (vb (x=y)) 1)):=by
 refine az.intro' aq Tryz.func93 (by kernel_rfl) rfl rfl rfl (Nat.le_of_ble_eq_true rfl) (λw0 base=>?_);unfold aL at h;obtain ⟨a0,a1,a2⟩:=x;obtain ⟨b0,b1,b2⟩:=y;simp only at h;simp [Part.row]
 try intros
 by_cases h0:a0=b0
 rotate_left
 ·simp [h0]
 subst h0
 try simp
 by_cases h1:a1=b1
 rotate_left
 ·simp [h1]
 subst h1
 try simp
 refine aa.pure (pD a2 b2 (by omega)) (by simp) ?_;simp;by_cases h2:a2=b2
 rotate_left
 ·simp [h2]
 subst h2
 try simp
theorem s9 (a b:List Part) (hl:nL aL a<=2 ^ 40):az Tryz.prog 50 [.c (.s (a.map Part.row)),.c (.s (b.map Part.row))] (.one (.c (vb (a=b)) 1)):=by
 refine az.intro' aq Tryz.func50 (by kernel_rfl) rfl rfl rfl (Nat.le_of_ble_eq_true rfl) (λw0 base=>?_);have hle:=e6 hl;by_cases h:a.length=b.length
 ·simp [h]
  refine aV.intro eok (λi:Nat=>i<=a.length/\a.take i=b.take i) (λi=>⟨27,0,[(5,.v (.int .i64 i)),(1,.ro (b.map Part.row)),(0,.ro (a.map Part.row))],[]⟩) (λi=>a.length - i) 0 (by simp) (by simp) (λi hi=>?_);by_cases hlt:i<a.length
  ·simp [hlt]
   have hlt':i<b.length:=by omega
   refine aX.quiet eok mix (by kernel_rfl) ?_;simp [hlt,hlt',Part.row];refine ⟨_,_,wh a[i] b[i] (oW hl hlt),by simp [Part.row],?_⟩;simp;refine Br.mk (λh1=>?_) (λh1=>?_)
   ·simp
    exact ⟨i+1,⟨by omega,dR hlt hlt' hi.2 (eZ h1)⟩,by omega,aB (by omega)⟩
   ·simp [bT]
    exact jb hlt hlt' (gT h1)
  ·simp [hlt,ex]
   exact eD (by omega) (by omega) hi.2
 ·have hz:¬ (a.length:Int)=b.length:=by omega
  simp [hz,bT];exact λh2=>absurd (by rw [h2]) h
theorem o6 (l:List Part) (k:Int) (h0:0<=k) (hk:k+ay Part.cnt l<=4611686018427387904) (hl:nL aL l<=2 ^ 40):gn Tryz.prog 62 (.c (.s (l.map Part.row)) 3) k (k+ay Part.cnt l) (.c (.s ((aw Part.mark Part.cnt l k).map Part.row)) 3):=by
 refine gn.intro aq Tryz.func62 (by kernel_rfl) rfl rfl rfl (by decide) (λw0 base=>?_);have hle:=e6 hl;simp;intro H;refine aK eok (λi:Nat=>i<=l.length) (λi=>⟨34,0,[(5,.v (.int .i64 i)),(1,.v (.int .i64 (k+ay Part.cnt (l.take i)))),(0,.ml 0 H 3 l.length)],[(0,.rows H 3 (cL Part.mark Part.cnt Part.row l k i) true)]⟩) (λi=>l.length - i) 0 (by simp) (by simp [o5,ay]) (λi hi=>?_);by_cases h:i<l.length
 ·have hc:=il (cn:=Part.cnt) h
  have hs:=ey (cn:=Part.cnt) h;have hni:=oW hl h;simp only [aL] at hni;obtain ⟨q0,hq0⟩:∃ q,k+((ay Part.cnt (l.take i):Nat):Int)=q:=⟨_,rfl⟩;have hpc:l[i].cnt=2+(l[i].signs.length):=rfl;rw [hq0,<- qA h];have e0:Go.IntKind.i64.wrap q0=q0:=Go.IntWalk.i64_in _ (by omega);obtain ⟨q1,hq1⟩:∃ q,q0+1=q:=⟨_,rfl⟩;have e1:Go.IntKind.i64.wrap q1=q1:=Go.IntWalk.i64_in _ (by omega);obtain ⟨q2,hq2⟩:∃ q,q1+1=q:=⟨_,rfl⟩;have e2:Go.IntKind.i64.wrap q2=q2:=Go.IntWalk.i64_in _ (by omega);obtain ⟨q3,hq3⟩:∃ q,q2+((l[i].signs.length:Nat):Int)=q:=⟨_,rfl⟩;have e3:Go.IntKind.i64.wrap q3=q3:=Go.IntWalk.i64_in _ (by omega);have e:Go.IntKind.i64.wrap ((i:Int)+1)=((i+1:Nat):Int):=aB (by omega)
  refine Ent.open (λ_ h=>h) (k:=0) (i:=i) (j:=2) (k':=902) (sz':=1) (sz:=3) (H:=H) (rows:=((cL Part.mark Part.cnt Part.row l k i).set i l[i].row)) (srows:=l[i].signs.map bb) (row:=l[i].row) (by simp) (by simp [dy,h]) rfl (by simp) (by decide) (by simp [bb]) (by simp) (λH2=>?_);refine Ent.refl ?_;simp [h,dy,Part.row,oG,ku,hq1,e1,hq2,e2];refine aa.mark (kC l[i].signs q2 (by omega) (by omega)) rfl (λ_ h=>h) (by simp) ?_;simp [e,hq3]
  refine tS (k:=0) (i:=i) (j:=2) (k':=902) (sz':=1) (sz:=3) (H:=H) (rows:=(cL Part.mark Part.cnt Part.row l k i).set i [vi q0,vi q1,.h 902 H2 1 l[i].signs.length]) (row:=[vi q0,vi q1,.h 902 H2 1 l[i].signs.length]) (H':=H2) (srows:=(aw dK one l[i].signs q2).map bb) (by simp) (by simp [dy,h]) (by simp [aJ]) (by simp) (by decide) (by simp) ?_;refine Ent.refl ⟨i+1,by omega,by omega,?_⟩;simp [oG,hs,hpc];refine ⟨by omega,?_⟩;refine kz h ?_;rw [hq0];subst hq1 hq2 hq3;rfl
 ·have:i=l.length:=by omega
  subst this;refine Ent.refl ?_;simp [kA,aJ,Part.row]
theorem pm (l:List Part) (k:Int) (h0:0<=k) (hk:k+ay Part.cnt l<=4611686018427387904) (hl:nL aL l<=2 ^ 40):az Tryz.prog 63 [.c (.s ((aw Part.mark Part.cnt l k).map Part.row)),.c (vi k)] (.one (.c (vi (k+ay Part.cnt l)) 1)):=by
 refine az.intro' aq Tryz.func63 (by kernel_rfl) rfl rfl rfl (Nat.le_of_ble_eq_true rfl) (λw0 base=>?_);have hle:=e6 hl;simp;refine aV.intro eok (λi:Nat=>i<=l.length) (λi=>⟨40,0,[(5,.v (.int .i64 i)),(1,.v (.int .i64 (k+ay Part.cnt (l.take i)))),(0,.ro ((aw Part.mark Part.cnt l k).map Part.row))],[]⟩) (λi=>l.length - i) 0 (by simp) (by simp [ay]) (λi hi=>?_);by_cases h:i<l.length
 ·have hc:=il (cn:=Part.cnt) h
  have hs:=ey (cn:=Part.cnt) h;have hni:=oW hl h;simp only [aL] at hni;have hm:=kB (mk:=Part.mark) (cn:=Part.cnt) (k:=k) h;obtain ⟨q0,hq0⟩:∃ q,k+((ay Part.cnt (l.take i):Nat):Int)=q:=⟨_,rfl⟩;have hpc:l[i].cnt=2+(l[i].signs.length):=rfl;rw [hq0] at hm;rw [hq0];have z0:¬ q0<0:=by omega
  have e0:Go.IntKind.i64.wrap q0=q0:=Go.IntWalk.i64_in _ (by omega);obtain ⟨q1,hq1⟩:∃ q,q0+1=q:=⟨_,rfl⟩;have e1:Go.IntKind.i64.wrap q1=q1:=Go.IntWalk.i64_in _ (by omega);have z1:¬ q1<0:=by omega
  obtain ⟨q2,hq2⟩:∃ q,q1+1=q:=⟨_,rfl⟩;have e2:Go.IntKind.i64.wrap q2=q2:=Go.IntWalk.i64_in _ (by omega);have z2:¬ q2<0:=by omega
  obtain ⟨q3,hq3⟩:∃ q,q2+((l[i].signs.length:Nat):Int)=q:=⟨_,rfl⟩;have e3:Go.IntKind.i64.wrap q3=q3:=Go.IntWalk.i64_in _ (by omega);have z3:¬ q3<0:=by omega
  have e:Go.IntKind.i64.wrap ((i:Int)+1)=((i+1:Nat):Int):=aB (by omega);simp [h,aJ,hm,Part.row,Part.mark,hq1,e1,hq2,e2];refine aa.pure (kQ l[i].signs q2 (by omega) (by omega)) (by simp) ?_;simp [hq3,z3];refine ⟨i+1,by omega,by omega,?_⟩;simp [e,hs,hpc];omega
 ·have:i=l.length:=by omega
  subst this;simp [aJ]
theorem pE (x y:Call) (h:bS x<=2 ^ 40):az Tryz.prog 11 [.agg x.row,.agg y.row] (.one (.c (vb (x=y)) 1)):=by
 refine az.intro' aq Tryz.func11 (by kernel_rfl) rfl rfl rfl (Nat.le_of_ble_eq_true rfl) (λw0 base=>?_);unfold bS at h;obtain ⟨a0,a1,a2,a3,a4,a5,a6⟩:=x;obtain ⟨b0,b1,b2,b3,b4,b5,b6⟩:=y;simp only at h;simp [Call.row]
 try intros
 by_cases h0:a0=b0
 rotate_left
 ·simp [h0]
 subst h0
 try simp
 by_cases h1:a1=b1
 rotate_left
 ·simp [h1]
 subst h1
 try simp
 by_cases h2:a2=b2
 rotate_left
 ·simp [h2]
 subst h2
 try simp
 by_cases h3:a3=b3
 rotate_left
 ·simp [h3]
 subst h3
 try simp
 by_cases h4:a4=b4
 rotate_left
 ·simp [h4]
 subst h4
 try simp
 refine aa.pure (s9 a5 b5 (by omega)) (by simp) ?_;simp;by_cases h5:a5=b5
 rotate_left
 ·simp [h5]
 subst h5
 try simp
 refine aa.pure (pD a6 b6 (by omega)) (by simp) ?_;simp;by_cases h6:a6=b6
 rotate_left
 ·simp [h6]
 subst h6
 try simp
theorem qB (x:Call) (k:Int) (h0:0<=k) (hk:k+x.cntT<=4611686018427387904) (hl:bS x<=2 ^ 40):gn Tryz.prog 19 (.agg x.res) k (k+x.cntT) (.agg (x.markT k).res):=by
 refine gn.intro aq Tryz.func19 (by kernel_rfl) rfl rfl rfl (by decide) (λw0 base=>?_);simp only [Call.cntT] at hk;unfold bS at hl;simp [Call.res]
 try intros
 refine aa.mark (o6 x.o (k) (by omega) (by omega) (by omega)) rfl (λ_ h=>h) (by simp) ?_;simp;refine aa.mark (kC x.text (k+((ay Part.cnt x.o:Nat):Int)) (by omega) (by omega)) rfl (λ_ h=>h) (by simp) ?_;simp;simp [Call.markT,Call.cntT,aJ]
 try omega
theorem kR (x:Call) (k:Int) (h0:0<=k) (hk:k+x.cntT<=4611686018427387904) (hl:bS x<=2 ^ 40):az Tryz.prog 20 [.agg (x.markT k).row,.c (vi k)] (.one (.c (vi (k+x.cntT)) 1)):=by
 refine az.intro' aq Tryz.func20 (by kernel_rfl) rfl rfl rfl (Nat.le_of_ble_eq_true rfl) (λw0 base=>?_);simp only [Call.cntT] at hk;unfold bS at hl;simp [Call.row,Call.markT]
 try intros
 refine aa.pure (pm x.o k (by omega) (by omega) (by omega)) (by simp) ?_;obtain ⟨q5,hq5⟩:∃ q,k+((ay Part.cnt x.o:Nat):Int)=q:=⟨_,rfl⟩;rw [hq5];have z5:¬ q5<0:=by omega
 simp [z5];refine aa.pure (kQ x.text q5 (by omega) (by omega)) (by simp) ?_;obtain ⟨q6,hq6⟩:∃ q,q5+((x.text.length:Nat):Int)=q:=⟨_,rfl⟩;rw [hq6];have z6:¬ q6<0:=by omega
 simp [z6]
 try (simp only [Call.cntT];omega)
open Go.AM Go.ChangeShapes Go.WideShapes Go.ChangeAt Go.RowKit
theorem own:ownKnob Tryz.prog.godebug=none:=by kernel_rfl
theorem laid:laidOutB Tryz.prog=true:=by kernel_rfl
theorem mL:maxLen=9223372036854775807:=rfl
end Go.Proofs.YthckkpphnmmfdaaGreatDoor
