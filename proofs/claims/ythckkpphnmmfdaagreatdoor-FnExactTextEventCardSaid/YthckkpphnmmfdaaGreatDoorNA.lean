import Derived.Test.YthckkpphnmmfdaaGreatDoorMH
namespace Go.Proofs.YthckkpphnmmfdaaGreatDoor
open Go.AM
set_option maxRecDepth 20000
theorem u6 (x y:Part) (h:az x<=2 ^ 40):ax Tryz.prog 93 [.agg x.row,.agg y.row] (.one (.c (vb (x=y)) 1)):=by
 refine ax.intro' aq Tryz.func93 (by kernel_rfl) rfl rfl rfl (Nat.le_of_ble_eq_true rfl) (λw0 base=>?_);unfold az at h;obtain ⟨a0,a1,a2⟩:=x;obtain ⟨b0,b1,b2⟩:=y;simp only at h;simp [Part.row]
 try intros
 by_cases h0:a0=b0
 rotate_left
 ·simp [h0]
 subst h0
 try simp
 by_cases h1:a1=b1
 rotate_left
 ·simp [h1]
 subst h1
 try simp
 refine aa.pure (u7 a2 b2 (by omega)) (by simp) ?_;simp;by_cases h2:a2=b2
 rotate_left
 ·simp [h2]
 subst h2
 try simp
theorem r6 (a b:List Part) (hl:nL az a<=2 ^ 40):ax Tryz.prog 50 [.c (.s (a.map Part.row)),.c (.s (b.map Part.row))] (.one (.c (vb (a=b)) 1)):=by
 refine ax.intro' aq Tryz.func50 (by kernel_rfl) rfl rfl rfl (Nat.le_of_ble_eq_true rfl) (λw0 base=>?_);have hle:=fd hl;by_cases h:a.length=b.length
 ·simp [h]
  refine aL.intro eok (λi:Nat=>i<=a.length/\a.take i=b.take i) (λi=>⟨27,0,[(5,.v (.int .i64 i)),(1,.ro (b.map Part.row)),(0,.ro (a.map Part.row))],[]⟩) (λi=>a.length - i) 0 (by simp) (by simp) (λi hi=>?_);by_cases hlt:i<a.length
  ·simp [hlt]
   have hlt':i<b.length:=by omega
   refine aN.quiet eok mix (by kernel_rfl) ?_;simp [hlt,hlt',Part.row];refine ⟨_,_,u6 a[i] b[i] (n7 hl hlt),by simp [Part.row],?_⟩;simp;refine Br.mk (λh1=>?_) (λh1=>?_)
   ·simp
    exact ⟨i+1,⟨by omega,fx hlt hlt' hi.2 (fZ h1)⟩,by omega,au (by omega)⟩
   ·simp [bV]
    exact lU hlt hlt' (jU h1)
  ·simp [hlt,fl]
   exact gj (by omega) (by omega) hi.2
 ·have hz:¬ (a.length:Int)=b.length:=by omega
  simp [hz,bV];exact λh2=>absurd (by rw [h2]) h
theorem oa (l:List Part) (k:Int) (h0:0<=k) (hk:k+ao Part.cnt l<=4611686018427387904) (hl:nL az l<=2 ^ 40):fU Tryz.prog 62 (.c (.s (l.map Part.row)) 3) k (k+ao Part.cnt l) (.c (.s ((am Part.mark Part.cnt l k).map Part.row)) 3):=by
 refine fU.intro aq Tryz.func62 (by kernel_rfl) rfl rfl rfl (by decide) (λw0 base=>?_);have hle:=fd hl;simp;intro H;refine aD eok (λi:Nat=>i<=l.length) (λi=>⟨34,0,[(5,.v (.int .i64 i)),(1,.v (.int .i64 (k+ao Part.cnt (l.take i)))),(0,.ml 0 H 3 l.length)],[(0,.rows H 3 (cq Part.mark Part.cnt Part.row l k i) true)]⟩) (λi=>l.length - i) 0 (by simp) (by simp [n9,ao]) (λi hi=>?_);by_cases h:i<l.length
 ·have hc:=gR (cn:=Part.cnt) h
  have hs:=ed (cn:=Part.cnt) h;have hni:=n7 hl h;simp only [az] at hni;obtain ⟨q0,hq0⟩:∃ q,k+((ao Part.cnt (l.take i):Nat):Int)=q:=⟨_,rfl⟩;have hpc:l[i].cnt=2+(l[i].signs.length):=rfl;rw [hq0,<- pI h];have e0:Go.IntKind.i64.wrap q0=q0:=Go.IntWalk.i64_in _ (by omega);obtain ⟨q1,hq1⟩:∃ q,q0+1=q:=⟨_,rfl⟩;have e1:Go.IntKind.i64.wrap q1=q1:=Go.IntWalk.i64_in _ (by omega);obtain ⟨q2,hq2⟩:∃ q,q1+1=q:=⟨_,rfl⟩;have e2:Go.IntKind.i64.wrap q2=q2:=Go.IntWalk.i64_in _ (by omega);obtain ⟨q3,hq3⟩:∃ q,q2+((l[i].signs.length:Nat):Int)=q:=⟨_,rfl⟩;have e3:Go.IntKind.i64.wrap q3=q3:=Go.IntWalk.i64_in _ (by omega);have e:Go.IntKind.i64.wrap ((i:Int)+1)=((i+1:Nat):Int):=au (by omega)
  refine Ent.open (λ_ h=>h) (k:=0) (i:=i) (j:=2) (k':=902) (sz':=1) (sz:=3) (H:=H) (rows:=((cq Part.mark Part.cnt Part.row l k i).set i l[i].row)) (srows:=l[i].signs.map aU) (row:=l[i].row) (by simp) (by simp [dh,h]) rfl (by simp) (by decide) (by simp [aU]) (by simp) (λH2=>?_);refine Ent.refl ?_;simp [h,dh,Part.row,nR,j3,hq1,e1,hq2,e2];refine aa.mark (pJ l[i].signs q2 (by omega) (by omega)) rfl (λ_ h=>h) (by simp) ?_;simp [e,hq3]
  refine sK (k:=0) (i:=i) (j:=2) (k':=902) (sz':=1) (sz:=3) (H:=H) (rows:=(cq Part.mark Part.cnt Part.row l k i).set i [vi q0,vi q1,.h 902 H2 1 l[i].signs.length]) (row:=[vi q0,vi q1,.h 902 H2 1 l[i].signs.length]) (H':=H2) (srows:=(am dq one l[i].signs q2).map aU) (by simp) (by simp [dh,h]) (by simp [ay]) (by simp) (by decide) (by simp) ?_;refine Ent.refl ⟨i+1,by omega,by omega,?_⟩;simp [nR,hs,hpc];refine ⟨by omega,?_⟩;refine j6 h ?_;rw [hq0];subst hq1 hq2 hq3;rfl
 ·have:i=l.length:=by omega
  subst this;refine Ent.refl ?_;simp [j7,ay,Part.row]
theorem oB (l:List Part) (k:Int) (h0:0<=k) (hk:k+ao Part.cnt l<=4611686018427387904) (hl:nL az l<=2 ^ 40):ax Tryz.prog 63 [.c (.s ((am Part.mark Part.cnt l k).map Part.row)),.c (vi k)] (.one (.c (vi (k+ao Part.cnt l)) 1)):=by
 refine ax.intro' aq Tryz.func63 (by kernel_rfl) rfl rfl rfl (Nat.le_of_ble_eq_true rfl) (λw0 base=>?_);have hle:=fd hl;simp;refine aL.intro eok (λi:Nat=>i<=l.length) (λi=>⟨40,0,[(5,.v (.int .i64 i)),(1,.v (.int .i64 (k+ao Part.cnt (l.take i)))),(0,.ro ((am Part.mark Part.cnt l k).map Part.row))],[]⟩) (λi=>l.length - i) 0 (by simp) (by simp [ao]) (λi hi=>?_);by_cases h:i<l.length
 ·have hc:=gR (cn:=Part.cnt) h
  have hs:=ed (cn:=Part.cnt) h;have hni:=n7 hl h;simp only [az] at hni;have hm:=j8 (mk:=Part.mark) (cn:=Part.cnt) (k:=k) h;obtain ⟨q0,hq0⟩:∃ q,k+((ao Part.cnt (l.take i):Nat):Int)=q:=⟨_,rfl⟩;have hpc:l[i].cnt=2+(l[i].signs.length):=rfl;rw [hq0] at hm;rw [hq0];have z0:¬ q0<0:=by omega
  have e0:Go.IntKind.i64.wrap q0=q0:=Go.IntWalk.i64_in _ (by omega);obtain ⟨q1,hq1⟩:∃ q,q0+1=q:=⟨_,rfl⟩;have e1:Go.IntKind.i64.wrap q1=q1:=Go.IntWalk.i64_in _ (by omega);have z1:¬ q1<0:=by omega
  obtain ⟨q2,hq2⟩:∃ q,q1+1=q:=⟨_,rfl⟩;have e2:Go.IntKind.i64.wrap q2=q2:=Go.IntWalk.i64_in _ (by omega);have z2:¬ q2<0:=by omega
  obtain ⟨q3,hq3⟩:∃ q,q2+((l[i].signs.length:Nat):Int)=q:=⟨_,rfl⟩;have e3:Go.IntKind.i64.wrap q3=q3:=Go.IntWalk.i64_in _ (by omega);have z3:¬ q3<0:=by omega
  have e:Go.IntKind.i64.wrap ((i:Int)+1)=((i+1:Nat):Int):=au (by omega);simp [h,ay,hm,Part.row,Part.mark,hq1,e1,hq2,e2];refine aa.pure (pU l[i].signs q2 (by omega) (by omega)) (by simp) ?_;simp [hq3,z3];refine ⟨i+1,by omega,by omega,?_⟩;simp [e,hs,hpc];omega
 ·have:i=l.length:=by omega
  subst this;simp [ay]
theorem me (x y:Event) (h:bE x<=2 ^ 40):ax Tryz.prog 14 [.agg x.row,.agg y.row] (.one (.c (vb (x=y)) 1)):=by
 refine ax.intro' aq Tryz.func14 (by kernel_rfl) rfl rfl rfl (Nat.le_of_ble_eq_true rfl) (λw0 base=>?_);unfold bE at h;obtain ⟨a0,a1,a2,a3⟩:=x;obtain ⟨b0,b1,b2,b3⟩:=y;simp only at h;simp [Event.row]
 try intros
 by_cases h0:a0=b0
 rotate_left
 ·simp [h0]
 subst h0
 try simp
 by_cases h1:a1=b1
 rotate_left
 ·simp [h1]
 subst h1
 try simp
 by_cases h2:a2=b2
 rotate_left
 ·simp [h2]
 subst h2
 try simp
 refine aa.pure (r6 a3 b3 (by omega)) (by simp) ?_;simp;by_cases h3:a3=b3
 rotate_left
 ·simp [h3]
 subst h3
 try simp
theorem oc (x:Event) (k:Int) (h0:0<=k) (hk:k+x.cntT<=4611686018427387904) (hl:bE x<=2 ^ 40):fU Tryz.prog 15 (.agg x.res) k (k+x.cntT) (.agg (x.markT k).res):=by
 refine fU.intro aq Tryz.func15 (by kernel_rfl) rfl rfl rfl (by decide) (λw0 base=>?_);simp only [Event.cntT] at hk;unfold bE at hl;simp [Event.res]
 try intros
 refine aa.mark (oa x.o (k) (by omega) (by omega) (by omega)) rfl (λ_ h=>h) (by simp) ?_;simp;simp [Event.markT,Event.cntT,ay]
 try omega
theorem iQ (x:Event) (k:Int) (h0:0<=k) (hk:k+x.cntT<=4611686018427387904) (hl:bE x<=2 ^ 40):ax Tryz.prog 16 [.agg (x.markT k).row,.c (vi k)] (.one (.c (vi (k+x.cntT)) 1)):=by
 refine ax.intro' aq Tryz.func16 (by kernel_rfl) rfl rfl rfl (Nat.le_of_ble_eq_true rfl) (λw0 base=>?_);simp only [Event.cntT] at hk;unfold bE at hl;simp [Event.row,Event.markT]
 try intros
 refine aa.pure (oB x.o k (by omega) (by omega) (by omega)) (by simp) ?_;obtain ⟨q3,hq3⟩:∃ q,k+((ao Part.cnt x.o:Nat):Int)=q:=⟨_,rfl⟩;rw [hq3];have z3:¬ q3<0:=by omega
 simp [z3]
 try (simp only [Event.cntT];omega)
open Go.AM Go.ChangeShapes Go.WideShapes Go.ChangeAt Go.RowKit
theorem own:ownKnob Tryz.prog.godebug=none:=by kernel_rfl
theorem laid:laidOutB Tryz.prog=true:=by kernel_rfl
theorem mL:maxLen=9223372036854775807:=rfl
end Go.Proofs.YthckkpphnmmfdaaGreatDoor
