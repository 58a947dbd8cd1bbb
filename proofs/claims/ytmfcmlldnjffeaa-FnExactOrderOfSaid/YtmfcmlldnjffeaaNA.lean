import Derived.Test.YtmfcmlldnjffeaaMH
namespace Go.Proofs.Ytmfcmlldnjffeaa
open Go.AM
set_option maxRecDepth 20000
theorem pG (x:Part) (h:aM x<=2 ^ 40):ae Try.prog 81 [.agg x.row] (.one (.agg x.res)):=by
 refine aa an Try.func81 (by kernel_rfl) rfl rfl rfl (Nat.le_of_ble_eq_true rfl) (λw0 base=>?_);unfold aM at h;simp [Part.row,Part.res]
 try intros
 refine ag.pure (dt x.signs (by omega)) (by simp) ?_;simp
 try intros
theorem rW (x y:Part) (h:aM x<=2 ^ 40):ae Try.prog 85 [.agg x.row,.agg y.row] (.one (.c (vb (x=y)) 1)):=by
 refine aa an Try.func85 (by kernel_rfl) rfl rfl rfl (Nat.le_of_ble_eq_true rfl) (λw0 base=>?_);unfold aM at h;obtain ⟨a0,a1,a2⟩:=x;obtain ⟨b0,b1,b2⟩:=y;simp only at h;simp [Part.row]
 try intros
 by_cases h0:a0=b0
 rotate_left
 ·simp [h0]
 subst h0
 try simp
 by_cases h1:a1=b1
 rotate_left
 ·simp [h1]
 subst h1
 try simp
 refine ag.pure (cj a2 b2 (by omega)) (by simp) ?_;simp;by_cases h2:a2=b2
 rotate_left
 ·simp [h2]
 subst h2
 try simp
theorem qq (x:Part) (h:x.fits) (left:Nat) (hf:left<=2 ^ 20):ae Try.prog 78 [.agg x.row,.c (vi left)] (.one (.c (vi (szR (aM x) left)) 1)):=by
 refine aa an Try.func78 (by kernel_rfl) rfl rfl rfl (Nat.le_of_ble_eq_true rfl) (λw0 base=>?_);obtain ⟨f0,f1,f2⟩:=h;obtain ⟨r,hr⟩:∃ r,szR (aM x) left=r:=⟨_,rfl⟩;rw [hr];have hn:aM x=x.signs.length:=rfl;simp [Part.row]
 try intros
 refine ag.pure (du x.signs f2.1 left (by omega)) (by simp) ?_;by_cases k0:x.signs.length<=left
 rotate_left
 ·have:r = -1:=by rw [<- hr];exact ao (by omega)
  rw [ao k0];simp [this]
 rw [aA k0];obtain ⟨m0,hm0⟩:∃ m,left - x.signs.length=m:=⟨_,rfl⟩;rw [hm0];have:r=(m0:Int):=by rw [<- hr,aA (by omega)];omega
 simp [this]
theorem ja (l:List Part) (hl:nL aM l<=2 ^ 40):ae Try.prog 71 [.c (.s (l.map Part.row))] (.one (.c (.s (l.map Part.row)) 3)):=by
 refine aa an Try.func71 (by kernel_rfl) rfl rfl rfl (Nat.le_of_ble_eq_true rfl) (λw0 base=>?_);have hle:=bi hl;simp;refine ⟨by omega,λb=>?_⟩
 refine az.intro eok (λi:Nat=>i<=l.length) (λi=>⟨23,0,[(4,.v (.int .i64 i)),(3,.sl 112 (some (b,0,l.length)) 3 0 l.length),(0,.ro (l.map Part.row))],
  [(112,.rows (some (b,0,l.length)) 3 (cD Part.row [.v (.int .i64 0),.v (.int .i64 0),.s []] l i) true)]⟩) (λi=>l.length - i) 0 (by simp) (by simp [de]) (λi hi=>?_)
 by_cases h:i<l.length
 ·simp [h,Part.row]
  refine ag.pure (pG l[i] (cm hl h)) (by simp [Part.row]) ?_;simp [Part.res,bg hi,h];exact ⟨i+1,by omega,by omega,ar (by omega),bZ (f:=Part.row) h⟩
 ·have:i=l.length:=by omega
  subst this;simp [b7,cut]
  try exact λa _=>rfl
theorem jt (a b:List Part) (hl:nL aM a<=2 ^ 40):ae Try.prog 76 [.c (.s (a.map Part.row)),.c (.s (b.map Part.row))] (.one (.c (vb (a=b)) 1)):=by
 refine aa an Try.func76 (by kernel_rfl) rfl rfl rfl (Nat.le_of_ble_eq_true rfl) (λw0 base=>?_);have hle:=bi hl;by_cases h:a.length=b.length
 ·simp [h]
  refine az.intro eok (λi:Nat=>i<=a.length/\a.take i=b.take i) (λi=>⟨27,0,[(5,.v (.int .i64 i)),(1,.ro (b.map Part.row)),(0,.ro (a.map Part.row))],[]⟩) (λi=>a.length - i) 0 (by simp) (by simp) (λi hi=>?_);by_cases hlt:i<a.length
  ·simp [hlt]
   have hlt':i<b.length:=by omega
   refine aD.quiet eok mix (by kernel_rfl) ?_;simp [hlt,hlt',Part.row];refine ⟨_,_,rW a[i] b[i] (cm hl hlt),by simp [Part.row],?_⟩;simp;refine Br.mk (λh1=>?_) (λh1=>?_)
   ·simp
    exact ⟨i+1,⟨by omega,bW hlt hlt' hi.2 (ec h1)⟩,by omega,ar (by omega)⟩
   ·simp [cE]
    exact ge hlt hlt' (gd h1)
  ·simp [hlt,en]
   exact cz (by omega) (by omega) hi.2
 ·have hz:¬ (a.length:Int)=b.length:=by omega
  simp [hz,cE];exact λh2=>absurd (by rw [h2]) h
theorem jb (l:List Part) (hl:l.length<=9223372036854775807) (hs:∀ y∈l,y.fits) (left:Nat) (hf:left<=2 ^ 20):ae Try.prog 67 [.c (.s (l.map Part.row)),.c (vi left)] (.one (.c (vi (szR (nL aM l) left)) 1)):=by
 refine aa an Try.func67 (by kernel_rfl) rfl rfl rfl (Nat.le_of_ble_eq_true rfl) (λw0 base=>?_);have hw:IntKind.i64.wrap ((left:Int) - (l.length:Int))=(left:Int) - l.length:=IntWalk.i64_in _ (by omega);have hn:nL aM l=l.length+bz aM l:=rfl;by_cases h:l.length<=left
 ·obtain ⟨lf,hlf⟩:∃ lf:Nat,left - l.length=lf:=⟨_,rfl⟩
  have hlz:(left:Int) - l.length=(lf:Int):=by omega
  have hw2:IntKind.i64.wrap (lf:Int)=lf:=eC (by omega);simp [hlz,hw2];obtain ⟨r,hr⟩:∃ r,szR (nL aM l) left=r:=⟨_,rfl⟩;have hr0:szR (bz aM l) lf=r:=by rw [<- hr];unfold szR;split<;>split<;>omega
  rw [hr];refine az.intro eok (λx:Nat×Nat=>x.1<=l.length/\x.2<=2 ^ 20/\szR (bz aM (l.drop x.1)) x.2=r) (λx=>⟨27,0,[(5,.v (.int .i64 x.1)),(1,.v (.int .i64 x.2)),(0,.ro (l.map Part.row))],[]⟩) (λx=>l.length - x.1) (0,lf) (by simp [hr0];omega) (by simp) ?_
  rintro ⟨i,m⟩ ⟨hi,hm,hx⟩
  simp only at hi hm hx ⊢;by_cases hlt:i<l.length
  ·rw [cq hlt] at hx
   simp [hlt,Part.row];refine ag.pure (qq l[i] (hs _ (List.getElem_mem hlt)) m hm) (by simp [Part.row]) ?_;by_cases hk:aM l[i]<=m
   ·rw [aA hk]
    have hz:¬ ((m - aM l[i]:Nat):Int)<0:=by omega
    simp [hz];refine ⟨i+1,m - aM l[i],⟨by omega,by omega,?_⟩,by omega,ar (by omega),rfl⟩;rw [<- hx];unfold szR;split<;>split<;>omega
   ·rw [ao (show ¬ aM l[i]+bz aM (l.drop (i+1))<=m by omega)] at hx
    rw [ao hk];simp [<- hx]
  ·have:i=l.length:=by omega
   subst this;simp only [List.drop_length,bz,szR,Nat.zero_le,if_true,Nat.sub_zero] at hx;simp [hx]
 ·have hz:(left:Int) - l.length<0:=by omega
  simp [hw,hz,ao (show ¬ nL aM l<=left by omega)]
theorem gh (l:List Part) (k:Int) (h0:0<=k) (hk:k+ak Part.cnt l<=4611686018427387904) (hl:nL aM l<=2 ^ 40):bD Try.prog 47 (.c (.s (l.map Part.row)) 3) k (k+ak Part.cnt l) (.c (.s ((ai Part.mark Part.cnt l k).map Part.row)) 3):=by
 refine bD.intro an Try.func47 (by kernel_rfl) rfl rfl rfl (by decide) (λw0 base=>?_);have hle:=bi hl;simp;intro H;refine am eok (λi:Nat=>i<=l.length) (λi=>⟨34,0,[(5,.v (.int .i64 i)),(1,.v (.int .i64 (k+ak Part.cnt (l.take i)))),(0,.ml 0 H 3 l.length)],[(0,.rows H 3 (ay Part.mark Part.cnt Part.row l k i) true)]⟩) (λi=>l.length - i) 0 (by simp) (by simp [cC,ak]) (λi hi=>?_);by_cases h:i<l.length
 ·have hc:=bu (cn:=Part.cnt) h
  have hs:=aX (cn:=Part.cnt) h;have hni:=cm hl h;simp only [aM] at hni;obtain ⟨q0,hq0⟩:∃ q,k+((ak Part.cnt (l.take i):Nat):Int)=q:=⟨_,rfl⟩;have hpc:l[i].cnt=2+(l[i].signs.length):=rfl;rw [hq0,<- bT h];have e0:Go.IntKind.i64.wrap q0=q0:=Go.IntWalk.i64_in _ (by omega);obtain ⟨q1,hq1⟩:∃ q,q0+1=q:=⟨_,rfl⟩;have e1:Go.IntKind.i64.wrap q1=q1:=Go.IntWalk.i64_in _ (by omega);obtain ⟨q2,hq2⟩:∃ q,q1+1=q:=⟨_,rfl⟩;have e2:Go.IntKind.i64.wrap q2=q2:=Go.IntWalk.i64_in _ (by omega);obtain ⟨q3,hq3⟩:∃ q,q2+((l[i].signs.length:Nat):Int)=q:=⟨_,rfl⟩;have e3:Go.IntKind.i64.wrap q3=q3:=Go.IntWalk.i64_in _ (by omega);have e:Go.IntKind.i64.wrap ((i:Int)+1)=((i+1:Nat):Int):=ar (by omega)
  refine Ent.open (λ_ h=>h) (k:=0) (i:=i) (j:=2) (k':=902) (sz':=1) (sz:=3) (H:=H) (rows:=((ay Part.mark Part.cnt Part.row l k i).set i l[i].row)) (srows:=l[i].signs.map aw) (row:=l[i].row) (by simp) (by simp [ab,h]) rfl (by simp) (by decide) (by simp [aw]) (by simp) (λH2=>?_);refine Ent.refl ?_;simp [h,ab,Part.row,aE,aY,hq1,e1,hq2,e2];refine ag.mark (bU l[i].signs q2 (by omega) (by omega)) rfl (λ_ h=>h) (by simp) ?_;simp [e,hq3]
  refine bo (k:=0) (i:=i) (j:=2) (k':=902) (sz':=1) (sz:=3) (H:=H) (rows:=(ay Part.mark Part.cnt Part.row l k i).set i [vi q0,vi q1,.h 902 H2 1 l[i].signs.length]) (row:=[vi q0,vi q1,.h 902 H2 1 l[i].signs.length]) (H':=H2) (srows:=(ai bq one l[i].signs q2).map aw) (by simp) (by simp [ab,h]) (by simp [aj]) (by simp) (by decide) (by simp) ?_;refine Ent.refl ⟨i+1,by omega,by omega,?_⟩;simp [aE,hs,hpc];refine ⟨by omega,?_⟩;refine bF h ?_;rw [hq0];subst hq1 hq2 hq3;rfl
 ·have:i=l.length:=by omega
  subst this;refine Ent.refl ?_;simp [bG,aj,Part.row]
theorem nI (x:Entry) (h:aB x<=2 ^ 40):ae Try.prog 79 [.agg x.row] (.one (.agg x.res)):=by
 refine aa an Try.func79 (by kernel_rfl) rfl rfl rfl (Nat.le_of_ble_eq_true rfl) (λw0 base=>?_);unfold aB at h;simp [Entry.row,Entry.res]
 try intros
 refine ag.pure (ja x.o (by omega)) (by simp) ?_;simp
 try intros
theorem oS (x y:Entry) (h:aB x<=2 ^ 40):ae Try.prog 83 [.agg x.row,.agg y.row] (.one (.c (vb (x=y)) 1)):=by
 refine aa an Try.func83 (by kernel_rfl) rfl rfl rfl (Nat.le_of_ble_eq_true rfl) (λw0 base=>?_);unfold aB at h;obtain ⟨a0,a1,a2⟩:=x;obtain ⟨b0,b1,b2⟩:=y;simp only at h;simp [Entry.row]
 try intros
 by_cases h0:a0=b0
 rotate_left
 ·simp [h0]
 subst h0
 try simp
 by_cases h1:a1=b1
 rotate_left
 ·simp [h1]
 subst h1
 try simp
 refine ag.pure (jt a2 b2 (by omega)) (by simp) ?_;simp;by_cases h2:a2=b2
 rotate_left
 ·simp [h2]
 subst h2
 try simp
theorem nS (x:Entry) (h:x.fits) (left:Nat) (hf:left<=2 ^ 20):ae Try.prog 77 [.agg x.row,.c (vi left)] (.one (.c (vi (szR (aB x) left)) 1)):=by
 refine aa an Try.func77 (by kernel_rfl) rfl rfl rfl (Nat.le_of_ble_eq_true rfl) (λw0 base=>?_);obtain ⟨f0,f1,f2⟩:=h;obtain ⟨r,hr⟩:∃ r,szR (aB x) left=r:=⟨_,rfl⟩;rw [hr];have hn:aB x=nL aM x.o:=rfl;simp [Entry.row]
 try intros
 refine ag.pure (jb x.o f2.1 f2.2 left (by omega)) (by simp) ?_;by_cases k0:nL aM x.o<=left
 rotate_left
 ·have:r = -1:=by rw [<- hr];exact ao (by omega)
  rw [ao k0];simp [this]
 rw [aA k0];obtain ⟨m0,hm0⟩:∃ m,left - nL aM x.o=m:=⟨_,rfl⟩;rw [hm0];have:r=(m0:Int):=by rw [<- hr,aA (by omega)];omega
 simp [this]
theorem eM (l:List Entry) (hl:nL aB l<=2 ^ 40):ae Try.prog 68 [.c (.s (l.map Entry.row))] (.one (.c (.s (l.map Entry.row)) 3)):=by
 refine aa an Try.func68 (by kernel_rfl) rfl rfl rfl (Nat.le_of_ble_eq_true rfl) (λw0 base=>?_);have hle:=bi hl;simp;refine ⟨by omega,λb=>?_⟩
 refine az.intro eok (λi:Nat=>i<=l.length) (λi=>⟨23,0,[(4,.v (.int .i64 i)),(3,.sl 112 (some (b,0,l.length)) 3 0 l.length),(0,.ro (l.map Entry.row))],
  [(112,.rows (some (b,0,l.length)) 3 (cD Entry.row [.v (.int .i64 0),.v (.int .i64 0),.s []] l i) true)]⟩) (λi=>l.length - i) 0 (by simp) (by simp [de]) (λi hi=>?_)
 by_cases h:i<l.length
 ·simp [h,Entry.row]
  refine ag.pure (nI l[i] (cm hl h)) (by simp [Entry.row]) ?_;simp [Entry.res,bg hi,h];exact ⟨i+1,by omega,by omega,ar (by omega),bZ (f:=Entry.row) h⟩
 ·have:i=l.length:=by omega
  subst this;simp [b7,cut]
  try exact λa _=>rfl
theorem eX (a b:List Entry) (hl:nL aB a<=2 ^ 40):ae Try.prog 73 [.c (.s (a.map Entry.row)),.c (.s (b.map Entry.row))] (.one (.c (vb (a=b)) 1)):=by
 refine aa an Try.func73 (by kernel_rfl) rfl rfl rfl (Nat.le_of_ble_eq_true rfl) (λw0 base=>?_);have hle:=bi hl;by_cases h:a.length=b.length
 ·simp [h]
  refine az.intro eok (λi:Nat=>i<=a.length/\a.take i=b.take i) (λi=>⟨27,0,[(5,.v (.int .i64 i)),(1,.ro (b.map Entry.row)),(0,.ro (a.map Entry.row))],[]⟩) (λi=>a.length - i) 0 (by simp) (by simp) (λi hi=>?_);by_cases hlt:i<a.length
  ·simp [hlt]
   have hlt':i<b.length:=by omega
   refine aD.quiet eok mix (by kernel_rfl) ?_;simp [hlt,hlt',Entry.row];refine ⟨_,_,oS a[i] b[i] (cm hl hlt),by simp [Entry.row],?_⟩;simp;refine Br.mk (λh1=>?_) (λh1=>?_)
   ·simp
    exact ⟨i+1,⟨by omega,bW hlt hlt' hi.2 (ec h1)⟩,by omega,ar (by omega)⟩
   ·simp [cE]
    exact ge hlt hlt' (gd h1)
  ·simp [hlt,en]
   exact cz (by omega) (by omega) hi.2
 ·have hz:¬ (a.length:Int)=b.length:=by omega
  simp [hz,cE];exact λh2=>absurd (by rw [h2]) h
theorem eN (l:List Entry) (hl:l.length<=9223372036854775807) (hs:∀ y∈l,y.fits) (left:Nat) (hf:left<=2 ^ 20):ae Try.prog 64 [.c (.s (l.map Entry.row)),.c (vi left)] (.one (.c (vi (szR (nL aB l) left)) 1)):=by
 refine aa an Try.func64 (by kernel_rfl) rfl rfl rfl (Nat.le_of_ble_eq_true rfl) (λw0 base=>?_);have hw:IntKind.i64.wrap ((left:Int) - (l.length:Int))=(left:Int) - l.length:=IntWalk.i64_in _ (by omega);have hn:nL aB l=l.length+bz aB l:=rfl;by_cases h:l.length<=left
 ·obtain ⟨lf,hlf⟩:∃ lf:Nat,left - l.length=lf:=⟨_,rfl⟩
  have hlz:(left:Int) - l.length=(lf:Int):=by omega
  have hw2:IntKind.i64.wrap (lf:Int)=lf:=eC (by omega);simp [hlz,hw2];obtain ⟨r,hr⟩:∃ r,szR (nL aB l) left=r:=⟨_,rfl⟩;have hr0:szR (bz aB l) lf=r:=by rw [<- hr];unfold szR;split<;>split<;>omega
  rw [hr];refine az.intro eok (λx:Nat×Nat=>x.1<=l.length/\x.2<=2 ^ 20/\szR (bz aB (l.drop x.1)) x.2=r) (λx=>⟨27,0,[(5,.v (.int .i64 x.1)),(1,.v (.int .i64 x.2)),(0,.ro (l.map Entry.row))],[]⟩) (λx=>l.length - x.1) (0,lf) (by simp [hr0];omega) (by simp) ?_
  rintro ⟨i,m⟩ ⟨hi,hm,hx⟩
  simp only at hi hm hx ⊢;by_cases hlt:i<l.length
  ·rw [cq hlt] at hx
   simp [hlt,Entry.row];refine ag.pure (nS l[i] (hs _ (List.getElem_mem hlt)) m hm) (by simp [Entry.row]) ?_;by_cases hk:aB l[i]<=m
   ·rw [aA hk]
    have hz:¬ ((m - aB l[i]:Nat):Int)<0:=by omega
    simp [hz];refine ⟨i+1,m - aB l[i],⟨by omega,by omega,?_⟩,by omega,ar (by omega),rfl⟩;rw [<- hx];unfold szR;split<;>split<;>omega
   ·rw [ao (show ¬ aB l[i]+bz aB (l.drop (i+1))<=m by omega)] at hx
    rw [ao hk];simp [<- hx]
  ·have:i=l.length:=by omega
   subst this;simp only [List.drop_length,bz,szR,Nat.zero_le,if_true,Nat.sub_zero] at hx;simp [hx]
 ·have hz:(left:Int) - l.length<0:=by omega
  simp [hw,hz,ao (show ¬ nL aB l<=left by omega)]
theorem dE (l:List Entry) (k:Int) (h0:0<=k) (hk:k+ak Entry.cnt l<=4611686018427387904) (hl:nL aB l<=2 ^ 40):bD Try.prog 48 (.c (.s (l.map Entry.row)) 3) k (k+ak Entry.cnt l) (.c (.s ((ai Entry.mark Entry.cnt l k).map Entry.row)) 3):=by
 refine bD.intro an Try.func48 (by kernel_rfl) rfl rfl rfl (by decide) (λw0 base=>?_);have hle:=bi hl;simp;intro H;refine am eok (λi:Nat=>i<=l.length) (λi=>⟨34,0,[(5,.v (.int .i64 i)),(1,.v (.int .i64 (k+ak Entry.cnt (l.take i)))),(0,.ml 0 H 3 l.length)],[(0,.rows H 3 (ay Entry.mark Entry.cnt Entry.row l k i) true)]⟩) (λi=>l.length - i) 0 (by simp) (by simp [cC,ak]) (λi hi=>?_);by_cases h:i<l.length
 ·have hc:=bu (cn:=Entry.cnt) h
  have hs:=aX (cn:=Entry.cnt) h;have hni:=cm hl h;simp only [aB] at hni;obtain ⟨q0,hq0⟩:∃ q,k+((ak Entry.cnt (l.take i):Nat):Int)=q:=⟨_,rfl⟩;have hpc:l[i].cnt=2+(ak Part.cnt l[i].o):=rfl;rw [hq0,<- bT h];have e0:Go.IntKind.i64.wrap q0=q0:=Go.IntWalk.i64_in _ (by omega);obtain ⟨q1,hq1⟩:∃ q,q0+1=q:=⟨_,rfl⟩;have e1:Go.IntKind.i64.wrap q1=q1:=Go.IntWalk.i64_in _ (by omega);obtain ⟨q2,hq2⟩:∃ q,q1+1=q:=⟨_,rfl⟩;have e2:Go.IntKind.i64.wrap q2=q2:=Go.IntWalk.i64_in _ (by omega);obtain ⟨q3,hq3⟩:∃ q,q2+((ak Part.cnt l[i].o:Nat):Int)=q:=⟨_,rfl⟩;have e3:Go.IntKind.i64.wrap q3=q3:=Go.IntWalk.i64_in _ (by omega);have e:Go.IntKind.i64.wrap ((i:Int)+1)=((i+1:Nat):Int):=ar (by omega)
  refine Ent.open (λ_ h=>h) (k:=0) (i:=i) (j:=2) (k':=902) (sz':=3) (sz:=3) (H:=H) (rows:=((ay Entry.mark Entry.cnt Entry.row l k i).set i l[i].row)) (srows:=l[i].o.map Part.row) (row:=l[i].row) (by simp) (by simp [ab,h]) rfl (by simp) (by decide) (by simp [Part.row]) (by simp) (λH2=>?_);refine Ent.refl ?_;simp [h,ab,Entry.row,aE,aY,hq1,e1,hq2,e2];refine ag.mark (gh l[i].o q2 (by omega) (by omega) (by omega)) rfl (λ_ h=>h) (by simp) ?_;simp [e,hq3]
  refine bo (k:=0) (i:=i) (j:=2) (k':=902) (sz':=3) (sz:=3) (H:=H) (rows:=(ay Entry.mark Entry.cnt Entry.row l k i).set i [vi q0,vi q1,.h 902 H2 3 l[i].o.length]) (row:=[vi q0,vi q1,.h 902 H2 3 l[i].o.length]) (H':=H2) (srows:=(ai Part.mark Part.cnt l[i].o q2).map Part.row) (by simp) (by simp [ab,h]) (by simp [aj]) (by simp) (by decide) (by simp) ?_;refine Ent.refl ⟨i+1,by omega,by omega,?_⟩;simp [aE,hs,hpc];refine ⟨by omega,?_⟩;refine bF h ?_;rw [hq0];subst hq1 hq2 hq3;rfl
 ·have:i=l.length:=by omega
  subst this;refine Ent.refl ?_;simp [bG,aj,Entry.row]
def el (k:Nat) (out:List UInt8):List UInt8:=if h:k=0 then out else el (k / 10) (UInt8.ofNat (48+k % 10)::out)
termination_by k
decreasing_by omega
theorem go {out:List UInt8}:el 0 out=out:=by rw [el];simp
theorem ij {k:Nat} {out:List UInt8} (h:k≠0):el k out=el (k / 10) (UInt8.ofNat (48+k % 10)::out):=by rw [el];simp [h]
theorem rZ:∀ (k:Nat) (out:List UInt8),0<k->el k out=oT k++out:=by
 intro k
 induction k using Nat.strongRecOn with
 | _ k ih =>
   intro out hk;rw [ij (by omega),oT];by_cases h:k<10
   ·rw [show k / 10=0 by omega,go]
    simp [h,Nat.mod_eq_of_lt h]
   ·rw [ih (k / 10) (by omega) _ (by omega)]
    simp [h]
theorem fB (a b:List UInt8):(⟨a.toArray⟩++⟨b.toArray⟩:ByteArray)=⟨(a++b).toArray⟩:=by
 apply ByteArray.ext
 rw [ByteArray.data_append];simp
theorem n8 {n:Nat} (h:10 ^ n<=4611686018427387904):n<=18:=by
 rcases Nat.lt_or_ge 18 n with hn|hn
 ·have:=Nat.pow_le_pow_right (n:=10) (by omega) (show 19<=n from hn)
  omega
 ·exact hn
theorem dD (k:Int) (h0:0<=k) (hk:k<=4611686018427387904):ae Try.prog 46 [.c (vi k)] (.one (.c (.v (.string (markT k))) 1)):=by
 refine pci an Try.func46 (λw0 base=>?_);obtain ⟨n,rfl⟩:∃ n:Nat,k=n:=⟨k.toNat,by omega⟩;by_cases hz:n=0
 ·subst hz
  have e:markT 0=⟨#[109,48]⟩:=by unfold markT;rw [oT];simp
  simp [e]
 have hz':¬ (n:Int)<=0:=by omega
 simp [hz];refine az.intro eok (λx:Nat×List UInt8=>el x.1 x.2=oT n/\x.2.length<=19/\x.1*10 ^ x.2.length<=4611686018427387904) (λx=>⟨20,0,[(0,.v (.int .i64 x.1)),(3,.v (.string ⟨x.2.toArray⟩))],[]⟩) (λx=>x.1) (n,[]) ⟨by rw [rZ n [] (by omega)];simp,by simp,by simp;omega⟩ (by simp) (λx hi=>?_);obtain ⟨m,out⟩:=x;obtain ⟨hi,hl,hp⟩:=hi;simp only at hi hl hp ⊢;by_cases hm:m=0
 ·subst hm
  rw [go] at hi
  have hs:(⟨#[109]⟩++⟨out.toArray⟩:ByteArray)=markT n:=by
   rw [show (⟨#[109]⟩:ByteArray)=⟨[109].toArray⟩ from rfl,fB,hi];rfl
  have hsz:(⟨out.toArray⟩:ByteArray).size=out.length:=by simp [ByteArray.size]
  have hs1:(⟨#[109]⟩:ByteArray).size=1:=rfl;simp [hs,hsz,hs1];omega
 ·have hm':0<m:=by omega
  have hpow:10 ^ out.length<=4611686018427387904:=Nat.le_trans (Nat.le_mul_of_pos_left _ hm') hp;have hlen:=n8 hpow;have hmN:m<=4611686018427387904:=Nat.le_trans (Nat.le_mul_of_pos_right _ (Nat.pow_pos (by omega))) hp;have e2:Go.IntKind.i64.wrap (48+(m:Int) % 10)=48+(m:Int) % 10:=Go.IntWalk.i64_in _ (by omega);have e3:Go.IntKind.u8.wrap (48+(m:Int) % 10)=48+(m:Int) % 10:=Go.IntWalk.u8_in _ (by omega);have e4:Go.IntKind.i64.wrap ((m:Int) / 10)=((m / 10:Nat):Int):=by rw [Go.IntWalk.i64_in _ (by omega)];omega
  rw [ij hm] at hi;have hb:((UInt8.ofNat (48+m % 10)).toNat:Int)=48+(m:Int) % 10:=by simp;omega
  have hsz:(⟨out.toArray⟩:ByteArray).size=out.length:=by simp [ByteArray.size]
  simp [hm',e4];refine ⟨[UInt8.ofNat (48+m % 10)],by simp only [List.map_cons,List.map_nil,bv,hb];rw [Int.tmod_eq_emod_of_nonneg (by omega),e2,e3],?_,m / 10,UInt8.ofNat (48+m % 10)::out,⟨hi,by simp;omega,?_⟩,by omega,by first|exact e4|omega|(rw [Int.tdiv_eq_ediv_of_nonneg (by omega)];exact e4),?_⟩
  ·rw [hsz];show 1+out.length<=_;omega
  ·rw [List.length_cons,Nat.pow_succ]
   have h1:m / 10*10<=m:=Nat.div_mul_le_self m 10;have h2:=Nat.mul_le_mul_right (10 ^ out.length) h1;have h3:m / 10*(10 ^ out.length*10)=m / 10*10*10 ^ out.length:=by rw [Nat.mul_assoc,Nat.mul_comm 10]
   omega
  ·rw [fB];rfl
theorem pE (x:Seen):ae Try.prog 80 [.agg x.row] (.one (.agg x.res)):=by
 refine aa an Try.func80 (by kernel_rfl) rfl rfl rfl (Nat.le_of_ble_eq_true rfl) (λw0 base=>?_);simp [Seen.row,Seen.res]
 try intros
theorem rU (x y:Seen):ae Try.prog 84 [.agg x.row,.agg y.row] (.one (.c (vb (x=y)) 1)):=by
 refine aa an Try.func84 (by kernel_rfl) rfl rfl rfl (Nat.le_of_ble_eq_true rfl) (λw0 base=>?_);obtain ⟨a0,a1,a2⟩:=x;obtain ⟨b0,b1,b2⟩:=y;simp [Seen.row]
 try intros
 by_cases h0:a0=b0
 rotate_left
 ·simp [h0]
 subst h0
 try simp
 by_cases h1:a1=b1
 rotate_left
 ·simp [h1]
 subst h1
 try simp
 by_cases h2:a2=b2
 rotate_left
 ·simp [h2]
 subst h2
 try simp
theorem nG (l:List Seen) (hl:l.length<=2 ^ 40):ae Try.prog 69 [.c (.s (l.map Seen.row))] (.one (.c (.s (l.map Seen.row)) 3)):=by
 refine aa an Try.func69 (by kernel_rfl) rfl rfl rfl (Nat.le_of_ble_eq_true rfl) (λw0 base=>?_);simp;refine ⟨by omega,λb=>?_⟩
 refine az.intro eok (λi:Nat=>i<=l.length) (λi=>⟨23,0,[(4,.v (.int .i64 i)),(3,.sl 112 (some (b,0,l.length)) 3 0 l.length),(0,.ro (l.map Seen.row))],
  [(112,.rows (some (b,0,l.length)) 3 (cD Seen.row [.v (.int .i64 0),.v (.int .i64 0),.v (.int .i64 0)] l i) true)]⟩) (λi=>l.length - i) 0 (by simp) (by simp [de]) (λi hi=>?_)
 by_cases h:i<l.length
 ·simp [h,Seen.row]
  refine ag.pure (pE l[i]) (by simp [Seen.row]) ?_;simp [Seen.res,bg hi,h];exact ⟨i+1,by omega,by omega,ar (by omega),bZ (f:=Seen.row) h⟩
 ·have:i=l.length:=by omega
  subst this;simp [b7,cut]
  try exact λa _=>rfl
theorem oQ (a b:List Seen) (hl:a.length<=2 ^ 40):ae Try.prog 74 [.c (.s (a.map Seen.row)),.c (.s (b.map Seen.row))] (.one (.c (vb (a=b)) 1)):=by
 refine aa an Try.func74 (by kernel_rfl) rfl rfl rfl (Nat.le_of_ble_eq_true rfl) (λw0 base=>?_);by_cases h:a.length=b.length
 ·simp [h]
  refine az.intro eok (λi:Nat=>i<=a.length/\a.take i=b.take i) (λi=>⟨27,0,[(5,.v (.int .i64 i)),(1,.ro (b.map Seen.row)),(0,.ro (a.map Seen.row))],[]⟩) (λi=>a.length - i) 0 (by simp) (by simp) (λi hi=>?_);by_cases hlt:i<a.length
  ·simp [hlt]
   have hlt':i<b.length:=by omega
   refine aD.quiet eok mix (by kernel_rfl) ?_;simp [hlt,hlt',Seen.row];refine ⟨_,_,rU a[i] b[i],by simp [Seen.row],?_⟩;simp;refine Br.mk (λh1=>?_) (λh1=>?_)
   ·simp
    exact ⟨i+1,⟨by omega,bW hlt hlt' hi.2 (ec h1)⟩,by omega,ar (by omega)⟩
   ·simp [cE]
    exact ge hlt hlt' (gd h1)
  ·simp [hlt,en]
   exact cz (by omega) (by omega) hi.2
 ·have hz:¬ (a.length:Int)=b.length:=by omega
  simp [hz,cE];exact λh2=>absurd (by rw [h2]) h
theorem nO (l:List Seen) (hl:l.length<=9223372036854775807) (left:Nat) (hf:left<=2 ^ 20):ae Try.prog 65 [.c (.s (l.map Seen.row)),.c (vi left)] (.one (.c (vi (szR l.length left)) 1)):=by
 refine aa an Try.func65 (by kernel_rfl) rfl rfl rfl (Nat.le_of_ble_eq_true rfl) (λw0 base=>?_);have hw:IntKind.i64.wrap ((left:Int) - (l.length:Int))=(left:Int) - l.length:=IntWalk.i64_in _ (by omega);simp [hw];by_cases h:l.length<=left
 ·have hz:¬ (left:Int) - l.length<0:=by omega
  simp [hz,aA h];omega
 ·have hz:(left:Int) - l.length<0:=by omega
  simp [hz,ao h]
theorem kJ (l:List Seen) (k:Int) (h0:0<=k) (hk:k+ak Seen.cnt l<=4611686018427387904) (hl:l.length<=2 ^ 40):bD Try.prog 63 (.c (.s (l.map Seen.row)) 3) k (k+ak Seen.cnt l) (.c (.s ((ai Seen.mark Seen.cnt l k).map Seen.row)) 3):=by
 refine bD.intro an Try.func63 (by kernel_rfl) rfl rfl rfl (by decide) (λw0 base=>?_);simp;intro H;refine am eok (λi:Nat=>i<=l.length) (λi=>⟨34,0,[(5,.v (.int .i64 i)),(1,.v (.int .i64 (k+ak Seen.cnt (l.take i)))),(0,.ml 0 H 3 l.length)],[(0,.rows H 3 (ay Seen.mark Seen.cnt Seen.row l k i) true)]⟩) (λi=>l.length - i) 0 (by simp) (by simp [cC,ak]) (λi hi=>?_);by_cases h:i<l.length
 ·have hc:=bu (cn:=Seen.cnt) h
  have hs:=aX (cn:=Seen.cnt) h;obtain ⟨q0,hq0⟩:∃ q,k+((ak Seen.cnt (l.take i):Nat):Int)=q:=⟨_,rfl⟩;have hpc:l[i].cnt=3:=rfl;rw [hq0,<- bT h];have e0:Go.IntKind.i64.wrap q0=q0:=Go.IntWalk.i64_in _ (by omega);obtain ⟨q1,hq1⟩:∃ q,q0+1=q:=⟨_,rfl⟩;have e1:Go.IntKind.i64.wrap q1=q1:=Go.IntWalk.i64_in _ (by omega);obtain ⟨q2,hq2⟩:∃ q,q1+1=q:=⟨_,rfl⟩;have e2:Go.IntKind.i64.wrap q2=q2:=Go.IntWalk.i64_in _ (by omega);obtain ⟨q3,hq3⟩:∃ q,q2+1=q:=⟨_,rfl⟩;have e3:Go.IntKind.i64.wrap q3=q3:=Go.IntWalk.i64_in _ (by omega);have e:Go.IntKind.i64.wrap ((i:Int)+1)=((i+1:Nat):Int):=ar (by omega);refine Ent.refl ?_;simp [h,ab,Seen.row,aY,hq1,e1,hq2,e2,hq3,e3];refine Ent.refl ⟨i+1,by omega,by omega,?_⟩;simp [hs,hpc,e]
  refine ⟨by omega,?_⟩;refine bF h ?_;rw [hq0];subst hq1 hq2 hq3;rfl
 ·have:i=l.length:=by omega
  subst this;refine Ent.refl ?_;simp [bG,aj,Seen.row]
theorem s9 (x:Doc) (h:bJ x<=2 ^ 40):ae Try.prog 53 [.agg x.row] (.one (.agg x.res)):=by
 refine aa an Try.func53 (by kernel_rfl) rfl rfl rfl (Nat.le_of_ble_eq_true rfl) (λw0 base=>?_);unfold bJ at h;simp [Doc.row,Doc.res]
 try intros
 refine ag.pure (dt x.text (by omega)) (by simp) ?_;simp
 try intros
 refine ag.pure (eM x.list (by omega)) (by simp) ?_;simp
 try intros
 refine ag.pure (nG x.seen (by omega)) (by simp) ?_;simp
 try intros
theorem ut (x y:Doc) (h:bJ x<=2 ^ 40):ae Try.prog 59 [.agg x.row,.agg y.row] (.one (.c (vb (x=y)) 1)):=by
 refine aa an Try.func59 (by kernel_rfl) rfl rfl rfl (Nat.le_of_ble_eq_true rfl) (λw0 base=>?_);unfold bJ at h;obtain ⟨a0,a1,a2,a3,a4⟩:=x;obtain ⟨b0,b1,b2,b3,b4⟩:=y;simp only at h;simp [Doc.row]
 try intros
 by_cases h0:a0=b0
 rotate_left
 ·simp [h0]
 subst h0
 try simp
 by_cases h1:a1=b1
 rotate_left
 ·simp [h1]
 subst h1
 try simp
 refine ag.pure (cj a2 b2 (by omega)) (by simp) ?_;simp;by_cases h2:a2=b2
 rotate_left
 ·simp [h2]
 subst h2
 try simp
 refine ag.pure (eX a3 b3 (by omega)) (by simp) ?_;simp;by_cases h3:a3=b3
 rotate_left
 ·simp [h3]
 subst h3
 try simp
 refine ag.pure (oQ a4 b4 (by omega)) (by simp) ?_;simp;by_cases h4:a4=b4
 rotate_left
 ·simp [h4]
 subst h4
 try simp
theorem td (x:Doc) (h:x.fits) (left:Nat) (hf:left<=2 ^ 20):ae Try.prog 49 [.agg x.row,.c (vi left)] (.one (.c (vi (szR (bJ x) left)) 1)):=by
 refine aa an Try.func49 (by kernel_rfl) rfl rfl rfl (Nat.le_of_ble_eq_true rfl) (λw0 base=>?_);obtain ⟨f0,f1,f2,f3,f4⟩:=h;obtain ⟨r,hr⟩:∃ r,szR (bJ x) left=r:=⟨_,rfl⟩;rw [hr];have hn:bJ x=x.name.size+(x.text.length+(nL aB x.list+(x.seen.length))):=rfl;simp [Doc.row]
 try intros
 by_cases k0:x.name.size<=left
 rotate_left
 ·have hw:IntKind.i64.wrap ((left:Int) - (x.name.size:Int))=(left:Int) - x.name.size:=IntWalk.i64_in _ (by omega)
  have hz:(left:Int) - x.name.size<0:=by omega
  have:r = -1:=by rw [<- hr];exact ao (by omega)
  simp [hw,hz,this]
 obtain ⟨m0,hm0⟩:∃ m,left - x.name.size=m:=⟨_,rfl⟩;have w0:IntKind.i64.wrap ((left:Int) - (x.name.size:Int))=(m0:Int):=by rw [IntWalk.i64_in _ (by omega)];omega
 simp [w0];refine ag.pure (du x.text f2.1 m0 (by omega)) (by simp) ?_;by_cases k1:x.text.length<=m0
 rotate_left
 ·have:r = -1:=by rw [<- hr];exact ao (by omega)
  rw [ao k1];simp [this]
 rw [aA k1];obtain ⟨m1,hm1⟩:∃ m,m0 - x.text.length=m:=⟨_,rfl⟩;rw [hm1];simp;refine ag.pure (eN x.list f3.1 f3.2 m1 (by omega)) (by simp) ?_;by_cases k2:nL aB x.list<=m1
 rotate_left
 ·have:r = -1:=by rw [<- hr];exact ao (by omega)
  rw [ao k2];simp [this]
 rw [aA k2];obtain ⟨m2,hm2⟩:∃ m,m1 - nL aB x.list=m:=⟨_,rfl⟩;rw [hm2];simp;refine ag.pure (nO x.seen f4.1 m2 (by omega)) (by simp) ?_;by_cases k3:x.seen.length<=m2
 rotate_left
 ·have:r = -1:=by rw [<- hr];exact ao (by omega)
  rw [ao k3];simp [this]
 rw [aA k3];obtain ⟨m3,hm3⟩:∃ m,m2 - x.seen.length=m:=⟨_,rfl⟩;rw [hm3];have:r=(m3:Int):=by rw [<- hr,aA (by omega)];omega
 simp [this]
theorem pH (l:List Doc) (hl:nL bJ l<=2 ^ 40):ae Try.prog 34 [.c (.s (l.map Doc.row))] (.one (.c (.s (l.map Doc.row)) 5)):=by
 refine aa an Try.func34 (by kernel_rfl) rfl rfl rfl (Nat.le_of_ble_eq_true rfl) (λw0 base=>?_);have hle:=bi hl;simp;refine ⟨by omega,λb=>?_⟩
 refine az.intro eok (λi:Nat=>i<=l.length) (λi=>⟨23,0,[(4,.v (.int .i64 i)),(3,.sl 112 (some (b,0,l.length)) 5 0 l.length),(0,.ro (l.map Doc.row))],
  [(112,.rows (some (b,0,l.length)) 5 (cD Doc.row [.v (.string ⟨#[]⟩),.v (.int .i64 0),.s [],.s [],.s []] l i) true)]⟩) (λi=>l.length - i) 0 (by simp) (by simp [de]) (λi hi=>?_)
 by_cases h:i<l.length
 ·simp [h,Doc.row]
  refine ag.pure (s9 l[i] (cm hl h)) (by simp [Doc.row]) ?_;simp [Doc.res,bg hi,h];exact ⟨i+1,by omega,by omega,ar (by omega),bZ (f:=Doc.row) h⟩
 ·have:i=l.length:=by omega
  subst this;simp [b7,cut]
  try exact λa _=>rfl
theorem rX (a b:List Doc) (hl:nL bJ a<=2 ^ 40):ae Try.prog 40 [.c (.s (a.map Doc.row)),.c (.s (b.map Doc.row))] (.one (.c (vb (a=b)) 1)):=by
 refine aa an Try.func40 (by kernel_rfl) rfl rfl rfl (Nat.le_of_ble_eq_true rfl) (λw0 base=>?_);have hle:=bi hl;by_cases h:a.length=b.length
 ·simp [h]
  refine az.intro eok (λi:Nat=>i<=a.length/\a.take i=b.take i) (λi=>⟨27,0,[(5,.v (.int .i64 i)),(1,.ro (b.map Doc.row)),(0,.ro (a.map Doc.row))],[]⟩) (λi=>a.length - i) 0 (by simp) (by simp) (λi hi=>?_);by_cases hlt:i<a.length
  ·simp [hlt]
   have hlt':i<b.length:=by omega
   refine aD.quiet eok mix (by kernel_rfl) ?_;simp [hlt,hlt',Doc.row];refine ⟨_,_,ut a[i] b[i] (cm hl hlt),by simp [Doc.row],?_⟩;simp;refine Br.mk (λh1=>?_) (λh1=>?_)
   ·simp
    exact ⟨i+1,⟨by omega,bW hlt hlt' hi.2 (ec h1)⟩,by omega,ar (by omega)⟩
   ·simp [cE]
    exact ge hlt hlt' (gd h1)
  ·simp [hlt,en]
   exact cz (by omega) (by omega) hi.2
 ·have hz:¬ (a.length:Int)=b.length:=by omega
  simp [hz,cE];exact λh2=>absurd (by rw [h2]) h
theorem qr (l:List Doc) (hl:l.length<=9223372036854775807) (hs:∀ y∈l,y.fits) (left:Nat) (hf:left<=2 ^ 20):ae Try.prog 30 [.c (.s (l.map Doc.row)),.c (vi left)] (.one (.c (vi (szR (nL bJ l) left)) 1)):=by
 refine aa an Try.func30 (by kernel_rfl) rfl rfl rfl (Nat.le_of_ble_eq_true rfl) (λw0 base=>?_);have hw:IntKind.i64.wrap ((left:Int) - (l.length:Int))=(left:Int) - l.length:=IntWalk.i64_in _ (by omega);have hn:nL bJ l=l.length+bz bJ l:=rfl;by_cases h:l.length<=left
 ·obtain ⟨lf,hlf⟩:∃ lf:Nat,left - l.length=lf:=⟨_,rfl⟩
  have hlz:(left:Int) - l.length=(lf:Int):=by omega
  have hw2:IntKind.i64.wrap (lf:Int)=lf:=eC (by omega);simp [hlz,hw2];obtain ⟨r,hr⟩:∃ r,szR (nL bJ l) left=r:=⟨_,rfl⟩;have hr0:szR (bz bJ l) lf=r:=by rw [<- hr];unfold szR;split<;>split<;>omega
  rw [hr];refine az.intro eok (λx:Nat×Nat=>x.1<=l.length/\x.2<=2 ^ 20/\szR (bz bJ (l.drop x.1)) x.2=r) (λx=>⟨27,0,[(5,.v (.int .i64 x.1)),(1,.v (.int .i64 x.2)),(0,.ro (l.map Doc.row))],[]⟩) (λx=>l.length - x.1) (0,lf) (by simp [hr0];omega) (by simp) ?_
  rintro ⟨i,m⟩ ⟨hi,hm,hx⟩
  simp only at hi hm hx ⊢;by_cases hlt:i<l.length
  ·rw [cq hlt] at hx
   simp [hlt,Doc.row];refine ag.pure (td l[i] (hs _ (List.getElem_mem hlt)) m hm) (by simp [Doc.row]) ?_;by_cases hk:bJ l[i]<=m
   ·rw [aA hk]
    have hz:¬ ((m - bJ l[i]:Nat):Int)<0:=by omega
    simp [hz];refine ⟨i+1,m - bJ l[i],⟨by omega,by omega,?_⟩,by omega,ar (by omega),rfl⟩;rw [<- hx];unfold szR;split<;>split<;>omega
   ·rw [ao (show ¬ bJ l[i]+bz bJ (l.drop (i+1))<=m by omega)] at hx
    rw [ao hk];simp [<- hx]
  ·have:i=l.length:=by omega
   subst this;simp only [List.drop_length,bz,szR,Nat.zero_le,if_true,Nat.sub_zero] at hx;simp [hx]
 ·have hz:(left:Int) - l.length<0:=by omega
  simp [hw,hz,ao (show ¬ nL bJ l<=left by omega)]
theorem l4 (l:List Doc) (k:Int) (h0:0<=k) (hk:k+ak Doc.cnt l<=4611686018427387904) (hl:nL bJ l<=2 ^ 40):bD Try.prog 44 (.c (.s (l.map Doc.row)) 5) k (k+ak Doc.cnt l) (.c (.s ((ai Doc.mark Doc.cnt l k).map Doc.row)) 5):=by
 refine bD.intro an Try.func44 (by kernel_rfl) rfl rfl rfl (by decide) (λw0 base=>?_);have hle:=bi hl;simp;intro H;refine am eok (λi:Nat=>i<=l.length) (λi=>⟨49,0,[(5,.v (.int .i64 i)),(1,.v (.int .i64 (k+ak Doc.cnt (l.take i)))),(0,.ml 0 H 5 l.length)],[(0,.rows H 5 (ay Doc.mark Doc.cnt Doc.row l k i) true)]⟩) (λi=>l.length - i) 0 (by simp) (by simp [cC,ak]) (λi hi=>?_);by_cases h:i<l.length
 ·have hc:=bu (cn:=Doc.cnt) h
  have hs:=aX (cn:=Doc.cnt) h;have hni:=cm hl h;simp only [bJ] at hni;obtain ⟨q0,hq0⟩:∃ q,k+((ak Doc.cnt (l.take i):Nat):Int)=q:=⟨_,rfl⟩;have hpc:l[i].cnt=2+(l[i].text.length+(ak Entry.cnt l[i].list+(ak Seen.cnt l[i].seen))):=rfl;rw [hq0,<- bT h];have e0:Go.IntKind.i64.wrap q0=q0:=Go.IntWalk.i64_in _ (by omega);obtain ⟨q1,hq1⟩:∃ q,q0+1=q:=⟨_,rfl⟩;have e1:Go.IntKind.i64.wrap q1=q1:=Go.IntWalk.i64_in _ (by omega);obtain ⟨q2,hq2⟩:∃ q,q1+1=q:=⟨_,rfl⟩;have e2:Go.IntKind.i64.wrap q2=q2:=Go.IntWalk.i64_in _ (by omega);obtain ⟨q3,hq3⟩:∃ q,q2+((l[i].text.length:Nat):Int)=q:=⟨_,rfl⟩;have e3:Go.IntKind.i64.wrap q3=q3:=Go.IntWalk.i64_in _ (by omega);obtain ⟨q4,hq4⟩:∃ q,q3+((ak Entry.cnt l[i].list:Nat):Int)=q:=⟨_,rfl⟩
  have e4:Go.IntKind.i64.wrap q4=q4:=Go.IntWalk.i64_in _ (by omega);obtain ⟨q5,hq5⟩:∃ q,q4+((ak Seen.cnt l[i].seen:Nat):Int)=q:=⟨_,rfl⟩;have e5:Go.IntKind.i64.wrap q5=q5:=Go.IntWalk.i64_in _ (by omega);have e:Go.IntKind.i64.wrap ((i:Int)+1)=((i+1:Nat):Int):=ar (by omega);refine Ent.open (λ_ h=>h) (k:=0) (i:=i) (j:=2) (k':=902) (sz':=1) (sz:=5) (H:=H) (rows:=((ay Doc.mark Doc.cnt Doc.row l k i).set i l[i].row)) (srows:=l[i].text.map aw) (row:=l[i].row) (by simp) (by simp [ab,h]) rfl (by simp) (by decide) (by simp [aw]) (by simp) (λH2=>?_)
  refine Ent.open (λ_ h=>h) (k:=0) (i:=i) (j:=3) (k':=903) (sz':=3) (sz:=5) (H:=H) (rows:=((ay Doc.mark Doc.cnt Doc.row l k i).set i [.v (.string l[i].name),vi l[i].fr,.h 902 H2 1 l[i].text.length,.s (l[i].list.map Entry.row),.s (l[i].seen.map Seen.row)])) (srows:=l[i].list.map Entry.row) (row:=[.v (.string l[i].name),vi l[i].fr,.h 902 H2 1 l[i].text.length,.s (l[i].list.map Entry.row),.s (l[i].seen.map Seen.row)]) (by simp [aE,Doc.row]) (by simp [ab,h]) rfl (by simp) (by decide) (by simp [Entry.row]) (by simp) (λH3=>?_)
  refine Ent.open (λ_ h=>h) (k:=0) (i:=i) (j:=4) (k':=904) (sz':=3) (sz:=5) (H:=H) (rows:=((ay Doc.mark Doc.cnt Doc.row l k i).set i [.v (.string l[i].name),vi l[i].fr,.h 902 H2 1 l[i].text.length,.h 903 H3 3 l[i].list.length,.s (l[i].seen.map Seen.row)])) (srows:=l[i].seen.map Seen.row) (row:=[.v (.string l[i].name),vi l[i].fr,.h 902 H2 1 l[i].text.length,.h 903 H3 3 l[i].list.length,.s (l[i].seen.map Seen.row)]) (by simp [aE,Doc.row]) (by simp [ab,h]) rfl (by simp) (by decide) (by simp [Seen.row]) (by simp) (λH4=>?_);refine Ent.refl ?_;simp [h,Doc.row,aE];refine ag.pure (dD q0 (by omega) (by omega)) (by simp) ?_;simp [h,ab,aY,hq1,e1,hq2,e2];refine ag.mark (bU l[i].text q2 (by omega) (by omega)) rfl (λ_ h=>h) (by simp) ?_;simp [h,ab,hq3]
  refine ag.mark (dE l[i].list q3 (by omega) (by omega) (by omega)) rfl (λ_ h=>h) (by simp) ?_;simp [h,ab,hq4];refine ag.mark (kJ l[i].seen q4 (by omega) (by omega) (by omega)) rfl (λ_ h=>h) (by simp) ?_;simp [e,hq5];refine bo (k:=0) (i:=i) (j:=2) (k':=902) (sz':=1) (sz:=5) (H:=H) (rows:=(ay Doc.mark Doc.cnt Doc.row l k i).set i [.v (.string (markT q0)),vi q1,.h 902 H2 1 l[i].text.length,.h 903 H3 3 l[i].list.length,.h 904 H4 3 l[i].seen.length]) (row:=[.v (.string (markT q0)),vi q1,.h 902 H2 1 l[i].text.length,.h 903 H3 3 l[i].list.length,.h 904 H4 3 l[i].seen.length]) (H':=H2) (srows:=(ai bq one l[i].text q2).map aw) (by simp) (by simp [ab,h]) (by simp [aj]) (by simp) (by decide) (by simp) ?_
  refine bo (k:=0) (i:=i) (j:=3) (k':=903) (sz':=3) (sz:=5) (H:=H) (rows:=(ay Doc.mark Doc.cnt Doc.row l k i).set i [.v (.string (markT q0)),vi q1,.s ((ai bq one l[i].text q2).map aw),.h 903 H3 3 l[i].list.length,.h 904 H4 3 l[i].seen.length]) (row:=[.v (.string (markT q0)),vi q1,.s ((ai bq one l[i].text q2).map aw),.h 903 H3 3 l[i].list.length,.h 904 H4 3 l[i].seen.length]) (H':=H3) (srows:=(ai Entry.mark Entry.cnt l[i].list q3).map Entry.row) (by simp [aE]) (by simp [ab,h]) (by simp [aj]) (by simp) (by decide) (by simp) ?_
  refine bo (k:=0) (i:=i) (j:=4) (k':=904) (sz':=3) (sz:=5) (H:=H) (rows:=(ay Doc.mark Doc.cnt Doc.row l k i).set i [.v (.string (markT q0)),vi q1,.s ((ai bq one l[i].text q2).map aw),.s ((ai Entry.mark Entry.cnt l[i].list q3).map Entry.row),.h 904 H4 3 l[i].seen.length]) (row:=[.v (.string (markT q0)),vi q1,.s ((ai bq one l[i].text q2).map aw),.s ((ai Entry.mark Entry.cnt l[i].list q3).map Entry.row),.h 904 H4 3 l[i].seen.length]) (H':=H4) (srows:=(ai Seen.mark Seen.cnt l[i].seen q4).map Seen.row) (by simp [aE]) (by simp [ab,h]) (by simp [aj]) (by simp) (by decide) (by simp) ?_;refine Ent.refl ⟨i+1,by omega,by omega,?_⟩;simp [aE,hs,hpc];refine ⟨by omega,?_⟩;refine bF h ?_;rw [hq0];subst hq1 hq2 hq3 hq4 hq5;rfl
 ·have:i=l.length:=by omega
  subst this;refine Ent.refl ?_;simp [bG,aj,Doc.row]
theorem pF (x:Ring) (h:cl x<=2 ^ 40):ae Try.prog 70 [.agg x.row] (.one (.agg x.res)):=by
 refine aa an Try.func70 (by kernel_rfl) rfl rfl rfl (Nat.le_of_ble_eq_true rfl) (λw0 base=>?_);unfold cl at h;simp [Ring.row,Ring.res]
 try intros
 refine ag.pure (eM x.list (by omega)) (by simp) ?_;simp
 try intros
theorem rV (x y:Ring) (h:cl x<=2 ^ 40):ae Try.prog 75 [.agg x.row,.agg y.row] (.one (.c (vb (x=y)) 1)):=by
 refine aa an Try.func75 (by kernel_rfl) rfl rfl rfl (Nat.le_of_ble_eq_true rfl) (λw0 base=>?_);unfold cl at h;obtain ⟨a0,a1,a2,a3⟩:=x;obtain ⟨b0,b1,b2,b3⟩:=y;simp only at h;simp [Ring.row]
 try intros
 by_cases h0:a0=b0
 rotate_left
 ·simp [h0]
 subst h0
 try simp
 by_cases h1:a1=b1
 rotate_left
 ·simp [h1]
 subst h1
 try simp
 by_cases h2:a2=b2
 rotate_left
 ·simp [h2]
 subst h2
 try simp
 refine ag.pure (eX a3 b3 (by omega)) (by simp) ?_;simp;by_cases h3:a3=b3
 rotate_left
 ·simp [h3]
 subst h3
 try simp
theorem qp (x:Ring) (h:x.fits) (left:Nat) (hf:left<=2 ^ 20):ae Try.prog 66 [.agg x.row,.c (vi left)] (.one (.c (vi (szR (cl x) left)) 1)):=by
 refine aa an Try.func66 (by kernel_rfl) rfl rfl rfl (Nat.le_of_ble_eq_true rfl) (λw0 base=>?_);obtain ⟨f0,f1,f2,f3⟩:=h;obtain ⟨r,hr⟩:∃ r,szR (cl x) left=r:=⟨_,rfl⟩;rw [hr];have hn:cl x=nL aB x.list:=rfl;simp [Ring.row]
 try intros
 refine ag.pure (eN x.list f3.1 f3.2 left (by omega)) (by simp) ?_;by_cases k0:nL aB x.list<=left
 rotate_left
 ·have:r = -1:=by rw [<- hr];exact ao (by omega)
  rw [ao k0];simp [this]
 rw [aA k0];obtain ⟨m0,hm0⟩:∃ m,left - nL aB x.list=m:=⟨_,rfl⟩;rw [hm0];have:r=(m0:Int):=by rw [<- hr,aA (by omega)];omega
 simp [this]
theorem s7 (x:Sub) (h:bS x<=2 ^ 40):ae Try.prog 54 [.agg x.row] (.one (.agg x.res)):=by
 refine aa an Try.func54 (by kernel_rfl) rfl rfl rfl (Nat.le_of_ble_eq_true rfl) (λw0 base=>?_);unfold bS at h;simp [Sub.row,Sub.res]
 try intros
 refine ag.pure (pF x.r (by omega)) (by simp [Ring.row]) ?_;simp [Ring.res]
 try intros
theorem uq (x y:Sub) (h:bS x<=2 ^ 40):ae Try.prog 60 [.agg x.row,.agg y.row] (.one (.c (vb (x=y)) 1)):=by
 refine aa an Try.func60 (by kernel_rfl) rfl rfl rfl (Nat.le_of_ble_eq_true rfl) (λw0 base=>?_);unfold bS at h;obtain ⟨a0,a1,a2⟩:=x;obtain ⟨b0,b1,b2⟩:=y;simp only at h;simp [Sub.row]
 try intros
 by_cases h0:a0=b0
 rotate_left
 ·simp [h0]
 subst h0
 try simp
 by_cases h1:a1=b1
 rotate_left
 ·simp [h1]
 subst h1
 try simp
 refine ag.pure (rV a2 b2 (by omega)) (by simp [Ring.row]) ?_;simp;by_cases h2:a2=b2
 rotate_left
 ·simp [h2]
 subst h2
 try simp
theorem ta (x:Sub) (h:x.fits) (left:Nat) (hf:left<=2 ^ 20):ae Try.prog 50 [.agg x.row,.c (vi left)] (.one (.c (vi (szR (bS x) left)) 1)):=by
 refine aa an Try.func50 (by kernel_rfl) rfl rfl rfl (Nat.le_of_ble_eq_true rfl) (λw0 base=>?_);obtain ⟨f0,f1,f2⟩:=h;obtain ⟨r,hr⟩:∃ r,szR (bS x) left=r:=⟨_,rfl⟩;rw [hr];have hn:bS x=x.doc.size+(cl x.r):=rfl;simp [Sub.row]
 try intros
 by_cases k0:x.doc.size<=left
 rotate_left
 ·have hw:IntKind.i64.wrap ((left:Int) - (x.doc.size:Int))=(left:Int) - x.doc.size:=IntWalk.i64_in _ (by omega)
  have hz:(left:Int) - x.doc.size<0:=by omega
  have:r = -1:=by rw [<- hr];exact ao (by omega)
  simp [hw,hz,this]
 obtain ⟨m0,hm0⟩:∃ m,left - x.doc.size=m:=⟨_,rfl⟩;have w0:IntKind.i64.wrap ((left:Int) - (x.doc.size:Int))=(m0:Int):=by rw [IntWalk.i64_in _ (by omega)];omega
 simp [w0];refine ag.pure (qp x.r f2 m0 (by omega)) (by simp [Ring.row]) ?_;by_cases k1:cl x.r<=m0
 rotate_left
 ·have:r = -1:=by rw [<- hr];exact ao (by omega)
  rw [ao k1];simp [this]
 rw [aA k1];obtain ⟨m1,hm1⟩:∃ m,m0 - cl x.r=m:=⟨_,rfl⟩;rw [hm1];have:r=(m1:Int):=by rw [<- hr,aA (by omega)];omega
 simp [this]
theorem pD (l:List Sub) (hl:nL bS l<=2 ^ 40):ae Try.prog 35 [.c (.s (l.map Sub.row))] (.one (.c (.s (l.map Sub.row)) 6)):=by
 refine aa an Try.func35 (by kernel_rfl) rfl rfl rfl (Nat.le_of_ble_eq_true rfl) (λw0 base=>?_);have hle:=bi hl;simp;refine ⟨by omega,λb=>?_⟩
 refine az.intro eok (λi:Nat=>i<=l.length) (λi=>⟨23,0,[(4,.v (.int .i64 i)),(3,.sl 112 (some (b,0,l.length)) 6 0 l.length),(0,.ro (l.map Sub.row))],
  [(112,.rows (some (b,0,l.length)) 6 (cD Sub.row [.v (.int .i64 0),.v (.string ⟨#[]⟩),.v (.int .i64 0),.v (.int .i64 0),.v (.bool false),.s []] l i) true)]⟩) (λi=>l.length - i) 0 (by simp) (by simp [de]) (λi hi=>?_)
 by_cases h:i<l.length
 ·simp [h,Sub.row]
  refine ag.pure (s7 l[i] (cm hl h)) (by simp [Sub.row]) ?_;simp [Sub.res,bg hi,h];exact ⟨i+1,by omega,by omega,ar (by omega),bZ (f:=Sub.row) h⟩
 ·have:i=l.length:=by omega
  subst this;simp [b7,cut]
  try exact λa _=>rfl
theorem rT (a b:List Sub) (hl:nL bS a<=2 ^ 40):ae Try.prog 41 [.c (.s (a.map Sub.row)),.c (.s (b.map Sub.row))] (.one (.c (vb (a=b)) 1)):=by
 refine aa an Try.func41 (by kernel_rfl) rfl rfl rfl (Nat.le_of_ble_eq_true rfl) (λw0 base=>?_);have hle:=bi hl;by_cases h:a.length=b.length
 ·simp [h]
  refine az.intro eok (λi:Nat=>i<=a.length/\a.take i=b.take i) (λi=>⟨27,0,[(5,.v (.int .i64 i)),(1,.ro (b.map Sub.row)),(0,.ro (a.map Sub.row))],[]⟩) (λi=>a.length - i) 0 (by simp) (by simp) (λi hi=>?_);by_cases hlt:i<a.length
  ·simp [hlt]
   have hlt':i<b.length:=by omega
   refine aD.quiet eok mix (by kernel_rfl) ?_;simp [hlt,hlt',Sub.row];refine ⟨_,_,uq a[i] b[i] (cm hl hlt),by simp [Sub.row],?_⟩;simp;refine Br.mk (λh1=>?_) (λh1=>?_)
   ·simp
    exact ⟨i+1,⟨by omega,bW hlt hlt' hi.2 (ec h1)⟩,by omega,ar (by omega)⟩
   ·simp [cE]
    exact ge hlt hlt' (gd h1)
  ·simp [hlt,en]
   exact cz (by omega) (by omega) hi.2
 ·have hz:¬ (a.length:Int)=b.length:=by omega
  simp [hz,cE];exact λh2=>absurd (by rw [h2]) h
theorem qo (l:List Sub) (hl:l.length<=9223372036854775807) (hs:∀ y∈l,y.fits) (left:Nat) (hf:left<=2 ^ 20):ae Try.prog 31 [.c (.s (l.map Sub.row)),.c (vi left)] (.one (.c (vi (szR (nL bS l) left)) 1)):=by
 refine aa an Try.func31 (by kernel_rfl) rfl rfl rfl (Nat.le_of_ble_eq_true rfl) (λw0 base=>?_);have hw:IntKind.i64.wrap ((left:Int) - (l.length:Int))=(left:Int) - l.length:=IntWalk.i64_in _ (by omega);have hn:nL bS l=l.length+bz bS l:=rfl;by_cases h:l.length<=left
 ·obtain ⟨lf,hlf⟩:∃ lf:Nat,left - l.length=lf:=⟨_,rfl⟩
  have hlz:(left:Int) - l.length=(lf:Int):=by omega
  have hw2:IntKind.i64.wrap (lf:Int)=lf:=eC (by omega);simp [hlz,hw2];obtain ⟨r,hr⟩:∃ r,szR (nL bS l) left=r:=⟨_,rfl⟩;have hr0:szR (bz bS l) lf=r:=by rw [<- hr];unfold szR;split<;>split<;>omega
  rw [hr];refine az.intro eok (λx:Nat×Nat=>x.1<=l.length/\x.2<=2 ^ 20/\szR (bz bS (l.drop x.1)) x.2=r) (λx=>⟨27,0,[(5,.v (.int .i64 x.1)),(1,.v (.int .i64 x.2)),(0,.ro (l.map Sub.row))],[]⟩) (λx=>l.length - x.1) (0,lf) (by simp [hr0];omega) (by simp) ?_
  rintro ⟨i,m⟩ ⟨hi,hm,hx⟩
  simp only at hi hm hx ⊢;by_cases hlt:i<l.length
  ·rw [cq hlt] at hx
   simp [hlt,Sub.row];refine ag.pure (ta l[i] (hs _ (List.getElem_mem hlt)) m hm) (by simp [Sub.row]) ?_;by_cases hk:bS l[i]<=m
   ·rw [aA hk]
    have hz:¬ ((m - bS l[i]:Nat):Int)<0:=by omega
    simp [hz];refine ⟨i+1,m - bS l[i],⟨by omega,by omega,?_⟩,by omega,ar (by omega),rfl⟩;rw [<- hx];unfold szR;split<;>split<;>omega
   ·rw [ao (show ¬ bS l[i]+bz bS (l.drop (i+1))<=m by omega)] at hx
    rw [ao hk];simp [<- hx]
  ·have:i=l.length:=by omega
   subst this;simp only [List.drop_length,bz,szR,Nat.zero_le,if_true,Nat.sub_zero] at hx;simp [hx]
 ·have hz:(left:Int) - l.length<0:=by omega
  simp [hw,hz,ao (show ¬ nL bS l<=left by omega)]
theorem lY (l:List Sub) (k:Int) (h0:0<=k) (hk:k+ak Sub.cnt l<=4611686018427387904) (hl:nL bS l<=2 ^ 40):bD Try.prog 45 (.c (.s (l.map Sub.row)) 6) k (k+ak Sub.cnt l) (.c (.s ((ai Sub.mark Sub.cnt l k).map Sub.row)) 6):=by
 refine bD.intro an Try.func45 (by kernel_rfl) rfl rfl rfl (by decide) (λw0 base=>?_);have hle:=bi hl;simp;intro H;refine am eok (λi:Nat=>i<=l.length) (λi=>⟨62,0,[(5,.v (.int .i64 i)),(1,.v (.int .i64 (k+ak Sub.cnt (l.take i)))),(0,.ml 0 H 6 l.length)],[(0,.rows H 6 (ay Sub.mark Sub.cnt Sub.row l k i) true)]⟩) (λi=>l.length - i) 0 (by simp) (by simp [cC,ak]) (λi hi=>?_);by_cases h:i<l.length
 ·have hc:=bu (cn:=Sub.cnt) h
  have hs:=aX (cn:=Sub.cnt) h;have hni:=cm hl h;simp only [bS,cl] at hni;obtain ⟨q0,hq0⟩:∃ q,k+((ak Sub.cnt (l.take i):Nat):Int)=q:=⟨_,rfl⟩;have hpc:l[i].cnt=5+(ak Entry.cnt l[i].r.list):=rfl;rw [hq0,<- bT h];have e0:Go.IntKind.i64.wrap q0=q0:=Go.IntWalk.i64_in _ (by omega);obtain ⟨q1,hq1⟩:∃ q,q0+1=q:=⟨_,rfl⟩;have e1:Go.IntKind.i64.wrap q1=q1:=Go.IntWalk.i64_in _ (by omega);obtain ⟨q2,hq2⟩:∃ q,q1+1=q:=⟨_,rfl⟩;have e2:Go.IntKind.i64.wrap q2=q2:=Go.IntWalk.i64_in _ (by omega);obtain ⟨q3,hq3⟩:∃ q,q2+1=q:=⟨_,rfl⟩;have e3:Go.IntKind.i64.wrap q3=q3:=Go.IntWalk.i64_in _ (by omega);obtain ⟨q4,hq4⟩:∃ q,q3+1=q:=⟨_,rfl⟩;have e4:Go.IntKind.i64.wrap q4=q4:=Go.IntWalk.i64_in _ (by omega);obtain ⟨q5,hq5⟩:∃ q,q4+1=q:=⟨_,rfl⟩
  have e5:Go.IntKind.i64.wrap q5=q5:=Go.IntWalk.i64_in _ (by omega);obtain ⟨q6,hq6⟩:∃ q,q5+((ak Entry.cnt l[i].r.list:Nat):Int)=q:=⟨_,rfl⟩;have e6:Go.IntKind.i64.wrap q6=q6:=Go.IntWalk.i64_in _ (by omega);have e:Go.IntKind.i64.wrap ((i:Int)+1)=((i+1:Nat):Int):=ar (by omega);refine Ent.open (λ_ h=>h) (k:=0) (i:=i) (j:=5) (k':=905) (sz':=3) (sz:=6) (H:=H) (rows:=((ay Sub.mark Sub.cnt Sub.row l k i).set i l[i].row)) (srows:=l[i].r.list.map Entry.row) (row:=l[i].row) (by simp) (by simp [ab,h]) rfl (by simp) (by decide) (by simp [Entry.row]) (by simp) (λH5=>?_);refine Ent.refl ?_;simp [h,ab,Sub.row,aE,aY,hq1,e1];refine ag.pure (dD q1 (by omega) (by omega)) (by simp) ?_;simp [h,ab,aY,hq2,e2,hq3,e3,hq4,e4,hq5,e5]
  refine ag.mark (dE l[i].r.list q5 (by omega) (by omega) (by omega)) rfl (λ_ h=>h) (by simp) ?_;simp [e,hq6];refine bo (k:=0) (i:=i) (j:=5) (k':=905) (sz':=3) (sz:=6) (H:=H) (rows:=(ay Sub.mark Sub.cnt Sub.row l k i).set i [vi q0,.v (.string (markT q1)),vi q2,vi q3,.v (.bool (jl q4)),.h 905 H5 3 l[i].r.list.length]) (row:=[vi q0,.v (.string (markT q1)),vi q2,vi q3,.v (.bool (jl q4)),.h 905 H5 3 l[i].r.list.length]) (H':=H5) (srows:=(ai Entry.mark Entry.cnt l[i].r.list q5).map Entry.row) (by simp [jl]) (by simp [ab,h]) (by simp [aj]) (by simp) (by decide) (by simp) ?_;refine Ent.refl ⟨i+1,by omega,by omega,?_⟩;simp [aE,hs,hpc];refine ⟨by omega,?_⟩;refine bF h ?_;rw [hq0];subst hq1 hq2 hq3 hq4 hq5 hq6;rfl
 ·have:i=l.length:=by omega
  subst this;refine Ent.refl ?_;simp [bG,aj,Sub.row]
theorem s8 (x:Hub) (h:dC x<=2 ^ 40):ae Try.prog 17 [.agg x.row] (.one (.agg x.res)):=by
 refine aa an Try.func17 (by kernel_rfl) rfl rfl rfl (Nat.le_of_ble_eq_true rfl) (λw0 base=>?_);unfold dC at h;simp [Hub.row,Hub.res]
 try intros
 refine ag.pure (pH x.docs (by omega)) (by simp) ?_;simp
 try intros
 refine ag.pure (pD x.subs (by omega)) (by simp) ?_;simp
 try intros
theorem ur (x y:Hub) (h:dC x<=2 ^ 40):ae Try.prog 24 [.agg x.row,.agg y.row] (.one (.c (vb (x=y)) 1)):=by
 refine aa an Try.func24 (by kernel_rfl) rfl rfl rfl (Nat.le_of_ble_eq_true rfl) (λw0 base=>?_);unfold dC at h;obtain ⟨a0,a1,a2,a3⟩:=x;obtain ⟨b0,b1,b2,b3⟩:=y;simp only at h;simp [Hub.row]
 try intros
 by_cases h0:a0=b0
 rotate_left
 ·simp [h0]
 subst h0
 try simp
 refine ag.pure (rX a1 b1 (by omega)) (by simp) ?_;simp;by_cases h1:a1=b1
 rotate_left
 ·simp [h1]
 subst h1
 try simp
 refine ag.pure (rT a2 b2 (by omega)) (by simp) ?_;simp;by_cases h2:a2=b2
 rotate_left
 ·simp [h2]
 subst h2
 try simp
 by_cases h3:a3=b3
 rotate_left
 ·simp [h3]
 subst h3
 try simp
theorem tc (x:Hub) (h:x.fits) (left:Nat) (hf:left<=2 ^ 20):ae Try.prog 13 [.agg x.row,.c (vi left)] (.one (.c (vi (szR (dC x) left)) 1)):=by
 refine aa an Try.func13 (by kernel_rfl) rfl rfl rfl (Nat.le_of_ble_eq_true rfl) (λw0 base=>?_);obtain ⟨f0,f1,f2,f3⟩:=h;obtain ⟨r,hr⟩:∃ r,szR (dC x) left=r:=⟨_,rfl⟩;rw [hr];have hn:dC x=nL bJ x.docs+(nL bS x.subs):=rfl;simp [Hub.row]
 try intros
 refine ag.pure (qr x.docs f1.1 f1.2 left (by omega)) (by simp) ?_;by_cases k0:nL bJ x.docs<=left
 rotate_left
 ·have:r = -1:=by rw [<- hr];exact ao (by omega)
  rw [ao k0];simp [this]
 rw [aA k0];obtain ⟨m0,hm0⟩:∃ m,left - nL bJ x.docs=m:=⟨_,rfl⟩;rw [hm0];simp;refine ag.pure (qo x.subs f2.1 f2.2 m0 (by omega)) (by simp) ?_;by_cases k1:nL bS x.subs<=m0
 rotate_left
 ·have:r = -1:=by rw [<- hr];exact ao (by omega)
  rw [ao k1];simp [this]
 rw [aA k1];obtain ⟨m1,hm1⟩:∃ m,m0 - nL bS x.subs=m:=⟨_,rfl⟩;rw [hm1];have:r=(m1:Int):=by rw [<- hr,aA (by omega)];omega
 simp [this]
theorem oh (x:Hub) (k:Int) (h0:0<=k) (hk:k+x.cntT<=4611686018427387904) (hl:dC x<=2 ^ 40):bD Try.prog 27 (.agg x.res) k (k+x.cntT) (.agg (x.markT k).res):=by
 refine bD.intro an Try.func27 (by kernel_rfl) rfl rfl rfl (by decide) (λw0 base=>?_);simp only [Hub.cntT] at hk;unfold dC at hl;simp [Hub.res]
 try intros
 refine ag.mark (l4 x.docs (k) (by omega) (by omega) (by omega)) rfl (λ_ h=>h) (by simp) ?_;simp;refine ag.mark (lY x.subs (k+((ak Doc.cnt x.docs:Nat):Int)) (by omega) (by omega) (by omega)) rfl (λ_ h=>h) (by simp) ?_;simp;simp [Hub.markT,Hub.cntT,aj]
 try omega
theorem nH (x:Queue) (h:aG x<=2 ^ 40):ae Try.prog 36 [.agg x.row] (.one (.agg x.res)):=by
 refine aa an Try.func36 (by kernel_rfl) rfl rfl rfl (Nat.le_of_ble_eq_true rfl) (λw0 base=>?_);unfold aG at h;simp [Queue.row,Queue.res]
 try intros
 refine ag.pure (dt x.list (by omega)) (by simp) ?_;simp
 try intros
theorem oR (x y:Queue) (h:aG x<=2 ^ 40):ae Try.prog 42 [.agg x.row,.agg y.row] (.one (.c (vb (x=y)) 1)):=by
 refine aa an Try.func42 (by kernel_rfl) rfl rfl rfl (Nat.le_of_ble_eq_true rfl) (λw0 base=>?_);unfold aG at h;obtain ⟨a0,a1⟩:=x;obtain ⟨b0,b1⟩:=y;simp only at h;simp [Queue.row]
 try intros
 by_cases h0:a0=b0
 rotate_left
 ·simp [h0]
 subst h0
 try simp
 refine ag.pure (cj a1 b1 (by omega)) (by simp) ?_;simp;by_cases h1:a1=b1
 rotate_left
 ·simp [h1]
 subst h1
 try simp
theorem nP (x:Queue) (h:x.fits) (left:Nat) (hf:left<=2 ^ 20):ae Try.prog 32 [.agg x.row,.c (vi left)] (.one (.c (vi (szR (aG x) left)) 1)):=by
 refine aa an Try.func32 (by kernel_rfl) rfl rfl rfl (Nat.le_of_ble_eq_true rfl) (λw0 base=>?_);obtain ⟨f0,f1⟩:=h;obtain ⟨r,hr⟩:∃ r,szR (aG x) left=r:=⟨_,rfl⟩;rw [hr];have hn:aG x=x.doc.size+(x.list.length):=rfl;simp [Queue.row]
 try intros
 by_cases k0:x.doc.size<=left
 rotate_left
 ·have hw:IntKind.i64.wrap ((left:Int) - (x.doc.size:Int))=(left:Int) - x.doc.size:=IntWalk.i64_in _ (by omega)
  have hz:(left:Int) - x.doc.size<0:=by omega
  have:r = -1:=by rw [<- hr];exact ao (by omega)
  simp [hw,hz,this]
 obtain ⟨m0,hm0⟩:∃ m,left - x.doc.size=m:=⟨_,rfl⟩;have w0:IntKind.i64.wrap ((left:Int) - (x.doc.size:Int))=(m0:Int):=by rw [IntWalk.i64_in _ (by omega)];omega
 simp [w0];refine ag.pure (du x.list f1.1 m0 (by omega)) (by simp) ?_;by_cases k1:x.list.length<=m0
 rotate_left
 ·have:r = -1:=by rw [<- hr];exact ao (by omega)
  rw [ao k1];simp [this]
 rw [aA k1];obtain ⟨m1,hm1⟩:∃ m,m0 - x.list.length=m:=⟨_,rfl⟩;rw [hm1];have:r=(m1:Int):=by rw [<- hr,aA (by omega)];omega
 simp [this]
theorem lE (l:List Queue) (hl:nL aG l<=2 ^ 40):ae Try.prog 19 [.c (.s (l.map Queue.row))] (.one (.c (.s (l.map Queue.row)) 2)):=by
 refine aa an Try.func19 (by kernel_rfl) rfl rfl rfl (Nat.le_of_ble_eq_true rfl) (λw0 base=>?_);have hle:=bi hl;simp;refine ⟨by omega,λb=>?_⟩
 refine az.intro eok (λi:Nat=>i<=l.length) (λi=>⟨23,0,[(4,.v (.int .i64 i)),(3,.sl 112 (some (b,0,l.length)) 2 0 l.length),(0,.ro (l.map Queue.row))],
  [(112,.rows (some (b,0,l.length)) 2 (cD Queue.row [.v (.string ⟨#[]⟩),.s []] l i) true)]⟩) (λi=>l.length - i) 0 (by simp) (by simp [de]) (λi hi=>?_)
 by_cases h:i<l.length
 ·simp [h,Queue.row]
  refine ag.pure (nH l[i] (cm hl h)) (by simp [Queue.row]) ?_;simp [Queue.res,bg hi,h];exact ⟨i+1,by omega,by omega,ar (by omega),bZ (f:=Queue.row) h⟩
 ·have:i=l.length:=by omega
  subst this;simp [b7,cut]
  try exact λa _=>rfl
theorem mq (a b:List Queue) (hl:nL aG a<=2 ^ 40):ae Try.prog 25 [.c (.s (a.map Queue.row)),.c (.s (b.map Queue.row))] (.one (.c (vb (a=b)) 1)):=by
 refine aa an Try.func25 (by kernel_rfl) rfl rfl rfl (Nat.le_of_ble_eq_true rfl) (λw0 base=>?_);have hle:=bi hl;by_cases h:a.length=b.length
 ·simp [h]
  refine az.intro eok (λi:Nat=>i<=a.length/\a.take i=b.take i) (λi=>⟨27,0,[(5,.v (.int .i64 i)),(1,.ro (b.map Queue.row)),(0,.ro (a.map Queue.row))],[]⟩) (λi=>a.length - i) 0 (by simp) (by simp) (λi hi=>?_);by_cases hlt:i<a.length
  ·simp [hlt]
   have hlt':i<b.length:=by omega
   refine aD.quiet eok mix (by kernel_rfl) ?_;simp [hlt,hlt',Queue.row];refine ⟨_,_,oR a[i] b[i] (cm hl hlt),by simp [Queue.row],?_⟩;simp;refine Br.mk (λh1=>?_) (λh1=>?_)
   ·simp
    exact ⟨i+1,⟨by omega,bW hlt hlt' hi.2 (ec h1)⟩,by omega,ar (by omega)⟩
   ·simp [cE]
    exact ge hlt hlt' (gd h1)
  ·simp [hlt,en]
   exact cz (by omega) (by omega) hi.2
 ·have hz:¬ (a.length:Int)=b.length:=by omega
  simp [hz,cE];exact λh2=>absurd (by rw [h2]) h
theorem lH (l:List Queue) (hl:l.length<=9223372036854775807) (hs:∀ y∈l,y.fits) (left:Nat) (hf:left<=2 ^ 20):ae Try.prog 15 [.c (.s (l.map Queue.row)),.c (vi left)] (.one (.c (vi (szR (nL aG l) left)) 1)):=by
 refine aa an Try.func15 (by kernel_rfl) rfl rfl rfl (Nat.le_of_ble_eq_true rfl) (λw0 base=>?_);have hw:IntKind.i64.wrap ((left:Int) - (l.length:Int))=(left:Int) - l.length:=IntWalk.i64_in _ (by omega);have hn:nL aG l=l.length+bz aG l:=rfl;by_cases h:l.length<=left
 ·obtain ⟨lf,hlf⟩:∃ lf:Nat,left - l.length=lf:=⟨_,rfl⟩
  have hlz:(left:Int) - l.length=(lf:Int):=by omega
  have hw2:IntKind.i64.wrap (lf:Int)=lf:=eC (by omega);simp [hlz,hw2];obtain ⟨r,hr⟩:∃ r,szR (nL aG l) left=r:=⟨_,rfl⟩;have hr0:szR (bz aG l) lf=r:=by rw [<- hr];unfold szR;split<;>split<;>omega
  rw [hr];refine az.intro eok (λx:Nat×Nat=>x.1<=l.length/\x.2<=2 ^ 20/\szR (bz aG (l.drop x.1)) x.2=r) (λx=>⟨27,0,[(5,.v (.int .i64 x.1)),(1,.v (.int .i64 x.2)),(0,.ro (l.map Queue.row))],[]⟩) (λx=>l.length - x.1) (0,lf) (by simp [hr0];omega) (by simp) ?_
  rintro ⟨i,m⟩ ⟨hi,hm,hx⟩
  simp only at hi hm hx ⊢;by_cases hlt:i<l.length
  ·rw [cq hlt] at hx
   simp [hlt,Queue.row];refine ag.pure (nP l[i] (hs _ (List.getElem_mem hlt)) m hm) (by simp [Queue.row]) ?_;by_cases hk:aG l[i]<=m
   ·rw [aA hk]
    have hz:¬ ((m - aG l[i]:Nat):Int)<0:=by omega
    simp [hz];refine ⟨i+1,m - aG l[i],⟨by omega,by omega,?_⟩,by omega,ar (by omega),rfl⟩;rw [<- hx];unfold szR;split<;>split<;>omega
   ·rw [ao (show ¬ aG l[i]+bz aG (l.drop (i+1))<=m by omega)] at hx
    rw [ao hk];simp [<- hx]
  ·have:i=l.length:=by omega
   subst this;simp only [List.drop_length,bz,szR,Nat.zero_le,if_true,Nat.sub_zero] at hx;simp [hx]
 ·have hz:(left:Int) - l.length<0:=by omega
  simp [hw,hz,ao (show ¬ nL aG l<=left by omega)]
theorem jN (l:List Queue) (k:Int) (h0:0<=k) (hk:k+ak Queue.cnt l<=4611686018427387904) (hl:nL aG l<=2 ^ 40):bD Try.prog 28 (.c (.s (l.map Queue.row)) 2) k (k+ak Queue.cnt l) (.c (.s ((ai Queue.mark Queue.cnt l k).map Queue.row)) 2):=by
 refine bD.intro an Try.func28 (by kernel_rfl) rfl rfl rfl (by decide) (λw0 base=>?_);have hle:=bi hl;simp;intro H;refine am eok (λi:Nat=>i<=l.length) (λi=>⟨28,0,[(5,.v (.int .i64 i)),(1,.v (.int .i64 (k+ak Queue.cnt (l.take i)))),(0,.ml 0 H 2 l.length)],[(0,.rows H 2 (ay Queue.mark Queue.cnt Queue.row l k i) true)]⟩) (λi=>l.length - i) 0 (by simp) (by simp [cC,ak]) (λi hi=>?_);by_cases h:i<l.length
 ·have hc:=bu (cn:=Queue.cnt) h
  have hs:=aX (cn:=Queue.cnt) h;have hni:=cm hl h;simp only [aG] at hni;obtain ⟨q0,hq0⟩:∃ q,k+((ak Queue.cnt (l.take i):Nat):Int)=q:=⟨_,rfl⟩;have hpc:l[i].cnt=1+(l[i].list.length):=rfl;rw [hq0,<- bT h];have e0:Go.IntKind.i64.wrap q0=q0:=Go.IntWalk.i64_in _ (by omega);obtain ⟨q1,hq1⟩:∃ q,q0+1=q:=⟨_,rfl⟩;have e1:Go.IntKind.i64.wrap q1=q1:=Go.IntWalk.i64_in _ (by omega);obtain ⟨q2,hq2⟩:∃ q,q1+((l[i].list.length:Nat):Int)=q:=⟨_,rfl⟩;have e2:Go.IntKind.i64.wrap q2=q2:=Go.IntWalk.i64_in _ (by omega);have e:Go.IntKind.i64.wrap ((i:Int)+1)=((i+1:Nat):Int):=ar (by omega)
  refine Ent.open (λ_ h=>h) (k:=0) (i:=i) (j:=1) (k':=901) (sz':=1) (sz:=2) (H:=H) (rows:=((ay Queue.mark Queue.cnt Queue.row l k i).set i l[i].row)) (srows:=l[i].list.map aw) (row:=l[i].row) (by simp) (by simp [ab,h]) rfl (by simp) (by decide) (by simp [aw]) (by simp) (λH1=>?_);refine Ent.refl ?_;simp [h,Queue.row,aE];refine ag.pure (dD q0 (by omega) (by omega)) (by simp) ?_;simp [h,ab,aY,hq1,e1];refine ag.mark (bU l[i].list q1 (by omega) (by omega)) rfl (λ_ h=>h) (by simp) ?_;simp [e,hq2]
  refine bo (k:=0) (i:=i) (j:=1) (k':=901) (sz':=1) (sz:=2) (H:=H) (rows:=(ay Queue.mark Queue.cnt Queue.row l k i).set i [.v (.string (markT q0)),.h 901 H1 1 l[i].list.length]) (row:=[.v (.string (markT q0)),.h 901 H1 1 l[i].list.length]) (H':=H1) (srows:=(ai bq one l[i].list q1).map aw) (by simp) (by simp [ab,h]) (by simp [aj]) (by simp) (by decide) (by simp) ?_;refine Ent.refl ⟨i+1,by omega,by omega,?_⟩;simp [aE,hs,hpc];refine ⟨by omega,?_⟩;refine bF h ?_;rw [hq0];subst hq1 hq2;rfl
 ·have:i=l.length:=by omega
  subst this;refine Ent.refl ?_;simp [bG,aj,Queue.row]
theorem lG (x:Answer) (h:a8 x<=2 ^ 40):ae Try.prog 56 [.agg x.row] (.one (.agg x.res)):=by
 refine aa an Try.func56 (by kernel_rfl) rfl rfl rfl (Nat.le_of_ble_eq_true rfl) (λw0 base=>?_);unfold a8 at h;simp [Answer.row,Answer.res]
 try intros
 refine ag.pure (dt x.text (by omega)) (by simp) ?_;simp
 try intros
 refine ag.pure (eM x.list (by omega)) (by simp) ?_;simp
 try intros
theorem mr (x y:Answer) (h:a8 x<=2 ^ 40):ae Try.prog 62 [.agg x.row,.agg y.row] (.one (.c (vb (x=y)) 1)):=by
 refine aa an Try.func62 (by kernel_rfl) rfl rfl rfl (Nat.le_of_ble_eq_true rfl) (λw0 base=>?_);unfold a8 at h;obtain ⟨a0,a1,a2,a3⟩:=x;obtain ⟨b0,b1,b2,b3⟩:=y;simp only at h;simp [Answer.row]
 try intros
 by_cases h0:a0=b0
 rotate_left
 ·simp [h0]
 subst h0
 try simp
 by_cases h1:a1=b1
 rotate_left
 ·simp [h1]
 subst h1
 try simp
 refine ag.pure (cj a2 b2 (by omega)) (by simp) ?_;simp;by_cases h2:a2=b2
 rotate_left
 ·simp [h2]
 subst h2
 try simp
 refine ag.pure (eX a3 b3 (by omega)) (by simp) ?_;simp;by_cases h3:a3=b3
 rotate_left
 ·simp [h3]
 subst h3
 try simp
theorem lI (x:Answer) (h:x.fits) (left:Nat) (hf:left<=2 ^ 20):ae Try.prog 52 [.agg x.row,.c (vi left)] (.one (.c (vi (szR (a8 x) left)) 1)):=by
 refine aa an Try.func52 (by kernel_rfl) rfl rfl rfl (Nat.le_of_ble_eq_true rfl) (λw0 base=>?_);obtain ⟨f0,f1,f2,f3⟩:=h;obtain ⟨r,hr⟩:∃ r,szR (a8 x) left=r:=⟨_,rfl⟩;rw [hr];have hn:a8 x=x.text.length+(nL aB x.list):=rfl;simp [Answer.row]
 try intros
 refine ag.pure (du x.text f2.1 left (by omega)) (by simp) ?_;by_cases k0:x.text.length<=left
 rotate_left
 ·have:r = -1:=by rw [<- hr];exact ao (by omega)
  rw [ao k0];simp [this]
 rw [aA k0];obtain ⟨m0,hm0⟩:∃ m,left - x.text.length=m:=⟨_,rfl⟩;rw [hm0];simp;refine ag.pure (eN x.list f3.1 f3.2 m0 (by omega)) (by simp) ?_;by_cases k1:nL aB x.list<=m0
 rotate_left
 ·have:r = -1:=by rw [<- hr];exact ao (by omega)
  rw [ao k1];simp [this]
 rw [aA k1];obtain ⟨m1,hm1⟩:∃ m,m0 - nL aB x.list=m:=⟨_,rfl⟩;rw [hm1];have:r=(m1:Int):=by rw [<- hr,aA (by omega)];omega
 simp [this]
theorem pI (x:Call) (h:co x<=2 ^ 40):ae Try.prog 55 [.agg x.row] (.one (.agg x.res)):=by
 refine aa an Try.func55 (by kernel_rfl) rfl rfl rfl (Nat.le_of_ble_eq_true rfl) (λw0 base=>?_);unfold co at h;simp [Call.row,Call.res]
 try intros
 refine ag.pure (ja x.o (by omega)) (by simp) ?_;simp
 try intros
 refine ag.pure (dt x.text (by omega)) (by simp) ?_;simp
 try intros
theorem rY (x y:Call) (h:co x<=2 ^ 40):ae Try.prog 61 [.agg x.row,.agg y.row] (.one (.c (vb (x=y)) 1)):=by
 refine aa an Try.func61 (by kernel_rfl) rfl rfl rfl (Nat.le_of_ble_eq_true rfl) (λw0 base=>?_);unfold co at h;obtain ⟨a0,a1,a2,a3,a4,a5,a6⟩:=x;obtain ⟨b0,b1,b2,b3,b4,b5,b6⟩:=y;simp only at h;simp [Call.row]
 try intros
 by_cases h0:a0=b0
 rotate_left
 ·simp [h0]
 subst h0
 try simp
 by_cases h1:a1=b1
 rotate_left
 ·simp [h1]
 subst h1
 try simp
 by_cases h2:a2=b2
 rotate_left
 ·simp [h2]
 subst h2
 try simp
 by_cases h3:a3=b3
 rotate_left
 ·simp [h3]
 subst h3
 try simp
 by_cases h4:a4=b4
 rotate_left
 ·simp [h4]
 subst h4
 try simp
 refine ag.pure (jt a5 b5 (by omega)) (by simp) ?_;simp;by_cases h5:a5=b5
 rotate_left
 ·simp [h5]
 subst h5
 try simp
 refine ag.pure (cj a6 b6 (by omega)) (by simp) ?_;simp;by_cases h6:a6=b6
 rotate_left
 ·simp [h6]
 subst h6
 try simp
theorem qs (x:Call) (h:x.fits) (left:Nat) (hf:left<=2 ^ 20):ae Try.prog 51 [.agg x.row,.c (vi left)] (.one (.c (vi (szR (co x) left)) 1)):=by
 refine aa an Try.func51 (by kernel_rfl) rfl rfl rfl (Nat.le_of_ble_eq_true rfl) (λw0 base=>?_);obtain ⟨f0,f1,f2,f3,f4,f5,f6⟩:=h;obtain ⟨r,hr⟩:∃ r,szR (co x) left=r:=⟨_,rfl⟩;rw [hr];have hn:co x=x.doc.size+(nL aM x.o+(x.text.length)):=rfl;simp [Call.row]
 try intros
 by_cases k0:x.doc.size<=left
 rotate_left
 ·have hw:IntKind.i64.wrap ((left:Int) - (x.doc.size:Int))=(left:Int) - x.doc.size:=IntWalk.i64_in _ (by omega)
  have hz:(left:Int) - x.doc.size<0:=by omega
  have:r = -1:=by rw [<- hr];exact ao (by omega)
  simp [hw,hz,this]
 obtain ⟨m0,hm0⟩:∃ m,left - x.doc.size=m:=⟨_,rfl⟩;have w0:IntKind.i64.wrap ((left:Int) - (x.doc.size:Int))=(m0:Int):=by rw [IntWalk.i64_in _ (by omega)];omega
 simp [w0];refine ag.pure (jb x.o f5.1 f5.2 m0 (by omega)) (by simp) ?_;by_cases k1:nL aM x.o<=m0
 rotate_left
 ·have:r = -1:=by rw [<- hr];exact ao (by omega)
  rw [ao k1];simp [this]
 rw [aA k1];obtain ⟨m1,hm1⟩:∃ m,m0 - nL aM x.o=m:=⟨_,rfl⟩;rw [hm1];simp;refine ag.pure (du x.text f6.1 m1 (by omega)) (by simp) ?_;by_cases k2:x.text.length<=m1
 rotate_left
 ·have:r = -1:=by rw [<- hr];exact ao (by omega)
  rw [ao k2];simp [this]
 rw [aA k2];obtain ⟨m2,hm2⟩:∃ m,m1 - x.text.length=m:=⟨_,rfl⟩;rw [hm2];have:r=(m2:Int):=by rw [<- hr,aA (by omega)];omega
 simp [this]
theorem pC (x:Task) (h:aW x<=2 ^ 36):ae Try.prog 37 [.agg x.row] (.one (.agg x.res)):=by
 refine aa an Try.func37 (by kernel_rfl) rfl rfl rfl (Nat.le_of_ble_eq_true rfl) (λw0 base=>?_);unfold aW at h;simp [Task.row,Task.res]
 try intros
 refine ag.pure (pI x.c (by omega)) (by simp [Call.row]) ?_;simp [Call.res]
 try intros
 refine ag.pure (lG x.a (by omega)) (by simp [Answer.row]) ?_;simp [Answer.res]
 try intros
theorem rS (x y:Task) (h:aW x<=2 ^ 36):ae Try.prog 43 [.agg x.row,.agg y.row] (.one (.c (vb (x=y)) 1)):=by
 refine aa an Try.func43 (by kernel_rfl) rfl rfl rfl (Nat.le_of_ble_eq_true rfl) (λw0 base=>?_);unfold aW at h;obtain ⟨a0,a1,a2,a3,a4,a5⟩:=x;obtain ⟨b0,b1,b2,b3,b4,b5⟩:=y;simp only at h;simp [Task.row]
 try intros
 refine ag.pure (rY a0 b0 (by omega)) (by simp [Call.row]) ?_;simp;by_cases h0:a0=b0
 rotate_left
 ·simp [h0]
 subst h0
 try simp
 by_cases h1:a1=b1
 rotate_left
 ·simp [h1]
 subst h1
 try simp
 by_cases h2:a2=b2
 rotate_left
 ·simp [h2]
 subst h2
 try simp
 by_cases h3:a3=b3
 rotate_left
 ·simp [h3]
 subst h3
 try simp
 by_cases h4:a4=b4
 rotate_left
 ·simp [h4]
 subst h4
 try simp
 refine ag.pure (mr a5 b5 (by omega)) (by simp [Answer.row]) ?_;simp;by_cases h5:a5=b5
 rotate_left
 ·simp [h5]
 subst h5
 try simp
theorem qn (x:Task) (h:x.fits) (left:Nat) (hf:left<=2 ^ 20):ae Try.prog 33 [.agg x.row,.c (vi left)] (.one (.c (vi (szR (aW x) left)) 1)):=by
 refine aa an Try.func33 (by kernel_rfl) rfl rfl rfl (Nat.le_of_ble_eq_true rfl) (λw0 base=>?_);obtain ⟨f0,f1,f2,f3,f4,f5⟩:=h;obtain ⟨r,hr⟩:∃ r,szR (aW x) left=r:=⟨_,rfl⟩;rw [hr];have hn:aW x=co x.c+(a8 x.a):=rfl;simp [Task.row]
 try intros
 refine ag.pure (qs x.c f0 left (by omega)) (by simp [Call.row]) ?_;by_cases k0:co x.c<=left
 rotate_left
 ·have:r = -1:=by rw [<- hr];exact ao (by omega)
  rw [ao k0];simp [this]
 rw [aA k0];obtain ⟨m0,hm0⟩:∃ m,left - co x.c=m:=⟨_,rfl⟩;rw [hm0];simp;refine ag.pure (lI x.a f5 m0 (by omega)) (by simp [Answer.row]) ?_;by_cases k1:a8 x.a<=m0
 rotate_left
 ·have:r = -1:=by rw [<- hr];exact ao (by omega)
  rw [ao k1];simp [this]
 rw [aA k1];obtain ⟨m1,hm1⟩:∃ m,m0 - a8 x.a=m:=⟨_,rfl⟩;rw [hm1];have:r=(m1:Int):=by rw [<- hr,aA (by omega)];omega
 simp [this]
theorem nF (l:List Task) (hl:nL aW l<=2 ^ 36):ae Try.prog 20 [.c (.s (l.map Task.row))] (.one (.c (.s (l.map Task.row)) 15)):=by
 refine aa an Try.func20 (by kernel_rfl) rfl rfl rfl (Nat.le_of_ble_eq_true rfl) (λw0 base=>?_);have hle:=bi hl;simp;refine ⟨by omega,λb=>?_⟩
 refine az.intro eok (λi:Nat=>i<=l.length) (λi=>⟨23,0,[(4,.v (.int .i64 i)),(3,.sl 112 (some (b,0,l.length)) 15 0 l.length),(0,.ro (l.map Task.row))],
  [(112,.rows (some (b,0,l.length)) 15 (cD Task.row [.v (.int .i64 0),.v (.string ⟨#[]⟩),.v (.int .i64 0),.v (.int .i64 0),.v (.int .i64 0),.s [],.s [],.v (.int .i64 0),.v (.int .i64 0),.v (.int .i64 0),.v (.int .i64 0),.v (.int .i64 0),.v (.int .i64 0),.s [],.s []] l i) true)]⟩) (λi=>l.length - i) 0 (by simp) (by simp [de]) (λi hi=>?_)
 by_cases h:i<l.length
 ·simp [h,Task.row]
  refine ag.pure (pC l[i] (cm hl h)) (by simp [Task.row]) ?_;simp [Task.res,bg hi,h];exact ⟨i+1,by omega,by omega,ar (by omega),bZ (f:=Task.row) h⟩
 ·have:i=l.length:=by omega
  subst this;simp [b7,cut]
  try exact λa _=>rfl
theorem oP (a b:List Task) (hl:nL aW a<=2 ^ 36):ae Try.prog 26 [.c (.s (a.map Task.row)),.c (.s (b.map Task.row))] (.one (.c (vb (a=b)) 1)):=by
 refine aa an Try.func26 (by kernel_rfl) rfl rfl rfl (Nat.le_of_ble_eq_true rfl) (λw0 base=>?_);have hle:=bi hl;by_cases h:a.length=b.length
 ·simp [h]
  refine az.intro eok (λi:Nat=>i<=a.length/\a.take i=b.take i) (λi=>⟨27,0,[(5,.v (.int .i64 i)),(1,.ro (b.map Task.row)),(0,.ro (a.map Task.row))],[]⟩) (λi=>a.length - i) 0 (by simp) (by simp) (λi hi=>?_);by_cases hlt:i<a.length
  ·simp [hlt]
   have hlt':i<b.length:=by omega
   refine aD.quiet eok mix (by kernel_rfl) ?_;simp [hlt,hlt',Task.row];refine ⟨_,_,rS a[i] b[i] (cm hl hlt),by simp [Task.row],?_⟩;simp;refine Br.mk (λh1=>?_) (λh1=>?_)
   ·simp
    exact ⟨i+1,⟨by omega,bW hlt hlt' hi.2 (ec h1)⟩,by omega,ar (by omega)⟩
   ·simp [cE]
    exact ge hlt hlt' (gd h1)
  ·simp [hlt,en]
   exact cz (by omega) (by omega) hi.2
 ·have hz:¬ (a.length:Int)=b.length:=by omega
  simp [hz,cE];exact λh2=>absurd (by rw [h2]) h
theorem nN (l:List Task) (hl:l.length<=9223372036854775807) (hs:∀ y∈l,y.fits) (left:Nat) (hf:left<=2 ^ 20):ae Try.prog 16 [.c (.s (l.map Task.row)),.c (vi left)] (.one (.c (vi (szR (nL aW l) left)) 1)):=by
 refine aa an Try.func16 (by kernel_rfl) rfl rfl rfl (Nat.le_of_ble_eq_true rfl) (λw0 base=>?_);have hw:IntKind.i64.wrap ((left:Int) - (l.length:Int))=(left:Int) - l.length:=IntWalk.i64_in _ (by omega);have hn:nL aW l=l.length+bz aW l:=rfl;by_cases h:l.length<=left
 ·obtain ⟨lf,hlf⟩:∃ lf:Nat,left - l.length=lf:=⟨_,rfl⟩
  have hlz:(left:Int) - l.length=(lf:Int):=by omega
  have hw2:IntKind.i64.wrap (lf:Int)=lf:=eC (by omega);simp [hlz,hw2];obtain ⟨r,hr⟩:∃ r,szR (nL aW l) left=r:=⟨_,rfl⟩;have hr0:szR (bz aW l) lf=r:=by rw [<- hr];unfold szR;split<;>split<;>omega
  rw [hr];refine az.intro eok (λx:Nat×Nat=>x.1<=l.length/\x.2<=2 ^ 20/\szR (bz aW (l.drop x.1)) x.2=r) (λx=>⟨27,0,[(5,.v (.int .i64 x.1)),(1,.v (.int .i64 x.2)),(0,.ro (l.map Task.row))],[]⟩) (λx=>l.length - x.1) (0,lf) (by simp [hr0];omega) (by simp) ?_
  rintro ⟨i,m⟩ ⟨hi,hm,hx⟩
  simp only at hi hm hx ⊢;by_cases hlt:i<l.length
  ·rw [cq hlt] at hx
   simp [hlt,Task.row];refine ag.pure (qn l[i] (hs _ (List.getElem_mem hlt)) m hm) (by simp [Task.row]) ?_;by_cases hk:aW l[i]<=m
   ·rw [aA hk]
    have hz:¬ ((m - aW l[i]:Nat):Int)<0:=by omega
    simp [hz];refine ⟨i+1,m - aW l[i],⟨by omega,by omega,?_⟩,by omega,ar (by omega),rfl⟩;rw [<- hx];unfold szR;split<;>split<;>omega
   ·rw [ao (show ¬ aW l[i]+bz aW (l.drop (i+1))<=m by omega)] at hx
    rw [ao hk];simp [<- hx]
  ·have:i=l.length:=by omega
   subst this;simp only [List.drop_length,bz,szR,Nat.zero_le,if_true,Nat.sub_zero] at hx;simp [hx]
 ·have hz:(left:Int) - l.length<0:=by omega
  simp [hw,hz,ao (show ¬ nL aW l<=left by omega)]
theorem kI (l:List Task) (k:Int) (h0:0<=k) (hk:k+ak Task.cnt l<=4611686018427387904) (hl:nL aW l<=2 ^ 36):bD Try.prog 29 (.c (.s (l.map Task.row)) 15) k (k+ak Task.cnt l) (.c (.s ((ai Task.mark Task.cnt l k).map Task.row)) 15):=by
 refine bD.intro an Try.func29 (by kernel_rfl) rfl rfl rfl (by decide) (λw0 base=>?_);have hle:=bi hl;simp;intro H;refine am eok (λi:Nat=>i<=l.length) (λi=>⟨130,0,[(5,.v (.int .i64 i)),(1,.v (.int .i64 (k+ak Task.cnt (l.take i)))),(0,.ml 0 H 15 l.length)],[(0,.rows H 15 (ay Task.mark Task.cnt Task.row l k i) true)]⟩) (λi=>l.length - i) 0 (by simp) (by simp [cC,ak]) (λi hi=>?_);by_cases h:i<l.length
 ·have hc:=bu (cn:=Task.cnt) h
  have hs:=aX (cn:=Task.cnt) h;have hni:=cm hl h;simp only [aW,co,a8] at hni;obtain ⟨q0,hq0⟩:∃ q,k+((ak Task.cnt (l.take i):Nat):Int)=q:=⟨_,rfl⟩;have hpc:l[i].cnt=11+(ak Part.cnt l[i].c.o+(l[i].c.text.length+(l[i].a.text.length+(ak Entry.cnt l[i].a.list)))):=rfl;rw [hq0,<- bT h];have e0:Go.IntKind.i64.wrap q0=q0:=Go.IntWalk.i64_in _ (by omega);obtain ⟨q1,hq1⟩:∃ q,q0+1=q:=⟨_,rfl⟩;have e1:Go.IntKind.i64.wrap q1=q1:=Go.IntWalk.i64_in _ (by omega);obtain ⟨q2,hq2⟩:∃ q,q1+1=q:=⟨_,rfl⟩;have e2:Go.IntKind.i64.wrap q2=q2:=Go.IntWalk.i64_in _ (by omega);obtain ⟨q3,hq3⟩:∃ q,q2+1=q:=⟨_,rfl⟩;have e3:Go.IntKind.i64.wrap q3=q3:=Go.IntWalk.i64_in _ (by omega);obtain ⟨q4,hq4⟩:∃ q,q3+1=q:=⟨_,rfl⟩
  have e4:Go.IntKind.i64.wrap q4=q4:=Go.IntWalk.i64_in _ (by omega);obtain ⟨q5,hq5⟩:∃ q,q4+1=q:=⟨_,rfl⟩;have e5:Go.IntKind.i64.wrap q5=q5:=Go.IntWalk.i64_in _ (by omega);obtain ⟨q6,hq6⟩:∃ q,q5+((ak Part.cnt l[i].c.o:Nat):Int)=q:=⟨_,rfl⟩;have e6:Go.IntKind.i64.wrap q6=q6:=Go.IntWalk.i64_in _ (by omega);obtain ⟨q7,hq7⟩:∃ q,q6+((l[i].c.text.length:Nat):Int)=q:=⟨_,rfl⟩;have e7:Go.IntKind.i64.wrap q7=q7:=Go.IntWalk.i64_in _ (by omega);obtain ⟨q8,hq8⟩:∃ q,q7+1=q:=⟨_,rfl⟩;have e8:Go.IntKind.i64.wrap q8=q8:=Go.IntWalk.i64_in _ (by omega);obtain ⟨q9,hq9⟩:∃ q,q8+1=q:=⟨_,rfl⟩;have e9:Go.IntKind.i64.wrap q9=q9:=Go.IntWalk.i64_in _ (by omega);obtain ⟨q10,hq10⟩:∃ q,q9+1=q:=⟨_,rfl⟩;have e10:Go.IntKind.i64.wrap q10=q10:=Go.IntWalk.i64_in _ (by omega)
  obtain ⟨q11,hq11⟩:∃ q,q10+1=q:=⟨_,rfl⟩;have e11:Go.IntKind.i64.wrap q11=q11:=Go.IntWalk.i64_in _ (by omega);obtain ⟨q12,hq12⟩:∃ q,q11+1=q:=⟨_,rfl⟩;have e12:Go.IntKind.i64.wrap q12=q12:=Go.IntWalk.i64_in _ (by omega);obtain ⟨q13,hq13⟩:∃ q,q12+1=q:=⟨_,rfl⟩;have e13:Go.IntKind.i64.wrap q13=q13:=Go.IntWalk.i64_in _ (by omega);obtain ⟨q14,hq14⟩:∃ q,q13+((l[i].a.text.length:Nat):Int)=q:=⟨_,rfl⟩;have e14:Go.IntKind.i64.wrap q14=q14:=Go.IntWalk.i64_in _ (by omega);obtain ⟨q15,hq15⟩:∃ q,q14+((ak Entry.cnt l[i].a.list:Nat):Int)=q:=⟨_,rfl⟩;have e15:Go.IntKind.i64.wrap q15=q15:=Go.IntWalk.i64_in _ (by omega);have e:Go.IntKind.i64.wrap ((i:Int)+1)=((i+1:Nat):Int):=ar (by omega)
  refine Ent.open (λ_ h=>h) (k:=0) (i:=i) (j:=5) (k':=905) (sz':=3) (sz:=15) (H:=H) (rows:=((ay Task.mark Task.cnt Task.row l k i).set i l[i].row)) (srows:=l[i].c.o.map Part.row) (row:=l[i].row) (by simp) (by simp [ab,h]) rfl (by simp) (by decide) (by simp [Part.row]) (by simp) (λH5=>?_)
  refine Ent.open (λ_ h=>h) (k:=0) (i:=i) (j:=6) (k':=906) (sz':=1) (sz:=15) (H:=H) (rows:=((ay Task.mark Task.cnt Task.row l k i).set i [vi l[i].c.kind,.v (.string l[i].c.doc),vi l[i].c.client,vi l[i].c.seq,vi l[i].c.n,.h 905 H5 3 l[i].c.o.length,.s (l[i].c.text.map aw),vi l[i].pc,vi l[i].inv,vi l[i].lin,vi l[i].rs,vi l[i].a.code,vi l[i].a.rev,.s (l[i].a.text.map aw),.s (l[i].a.list.map Entry.row)])) (srows:=l[i].c.text.map aw) (row:=[vi l[i].c.kind,.v (.string l[i].c.doc),vi l[i].c.client,vi l[i].c.seq,vi l[i].c.n,.h 905 H5 3 l[i].c.o.length,.s (l[i].c.text.map aw),vi l[i].pc,vi l[i].inv,vi l[i].lin,vi l[i].rs,vi l[i].a.code,vi l[i].a.rev,.s (l[i].a.text.map aw),.s (l[i].a.list.map Entry.row)]) (by simp [aE,Task.row]) (by simp [ab,h]) rfl (by simp) (by decide) (by simp [aw]) (by simp) (λH6=>?_)
  refine Ent.open (λ_ h=>h) (k:=0) (i:=i) (j:=13) (k':=913) (sz':=1) (sz:=15) (H:=H) (rows:=((ay Task.mark Task.cnt Task.row l k i).set i [vi l[i].c.kind,.v (.string l[i].c.doc),vi l[i].c.client,vi l[i].c.seq,vi l[i].c.n,.h 905 H5 3 l[i].c.o.length,.h 906 H6 1 l[i].c.text.length,vi l[i].pc,vi l[i].inv,vi l[i].lin,vi l[i].rs,vi l[i].a.code,vi l[i].a.rev,.s (l[i].a.text.map aw),.s (l[i].a.list.map Entry.row)])) (srows:=l[i].a.text.map aw) (row:=[vi l[i].c.kind,.v (.string l[i].c.doc),vi l[i].c.client,vi l[i].c.seq,vi l[i].c.n,.h 905 H5 3 l[i].c.o.length,.h 906 H6 1 l[i].c.text.length,vi l[i].pc,vi l[i].inv,vi l[i].lin,vi l[i].rs,vi l[i].a.code,vi l[i].a.rev,.s (l[i].a.text.map aw),.s (l[i].a.list.map Entry.row)]) (by simp [aE,Task.row]) (by simp [ab,h]) rfl (by simp) (by decide) (by simp [aw]) (by simp) (λH13=>?_)
  refine Ent.open (λ_ h=>h) (k:=0) (i:=i) (j:=14) (k':=914) (sz':=3) (sz:=15) (H:=H) (rows:=((ay Task.mark Task.cnt Task.row l k i).set i [vi l[i].c.kind,.v (.string l[i].c.doc),vi l[i].c.client,vi l[i].c.seq,vi l[i].c.n,.h 905 H5 3 l[i].c.o.length,.h 906 H6 1 l[i].c.text.length,vi l[i].pc,vi l[i].inv,vi l[i].lin,vi l[i].rs,vi l[i].a.code,vi l[i].a.rev,.h 913 H13 1 l[i].a.text.length,.s (l[i].a.list.map Entry.row)])) (srows:=l[i].a.list.map Entry.row) (row:=[vi l[i].c.kind,.v (.string l[i].c.doc),vi l[i].c.client,vi l[i].c.seq,vi l[i].c.n,.h 905 H5 3 l[i].c.o.length,.h 906 H6 1 l[i].c.text.length,vi l[i].pc,vi l[i].inv,vi l[i].lin,vi l[i].rs,vi l[i].a.code,vi l[i].a.rev,.h 913 H13 1 l[i].a.text.length,.s (l[i].a.list.map Entry.row)]) (by simp [aE,Task.row]) (by simp [ab,h]) rfl (by simp) (by decide) (by simp [Entry.row]) (by simp) (λH14=>?_)
  refine Ent.refl ?_;simp [h,ab,Task.row,aE,aY,hq1,e1];refine ag.pure (dD q1 (by omega) (by omega)) (by simp) ?_;simp [h,ab,aY,hq2,e2,hq3,e3,hq4,e4,hq5,e5];refine ag.mark (gh l[i].c.o q5 (by omega) (by omega) (by omega)) rfl (λ_ h=>h) (by simp) ?_;simp [h,ab,hq6];refine ag.mark (bU l[i].c.text q6 (by omega) (by omega)) rfl (λ_ h=>h) (by simp) ?_;simp [h,ab,aY,hq7,hq8,e8,hq9,e9,hq10,e10,hq11,e11,hq12,e12,hq13,e13];refine ag.mark (bU l[i].a.text q13 (by omega) (by omega)) rfl (λ_ h=>h) (by simp) ?_;simp [h,ab,hq14];refine ag.mark (dE l[i].a.list q14 (by omega) (by omega) (by omega)) rfl (λ_ h=>h) (by simp) ?_;simp [e,hq15]
  refine bo (k:=0) (i:=i) (j:=5) (k':=905) (sz':=3) (sz:=15) (H:=H) (rows:=(ay Task.mark Task.cnt Task.row l k i).set i [vi q0,.v (.string (markT q1)),vi q2,vi q3,vi q4,.h 905 H5 3 l[i].c.o.length,.h 906 H6 1 l[i].c.text.length,vi q7,vi q8,vi q9,vi q10,vi q11,vi q12,.h 913 H13 1 l[i].a.text.length,.h 914 H14 3 l[i].a.list.length]) (row:=[vi q0,.v (.string (markT q1)),vi q2,vi q3,vi q4,.h 905 H5 3 l[i].c.o.length,.h 906 H6 1 l[i].c.text.length,vi q7,vi q8,vi q9,vi q10,vi q11,vi q12,.h 913 H13 1 l[i].a.text.length,.h 914 H14 3 l[i].a.list.length]) (H':=H5) (srows:=(ai Part.mark Part.cnt l[i].c.o q5).map Part.row) (by simp) (by simp [ab,h]) (by simp [aj]) (by simp) (by decide) (by simp) ?_
  refine bo (k:=0) (i:=i) (j:=6) (k':=906) (sz':=1) (sz:=15) (H:=H) (rows:=(ay Task.mark Task.cnt Task.row l k i).set i [vi q0,.v (.string (markT q1)),vi q2,vi q3,vi q4,.s ((ai Part.mark Part.cnt l[i].c.o q5).map Part.row),.h 906 H6 1 l[i].c.text.length,vi q7,vi q8,vi q9,vi q10,vi q11,vi q12,.h 913 H13 1 l[i].a.text.length,.h 914 H14 3 l[i].a.list.length]) (row:=[vi q0,.v (.string (markT q1)),vi q2,vi q3,vi q4,.s ((ai Part.mark Part.cnt l[i].c.o q5).map Part.row),.h 906 H6 1 l[i].c.text.length,vi q7,vi q8,vi q9,vi q10,vi q11,vi q12,.h 913 H13 1 l[i].a.text.length,.h 914 H14 3 l[i].a.list.length]) (H':=H6) (srows:=(ai bq one l[i].c.text q6).map aw) (by simp [aE]) (by simp [ab,h]) (by simp [aj]) (by simp) (by decide) (by simp) ?_
  refine bo (k:=0) (i:=i) (j:=13) (k':=913) (sz':=1) (sz:=15) (H:=H) (rows:=(ay Task.mark Task.cnt Task.row l k i).set i [vi q0,.v (.string (markT q1)),vi q2,vi q3,vi q4,.s ((ai Part.mark Part.cnt l[i].c.o q5).map Part.row),.s ((ai bq one l[i].c.text q6).map aw),vi q7,vi q8,vi q9,vi q10,vi q11,vi q12,.h 913 H13 1 l[i].a.text.length,.h 914 H14 3 l[i].a.list.length]) (row:=[vi q0,.v (.string (markT q1)),vi q2,vi q3,vi q4,.s ((ai Part.mark Part.cnt l[i].c.o q5).map Part.row),.s ((ai bq one l[i].c.text q6).map aw),vi q7,vi q8,vi q9,vi q10,vi q11,vi q12,.h 913 H13 1 l[i].a.text.length,.h 914 H14 3 l[i].a.list.length]) (H':=H13) (srows:=(ai bq one l[i].a.text q13).map aw) (by simp [aE]) (by simp [ab,h]) (by simp [aj]) (by simp) (by decide) (by simp) ?_
  refine bo (k:=0) (i:=i) (j:=14) (k':=914) (sz':=3) (sz:=15) (H:=H) (rows:=(ay Task.mark Task.cnt Task.row l k i).set i [vi q0,.v (.string (markT q1)),vi q2,vi q3,vi q4,.s ((ai Part.mark Part.cnt l[i].c.o q5).map Part.row),.s ((ai bq one l[i].c.text q6).map aw),vi q7,vi q8,vi q9,vi q10,vi q11,vi q12,.s ((ai bq one l[i].a.text q13).map aw),.h 914 H14 3 l[i].a.list.length]) (row:=[vi q0,.v (.string (markT q1)),vi q2,vi q3,vi q4,.s ((ai Part.mark Part.cnt l[i].c.o q5).map Part.row),.s ((ai bq one l[i].c.text q6).map aw),vi q7,vi q8,vi q9,vi q10,vi q11,vi q12,.s ((ai bq one l[i].a.text q13).map aw),.h 914 H14 3 l[i].a.list.length]) (H':=H14) (srows:=(ai Entry.mark Entry.cnt l[i].a.list q14).map Entry.row) (by simp [aE]) (by simp [ab,h]) (by simp [aj]) (by simp) (by decide) (by simp) ?_
  refine Ent.refl ⟨i+1,by omega,by omega,?_⟩;simp [aE,hs,hpc];refine ⟨by omega,?_⟩;refine bF h ?_;rw [hq0];subst hq1 hq2 hq3 hq4 hq5 hq6 hq7 hq8 hq9 hq10 hq11 hq12 hq13 hq14 hq15;rfl
 ·have:i=l.length:=by omega
  subst this;refine Ent.refl ?_;simp [bG,aj,Task.row]
theorem ew (x:Wld) (h:be x<=2 ^ 36):ae Try.prog 6 [.agg x.row] (.one (.agg x.res)):=by
 refine aa an Try.func6 (by kernel_rfl) rfl rfl rfl (Nat.le_of_ble_eq_true rfl) (λw0 base=>?_);unfold be at h;simp [Wld.row,Wld.res]
 try intros
 refine ag.pure (s8 x.h (by omega)) (by simp [Hub.row]) ?_;simp [Hub.res]
 try intros
 refine ag.pure (dt x.locks (by omega)) (by simp) ?_;simp
 try intros
 refine ag.pure (lE x.queues (by omega)) (by simp) ?_;simp
 try intros
 refine ag.pure (nF x.tasks (by omega)) (by simp) ?_;simp
 try intros
theorem oO (x y:Wld) (h:be x<=2 ^ 36):ae Try.prog 9 [.agg x.row,.agg y.row] (.one (.c (vb (x=y)) 1)):=by
 refine aa an Try.func9 (by kernel_rfl) rfl rfl rfl (Nat.le_of_ble_eq_true rfl) (λw0 base=>?_);unfold be at h;obtain ⟨a0,a1,a2,a3,a4⟩:=x;obtain ⟨b0,b1,b2,b3,b4⟩:=y;simp only at h;simp [Wld.row]
 try intros
 refine ag.pure (ur a0 b0 (by omega)) (by simp [Hub.row]) ?_;simp;by_cases h0:a0=b0
 rotate_left
 ·simp [h0]
 subst h0
 try simp
 refine ag.pure (cj a1 b1 (by omega)) (by simp) ?_;simp;by_cases h1:a1=b1
 rotate_left
 ·simp [h1]
 subst h1
 try simp
 refine ag.pure (mq a2 b2 (by omega)) (by simp) ?_;simp;by_cases h2:a2=b2
 rotate_left
 ·simp [h2]
 subst h2
 try simp
 refine ag.pure (oP a3 b3 (by omega)) (by simp) ?_;simp;by_cases h3:a3=b3
 rotate_left
 ·simp [h3]
 subst h3
 try simp
 by_cases h4:a4=b4
 rotate_left
 ·simp [h4]
 subst h4
 try simp
theorem nM (x:Wld) (h:x.fits) (left:Nat) (hf:left<=2 ^ 20):ae Try.prog 4 [.agg x.row,.c (vi left)] (.one (.c (vi (szR (be x) left)) 1)):=by
 refine aa an Try.func4 (by kernel_rfl) rfl rfl rfl (Nat.le_of_ble_eq_true rfl) (λw0 base=>?_);obtain ⟨f0,f1,f2,f3,f4⟩:=h;obtain ⟨r,hr⟩:∃ r,szR (be x) left=r:=⟨_,rfl⟩;rw [hr];have hn:be x=dC x.h+(x.locks.length+(nL aG x.queues+(nL aW x.tasks))):=rfl;simp [Wld.row]
 try intros
 refine ag.pure (tc x.h f0 left (by omega)) (by simp [Hub.row]) ?_;by_cases k0:dC x.h<=left
 rotate_left
 ·have:r = -1:=by rw [<- hr];exact ao (by omega)
  rw [ao k0];simp [this]
 rw [aA k0];obtain ⟨m0,hm0⟩:∃ m,left - dC x.h=m:=⟨_,rfl⟩;rw [hm0];simp;refine ag.pure (du x.locks f1.1 m0 (by omega)) (by simp) ?_;by_cases k1:x.locks.length<=m0
 rotate_left
 ·have:r = -1:=by rw [<- hr];exact ao (by omega)
  rw [ao k1];simp [this]
 rw [aA k1];obtain ⟨m1,hm1⟩:∃ m,m0 - x.locks.length=m:=⟨_,rfl⟩;rw [hm1];simp;refine ag.pure (lH x.queues f2.1 f2.2 m1 (by omega)) (by simp) ?_;by_cases k2:nL aG x.queues<=m1
 rotate_left
 ·have:r = -1:=by rw [<- hr];exact ao (by omega)
  rw [ao k2];simp [this]
 rw [aA k2];obtain ⟨m2,hm2⟩:∃ m,m1 - nL aG x.queues=m:=⟨_,rfl⟩;rw [hm2];simp;refine ag.pure (nN x.tasks f3.1 f3.2 m2 (by omega)) (by simp) ?_;by_cases k3:nL aW x.tasks<=m2
 rotate_left
 ·have:r = -1:=by rw [<- hr];exact ao (by omega)
  rw [ao k3];simp [this]
 rw [aA k3];obtain ⟨m3,hm3⟩:∃ m,m2 - nL aW x.tasks=m:=⟨_,rfl⟩;rw [hm3];have:r=(m3:Int):=by rw [<- hr,aA (by omega)];omega
 simp [this]
theorem kH (x:Wld) (k:Int) (h0:0<=k) (hk:k+x.cntT<=4611686018427387904) (hl:be x<=2 ^ 36):bD Try.prog 10 (.agg x.res) k (k+x.cntT) (.agg (x.markT k).res):=by
 refine bD.intro an Try.func10 (by kernel_rfl) rfl rfl rfl (by decide) (λw0 base=>?_);simp only [Wld.cntT] at hk;unfold be at hl;have hs_h:x.h.cntT=ak Doc.cnt x.h.docs+(ak Sub.cnt x.h.subs):=rfl;simp [Wld.res]
 try intros
 refine ag.mark (oh x.h (k) (by omega) (by omega) (by omega)) rfl (λ_ h=>h) (by simp) ?_;simp [Hub.res,Hub.markT];refine ag.mark (bU x.locks (k+((x.h.cntT:Nat):Int)) (by omega) (by omega)) rfl (λ_ h=>h) (by simp) ?_;simp;refine ag.mark (jN x.queues (k+((x.h.cntT:Nat):Int)+((x.locks.length:Nat):Int)) (by omega) (by omega) (by omega)) rfl (λ_ h=>h) (by simp) ?_;simp;refine ag.mark (kI x.tasks (k+((x.h.cntT:Nat):Int)+((x.locks.length:Nat):Int)+((ak Queue.cnt x.queues:Nat):Int)) (by omega) (by omega) (by omega)) rfl (λ_ h=>h) (by simp) ?_;simp;simp [Wld.markT,Wld.cntT,aj,Hub.cntT,Int.add_assoc]
 try omega
set_option maxHeartbeats 1600000
def CW (s:ByteArray):List CD:=[.v (.string s)]
@[simp] theorem Ak (s:ByteArray):(CW s).length=1:=rfl
open Go.AM Go.ChangeShapes Go.WideShapes Go.ChangeAt Go.RowKit
theorem own:ownKnob Try.prog.godebug=none:=by kernel_rfl
theorem Dc:laidOutB Try.prog=true:=by kernel_rfl
theorem aC {D:Nat} {ds:List CD} (h:aV Try.prog D 3 ds):∃ n:Int,ds=[vi n]/\br n:=by
 obtain ⟨n,h1,h2⟩:=rL Try.underlying3 h;exact ⟨n,h1,vl h2⟩
theorem mL:maxLen=9223372036854775807:=rfl
theorem cL {D:Nat} {ds:List CD} (h:aV Try.prog D 26 ds):∃ l:List Int,ds=[.s (l.map aw)]/\l.length<=9223372036854775807/\∀ n∈l,br n:=by
 obtain ⟨rows,rfl,h1,D',h2⟩:=bI Try.underlying26 h;obtain ⟨l,rfl,hl⟩:=ce (f:=aw) (ok:=br) rows (λrow hrow=>aC (h2 row hrow).2);exact ⟨l,rfl,by simpa [mL] using h1,hl⟩
theorem sf:Try.prog.cellsOf 153=3:=by kernel_rfl
theorem rh {α:Type} {l:List α} (h:l.length=3):∃ x0 x1 x2,l=[x0,x1,x2]:=by
 match l,h with
 | [x0,x1,x2],_=>exact ⟨x0,x1,x2,rfl⟩
theorem cX:Try.prog.cellsOf 3=1:=by kernel_rfl
theorem eE:Try.prog.cellsOf 26=1:=by kernel_rfl
theorem oK {D:Nat} {ds:List CD} (h:aV Try.prog D 153 ds):∃ x:Part,ds=x.row/\x.fits:=by
 obtain ⟨hl,D',hf⟩:=aK Try.underlying153 h;rw [sf] at hl;obtain ⟨d0,d1,d2,rfl⟩:=rh hl;simp [cX,eE] at hf;obtain ⟨h0,h1,h2⟩:=hf;obtain ⟨n0,e0,k0⟩:=aC h0;simp at e0;subst e0;obtain ⟨n1,e1,k1⟩:=aC h1;simp at e1;subst e1;obtain ⟨n2,e2,k2⟩:=cL h2;simp at e2;subst e2;exact ⟨⟨n0,n1,n2⟩,rfl,k0,k1,k2⟩
theorem ic {D:Nat} {ds:List CD} (h:aV Try.prog D 76 ds):∃ l:List Part,ds=[.s (l.map Part.row)]/\l.length<=9223372036854775807/\∀ y∈l,y.fits:=by
 obtain ⟨rows,rfl,h1,D',h2⟩:=bI Try.underlying76 h;obtain ⟨l,rfl,hl⟩:=ce (f:=Part.row) (ok:=Part.fits) rows (λrow hrow=>oK (h2 row hrow).2);exact ⟨l,rfl,by simpa [mL] using h1,hl⟩
theorem sg:Try.prog.cellsOf 151=3:=by kernel_rfl
theorem nu:Try.prog.cellsOf 76=1:=by kernel_rfl
theorem mn {D:Nat} {ds:List CD} (h:aV Try.prog D 151 ds):∃ x:Entry,ds=x.row/\x.fits:=by
 obtain ⟨hl,D',hf⟩:=aK Try.underlying151 h;rw [sg] at hl;obtain ⟨d0,d1,d2,rfl⟩:=rh hl;simp [cX,nu] at hf;obtain ⟨h0,h1,h2⟩:=hf;obtain ⟨n0,e0,k0⟩:=aC h0;simp at e0;subst e0;obtain ⟨n1,e1,k1⟩:=aC h1;simp at e1;subst e1;obtain ⟨n2,e2,k2⟩:=ic h2;simp at e2;subst e2;exact ⟨⟨n0,n1,n2⟩,rfl,k0,k1,k2⟩
theorem ek {D:Nat} {ds:List CD} (h:aV Try.prog D 79 ds):∃ l:List Entry,ds=[.s (l.map Entry.row)]/\l.length<=9223372036854775807/\∀ y∈l,y.fits:=by
 obtain ⟨rows,rfl,h1,D',h2⟩:=bI Try.underlying79 h;obtain ⟨l,rfl,hl⟩:=ce (f:=Entry.row) (ok:=Entry.fits) rows (λrow hrow=>mn (h2 row hrow).2);exact ⟨l,rfl,by simpa [mL] using h1,hl⟩
theorem se:Try.prog.cellsOf 156=3:=by kernel_rfl
theorem oI {D:Nat} {ds:List CD} (h:aV Try.prog D 156 ds):∃ x:Seen,ds=x.row/\x.fits:=by
 obtain ⟨hl,D',hf⟩:=aK Try.underlying156 h;rw [se] at hl;obtain ⟨d0,d1,d2,rfl⟩:=rh hl;simp [cX] at hf;obtain ⟨h0,h1,h2⟩:=hf;obtain ⟨n0,e0,k0⟩:=aC h0;simp at e0;subst e0;obtain ⟨n1,e1,k1⟩:=aC h1;simp at e1;subst e1;obtain ⟨n2,e2,k2⟩:=aC h2;simp at e2;subst e2;exact ⟨⟨n0,n1,n2⟩,rfl,k0,k1,k2⟩
theorem mj {D:Nat} {ds:List CD} (h:aV Try.prog D 101 ds):∃ l:List Seen,ds=[.s (l.map Seen.row)]/\l.length<=9223372036854775807/\∀ y∈l,y.fits:=by
 obtain ⟨rows,rfl,h1,D',h2⟩:=bI Try.underlying101 h;obtain ⟨l,rfl,hl⟩:=ce (f:=Seen.row) (ok:=Seen.fits) rows (λrow hrow=>oI (h2 row hrow).2);exact ⟨l,rfl,by simpa [mL] using h1,hl⟩
theorem sj:Try.prog.cellsOf 103=5:=by kernel_rfl
theorem AC {α:Type} {l:List α} (h:l.length=5):∃ x0 x1 x2 x3 x4,l=[x0,x1,x2,x3,x4]:=by
 match l,h with
 | [x0,x1,x2,x3,x4],_=>exact ⟨x0,x1,x2,x3,x4,rfl⟩
theorem j4:Try.prog.cellsOf 9=1:=by kernel_rfl
theorem j5:Try.prog.cellsOf 79=1:=by kernel_rfl
theorem sm:Try.prog.cellsOf 101=1:=by kernel_rfl
theorem rO {D:Nat} {ds:List CD} (h:aV Try.prog D 103 ds):∃ x:Doc,ds=x.row/\x.fits:=by
 obtain ⟨hl,D',hf⟩:=aK Try.underlying103 h;rw [sj] at hl;obtain ⟨d0,d1,d2,d3,d4,rfl⟩:=AC hl;simp [cX,j4,eE,j5,sm] at hf;obtain ⟨h0,h1,h2,h3,h4⟩:=hf;obtain ⟨n0,e0,k0⟩:=db Try.underlying9 h0;simp at e0;subst e0;obtain ⟨n1,e1,k1⟩:=aC h1;simp at e1;subst e1;obtain ⟨n2,e2,k2⟩:=cL h2;simp at e2;subst e2;obtain ⟨n3,e3,k3⟩:=ek h3;simp at e3;subst e3;obtain ⟨n4,e4,k4⟩:=mj h4;simp at e4;subst e4;exact ⟨⟨n0,n1,n2,n3,n4⟩,rfl,(by rw [mL] at k0;exact k0),k1,k2,k3,k4⟩
theorem oL {D:Nat} {ds:List CD} (h:aV Try.prog D 22 ds):∃ l:List Doc,ds=[.s (l.map Doc.row)]/\l.length<=9223372036854775807/\∀ y∈l,y.fits:=by
 obtain ⟨rows,rfl,h1,D',h2⟩:=bI Try.underlying22 h;obtain ⟨l,rfl,hl⟩:=ce (f:=Doc.row) (ok:=Doc.fits) rows (λrow hrow=>rO (h2 row hrow).2);exact ⟨l,rfl,by simpa [mL] using h1,hl⟩
theorem li:Try.prog.cellsOf 106=4:=by kernel_rfl
theorem rg {α:Type} {l:List α} (h:l.length=4):∃ x0 x1 x2 x3,l=[x0,x1,x2,x3]:=by
 match l,h with
 | [x0,x1,x2,x3],_=>exact ⟨x0,x1,x2,x3,rfl⟩
theorem sd:Try.prog.cellsOf 4=1:=by kernel_rfl
theorem oJ {D:Nat} {ds:List CD} (h:aV Try.prog D 106 ds):∃ x:Ring,ds=x.row/\x.fits:=by
 obtain ⟨hl,D',hf⟩:=aK Try.underlying106 h;rw [li] at hl;obtain ⟨d0,d1,d2,d3,rfl⟩:=rg hl;simp [cX,sd,j5] at hf;obtain ⟨h0,h1,h2,h3⟩:=hf;obtain ⟨n0,e0,k0⟩:=aC h0;simp at e0;subst e0;obtain ⟨n1,e1,k1⟩:=aC h1;simp at e1;subst e1;obtain ⟨n2,e2⟩:=jq Try.underlying4 h2;simp at e2;subst e2;obtain ⟨n3,e3,k3⟩:=ek h3;simp at e3;subst e3;exact ⟨⟨n0,n1,n2,n3⟩,rfl,k0,k1,trivial,k3⟩
theorem si:Try.prog.cellsOf 108=6:=by kernel_rfl
theorem AB {α:Type} {l:List α} (h:l.length=6):∃ x0 x1 x2 x3 x4 x5,l=[x0,x1,x2,x3,x4,x5]:=by
 match l,h with
 | [x0,x1,x2,x3,x4,x5],_=>exact ⟨x0,x1,x2,x3,x4,x5,rfl⟩
theorem rM {D:Nat} {ds:List CD} (h:aV Try.prog D 108 ds):∃ x:Sub,ds=x.row/\x.fits:=by
 obtain ⟨hl,D',hf⟩:=aK Try.underlying108 h;rw [si] at hl;obtain ⟨d0,d1,d2,d3,d4,d5,rfl⟩:=AB hl;simp [cX,j4,li] at hf;obtain ⟨h0,h1,h2⟩:=hf;obtain ⟨n0,e0,k0⟩:=aC h0;simp at e0;subst e0;obtain ⟨n1,e1,k1⟩:=db Try.underlying9 h1;simp at e1;subst e1;obtain ⟨n2,e2,k2⟩:=oJ h2;simp [Ring.row] at e2;obtain ⟨e2_0,e2_1,e2_2,e2_3⟩:=e2;subst e2_0 e2_1 e2_2 e2_3;exact ⟨⟨n0,n1,n2⟩,rfl,k0,(by rw [mL] at k1;exact k1),k2⟩
theorem oH {D:Nat} {ds:List CD} (h:aV Try.prog D 23 ds):∃ l:List Sub,ds=[.s (l.map Sub.row)]/\l.length<=9223372036854775807/\∀ y∈l,y.fits:=by
 obtain ⟨rows,rfl,h1,D',h2⟩:=bI Try.underlying23 h;obtain ⟨l,rfl,hl⟩:=ce (f:=Sub.row) (ok:=Sub.fits) rows (λrow hrow=>rM (h2 row hrow).2);exact ⟨l,rfl,by simpa [mL] using h1,hl⟩
theorem nx:Try.prog.cellsOf 25=4:=by kernel_rfl
theorem uE:Try.prog.cellsOf 22=1:=by kernel_rfl
theorem uD:Try.prog.cellsOf 23=1:=by kernel_rfl
theorem rN {D:Nat} {ds:List CD} (h:aV Try.prog D 25 ds):∃ x:Hub,ds=x.row/\x.fits:=by
 obtain ⟨hl,D',hf⟩:=aK Try.underlying25 h;rw [nx] at hl;obtain ⟨d0,d1,d2,d3,rfl⟩:=rg hl;simp [cX,sd,uE,uD] at hf;obtain ⟨h0,h1,h2,h3⟩:=hf;obtain ⟨n0,e0⟩:=jq Try.underlying4 h0;simp at e0;subst e0;obtain ⟨n1,e1,k1⟩:=oL h1;simp at e1;subst e1;obtain ⟨n2,e2,k2⟩:=oH h2;simp at e2;subst e2;obtain ⟨n3,e3,k3⟩:=aC h3;simp at e3;subst e3;exact ⟨⟨n0,n1,n2,n3⟩,rfl,trivial,k1,k2,k3⟩
theorem nt:Try.prog.cellsOf 78=7:=by kernel_rfl
theorem AA {α:Type} {l:List α} (h:l.length=7):∃ x0 x1 x2 x3 x4 x5 x6,l=[x0,x1,x2,x3,x4,x5,x6]:=by
 match l,h with
 | [x0,x1,x2,x3,x4,x5,x6],_=>exact ⟨x0,x1,x2,x3,x4,x5,x6,rfl⟩
theorem oM {D:Nat} {ds:List CD} (h:aV Try.prog D 78 ds):∃ x:Call,ds=x.row/\x.fits:=by
 obtain ⟨hl,D',hf⟩:=aK Try.underlying78 h;rw [nt] at hl;obtain ⟨d0,d1,d2,d3,d4,d5,d6,rfl⟩:=AA hl;simp [cX,j4,eE,nu] at hf;obtain ⟨h0,h1,h2,h3,h4,h5,h6⟩:=hf;obtain ⟨n0,e0,k0⟩:=aC h0;simp at e0;subst e0;obtain ⟨n1,e1,k1⟩:=db Try.underlying9 h1;simp at e1;subst e1;obtain ⟨n2,e2,k2⟩:=aC h2;simp at e2;subst e2;obtain ⟨n3,e3,k3⟩:=aC h3;simp at e3;subst e3;obtain ⟨n4,e4,k4⟩:=aC h4;simp at e4;subst e4;obtain ⟨n5,e5,k5⟩:=ic h5;simp at e5;subst e5;obtain ⟨n6,e6,k6⟩:=cL h6;simp at e6;subst e6;exact ⟨⟨n0,n1,n2,n3,n4,n5,n6⟩,rfl,k0,(by rw [mL] at k1;exact k1),k2,k3,k4,k5,k6⟩
theorem ns:Try.prog.cellsOf 81=4:=by kernel_rfl
theorem lc {D:Nat} {ds:List CD} (h:aV Try.prog D 81 ds):∃ x:Answer,ds=x.row/\x.fits:=by
 obtain ⟨hl,D',hf⟩:=aK Try.underlying81 h;rw [ns] at hl;obtain ⟨d0,d1,d2,d3,rfl⟩:=rg hl;simp [cX,eE,j5] at hf;obtain ⟨h0,h1,h2,h3⟩:=hf;obtain ⟨n0,e0,k0⟩:=aC h0;simp at e0;subst e0;obtain ⟨n1,e1,k1⟩:=aC h1;simp at e1;subst e1;obtain ⟨n2,e2,k2⟩:=cL h2;simp at e2;subst e2;obtain ⟨n3,e3,k3⟩:=ek h3;simp at e3;subst e3;exact ⟨⟨n0,n1,n2,n3⟩,rfl,k0,k1,k2,k3⟩
theorem uz:Try.prog.cellsOf 83=15:=by kernel_rfl
theorem xI {α:Type} {l:List α} (h:l.length=15):∃ x0 x1 x2 x3 x4 x5 x6 x7 x8 x9 x10 x11 x12 x13 x14,l=[x0,x1,x2,x3,x4,x5,x6,x7,x8,x9,x10,x11,x12,x13,x14]:=by
 match l,h with
 | [x0,x1,x2,x3,x4,x5,x6,x7,x8,x9,x10,x11,x12,x13,x14],_=>exact ⟨x0,x1,x2,x3,x4,x5,x6,x7,x8,x9,x10,x11,x12,x13,x14,rfl⟩
theorem oG {D:Nat} {ds:List CD} (h:aV Try.prog D 83 ds):∃ x:Task,ds=x.row/\x.fits:=by
 obtain ⟨hl,D',hf⟩:=aK Try.underlying83 h;rw [uz] at hl;obtain ⟨d0,d1,d2,d3,d4,d5,d6,d7,d8,d9,d10,d11,d12,d13,d14,rfl⟩:=xI hl;simp [cX,nt,ns] at hf;obtain ⟨h0,h1,h2,h3,h4,h5⟩:=hf;obtain ⟨n0,e0,k0⟩:=oM h0;simp [Call.row] at e0;obtain ⟨e0_0,e0_1,e0_2,e0_3,e0_4,e0_5,e0_6⟩:=e0;subst e0_0 e0_1 e0_2 e0_3 e0_4 e0_5 e0_6;obtain ⟨n1,e1,k1⟩:=aC h1;simp at e1;subst e1;obtain ⟨n2,e2,k2⟩:=aC h2;simp at e2;subst e2;obtain ⟨n3,e3,k3⟩:=aC h3;simp at e3;subst e3;obtain ⟨n4,e4,k4⟩:=aC h4;simp at e4;subst e4;obtain ⟨n5,e5,k5⟩:=lc h5;simp [Answer.row] at e5;obtain ⟨e5_0,e5_1,e5_2,e5_3⟩:=e5;subst e5_0 e5_1 e5_2 e5_3;exact ⟨⟨n0,n1,n2,n3,n4,n5⟩,rfl,k0,k1,k2,k3,k4,k5⟩
theorem mi {D:Nat} {ds:List CD} (h:aV Try.prog D 28 ds):∃ l:List Task,ds=[.s (l.map Task.row)]/\l.length<=9223372036854775807/\∀ y∈l,y.fits:=by
 obtain ⟨rows,rfl,h1,D',h2⟩:=bI Try.underlying28 h;obtain ⟨l,rfl,hl⟩:=ce (f:=Task.row) (ok:=Task.fits) rows (λrow hrow=>oG (h2 row hrow).2);exact ⟨l,rfl,by simpa [mL] using h1,hl⟩
theorem uA:Try.prog.cellsOf 74=2:=by kernel_rfl
theorem AD {α:Type} {l:List α} (h:l.length=2):∃ x0 x1,l=[x0,x1]:=by
 match l,h with
 | [x0,x1],_=>exact ⟨x0,x1,rfl⟩
theorem mm {D:Nat} {ds:List CD} (h:aV Try.prog D 74 ds):∃ x:Queue,ds=x.row/\x.fits:=by
 obtain ⟨hl,D',hf⟩:=aK Try.underlying74 h;rw [uA] at hl;obtain ⟨d0,d1,rfl⟩:=AD hl;simp [j4,eE] at hf;obtain ⟨h0,h1⟩:=hf;obtain ⟨n0,e0,k0⟩:=db Try.underlying9 h0;simp at e0;subst e0;obtain ⟨n1,e1,k1⟩:=cL h1;simp at e1;subst e1;exact ⟨⟨n0,n1⟩,rfl,(by rw [mL] at k0;exact k0),k1⟩
theorem kZ {D:Nat} {ds:List CD} (h:aV Try.prog D 27 ds):∃ l:List Queue,ds=[.s (l.map Queue.row)]/\l.length<=9223372036854775807/\∀ y∈l,y.fits:=by
 obtain ⟨rows,rfl,h1,D',h2⟩:=bI Try.underlying27 h;obtain ⟨l,rfl,hl⟩:=ce (f:=Queue.row) (ok:=Queue.fits) rows (λrow hrow=>mm (h2 row hrow).2);exact ⟨l,rfl,by simpa [mL] using h1,hl⟩
theorem nv:Try.prog.cellsOf 30=8:=by kernel_rfl
theorem Az {α:Type} {l:List α} (h:l.length=8):∃ x0 x1 x2 x3 x4 x5 x6 x7,l=[x0,x1,x2,x3,x4,x5,x6,x7]:=by
 match l,h with
 | [x0,x1,x2,x3,x4,x5,x6,x7],_=>exact ⟨x0,x1,x2,x3,x4,x5,x6,x7,rfl⟩
theorem uC:Try.prog.cellsOf 27=1:=by kernel_rfl
theorem uB:Try.prog.cellsOf 28=1:=by kernel_rfl
theorem mh {D:Nat} {ds:List CD} (h:aV Try.prog D 30 ds):∃ x:Wld,ds=x.row/\x.fits:=by
 obtain ⟨hl,D',hf⟩:=aK Try.underlying30 h;rw [nv] at hl;obtain ⟨d0,d1,d2,d3,d4,d5,d6,d7,rfl⟩:=Az hl;simp [cX,nx,eE,uC,uB] at hf;obtain ⟨h0,h1,h2,h3,h4⟩:=hf;obtain ⟨n0,e0,k0⟩:=rN h0;simp [Hub.row] at e0;obtain ⟨e0_0,e0_1,e0_2,e0_3⟩:=e0;subst e0_0 e0_1 e0_2 e0_3;obtain ⟨n1,e1,k1⟩:=cL h1;simp at e1;subst e1;obtain ⟨n2,e2,k2⟩:=kZ h2;simp at e2;subst e2;obtain ⟨n3,e3,k3⟩:=mi h3;simp at e3;subst e3;obtain ⟨n4,e4,k4⟩:=aC h4;simp at e4;subst e4;exact ⟨⟨n0,n1,n2,n3,n4⟩,rfl,k0,k1,k2,k3,k4⟩
theorem jU {D:Nat} {t:TypeId} {vd:VD} {fs:Array Field} (hu:Try.prog.underlying t=some (.struct fs)) (hc:Try.prog.cellsOf t≠1) (h:lB Try.prog D t vd):∃ ds,vd=.agg ds/\aV Try.prog D t ds:=by
 cases vd with
 | c d =>
   have:=(aK hu h).1;exact absurd this.symm hc
 |agg ds=>exact ⟨ds,rfl,h.2⟩
end Go.Proofs.Ytmfcmlldnjffeaa
