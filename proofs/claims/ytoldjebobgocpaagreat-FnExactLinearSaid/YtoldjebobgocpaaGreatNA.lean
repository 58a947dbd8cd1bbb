import Derived.Test.YtoldjebobgocpaaGreatMH
namespace Go.Proofs.YtoldjebobgocpaaGreat
open Go.AM
set_option maxRecDepth 20000
theorem Ch (x : Part) (h : ar x<=2 ^ 40) : ac Tryz.prog 384 [.agg x.row] (.one (.agg x.res)):=by
 refine ai ag Tryz.func384 (by kernel_rfl) rfl rfl rfl (Nat.le_of_ble_eq_true rfl) (λw0 base=>?_);unfold ar at h;simp [Part.row,Part.res]
 try intros
 refine aa.pure (i5 x.signs (by omega)) (by simp) ?_;simp
 try intros
theorem EV (x y : Part) (h : ar x<=2 ^ 40) : ac Tryz.prog 386 [.agg x.row,.agg y.row] (.one (.c (vb (x = y)) 1)):=by
 refine ai ag Tryz.func386 (by kernel_rfl) rfl rfl rfl (Nat.le_of_ble_eq_true rfl) (λw0 base=>?_);unfold ar at h;obtain ⟨a0,a1,a2⟩:=x;obtain ⟨b0,b1,b2⟩:=y;simp only at h;simp [Part.row]
 try intros
 by_cases h0 : a0 = b0
 rotate_left
 ·simp [h0]
 subst h0
 try simp
 by_cases h1 : a1 = b1
 rotate_left
 ·simp [h1]
 subst h1
 try simp
 refine aa.pure (je a2 b2 (by omega)) (by simp) ?_;simp;by_cases h2 : a2 = b2
 rotate_left
 ·simp [h2]
 subst h2
 try simp
theorem Dl (x : Part) (h : x.fits) (left : Nat) (hf : left<=2 ^ 20) : ac Tryz.prog 380 [.agg x.row,.c (vi left)] (.one (.c (vi (szR (ar x) left)) 1)):=by
 refine ai ag Tryz.func380 (by kernel_rfl) rfl rfl rfl (Nat.le_of_ble_eq_true rfl) (λw0 base=>?_);obtain ⟨f0,f1,f2⟩:=h;obtain ⟨r,hr⟩ : ∃ r,szR (ar x) left = r:=⟨_,rfl⟩;rw [hr];have hn : ar x = x.signs.length:=rfl;simp [Part.row]
 try intros
 refine aa.pure (i6 x.signs f2.1 left (by omega)) (by simp) ?_;by_cases k0 : x.signs.length<=left
 rotate_left
 ·have : r = -1:=by rw [<- hr];exact aH (by omega)
  rw [aH k0];simp [this]
 rw [bu k0];obtain ⟨m0,hm0⟩ : ∃ m,left - x.signs.length = m:=⟨_,rfl⟩;rw [hm0];have : r = (m0 : Int):=by rw [<- hr,bu (by omega)];omega
 simp [this]
theorem sq (l : List Part) (hl : nL ar l<=2 ^ 40) : ac Tryz.prog 348 [.c (.s (l.map Part.row))] (.one (.c (.s (l.map Part.row)) 3)):=by
 refine ai ag Tryz.func348 (by kernel_rfl) rfl rfl rfl (Nat.le_of_ble_eq_true rfl) (λw0 base=>?_);have hle:=aA hl;simp;refine ⟨by omega,λb=>?_⟩
 refine ak.intro eok (λi : Nat=>i<=l.length) (λi=>⟨23,0,[(4,.v (.int .i64 i)),(3,.sl 112 (some (b,0,l.length)) 3 0 l.length),(0,.ro (l.map Part.row))],
  [(112,.rows (some (b,0,l.length)) 3 (go Part.row [.v (.int .i64 0),.v (.int .i64 0),.s []] l i) true)]⟩) (λi=>l.length - i) 0 (by simp) (by simp [iz]) (λi hi=>?_)
 by_cases h : i < l.length
 ·simp [h,Part.row]
  refine aa.pure (Ch l[i] (ci hl h)) (by simp [Part.row]) ?_;simp [Part.res,dB hi,h];exact ⟨i + 1,by omega,by omega,ah (by omega),fl (f:=Part.row) h⟩
 ·have : i = l.length:=by omega
  subst this;simp [fm,cut]
  try exact λa _=>rfl
theorem tg (a b : List Part) (hl : nL ar a<=2 ^ 40) : ac Tryz.prog 350 [.c (.s (a.map Part.row)),.c (.s (b.map Part.row))] (.one (.c (vb (a = b)) 1)):=by
 refine ai ag Tryz.func350 (by kernel_rfl) rfl rfl rfl (Nat.le_of_ble_eq_true rfl) (λw0 base=>?_);have hle:=aA hl;by_cases h : a.length = b.length
 ·simp [h]
  refine ak.intro eok (λi : Nat=>i<=a.length/\a.take i = b.take i) (λi=>⟨27,0,[(5,.v (.int .i64 i)),(1,.ro (b.map Part.row)),(0,.ro (a.map Part.row))],[]⟩) (λi=>a.length - i) 0 (by simp) (by simp) (λi hi=>?_);by_cases hlt : i < a.length
  ·simp [hlt]
   have hlt' : i < b.length:=by omega
   refine aD.quiet eok mix (by kernel_rfl) ?_;simp [hlt,hlt',Part.row];refine ⟨_,_,EV a[i] b[i] (ci hl hlt),by simp [Part.row],?_⟩;simp;refine Br.mk (λh1=>?_) (λh1=>?_)
   ·simp
    exact ⟨i + 1,⟨by omega,bC hlt hlt' hi.2 (ee h1)⟩,by omega,ah (by omega)⟩
   ·simp [bb]
    exact en hlt hlt' (fR h1)
  ·simp [hlt,dN]
   exact bT (by omega) (by omega) hi.2
 ·have hz : ¬ (a.length : Int) = b.length:=by omega
  simp [hz,bb];exact λh2=>absurd (by rw [h2]) h
theorem su (l : List Part) (hl : l.length<=9223372036854775807) (hs : ∀ y∈l,y.fits) (left : Nat) (hf : left<=2 ^ 20) : ac Tryz.prog 338 [.c (.s (l.map Part.row)),.c (vi left)] (.one (.c (vi (szR (nL ar l) left)) 1)):=by
 refine ai ag Tryz.func338 (by kernel_rfl) rfl rfl rfl (Nat.le_of_ble_eq_true rfl) (λw0 base=>?_);have hw : IntKind.i64.wrap ((left : Int) - (l.length : Int)) = (left : Int) - l.length:=IntWalk.i64_in _ (by omega);have hn : nL ar l = l.length + a8 ar l:=rfl;by_cases h : l.length<=left
 ·obtain ⟨lf,hlf⟩ : ∃ lf : Nat,left - l.length = lf:=⟨_,rfl⟩
  have hlz : (left : Int) - l.length = (lf : Int):=by omega
  have hw2 : IntKind.i64.wrap (lf : Int) = lf:=co (by omega);simp [hlz,hw2];obtain ⟨r,hr⟩ : ∃ r,szR (nL ar l) left = r:=⟨_,rfl⟩;have hr0 : szR (a8 ar l) lf = r:=by rw [<- hr];unfold szR;split<;>split<;>omega
  rw [hr];refine ak.intro eok (λx : Nat × Nat=>x.1<=l.length/\x.2<=2 ^ 20/\szR (a8 ar (l.drop x.1)) x.2 = r) (λx=>⟨27,0,[(5,.v (.int .i64 x.1)),(1,.v (.int .i64 x.2)),(0,.ro (l.map Part.row))],[]⟩) (λx=>l.length - x.1) (0,lf) (by simp [hr0];omega) (by simp) ?_
  rintro ⟨i,m⟩ ⟨hi,hm,hx⟩
  simp only at hi hm hx ⊢;by_cases hlt : i < l.length
  ·rw [fW hlt] at hx
   simp [hlt,Part.row];refine aa.pure (Dl l[i] (hs _ (List.getElem_mem hlt)) m hm) (by simp [Part.row]) ?_;by_cases hk : ar l[i]<=m
   ·rw [bu hk]
    have hz : ¬ ((m - ar l[i] : Nat) : Int) < 0:=by omega
    simp [hz];refine ⟨i + 1,m - ar l[i],⟨by omega,by omega,?_⟩,by omega,ah (by omega),rfl⟩;rw [<- hx];unfold szR;split<;>split<;>omega
   ·rw [aH (show ¬ ar l[i] + a8 ar (l.drop (i + 1))<=m by omega)] at hx
    rw [aH hk];simp [<- hx]
  ·have : i = l.length:=by omega
   subst this;simp only [List.drop_length,a8,szR,Nat.zero_le,if_true,Nat.sub_zero] at hx;simp [hx]
 ·have hz : (left : Int) - l.length < 0:=by omega
  simp [hw,hz,aH (show ¬ nL ar l<=left by omega)]
theorem zU (x : Entry) (h : am x<=2 ^ 40) : ac Tryz.prog 354 [.agg x.row] (.one (.agg x.res)):=by
 refine ai ag Tryz.func354 (by kernel_rfl) rfl rfl rfl (Nat.le_of_ble_eq_true rfl) (λw0 base=>?_);unfold am at h;simp [Entry.row,Entry.res]
 try intros
 refine aa.pure (sq x.o (by omega)) (by simp) ?_;simp
 try intros
theorem Bl (x y : Entry) (h : am x<=2 ^ 40) : ac Tryz.prog 356 [.agg x.row,.agg y.row] (.one (.c (vb (x = y)) 1)):=by
 refine ai ag Tryz.func356 (by kernel_rfl) rfl rfl rfl (Nat.le_of_ble_eq_true rfl) (λw0 base=>?_);unfold am at h;obtain ⟨a0,a1,a2⟩:=x;obtain ⟨b0,b1,b2⟩:=y;simp only at h;simp [Entry.row]
 try intros
 by_cases h0 : a0 = b0
 rotate_left
 ·simp [h0]
 subst h0
 try simp
 by_cases h1 : a1 = b1
 rotate_left
 ·simp [h1]
 subst h1
 try simp
 refine aa.pure (tg a2 b2 (by omega)) (by simp) ?_;simp;by_cases h2 : a2 = b2
 rotate_left
 ·simp [h2]
 subst h2
 try simp
theorem z2 (x : Entry) (h : x.fits) (left : Nat) (hf : left<=2 ^ 20) : ac Tryz.prog 351 [.agg x.row,.c (vi left)] (.one (.c (vi (szR (am x) left)) 1)):=by
 refine ai ag Tryz.func351 (by kernel_rfl) rfl rfl rfl (Nat.le_of_ble_eq_true rfl) (λw0 base=>?_);obtain ⟨f0,f1,f2⟩:=h;obtain ⟨r,hr⟩ : ∃ r,szR (am x) left = r:=⟨_,rfl⟩;rw [hr];have hn : am x = nL ar x.o:=rfl;simp [Entry.row]
 try intros
 refine aa.pure (su x.o f2.1 f2.2 left (by omega)) (by simp) ?_;by_cases k0 : nL ar x.o<=left
 rotate_left
 ·have : r = -1:=by rw [<- hr];exact aH (by omega)
  rw [aH k0];simp [this]
 rw [bu k0];obtain ⟨m0,hm0⟩ : ∃ m,left - nL ar x.o = m:=⟨_,rfl⟩;rw [hm0];have : r = (m0 : Int):=by rw [<- hr,bu (by omega)];omega
 simp [this]
theorem mc (l : List Entry) (hl : nL am l<=2 ^ 40) : ac Tryz.prog 286 [.c (.s (l.map Entry.row))] (.one (.c (.s (l.map Entry.row)) 3)):=by
 refine ai ag Tryz.func286 (by kernel_rfl) rfl rfl rfl (Nat.le_of_ble_eq_true rfl) (λw0 base=>?_);have hle:=aA hl;simp;refine ⟨by omega,λb=>?_⟩
 refine ak.intro eok (λi : Nat=>i<=l.length) (λi=>⟨23,0,[(4,.v (.int .i64 i)),(3,.sl 112 (some (b,0,l.length)) 3 0 l.length),(0,.ro (l.map Entry.row))],
  [(112,.rows (some (b,0,l.length)) 3 (go Entry.row [.v (.int .i64 0),.v (.int .i64 0),.s []] l i) true)]⟩) (λi=>l.length - i) 0 (by simp) (by simp [iz]) (λi hi=>?_)
 by_cases h : i < l.length
 ·simp [h,Entry.row]
  refine aa.pure (zU l[i] (ci hl h)) (by simp [Entry.row]) ?_;simp [Entry.res,dB hi,h];exact ⟨i + 1,by omega,by omega,ah (by omega),fl (f:=Entry.row) h⟩
 ·have : i = l.length:=by omega
  subst this;simp [fm,cut]
  try exact λa _=>rfl
theorem mq (a b : List Entry) (hl : nL am a<=2 ^ 40) : ac Tryz.prog 289 [.c (.s (a.map Entry.row)),.c (.s (b.map Entry.row))] (.one (.c (vb (a = b)) 1)):=by
 refine ai ag Tryz.func289 (by kernel_rfl) rfl rfl rfl (Nat.le_of_ble_eq_true rfl) (λw0 base=>?_);have hle:=aA hl;by_cases h : a.length = b.length
 ·simp [h]
  refine ak.intro eok (λi : Nat=>i<=a.length/\a.take i = b.take i) (λi=>⟨27,0,[(5,.v (.int .i64 i)),(1,.ro (b.map Entry.row)),(0,.ro (a.map Entry.row))],[]⟩) (λi=>a.length - i) 0 (by simp) (by simp) (λi hi=>?_);by_cases hlt : i < a.length
  ·simp [hlt]
   have hlt' : i < b.length:=by omega
   refine aD.quiet eok mix (by kernel_rfl) ?_;simp [hlt,hlt',Entry.row];refine ⟨_,_,Bl a[i] b[i] (ci hl hlt),by simp [Entry.row],?_⟩;simp;refine Br.mk (λh1=>?_) (λh1=>?_)
   ·simp
    exact ⟨i + 1,⟨by omega,bC hlt hlt' hi.2 (ee h1)⟩,by omega,ah (by omega)⟩
   ·simp [bb]
    exact en hlt hlt' (fR h1)
  ·simp [hlt,dN]
   exact bT (by omega) (by omega) hi.2
 ·have hz : ¬ (a.length : Int) = b.length:=by omega
  simp [hz,bb];exact λh2=>absurd (by rw [h2]) h
theorem md (l : List Entry) (hl : l.length<=9223372036854775807) (hs : ∀ y∈l,y.fits) (left : Nat) (hf : left<=2 ^ 20) : ac Tryz.prog 279 [.c (.s (l.map Entry.row)),.c (vi left)] (.one (.c (vi (szR (nL am l) left)) 1)):=by
 refine ai ag Tryz.func279 (by kernel_rfl) rfl rfl rfl (Nat.le_of_ble_eq_true rfl) (λw0 base=>?_);have hw : IntKind.i64.wrap ((left : Int) - (l.length : Int)) = (left : Int) - l.length:=IntWalk.i64_in _ (by omega);have hn : nL am l = l.length + a8 am l:=rfl;by_cases h : l.length<=left
 ·obtain ⟨lf,hlf⟩ : ∃ lf : Nat,left - l.length = lf:=⟨_,rfl⟩
  have hlz : (left : Int) - l.length = (lf : Int):=by omega
  have hw2 : IntKind.i64.wrap (lf : Int) = lf:=co (by omega);simp [hlz,hw2];obtain ⟨r,hr⟩ : ∃ r,szR (nL am l) left = r:=⟨_,rfl⟩;have hr0 : szR (a8 am l) lf = r:=by rw [<- hr];unfold szR;split<;>split<;>omega
  rw [hr];refine ak.intro eok (λx : Nat × Nat=>x.1<=l.length/\x.2<=2 ^ 20/\szR (a8 am (l.drop x.1)) x.2 = r) (λx=>⟨27,0,[(5,.v (.int .i64 x.1)),(1,.v (.int .i64 x.2)),(0,.ro (l.map Entry.row))],[]⟩) (λx=>l.length - x.1) (0,lf) (by simp [hr0];omega) (by simp) ?_
  rintro ⟨i,m⟩ ⟨hi,hm,hx⟩
  simp only at hi hm hx ⊢;by_cases hlt : i < l.length
  ·rw [fW hlt] at hx
   simp [hlt,Entry.row];refine aa.pure (z2 l[i] (hs _ (List.getElem_mem hlt)) m hm) (by simp [Entry.row]) ?_;by_cases hk : am l[i]<=m
   ·rw [bu hk]
    have hz : ¬ ((m - am l[i] : Nat) : Int) < 0:=by omega
    simp [hz];refine ⟨i + 1,m - am l[i],⟨by omega,by omega,?_⟩,by omega,ah (by omega),rfl⟩;rw [<- hx];unfold szR;split<;>split<;>omega
   ·rw [aH (show ¬ am l[i] + a8 am (l.drop (i + 1))<=m by omega)] at hx
    rw [aH hk];simp [<- hx]
  ·have : i = l.length:=by omega
   subst this;simp only [List.drop_length,a8,szR,Nat.zero_le,if_true,Nat.sub_zero] at hx;simp [hx]
 ·have hz : (left : Int) - l.length < 0:=by omega
  simp [hw,hz,aH (show ¬ nL am l<=left by omega)]
theorem Cf (x : Seen) : ac Tryz.prog 355 [.agg x.row] (.one (.agg x.res)):=by
 refine ai ag Tryz.func355 (by kernel_rfl) rfl rfl rfl (Nat.le_of_ble_eq_true rfl) (λw0 base=>?_);simp [Seen.row,Seen.res]
 try intros
theorem ET (x y : Seen) : ac Tryz.prog 357 [.agg x.row,.agg y.row] (.one (.c (vb (x = y)) 1)):=by
 refine ai ag Tryz.func357 (by kernel_rfl) rfl rfl rfl (Nat.le_of_ble_eq_true rfl) (λw0 base=>?_);obtain ⟨a0,a1,a2⟩:=x;obtain ⟨b0,b1,b2⟩:=y;simp [Seen.row]
 try intros
 by_cases h0 : a0 = b0
 rotate_left
 ·simp [h0]
 subst h0
 try simp
 by_cases h1 : a1 = b1
 rotate_left
 ·simp [h1]
 subst h1
 try simp
 by_cases h2 : a2 = b2
 rotate_left
 ·simp [h2]
 subst h2
 try simp
theorem zS (l : List Seen) (hl : l.length<=2 ^ 40) : ac Tryz.prog 287 [.c (.s (l.map Seen.row))] (.one (.c (.s (l.map Seen.row)) 3)):=by
 refine ai ag Tryz.func287 (by kernel_rfl) rfl rfl rfl (Nat.le_of_ble_eq_true rfl) (λw0 base=>?_);simp;refine ⟨by omega,λb=>?_⟩
 refine ak.intro eok (λi : Nat=>i<=l.length) (λi=>⟨23,0,[(4,.v (.int .i64 i)),(3,.sl 112 (some (b,0,l.length)) 3 0 l.length),(0,.ro (l.map Seen.row))],
  [(112,.rows (some (b,0,l.length)) 3 (go Seen.row [.v (.int .i64 0),.v (.int .i64 0),.v (.int .i64 0)] l i) true)]⟩) (λi=>l.length - i) 0 (by simp) (by simp [iz]) (λi hi=>?_)
 by_cases h : i < l.length
 ·simp [h,Seen.row]
  refine aa.pure (Cf l[i]) (by simp [Seen.row]) ?_;simp [Seen.res,dB hi,h];exact ⟨i + 1,by omega,by omega,ah (by omega),fl (f:=Seen.row) h⟩
 ·have : i = l.length:=by omega
  subst this;simp [fm,cut]
  try exact λa _=>rfl
theorem Bj (a b : List Seen) (hl : a.length<=2 ^ 40) : ac Tryz.prog 290 [.c (.s (a.map Seen.row)),.c (.s (b.map Seen.row))] (.one (.c (vb (a = b)) 1)):=by
 refine ai ag Tryz.func290 (by kernel_rfl) rfl rfl rfl (Nat.le_of_ble_eq_true rfl) (λw0 base=>?_);by_cases h : a.length = b.length
 ·simp [h]
  refine ak.intro eok (λi : Nat=>i<=a.length/\a.take i = b.take i) (λi=>⟨27,0,[(5,.v (.int .i64 i)),(1,.ro (b.map Seen.row)),(0,.ro (a.map Seen.row))],[]⟩) (λi=>a.length - i) 0 (by simp) (by simp) (λi hi=>?_);by_cases hlt : i < a.length
  ·simp [hlt]
   have hlt' : i < b.length:=by omega
   refine aD.quiet eok mix (by kernel_rfl) ?_;simp [hlt,hlt',Seen.row];refine ⟨_,_,ET a[i] b[i],by simp [Seen.row],?_⟩;simp;refine Br.mk (λh1=>?_) (λh1=>?_)
   ·simp
    exact ⟨i + 1,⟨by omega,bC hlt hlt' hi.2 (ee h1)⟩,by omega,ah (by omega)⟩
   ·simp [bb]
    exact en hlt hlt' (fR h1)
  ·simp [hlt,dN]
   exact bT (by omega) (by omega) hi.2
 ·have hz : ¬ (a.length : Int) = b.length:=by omega
  simp [hz,bb];exact λh2=>absurd (by rw [h2]) h
theorem zZ (l : List Seen) (hl : l.length<=9223372036854775807) (left : Nat) (hf : left<=2 ^ 20) : ac Tryz.prog 280 [.c (.s (l.map Seen.row)),.c (vi left)] (.one (.c (vi (szR l.length left)) 1)):=by
 refine ai ag Tryz.func280 (by kernel_rfl) rfl rfl rfl (Nat.le_of_ble_eq_true rfl) (λw0 base=>?_);have hw : IntKind.i64.wrap ((left : Int) - (l.length : Int)) = (left : Int) - l.length:=IntWalk.i64_in _ (by omega);simp [hw];by_cases h : l.length<=left
 ·have hz : ¬ (left : Int) - l.length < 0:=by omega
  simp [hz,bu h];omega
 ·have hz : (left : Int) - l.length < 0:=by omega
  simp [hz,aH h]
theorem F6 (x : Doc) (h : bf x<=2 ^ 40) : ac Tryz.prog 198 [.agg x.row] (.one (.agg x.res)):=by
 refine ai ag Tryz.func198 (by kernel_rfl) rfl rfl rfl (Nat.le_of_ble_eq_true rfl) (λw0 base=>?_);unfold bf at h;simp [Doc.row,Doc.res]
 try intros
 refine aa.pure (i5 x.text (by omega)) (by simp) ?_;simp
 try intros
 refine aa.pure (mc x.list (by omega)) (by simp) ?_;simp
 try intros
 refine aa.pure (zS x.seen (by omega)) (by simp) ?_;simp
 try intros
theorem Hc (x y : Doc) (h : bf x<=2 ^ 40) : ac Tryz.prog 201 [.agg x.row,.agg y.row] (.one (.c (vb (x = y)) 1)):=by
 refine ai ag Tryz.func201 (by kernel_rfl) rfl rfl rfl (Nat.le_of_ble_eq_true rfl) (λw0 base=>?_);unfold bf at h;obtain ⟨a0,a1,a2,a3,a4⟩:=x;obtain ⟨b0,b1,b2,b3,b4⟩:=y;simp only at h;simp [Doc.row]
 try intros
 by_cases h0 : a0 = b0
 rotate_left
 ·simp [h0]
 subst h0
 try simp
 by_cases h1 : a1 = b1
 rotate_left
 ·simp [h1]
 subst h1
 try simp
 refine aa.pure (je a2 b2 (by omega)) (by simp) ?_;simp;by_cases h2 : a2 = b2
 rotate_left
 ·simp [h2]
 subst h2
 try simp
 refine aa.pure (mq a3 b3 (by omega)) (by simp) ?_;simp;by_cases h3 : a3 = b3
 rotate_left
 ·simp [h3]
 subst h3
 try simp
 refine aa.pure (Bj a4 b4 (by omega)) (by simp) ?_;simp;by_cases h4 : a4 = b4
 rotate_left
 ·simp [h4]
 subst h4
 try simp
theorem F9 (x : Doc) (h : x.fits) (left : Nat) (hf : left<=2 ^ 20) : ac Tryz.prog 189 [.agg x.row,.c (vi left)] (.one (.c (vi (szR (bf x) left)) 1)):=by
 refine ai ag Tryz.func189 (by kernel_rfl) rfl rfl rfl (Nat.le_of_ble_eq_true rfl) (λw0 base=>?_);obtain ⟨f0,f1,f2,f3,f4⟩:=h;obtain ⟨r,hr⟩ : ∃ r,szR (bf x) left = r:=⟨_,rfl⟩;rw [hr];have hn : bf x = x.name.size + (x.text.length + (nL am x.list + (x.seen.length))):=rfl;simp [Doc.row]
 try intros
 by_cases k0 : x.name.size<=left
 rotate_left
 ·have hw : IntKind.i64.wrap ((left : Int) - (x.name.size : Int)) = (left : Int) - x.name.size:=IntWalk.i64_in _ (by omega)
  have hz : (left : Int) - x.name.size < 0:=by omega
  have : r = -1:=by rw [<- hr];exact aH (by omega)
  simp [hw,hz,this]
 obtain ⟨m0,hm0⟩ : ∃ m,left - x.name.size = m:=⟨_,rfl⟩;have w0 : IntKind.i64.wrap ((left : Int) - (x.name.size : Int)) = (m0 : Int):=by rw [IntWalk.i64_in _ (by omega)];omega
 simp [w0];refine aa.pure (i6 x.text f2.1 m0 (by omega)) (by simp) ?_;by_cases k1 : x.text.length<=m0
 rotate_left
 ·have : r = -1:=by rw [<- hr];exact aH (by omega)
  rw [aH k1];simp [this]
 rw [bu k1];obtain ⟨m1,hm1⟩ : ∃ m,m0 - x.text.length = m:=⟨_,rfl⟩;rw [hm1];simp;refine aa.pure (md x.list f3.1 f3.2 m1 (by omega)) (by simp) ?_;by_cases k2 : nL am x.list<=m1
 rotate_left
 ·have : r = -1:=by rw [<- hr];exact aH (by omega)
  rw [aH k2];simp [this]
 rw [bu k2];obtain ⟨m2,hm2⟩ : ∃ m,m1 - nL am x.list = m:=⟨_,rfl⟩;rw [hm2];simp;refine aa.pure (zZ x.seen f4.1 m2 (by omega)) (by simp) ?_;by_cases k3 : x.seen.length<=m2
 rotate_left
 ·have : r = -1:=by rw [<- hr];exact aH (by omega)
  rw [aH k3];simp [this]
 rw [bu k3];obtain ⟨m3,hm3⟩ : ∃ m,m2 - x.seen.length = m:=⟨_,rfl⟩;rw [hm3];have : r = (m3 : Int):=by rw [<- hr,bu (by omega)];omega
 simp [this]
theorem Ci (l : List Doc) (hl : nL bf l<=2 ^ 40) : ac Tryz.prog 102 [.c (.s (l.map Doc.row))] (.one (.c (.s (l.map Doc.row)) 5)):=by
 refine ai ag Tryz.func102 (by kernel_rfl) rfl rfl rfl (Nat.le_of_ble_eq_true rfl) (λw0 base=>?_);have hle:=aA hl;simp;refine ⟨by omega,λb=>?_⟩
 refine ak.intro eok (λi : Nat=>i<=l.length) (λi=>⟨23,0,[(4,.v (.int .i64 i)),(3,.sl 112 (some (b,0,l.length)) 5 0 l.length),(0,.ro (l.map Doc.row))],
  [(112,.rows (some (b,0,l.length)) 5 (go Doc.row [.v (.string ⟨#[]⟩),.v (.int .i64 0),.s [],.s [],.s []] l i) true)]⟩) (λi=>l.length - i) 0 (by simp) (by simp [iz]) (λi hi=>?_)
 by_cases h : i < l.length
 ·simp [h,Doc.row]
  refine aa.pure (F6 l[i] (ci hl h)) (by simp [Doc.row]) ?_;simp [Doc.res,dB hi,h];exact ⟨i + 1,by omega,by omega,ah (by omega),fl (f:=Doc.row) h⟩
 ·have : i = l.length:=by omega
  subst this;simp [fm,cut]
  try exact λa _=>rfl
theorem EW (a b : List Doc) (hl : nL bf a<=2 ^ 40) : ac Tryz.prog 105 [.c (.s (a.map Doc.row)),.c (.s (b.map Doc.row))] (.one (.c (vb (a = b)) 1)):=by
 refine ai ag Tryz.func105 (by kernel_rfl) rfl rfl rfl (Nat.le_of_ble_eq_true rfl) (λw0 base=>?_);have hle:=aA hl;by_cases h : a.length = b.length
 ·simp [h]
  refine ak.intro eok (λi : Nat=>i<=a.length/\a.take i = b.take i) (λi=>⟨27,0,[(5,.v (.int .i64 i)),(1,.ro (b.map Doc.row)),(0,.ro (a.map Doc.row))],[]⟩) (λi=>a.length - i) 0 (by simp) (by simp) (λi hi=>?_);by_cases hlt : i < a.length
  ·simp [hlt]
   have hlt' : i < b.length:=by omega
   refine aD.quiet eok mix (by kernel_rfl) ?_;simp [hlt,hlt',Doc.row];refine ⟨_,_,Hc a[i] b[i] (ci hl hlt),by simp [Doc.row],?_⟩;simp;refine Br.mk (λh1=>?_) (λh1=>?_)
   ·simp
    exact ⟨i + 1,⟨by omega,bC hlt hlt' hi.2 (ee h1)⟩,by omega,ah (by omega)⟩
   ·simp [bb]
    exact en hlt hlt' (fR h1)
  ·simp [hlt,dN]
   exact bT (by omega) (by omega) hi.2
 ·have hz : ¬ (a.length : Int) = b.length:=by omega
  simp [hz,bb];exact λh2=>absurd (by rw [h2]) h
theorem Dm (l : List Doc) (hl : l.length<=9223372036854775807) (hs : ∀ y∈l,y.fits) (left : Nat) (hf : left<=2 ^ 20) : ac Tryz.prog 94 [.c (.s (l.map Doc.row)),.c (vi left)] (.one (.c (vi (szR (nL bf l) left)) 1)):=by
 refine ai ag Tryz.func94 (by kernel_rfl) rfl rfl rfl (Nat.le_of_ble_eq_true rfl) (λw0 base=>?_);have hw : IntKind.i64.wrap ((left : Int) - (l.length : Int)) = (left : Int) - l.length:=IntWalk.i64_in _ (by omega);have hn : nL bf l = l.length + a8 bf l:=rfl;by_cases h : l.length<=left
 ·obtain ⟨lf,hlf⟩ : ∃ lf : Nat,left - l.length = lf:=⟨_,rfl⟩
  have hlz : (left : Int) - l.length = (lf : Int):=by omega
  have hw2 : IntKind.i64.wrap (lf : Int) = lf:=co (by omega);simp [hlz,hw2];obtain ⟨r,hr⟩ : ∃ r,szR (nL bf l) left = r:=⟨_,rfl⟩;have hr0 : szR (a8 bf l) lf = r:=by rw [<- hr];unfold szR;split<;>split<;>omega
  rw [hr];refine ak.intro eok (λx : Nat × Nat=>x.1<=l.length/\x.2<=2 ^ 20/\szR (a8 bf (l.drop x.1)) x.2 = r) (λx=>⟨27,0,[(5,.v (.int .i64 x.1)),(1,.v (.int .i64 x.2)),(0,.ro (l.map Doc.row))],[]⟩) (λx=>l.length - x.1) (0,lf) (by simp [hr0];omega) (by simp) ?_
  rintro ⟨i,m⟩ ⟨hi,hm,hx⟩
  simp only at hi hm hx ⊢;by_cases hlt : i < l.length
  ·rw [fW hlt] at hx
   simp [hlt,Doc.row];refine aa.pure (F9 l[i] (hs _ (List.getElem_mem hlt)) m hm) (by simp [Doc.row]) ?_;by_cases hk : bf l[i]<=m
   ·rw [bu hk]
    have hz : ¬ ((m - bf l[i] : Nat) : Int) < 0:=by omega
    simp [hz];refine ⟨i + 1,m - bf l[i],⟨by omega,by omega,?_⟩,by omega,ah (by omega),rfl⟩;rw [<- hx];unfold szR;split<;>split<;>omega
   ·rw [aH (show ¬ bf l[i] + a8 bf (l.drop (i + 1))<=m by omega)] at hx
    rw [aH hk];simp [<- hx]
  ·have : i = l.length:=by omega
   subst this;simp only [List.drop_length,a8,szR,Nat.zero_le,if_true,Nat.sub_zero] at hx;simp [hx]
 ·have hz : (left : Int) - l.length < 0:=by omega
  simp [hw,hz,aH (show ¬ nL bf l<=left by omega)]
theorem Cg (x : Ring) (h : bE x<=2 ^ 40) : ac Tryz.prog 288 [.agg x.row] (.one (.agg x.res)):=by
 refine ai ag Tryz.func288 (by kernel_rfl) rfl rfl rfl (Nat.le_of_ble_eq_true rfl) (λw0 base=>?_);unfold bE at h;simp [Ring.row,Ring.res]
 try intros
 refine aa.pure (mc x.list (by omega)) (by simp) ?_;simp
 try intros
theorem EU (x y : Ring) (h : bE x<=2 ^ 40) : ac Tryz.prog 291 [.agg x.row,.agg y.row] (.one (.c (vb (x = y)) 1)):=by
 refine ai ag Tryz.func291 (by kernel_rfl) rfl rfl rfl (Nat.le_of_ble_eq_true rfl) (λw0 base=>?_);unfold bE at h;obtain ⟨a0,a1,a2,a3⟩:=x;obtain ⟨b0,b1,b2,b3⟩:=y;simp only at h;simp [Ring.row]
 try intros
 by_cases h0 : a0 = b0
 rotate_left
 ·simp [h0]
 subst h0
 try simp
 by_cases h1 : a1 = b1
 rotate_left
 ·simp [h1]
 subst h1
 try simp
 by_cases h2 : a2 = b2
 rotate_left
 ·simp [h2]
 subst h2
 try simp
 refine aa.pure (mq a3 b3 (by omega)) (by simp) ?_;simp;by_cases h3 : a3 = b3
 rotate_left
 ·simp [h3]
 subst h3
 try simp
theorem Dk (x : Ring) (h : x.fits) (left : Nat) (hf : left<=2 ^ 20) : ac Tryz.prog 281 [.agg x.row,.c (vi left)] (.one (.c (vi (szR (bE x) left)) 1)):=by
 refine ai ag Tryz.func281 (by kernel_rfl) rfl rfl rfl (Nat.le_of_ble_eq_true rfl) (λw0 base=>?_);obtain ⟨f0,f1,f2,f3⟩:=h;obtain ⟨r,hr⟩ : ∃ r,szR (bE x) left = r:=⟨_,rfl⟩;rw [hr];have hn : bE x = nL am x.list:=rfl;simp [Ring.row]
 try intros
 refine aa.pure (md x.list f3.1 f3.2 left (by omega)) (by simp) ?_;by_cases k0 : nL am x.list<=left
 rotate_left
 ·have : r = -1:=by rw [<- hr];exact aH (by omega)
  rw [aH k0];simp [this]
 rw [bu k0];obtain ⟨m0,hm0⟩ : ∃ m,left - nL am x.list = m:=⟨_,rfl⟩;rw [hm0];have : r = (m0 : Int):=by rw [<- hr,bu (by omega)];omega
 simp [this]
theorem F5 (x : Sub) (h : bN x<=2 ^ 40) : ac Tryz.prog 199 [.agg x.row] (.one (.agg x.res)):=by
 refine ai ag Tryz.func199 (by kernel_rfl) rfl rfl rfl (Nat.le_of_ble_eq_true rfl) (λw0 base=>?_);unfold bN at h;simp [Sub.row,Sub.res]
 try intros
 refine aa.pure (Cg x.r (by omega)) (by simp [Ring.row]) ?_;simp [Ring.res]
 try intros
theorem Hb (x y : Sub) (h : bN x<=2 ^ 40) : ac Tryz.prog 202 [.agg x.row,.agg y.row] (.one (.c (vb (x = y)) 1)):=by
 refine ai ag Tryz.func202 (by kernel_rfl) rfl rfl rfl (Nat.le_of_ble_eq_true rfl) (λw0 base=>?_);unfold bN at h;obtain ⟨a0,a1,a2⟩:=x;obtain ⟨b0,b1,b2⟩:=y;simp only at h;simp [Sub.row]
 try intros
 by_cases h0 : a0 = b0
 rotate_left
 ·simp [h0]
 subst h0
 try simp
 by_cases h1 : a1 = b1
 rotate_left
 ·simp [h1]
 subst h1
 try simp
 refine aa.pure (EU a2 b2 (by omega)) (by simp [Ring.row]) ?_;simp;by_cases h2 : a2 = b2
 rotate_left
 ·simp [h2]
 subst h2
 try simp
theorem F8 (x : Sub) (h : x.fits) (left : Nat) (hf : left<=2 ^ 20) : ac Tryz.prog 190 [.agg x.row,.c (vi left)] (.one (.c (vi (szR (bN x) left)) 1)):=by
 refine ai ag Tryz.func190 (by kernel_rfl) rfl rfl rfl (Nat.le_of_ble_eq_true rfl) (λw0 base=>?_);obtain ⟨f0,f1,f2⟩:=h;obtain ⟨r,hr⟩ : ∃ r,szR (bN x) left = r:=⟨_,rfl⟩;rw [hr];have hn : bN x = x.doc.size + (bE x.r):=rfl;simp [Sub.row]
 try intros
 by_cases k0 : x.doc.size<=left
 rotate_left
 ·have hw : IntKind.i64.wrap ((left : Int) - (x.doc.size : Int)) = (left : Int) - x.doc.size:=IntWalk.i64_in _ (by omega)
  have hz : (left : Int) - x.doc.size < 0:=by omega
  have : r = -1:=by rw [<- hr];exact aH (by omega)
  simp [hw,hz,this]
 obtain ⟨m0,hm0⟩ : ∃ m,left - x.doc.size = m:=⟨_,rfl⟩;have w0 : IntKind.i64.wrap ((left : Int) - (x.doc.size : Int)) = (m0 : Int):=by rw [IntWalk.i64_in _ (by omega)];omega
 simp [w0];refine aa.pure (Dk x.r f2 m0 (by omega)) (by simp [Ring.row]) ?_;by_cases k1 : bE x.r<=m0
 rotate_left
 ·have : r = -1:=by rw [<- hr];exact aH (by omega)
  rw [aH k1];simp [this]
 rw [bu k1];obtain ⟨m1,hm1⟩ : ∃ m,m0 - bE x.r = m:=⟨_,rfl⟩;rw [hm1];have : r = (m1 : Int):=by rw [<- hr,bu (by omega)];omega
 simp [this]
theorem Ce (l : List Sub) (hl : nL bN l<=2 ^ 40) : ac Tryz.prog 103 [.c (.s (l.map Sub.row))] (.one (.c (.s (l.map Sub.row)) 6)):=by
 refine ai ag Tryz.func103 (by kernel_rfl) rfl rfl rfl (Nat.le_of_ble_eq_true rfl) (λw0 base=>?_);have hle:=aA hl;simp;refine ⟨by omega,λb=>?_⟩
 refine ak.intro eok (λi : Nat=>i<=l.length) (λi=>⟨23,0,[(4,.v (.int .i64 i)),(3,.sl 112 (some (b,0,l.length)) 6 0 l.length),(0,.ro (l.map Sub.row))],
  [(112,.rows (some (b,0,l.length)) 6 (go Sub.row [.v (.int .i64 0),.v (.string ⟨#[]⟩),.v (.int .i64 0),.v (.int .i64 0),.v (.bool false),.s []] l i) true)]⟩) (λi=>l.length - i) 0 (by simp) (by simp [iz]) (λi hi=>?_)
 by_cases h : i < l.length
 ·simp [h,Sub.row]
  refine aa.pure (F5 l[i] (ci hl h)) (by simp [Sub.row]) ?_;simp [Sub.res,dB hi,h];exact ⟨i + 1,by omega,by omega,ah (by omega),fl (f:=Sub.row) h⟩
 ·have : i = l.length:=by omega
  subst this;simp [fm,cut]
  try exact λa _=>rfl
theorem ES (a b : List Sub) (hl : nL bN a<=2 ^ 40) : ac Tryz.prog 106 [.c (.s (a.map Sub.row)),.c (.s (b.map Sub.row))] (.one (.c (vb (a = b)) 1)):=by
 refine ai ag Tryz.func106 (by kernel_rfl) rfl rfl rfl (Nat.le_of_ble_eq_true rfl) (λw0 base=>?_);have hle:=aA hl;by_cases h : a.length = b.length
 ·simp [h]
  refine ak.intro eok (λi : Nat=>i<=a.length/\a.take i = b.take i) (λi=>⟨27,0,[(5,.v (.int .i64 i)),(1,.ro (b.map Sub.row)),(0,.ro (a.map Sub.row))],[]⟩) (λi=>a.length - i) 0 (by simp) (by simp) (λi hi=>?_);by_cases hlt : i < a.length
  ·simp [hlt]
   have hlt' : i < b.length:=by omega
   refine aD.quiet eok mix (by kernel_rfl) ?_;simp [hlt,hlt',Sub.row];refine ⟨_,_,Hb a[i] b[i] (ci hl hlt),by simp [Sub.row],?_⟩;simp;refine Br.mk (λh1=>?_) (λh1=>?_)
   ·simp
    exact ⟨i + 1,⟨by omega,bC hlt hlt' hi.2 (ee h1)⟩,by omega,ah (by omega)⟩
   ·simp [bb]
    exact en hlt hlt' (fR h1)
  ·simp [hlt,dN]
   exact bT (by omega) (by omega) hi.2
 ·have hz : ¬ (a.length : Int) = b.length:=by omega
  simp [hz,bb];exact λh2=>absurd (by rw [h2]) h
theorem Dj (l : List Sub) (hl : l.length<=9223372036854775807) (hs : ∀ y∈l,y.fits) (left : Nat) (hf : left<=2 ^ 20) : ac Tryz.prog 95 [.c (.s (l.map Sub.row)),.c (vi left)] (.one (.c (vi (szR (nL bN l) left)) 1)):=by
 refine ai ag Tryz.func95 (by kernel_rfl) rfl rfl rfl (Nat.le_of_ble_eq_true rfl) (λw0 base=>?_);have hw : IntKind.i64.wrap ((left : Int) - (l.length : Int)) = (left : Int) - l.length:=IntWalk.i64_in _ (by omega);have hn : nL bN l = l.length + a8 bN l:=rfl;by_cases h : l.length<=left
 ·obtain ⟨lf,hlf⟩ : ∃ lf : Nat,left - l.length = lf:=⟨_,rfl⟩
  have hlz : (left : Int) - l.length = (lf : Int):=by omega
  have hw2 : IntKind.i64.wrap (lf : Int) = lf:=co (by omega);simp [hlz,hw2];obtain ⟨r,hr⟩ : ∃ r,szR (nL bN l) left = r:=⟨_,rfl⟩;have hr0 : szR (a8 bN l) lf = r:=by rw [<- hr];unfold szR;split<;>split<;>omega
  rw [hr];refine ak.intro eok (λx : Nat × Nat=>x.1<=l.length/\x.2<=2 ^ 20/\szR (a8 bN (l.drop x.1)) x.2 = r) (λx=>⟨27,0,[(5,.v (.int .i64 x.1)),(1,.v (.int .i64 x.2)),(0,.ro (l.map Sub.row))],[]⟩) (λx=>l.length - x.1) (0,lf) (by simp [hr0];omega) (by simp) ?_
  rintro ⟨i,m⟩ ⟨hi,hm,hx⟩
  simp only at hi hm hx ⊢;by_cases hlt : i < l.length
  ·rw [fW hlt] at hx
   simp [hlt,Sub.row];refine aa.pure (F8 l[i] (hs _ (List.getElem_mem hlt)) m hm) (by simp [Sub.row]) ?_;by_cases hk : bN l[i]<=m
   ·rw [bu hk]
    have hz : ¬ ((m - bN l[i] : Nat) : Int) < 0:=by omega
    simp [hz];refine ⟨i + 1,m - bN l[i],⟨by omega,by omega,?_⟩,by omega,ah (by omega),rfl⟩;rw [<- hx];unfold szR;split<;>split<;>omega
   ·rw [aH (show ¬ bN l[i] + a8 bN (l.drop (i + 1))<=m by omega)] at hx
    rw [aH hk];simp [<- hx]
  ·have : i = l.length:=by omega
   subst this;simp only [List.drop_length,a8,szR,Nat.zero_le,if_true,Nat.sub_zero] at hx;simp [hx]
 ·have hz : (left : Int) - l.length < 0:=by omega
  simp [hw,hz,aH (show ¬ nL bN l<=left by omega)]
theorem pr (x : Hub) (h : bq x<=2 ^ 40) : ac Tryz.prog 26 [.agg x.row] (.one (.agg x.res)):=by
 refine ai ag Tryz.func26 (by kernel_rfl) rfl rfl rfl (Nat.le_of_ble_eq_true rfl) (λw0 base=>?_);unfold bq at h;simp [Hub.row,Hub.res]
 try intros
 refine aa.pure (Ci x.docs (by omega)) (by simp) ?_;simp
 try intros
 refine aa.pure (Ce x.subs (by omega)) (by simp) ?_;simp
 try intros
theorem zH (x y : Hub) (h : bq x<=2 ^ 40) : ac Tryz.prog 28 [.agg x.row,.agg y.row] (.one (.c (vb (x = y)) 1)):=by
 refine ai ag Tryz.func28 (by kernel_rfl) rfl rfl rfl (Nat.le_of_ble_eq_true rfl) (λw0 base=>?_);unfold bq at h;obtain ⟨a0,a1,a2,a3⟩:=x;obtain ⟨b0,b1,b2,b3⟩:=y;simp only at h;simp [Hub.row]
 try intros
 by_cases h0 : a0 = b0
 rotate_left
 ·simp [h0]
 subst h0
 try simp
 refine aa.pure (EW a1 b1 (by omega)) (by simp) ?_;simp;by_cases h1 : a1 = b1
 rotate_left
 ·simp [h1]
 subst h1
 try simp
 refine aa.pure (ES a2 b2 (by omega)) (by simp) ?_;simp;by_cases h2 : a2 = b2
 rotate_left
 ·simp [h2]
 subst h2
 try simp
 by_cases h3 : a3 = b3
 rotate_left
 ·simp [h3]
 subst h3
 try simp
theorem y8 (x : Hub) (h : x.fits) (left : Nat) (hf : left<=2 ^ 20) : ac Tryz.prog 24 [.agg x.row,.c (vi left)] (.one (.c (vi (szR (bq x) left)) 1)):=by
 refine ai ag Tryz.func24 (by kernel_rfl) rfl rfl rfl (Nat.le_of_ble_eq_true rfl) (λw0 base=>?_);obtain ⟨f0,f1,f2,f3⟩:=h;obtain ⟨r,hr⟩ : ∃ r,szR (bq x) left = r:=⟨_,rfl⟩;rw [hr];have hn : bq x = nL bf x.docs + (nL bN x.subs):=rfl;simp [Hub.row]
 try intros
 refine aa.pure (Dm x.docs f1.1 f1.2 left (by omega)) (by simp) ?_;by_cases k0 : nL bf x.docs<=left
 rotate_left
 ·have : r = -1:=by rw [<- hr];exact aH (by omega)
  rw [aH k0];simp [this]
 rw [bu k0];obtain ⟨m0,hm0⟩ : ∃ m,left - nL bf x.docs = m:=⟨_,rfl⟩;rw [hm0];simp;refine aa.pure (Dj x.subs f2.1 f2.2 m0 (by omega)) (by simp) ?_;by_cases k1 : nL bN x.subs<=m0
 rotate_left
 ·have : r = -1:=by rw [<- hr];exact aH (by omega)
  rw [aH k1];simp [this]
 rw [bu k1];obtain ⟨m1,hm1⟩ : ∃ m,m0 - nL bN x.subs = m:=⟨_,rfl⟩;rw [hm1];have : r = (m1 : Int):=by rw [<- hr,bu (by omega)];omega
 simp [this]
theorem zT (x : Queue) (h : cJ x<=2 ^ 40) : ac Tryz.prog 170 [.agg x.row] (.one (.agg x.res)):=by
 refine ai ag Tryz.func170 (by kernel_rfl) rfl rfl rfl (Nat.le_of_ble_eq_true rfl) (λw0 base=>?_);unfold cJ at h;simp [Queue.row,Queue.res]
 try intros
 refine aa.pure (i5 x.list (by omega)) (by simp) ?_;simp
 try intros
theorem Bk (x y : Queue) (h : cJ x<=2 ^ 40) : ac Tryz.prog 178 [.agg x.row,.agg y.row] (.one (.c (vb (x = y)) 1)):=by
 refine ai ag Tryz.func178 (by kernel_rfl) rfl rfl rfl (Nat.le_of_ble_eq_true rfl) (λw0 base=>?_);unfold cJ at h;obtain ⟨a0,a1⟩:=x;obtain ⟨b0,b1⟩:=y;simp only at h;simp [Queue.row]
 try intros
 by_cases h0 : a0 = b0
 rotate_left
 ·simp [h0]
 subst h0
 try simp
 refine aa.pure (je a1 b1 (by omega)) (by simp) ?_;simp;by_cases h1 : a1 = b1
 rotate_left
 ·simp [h1]
 subst h1
 try simp
theorem z1 (x : Queue) (h : x.fits) (left : Nat) (hf : left<=2 ^ 20) : ac Tryz.prog 157 [.agg x.row,.c (vi left)] (.one (.c (vi (szR (cJ x) left)) 1)):=by
 refine ai ag Tryz.func157 (by kernel_rfl) rfl rfl rfl (Nat.le_of_ble_eq_true rfl) (λw0 base=>?_);obtain ⟨f0,f1⟩:=h;obtain ⟨r,hr⟩ : ∃ r,szR (cJ x) left = r:=⟨_,rfl⟩;rw [hr];have hn : cJ x = x.doc.size + (x.list.length):=rfl;simp [Queue.row]
 try intros
 by_cases k0 : x.doc.size<=left
 rotate_left
 ·have hw : IntKind.i64.wrap ((left : Int) - (x.doc.size : Int)) = (left : Int) - x.doc.size:=IntWalk.i64_in _ (by omega)
  have hz : (left : Int) - x.doc.size < 0:=by omega
  have : r = -1:=by rw [<- hr];exact aH (by omega)
  simp [hw,hz,this]
 obtain ⟨m0,hm0⟩ : ∃ m,left - x.doc.size = m:=⟨_,rfl⟩;have w0 : IntKind.i64.wrap ((left : Int) - (x.doc.size : Int)) = (m0 : Int):=by rw [IntWalk.i64_in _ (by omega)];omega
 simp [w0];refine aa.pure (i6 x.list f1.1 m0 (by omega)) (by simp) ?_;by_cases k1 : x.list.length<=m0
 rotate_left
 ·have : r = -1:=by rw [<- hr];exact aH (by omega)
  rw [aH k1];simp [this]
 rw [bu k1];obtain ⟨m1,hm1⟩ : ∃ m,m0 - x.list.length = m:=⟨_,rfl⟩;rw [hm1];have : r = (m1 : Int):=by rw [<- hr,bu (by omega)];omega
 simp [this]
theorem xk (l : List Queue) (hl : nL cJ l<=2 ^ 40) : ac Tryz.prog 73 [.c (.s (l.map Queue.row))] (.one (.c (.s (l.map Queue.row)) 2)):=by
 refine ai ag Tryz.func73 (by kernel_rfl) rfl rfl rfl (Nat.le_of_ble_eq_true rfl) (λw0 base=>?_);have hle:=aA hl;simp;refine ⟨by omega,λb=>?_⟩
 refine ak.intro eok (λi : Nat=>i<=l.length) (λi=>⟨23,0,[(4,.v (.int .i64 i)),(3,.sl 112 (some (b,0,l.length)) 2 0 l.length),(0,.ro (l.map Queue.row))],
  [(112,.rows (some (b,0,l.length)) 2 (go Queue.row [.v (.string ⟨#[]⟩),.s []] l i) true)]⟩) (λi=>l.length - i) 0 (by simp) (by simp [iz]) (λi hi=>?_)
 by_cases h : i < l.length
 ·simp [h,Queue.row]
  refine aa.pure (zT l[i] (ci hl h)) (by simp [Queue.row]) ?_;simp [Queue.res,dB hi,h];exact ⟨i + 1,by omega,by omega,ah (by omega),fl (f:=Queue.row) h⟩
 ·have : i = l.length:=by omega
  subst this;simp [fm,cut]
  try exact λa _=>rfl
theorem yB (a b : List Queue) (hl : nL cJ a<=2 ^ 40) : ac Tryz.prog 82 [.c (.s (a.map Queue.row)),.c (.s (b.map Queue.row))] (.one (.c (vb (a = b)) 1)):=by
 refine ai ag Tryz.func82 (by kernel_rfl) rfl rfl rfl (Nat.le_of_ble_eq_true rfl) (λw0 base=>?_);have hle:=aA hl;by_cases h : a.length = b.length
 ·simp [h]
  refine ak.intro eok (λi : Nat=>i<=a.length/\a.take i = b.take i) (λi=>⟨27,0,[(5,.v (.int .i64 i)),(1,.ro (b.map Queue.row)),(0,.ro (a.map Queue.row))],[]⟩) (λi=>a.length - i) 0 (by simp) (by simp) (λi hi=>?_);by_cases hlt : i < a.length
  ·simp [hlt]
   have hlt' : i < b.length:=by omega
   refine aD.quiet eok mix (by kernel_rfl) ?_;simp [hlt,hlt',Queue.row];refine ⟨_,_,Bk a[i] b[i] (ci hl hlt),by simp [Queue.row],?_⟩;simp;refine Br.mk (λh1=>?_) (λh1=>?_)
   ·simp
    exact ⟨i + 1,⟨by omega,bC hlt hlt' hi.2 (ee h1)⟩,by omega,ah (by omega)⟩
   ·simp [bb]
    exact en hlt hlt' (fR h1)
  ·simp [hlt,dN]
   exact bT (by omega) (by omega) hi.2
 ·have hz : ¬ (a.length : Int) = b.length:=by omega
  simp [hz,bb];exact λh2=>absurd (by rw [h2]) h
theorem xq (l : List Queue) (hl : l.length<=9223372036854775807) (hs : ∀ y∈l,y.fits) (left : Nat) (hf : left<=2 ^ 20) : ac Tryz.prog 64 [.c (.s (l.map Queue.row)),.c (vi left)] (.one (.c (vi (szR (nL cJ l) left)) 1)):=by
 refine ai ag Tryz.func64 (by kernel_rfl) rfl rfl rfl (Nat.le_of_ble_eq_true rfl) (λw0 base=>?_);have hw : IntKind.i64.wrap ((left : Int) - (l.length : Int)) = (left : Int) - l.length:=IntWalk.i64_in _ (by omega);have hn : nL cJ l = l.length + a8 cJ l:=rfl;by_cases h : l.length<=left
 ·obtain ⟨lf,hlf⟩ : ∃ lf : Nat,left - l.length = lf:=⟨_,rfl⟩
  have hlz : (left : Int) - l.length = (lf : Int):=by omega
  have hw2 : IntKind.i64.wrap (lf : Int) = lf:=co (by omega);simp [hlz,hw2];obtain ⟨r,hr⟩ : ∃ r,szR (nL cJ l) left = r:=⟨_,rfl⟩;have hr0 : szR (a8 cJ l) lf = r:=by rw [<- hr];unfold szR;split<;>split<;>omega
  rw [hr];refine ak.intro eok (λx : Nat × Nat=>x.1<=l.length/\x.2<=2 ^ 20/\szR (a8 cJ (l.drop x.1)) x.2 = r) (λx=>⟨27,0,[(5,.v (.int .i64 x.1)),(1,.v (.int .i64 x.2)),(0,.ro (l.map Queue.row))],[]⟩) (λx=>l.length - x.1) (0,lf) (by simp [hr0];omega) (by simp) ?_
  rintro ⟨i,m⟩ ⟨hi,hm,hx⟩
  simp only at hi hm hx ⊢;by_cases hlt : i < l.length
  ·rw [fW hlt] at hx
   simp [hlt,Queue.row];refine aa.pure (z1 l[i] (hs _ (List.getElem_mem hlt)) m hm) (by simp [Queue.row]) ?_;by_cases hk : cJ l[i]<=m
   ·rw [bu hk]
    have hz : ¬ ((m - cJ l[i] : Nat) : Int) < 0:=by omega
    simp [hz];refine ⟨i + 1,m - cJ l[i],⟨by omega,by omega,?_⟩,by omega,ah (by omega),rfl⟩;rw [<- hx];unfold szR;split<;>split<;>omega
   ·rw [aH (show ¬ cJ l[i] + a8 cJ (l.drop (i + 1))<=m by omega)] at hx
    rw [aH hk];simp [<- hx]
  ·have : i = l.length:=by omega
   subst this;simp only [List.drop_length,a8,szR,Nat.zero_le,if_true,Nat.sub_zero] at hx;simp [hx]
 ·have hz : (left : Int) - l.length < 0:=by omega
  simp [hw,hz,aH (show ¬ nL cJ l<=left by omega)]
theorem xo (x : Answer) (h : bK x<=2 ^ 40) : ac Tryz.prog 271 [.agg x.row] (.one (.agg x.res)):=by
 refine ai ag Tryz.func271 (by kernel_rfl) rfl rfl rfl (Nat.le_of_ble_eq_true rfl) (λw0 base=>?_);unfold bK at h;simp [Answer.row,Answer.res]
 try intros
 refine aa.pure (i5 x.text (by omega)) (by simp) ?_;simp
 try intros
 refine aa.pure (mc x.list (by omega)) (by simp) ?_;simp
 try intros
theorem yC (x y : Answer) (h : bK x<=2 ^ 40) : ac Tryz.prog 276 [.agg x.row,.agg y.row] (.one (.c (vb (x = y)) 1)):=by
 refine ai ag Tryz.func276 (by kernel_rfl) rfl rfl rfl (Nat.le_of_ble_eq_true rfl) (λw0 base=>?_);unfold bK at h;obtain ⟨a0,a1,a2,a3⟩:=x;obtain ⟨b0,b1,b2,b3⟩:=y;simp only at h;simp [Answer.row]
 try intros
 by_cases h0 : a0 = b0
 rotate_left
 ·simp [h0]
 subst h0
 try simp
 by_cases h1 : a1 = b1
 rotate_left
 ·simp [h1]
 subst h1
 try simp
 refine aa.pure (je a2 b2 (by omega)) (by simp) ?_;simp;by_cases h2 : a2 = b2
 rotate_left
 ·simp [h2]
 subst h2
 try simp
 refine aa.pure (mq a3 b3 (by omega)) (by simp) ?_;simp;by_cases h3 : a3 = b3
 rotate_left
 ·simp [h3]
 subst h3
 try simp
theorem xr (x : Answer) (h : x.fits) (left : Nat) (hf : left<=2 ^ 20) : ac Tryz.prog 259 [.agg x.row,.c (vi left)] (.one (.c (vi (szR (bK x) left)) 1)):=by
 refine ai ag Tryz.func259 (by kernel_rfl) rfl rfl rfl (Nat.le_of_ble_eq_true rfl) (λw0 base=>?_);obtain ⟨f0,f1,f2,f3⟩:=h;obtain ⟨r,hr⟩ : ∃ r,szR (bK x) left = r:=⟨_,rfl⟩;rw [hr];have hn : bK x = x.text.length + (nL am x.list):=rfl;simp [Answer.row]
 try intros
 refine aa.pure (i6 x.text f2.1 left (by omega)) (by simp) ?_;by_cases k0 : x.text.length<=left
 rotate_left
 ·have : r = -1:=by rw [<- hr];exact aH (by omega)
  rw [aH k0];simp [this]
 rw [bu k0];obtain ⟨m0,hm0⟩ : ∃ m,left - x.text.length = m:=⟨_,rfl⟩;rw [hm0];simp;refine aa.pure (md x.list f3.1 f3.2 m0 (by omega)) (by simp) ?_;by_cases k1 : nL am x.list<=m0
 rotate_left
 ·have : r = -1:=by rw [<- hr];exact aH (by omega)
  rw [aH k1];simp [this]
 rw [bu k1];obtain ⟨m1,hm1⟩ : ∃ m,m0 - nL am x.list = m:=⟨_,rfl⟩;rw [hm1];have : r = (m1 : Int):=by rw [<- hr,bu (by omega)];omega
 simp [this]
theorem Cj (x : Call) (h : db x<=2 ^ 40) : ac Tryz.prog 270 [.agg x.row] (.one (.agg x.res)):=by
 refine ai ag Tryz.func270 (by kernel_rfl) rfl rfl rfl (Nat.le_of_ble_eq_true rfl) (λw0 base=>?_);unfold db at h;simp [Call.row,Call.res]
 try intros
 refine aa.pure (sq x.o (by omega)) (by simp) ?_;simp
 try intros
 refine aa.pure (i5 x.text (by omega)) (by simp) ?_;simp
 try intros
theorem EX (x y : Call) (h : db x<=2 ^ 40) : ac Tryz.prog 275 [.agg x.row,.agg y.row] (.one (.c (vb (x = y)) 1)):=by
 refine ai ag Tryz.func275 (by kernel_rfl) rfl rfl rfl (Nat.le_of_ble_eq_true rfl) (λw0 base=>?_);unfold db at h;obtain ⟨a0,a1,a2,a3,a4,a5,a6⟩:=x;obtain ⟨b0,b1,b2,b3,b4,b5,b6⟩:=y;simp only at h;simp [Call.row]
 try intros
 by_cases h0 : a0 = b0
 rotate_left
 ·simp [h0]
 subst h0
 try simp
 by_cases h1 : a1 = b1
 rotate_left
 ·simp [h1]
 subst h1
 try simp
 by_cases h2 : a2 = b2
 rotate_left
 ·simp [h2]
 subst h2
 try simp
 by_cases h3 : a3 = b3
 rotate_left
 ·simp [h3]
 subst h3
 try simp
 by_cases h4 : a4 = b4
 rotate_left
 ·simp [h4]
 subst h4
 try simp
 refine aa.pure (tg a5 b5 (by omega)) (by simp) ?_;simp;by_cases h5 : a5 = b5
 rotate_left
 ·simp [h5]
 subst h5
 try simp
 refine aa.pure (je a6 b6 (by omega)) (by simp) ?_;simp;by_cases h6 : a6 = b6
 rotate_left
 ·simp [h6]
 subst h6
 try simp
theorem Dn (x : Call) (h : x.fits) (left : Nat) (hf : left<=2 ^ 20) : ac Tryz.prog 258 [.agg x.row,.c (vi left)] (.one (.c (vi (szR (db x) left)) 1)):=by
 refine ai ag Tryz.func258 (by kernel_rfl) rfl rfl rfl (Nat.le_of_ble_eq_true rfl) (λw0 base=>?_);obtain ⟨f0,f1,f2,f3,f4,f5,f6⟩:=h;obtain ⟨r,hr⟩ : ∃ r,szR (db x) left = r:=⟨_,rfl⟩;rw [hr];have hn : db x = x.doc.size + (nL ar x.o + (x.text.length)):=rfl;simp [Call.row]
 try intros
 by_cases k0 : x.doc.size<=left
 rotate_left
 ·have hw : IntKind.i64.wrap ((left : Int) - (x.doc.size : Int)) = (left : Int) - x.doc.size:=IntWalk.i64_in _ (by omega)
  have hz : (left : Int) - x.doc.size < 0:=by omega
  have : r = -1:=by rw [<- hr];exact aH (by omega)
  simp [hw,hz,this]
 obtain ⟨m0,hm0⟩ : ∃ m,left - x.doc.size = m:=⟨_,rfl⟩;have w0 : IntKind.i64.wrap ((left : Int) - (x.doc.size : Int)) = (m0 : Int):=by rw [IntWalk.i64_in _ (by omega)];omega
 simp [w0];refine aa.pure (su x.o f5.1 f5.2 m0 (by omega)) (by simp) ?_;by_cases k1 : nL ar x.o<=m0
 rotate_left
 ·have : r = -1:=by rw [<- hr];exact aH (by omega)
  rw [aH k1];simp [this]
 rw [bu k1];obtain ⟨m1,hm1⟩ : ∃ m,m0 - nL ar x.o = m:=⟨_,rfl⟩;rw [hm1];simp;refine aa.pure (i6 x.text f6.1 m1 (by omega)) (by simp) ?_;by_cases k2 : x.text.length<=m1
 rotate_left
 ·have : r = -1:=by rw [<- hr];exact aH (by omega)
  rw [aH k2];simp [this]
 rw [bu k2];obtain ⟨m2,hm2⟩ : ∃ m,m1 - x.text.length = m:=⟨_,rfl⟩;rw [hm2];have : r = (m2 : Int):=by rw [<- hr,bu (by omega)];omega
 simp [this]
theorem Cd (x : Task) (h : da x<=2 ^ 36) : ac Tryz.prog 171 [.agg x.row] (.one (.agg x.res)):=by
 refine ai ag Tryz.func171 (by kernel_rfl) rfl rfl rfl (Nat.le_of_ble_eq_true rfl) (λw0 base=>?_);unfold da at h;simp [Task.row,Task.res]
 try intros
 refine aa.pure (Cj x.c (by omega)) (by simp [Call.row]) ?_;simp [Call.res]
 try intros
 refine aa.pure (xo x.a (by omega)) (by simp [Answer.row]) ?_;simp [Answer.res]
 try intros
theorem ER (x y : Task) (h : da x<=2 ^ 36) : ac Tryz.prog 179 [.agg x.row,.agg y.row] (.one (.c (vb (x = y)) 1)):=by
 refine ai ag Tryz.func179 (by kernel_rfl) rfl rfl rfl (Nat.le_of_ble_eq_true rfl) (λw0 base=>?_);unfold da at h;obtain ⟨a0,a1,a2,a3,a4,a5⟩:=x;obtain ⟨b0,b1,b2,b3,b4,b5⟩:=y;simp only at h;simp [Task.row]
 try intros
 refine aa.pure (EX a0 b0 (by omega)) (by simp [Call.row]) ?_;simp;by_cases h0 : a0 = b0
 rotate_left
 ·simp [h0]
 subst h0
 try simp
 by_cases h1 : a1 = b1
 rotate_left
 ·simp [h1]
 subst h1
 try simp
 by_cases h2 : a2 = b2
 rotate_left
 ·simp [h2]
 subst h2
 try simp
 by_cases h3 : a3 = b3
 rotate_left
 ·simp [h3]
 subst h3
 try simp
 by_cases h4 : a4 = b4
 rotate_left
 ·simp [h4]
 subst h4
 try simp
 refine aa.pure (yC a5 b5 (by omega)) (by simp [Answer.row]) ?_;simp;by_cases h5 : a5 = b5
 rotate_left
 ·simp [h5]
 subst h5
 try simp
theorem Di (x : Task) (h : x.fits) (left : Nat) (hf : left<=2 ^ 20) : ac Tryz.prog 158 [.agg x.row,.c (vi left)] (.one (.c (vi (szR (da x) left)) 1)):=by
 refine ai ag Tryz.func158 (by kernel_rfl) rfl rfl rfl (Nat.le_of_ble_eq_true rfl) (λw0 base=>?_);obtain ⟨f0,f1,f2,f3,f4,f5⟩:=h;obtain ⟨r,hr⟩ : ∃ r,szR (da x) left = r:=⟨_,rfl⟩;rw [hr];have hn : da x = db x.c + (bK x.a):=rfl;simp [Task.row]
 try intros
 refine aa.pure (Dn x.c f0 left (by omega)) (by simp [Call.row]) ?_;by_cases k0 : db x.c<=left
 rotate_left
 ·have : r = -1:=by rw [<- hr];exact aH (by omega)
  rw [aH k0];simp [this]
 rw [bu k0];obtain ⟨m0,hm0⟩ : ∃ m,left - db x.c = m:=⟨_,rfl⟩;rw [hm0];simp;refine aa.pure (xr x.a f5 m0 (by omega)) (by simp [Answer.row]) ?_;by_cases k1 : bK x.a<=m0
 rotate_left
 ·have : r = -1:=by rw [<- hr];exact aH (by omega)
  rw [aH k1];simp [this]
 rw [bu k1];obtain ⟨m1,hm1⟩ : ∃ m,m0 - bK x.a = m:=⟨_,rfl⟩;rw [hm1];have : r = (m1 : Int):=by rw [<- hr,bu (by omega)];omega
 simp [this]
theorem zR (l : List Task) (hl : nL da l<=2 ^ 36) : ac Tryz.prog 74 [.c (.s (l.map Task.row))] (.one (.c (.s (l.map Task.row)) 15)):=by
 refine ai ag Tryz.func74 (by kernel_rfl) rfl rfl rfl (Nat.le_of_ble_eq_true rfl) (λw0 base=>?_);have hle:=aA hl;simp;refine ⟨by omega,λb=>?_⟩
 refine ak.intro eok (λi : Nat=>i<=l.length) (λi=>⟨23,0,[(4,.v (.int .i64 i)),(3,.sl 112 (some (b,0,l.length)) 15 0 l.length),(0,.ro (l.map Task.row))],
  [(112,.rows (some (b,0,l.length)) 15 (go Task.row [.v (.int .i64 0),.v (.string ⟨#[]⟩),.v (.int .i64 0),.v (.int .i64 0),.v (.int .i64 0),.s [],.s [],.v (.int .i64 0),.v (.int .i64 0),.v (.int .i64 0),.v (.int .i64 0),.v (.int .i64 0),.v (.int .i64 0),.s [],.s []] l i) true)]⟩) (λi=>l.length - i) 0 (by simp) (by simp [iz]) (λi hi=>?_)
 by_cases h : i < l.length
 ·simp [h,Task.row]
  refine aa.pure (Cd l[i] (ci hl h)) (by simp [Task.row]) ?_;simp [Task.res,dB hi,h];exact ⟨i + 1,by omega,by omega,ah (by omega),fl (f:=Task.row) h⟩
 ·have : i = l.length:=by omega
  subst this;simp [fm,cut]
  try exact λa _=>rfl
theorem Bi (a b : List Task) (hl : nL da a<=2 ^ 36) : ac Tryz.prog 83 [.c (.s (a.map Task.row)),.c (.s (b.map Task.row))] (.one (.c (vb (a = b)) 1)):=by
 refine ai ag Tryz.func83 (by kernel_rfl) rfl rfl rfl (Nat.le_of_ble_eq_true rfl) (λw0 base=>?_);have hle:=aA hl;by_cases h : a.length = b.length
 ·simp [h]
  refine ak.intro eok (λi : Nat=>i<=a.length/\a.take i = b.take i) (λi=>⟨27,0,[(5,.v (.int .i64 i)),(1,.ro (b.map Task.row)),(0,.ro (a.map Task.row))],[]⟩) (λi=>a.length - i) 0 (by simp) (by simp) (λi hi=>?_);by_cases hlt : i < a.length
  ·simp [hlt]
   have hlt' : i < b.length:=by omega
   refine aD.quiet eok mix (by kernel_rfl) ?_;simp [hlt,hlt',Task.row];refine ⟨_,_,ER a[i] b[i] (ci hl hlt),by simp [Task.row],?_⟩;simp;refine Br.mk (λh1=>?_) (λh1=>?_)
   ·simp
    exact ⟨i + 1,⟨by omega,bC hlt hlt' hi.2 (ee h1)⟩,by omega,ah (by omega)⟩
   ·simp [bb]
    exact en hlt hlt' (fR h1)
  ·simp [hlt,dN]
   exact bT (by omega) (by omega) hi.2
 ·have hz : ¬ (a.length : Int) = b.length:=by omega
  simp [hz,bb];exact λh2=>absurd (by rw [h2]) h
theorem zY (l : List Task) (hl : l.length<=9223372036854775807) (hs : ∀ y∈l,y.fits) (left : Nat) (hf : left<=2 ^ 20) : ac Tryz.prog 65 [.c (.s (l.map Task.row)),.c (vi left)] (.one (.c (vi (szR (nL da l) left)) 1)):=by
 refine ai ag Tryz.func65 (by kernel_rfl) rfl rfl rfl (Nat.le_of_ble_eq_true rfl) (λw0 base=>?_);have hw : IntKind.i64.wrap ((left : Int) - (l.length : Int)) = (left : Int) - l.length:=IntWalk.i64_in _ (by omega);have hn : nL da l = l.length + a8 da l:=rfl;by_cases h : l.length<=left
 ·obtain ⟨lf,hlf⟩ : ∃ lf : Nat,left - l.length = lf:=⟨_,rfl⟩
  have hlz : (left : Int) - l.length = (lf : Int):=by omega
  have hw2 : IntKind.i64.wrap (lf : Int) = lf:=co (by omega);simp [hlz,hw2];obtain ⟨r,hr⟩ : ∃ r,szR (nL da l) left = r:=⟨_,rfl⟩;have hr0 : szR (a8 da l) lf = r:=by rw [<- hr];unfold szR;split<;>split<;>omega
  rw [hr];refine ak.intro eok (λx : Nat × Nat=>x.1<=l.length/\x.2<=2 ^ 20/\szR (a8 da (l.drop x.1)) x.2 = r) (λx=>⟨27,0,[(5,.v (.int .i64 x.1)),(1,.v (.int .i64 x.2)),(0,.ro (l.map Task.row))],[]⟩) (λx=>l.length - x.1) (0,lf) (by simp [hr0];omega) (by simp) ?_
  rintro ⟨i,m⟩ ⟨hi,hm,hx⟩
  simp only at hi hm hx ⊢;by_cases hlt : i < l.length
  ·rw [fW hlt] at hx
   simp [hlt,Task.row];refine aa.pure (Di l[i] (hs _ (List.getElem_mem hlt)) m hm) (by simp [Task.row]) ?_;by_cases hk : da l[i]<=m
   ·rw [bu hk]
    have hz : ¬ ((m - da l[i] : Nat) : Int) < 0:=by omega
    simp [hz];refine ⟨i + 1,m - da l[i],⟨by omega,by omega,?_⟩,by omega,ah (by omega),rfl⟩;rw [<- hx];unfold szR;split<;>split<;>omega
   ·rw [aH (show ¬ da l[i] + a8 da (l.drop (i + 1))<=m by omega)] at hx
    rw [aH hk];simp [<- hx]
  ·have : i = l.length:=by omega
   subst this;simp only [List.drop_length,a8,szR,Nat.zero_le,if_true,Nat.sub_zero] at hx;simp [hx]
 ·have hz : (left : Int) - l.length < 0:=by omega
  simp [hw,hz,aH (show ¬ nL da l<=left by omega)]
theorem nI (x : Wld) (h : cI x<=2 ^ 36) : ac Tryz.prog 14 [.agg x.row] (.one (.agg x.res)):=by
 refine ai ag Tryz.func14 (by kernel_rfl) rfl rfl rfl (Nat.le_of_ble_eq_true rfl) (λw0 base=>?_);unfold cI at h;simp [Wld.row,Wld.res]
 try intros
 refine aa.pure (pr x.h (by omega)) (by simp [Hub.row]) ?_;simp [Hub.res]
 try intros
 refine aa.pure (i5 x.locks (by omega)) (by simp) ?_;simp
 try intros
 refine aa.pure (xk x.queues (by omega)) (by simp) ?_;simp
 try intros
 refine aa.pure (zR x.tasks (by omega)) (by simp) ?_;simp
 try intros
theorem Bh (x y : Wld) (h : cI x<=2 ^ 36) : ac Tryz.prog 16 [.agg x.row,.agg y.row] (.one (.c (vb (x = y)) 1)):=by
 refine ai ag Tryz.func16 (by kernel_rfl) rfl rfl rfl (Nat.le_of_ble_eq_true rfl) (λw0 base=>?_);unfold cI at h;obtain ⟨a0,a1,a2,a3,a4⟩:=x;obtain ⟨b0,b1,b2,b3,b4⟩:=y;simp only at h;simp [Wld.row]
 try intros
 refine aa.pure (zH a0 b0 (by omega)) (by simp [Hub.row]) ?_;simp;by_cases h0 : a0 = b0
 rotate_left
 ·simp [h0]
 subst h0
 try simp
 refine aa.pure (je a1 b1 (by omega)) (by simp) ?_;simp;by_cases h1 : a1 = b1
 rotate_left
 ·simp [h1]
 subst h1
 try simp
 refine aa.pure (yB a2 b2 (by omega)) (by simp) ?_;simp;by_cases h2 : a2 = b2
 rotate_left
 ·simp [h2]
 subst h2
 try simp
 refine aa.pure (Bi a3 b3 (by omega)) (by simp) ?_;simp;by_cases h3 : a3 = b3
 rotate_left
 ·simp [h3]
 subst h3
 try simp
 by_cases h4 : a4 = b4
 rotate_left
 ·simp [h4]
 subst h4
 try simp
theorem zX (x : Wld) (h : x.fits) (left : Nat) (hf : left<=2 ^ 20) : ac Tryz.prog 12 [.agg x.row,.c (vi left)] (.one (.c (vi (szR (cI x) left)) 1)):=by
 refine ai ag Tryz.func12 (by kernel_rfl) rfl rfl rfl (Nat.le_of_ble_eq_true rfl) (λw0 base=>?_);obtain ⟨f0,f1,f2,f3,f4⟩:=h;obtain ⟨r,hr⟩ : ∃ r,szR (cI x) left = r:=⟨_,rfl⟩;rw [hr];have hn : cI x = bq x.h + (x.locks.length + (nL cJ x.queues + (nL da x.tasks))):=rfl;simp [Wld.row]
 try intros
 refine aa.pure (y8 x.h f0 left (by omega)) (by simp [Hub.row]) ?_;by_cases k0 : bq x.h<=left
 rotate_left
 ·have : r = -1:=by rw [<- hr];exact aH (by omega)
  rw [aH k0];simp [this]
 rw [bu k0];obtain ⟨m0,hm0⟩ : ∃ m,left - bq x.h = m:=⟨_,rfl⟩;rw [hm0];simp;refine aa.pure (i6 x.locks f1.1 m0 (by omega)) (by simp) ?_;by_cases k1 : x.locks.length<=m0
 rotate_left
 ·have : r = -1:=by rw [<- hr];exact aH (by omega)
  rw [aH k1];simp [this]
 rw [bu k1];obtain ⟨m1,hm1⟩ : ∃ m,m0 - x.locks.length = m:=⟨_,rfl⟩;rw [hm1];simp;refine aa.pure (xq x.queues f2.1 f2.2 m1 (by omega)) (by simp) ?_;by_cases k2 : nL cJ x.queues<=m1
 rotate_left
 ·have : r = -1:=by rw [<- hr];exact aH (by omega)
  rw [aH k2];simp [this]
 rw [bu k2];obtain ⟨m2,hm2⟩ : ∃ m,m1 - nL cJ x.queues = m:=⟨_,rfl⟩;rw [hm2];simp;refine aa.pure (zY x.tasks f3.1 f3.2 m2 (by omega)) (by simp) ?_;by_cases k3 : nL da x.tasks<=m2
 rotate_left
 ·have : r = -1:=by rw [<- hr];exact aH (by omega)
  rw [aH k3];simp [this]
 rw [bu k3];obtain ⟨m3,hm3⟩ : ∃ m,m2 - nL da x.tasks = m:=⟨_,rfl⟩;rw [hm3];have : r = (m3 : Int):=by rw [<- hr,bu (by omega)];omega
 simp [this]
set_option maxHeartbeats 1600000
def Qd (s : ByteArray) : List CD:=[.v (.string s)]
@[simp] theorem Nq (s : ByteArray) : (Qd s).length = 1:=rfl
open Go.AM Go.ChangeShapes Go.WideShapes Go.ChangeAt Go.RowKit
theorem own : ownKnob Tryz.prog.godebug = none:=by kernel_rfl
theorem Qr : laidOutB Tryz.prog = true:=by kernel_rfl
theorem bL {D : Nat} {ds : List CD} (h : cY Tryz.prog D 3 ds) : ∃ n : Int,ds = [vi n]/\dV n:=by
 obtain ⟨n,h1,h2⟩:=EG Tryz.underlying3 h;exact ⟨n,h1,Is h2⟩
theorem mL : maxLen = 9223372036854775807:=rfl
theorem gT {D : Nat} {ds : List CD} (h : cY Tryz.prog D 26 ds) : ∃ l : List Int,ds = [.s (l.map al)]/\l.length<=9223372036854775807/\∀ n∈l,dV n:=by
 obtain ⟨rows,rfl,h1,D',h2⟩:=eD Tryz.underlying26 h;obtain ⟨l,rfl,hl⟩:=fG (f:=al) (ok:=dV) rows (λrow hrow=>bL (h2 row hrow).2);exact ⟨l,rfl,by simpa [mL] using h1,hl⟩
theorem Fg : Tryz.prog.cellsOf 354 = 3:=by kernel_rfl
theorem DX {α : Type} {l : List α} (h : l.length = 3) : ∃ x0 x1 x2,l = [x0,x1,x2]:=by
 match l,h with
 | [x0,x1,x2],_=>exact ⟨x0,x1,x2,rfl⟩
theorem ij : Tryz.prog.cellsOf 3 = 1:=by kernel_rfl
theorem lE : Tryz.prog.cellsOf 26 = 1:=by kernel_rfl
theorem Bc {D : Nat} {ds : List CD} (h : cY Tryz.prog D 354 ds) : ∃ x : Part,ds = x.row/\x.fits:=by
 obtain ⟨hl,D',hf⟩:=ce Tryz.underlying354 h;rw [Fg] at hl;obtain ⟨d0,d1,d2,rfl⟩:=DX hl;simp [ij,lE] at hf;obtain ⟨h0,h1,h2⟩:=hf;obtain ⟨n0,e0,k0⟩:=bL h0;simp at e0;subst e0;obtain ⟨n1,e1,k1⟩:=bL h1;simp at e1;subst e1;obtain ⟨n2,e2,k2⟩:=gT h2;simp at e2;subst e2;exact ⟨⟨n0,n1,n2⟩,rfl,k0,k1,k2⟩
theorem qB {D : Nat} {ds : List CD} (h : cY Tryz.prog D 203 ds) : ∃ l : List Part,ds = [.s (l.map Part.row)]/\l.length<=9223372036854775807/\∀ y∈l,y.fits:=by
 obtain ⟨rows,rfl,h1,D',h2⟩:=eD Tryz.underlying203 h;obtain ⟨l,rfl,hl⟩:=fG (f:=Part.row) (ok:=Part.fits) rows (λrow hrow=>Bc (h2 row hrow).2);exact ⟨l,rfl,by simpa [mL] using h1,hl⟩
theorem Fi : Tryz.prog.cellsOf 337 = 3:=by kernel_rfl
theorem wM : Tryz.prog.cellsOf 203 = 1:=by kernel_rfl
theorem yv {D : Nat} {ds : List CD} (h : cY Tryz.prog D 337 ds) : ∃ x : Entry,ds = x.row/\x.fits:=by
 obtain ⟨hl,D',hf⟩:=ce Tryz.underlying337 h;rw [Fi] at hl;obtain ⟨d0,d1,d2,rfl⟩:=DX hl;simp [ij,wM] at hf;obtain ⟨h0,h1,h2⟩:=hf;obtain ⟨n0,e0,k0⟩:=bL h0;simp at e0;subst e0;obtain ⟨n1,e1,k1⟩:=bL h1;simp at e1;subst e1;obtain ⟨n2,e2,k2⟩:=qB h2;simp at e2;subst e2;exact ⟨⟨n0,n1,n2⟩,rfl,k0,k1,k2⟩
theorem kF {D : Nat} {ds : List CD} (h : cY Tryz.prog D 206 ds) : ∃ l : List Entry,ds = [.s (l.map Entry.row)]/\l.length<=9223372036854775807/\∀ y∈l,y.fits:=by
 obtain ⟨rows,rfl,h1,D',h2⟩:=eD Tryz.underlying206 h;obtain ⟨l,rfl,hl⟩:=fG (f:=Entry.row) (ok:=Entry.fits) rows (λrow hrow=>yv (h2 row hrow).2);exact ⟨l,rfl,by simpa [mL] using h1,hl⟩
theorem Fh : Tryz.prog.cellsOf 341 = 3:=by kernel_rfl
theorem Ba {D : Nat} {ds : List CD} (h : cY Tryz.prog D 341 ds) : ∃ x : Seen,ds = x.row/\x.fits:=by
 obtain ⟨hl,D',hf⟩:=ce Tryz.underlying341 h;rw [Fh] at hl;obtain ⟨d0,d1,d2,rfl⟩:=DX hl;simp [ij] at hf;obtain ⟨h0,h1,h2⟩:=hf;obtain ⟨n0,e0,k0⟩:=bL h0;simp at e0;subst e0;obtain ⟨n1,e1,k1⟩:=bL h1;simp at e1;subst e1;obtain ⟨n2,e2,k2⟩:=bL h2;simp at e2;subst e2;exact ⟨⟨n0,n1,n2⟩,rfl,k0,k1,k2⟩
theorem yt {D : Nat} {ds : List CD} (h : cY Tryz.prog D 225 ds) : ∃ l : List Seen,ds = [.s (l.map Seen.row)]/\l.length<=9223372036854775807/\∀ y∈l,y.fits:=by
 obtain ⟨rows,rfl,h1,D',h2⟩:=eD Tryz.underlying225 h;obtain ⟨l,rfl,hl⟩:=fG (f:=Seen.row) (ok:=Seen.fits) rows (λrow hrow=>Ba (h2 row hrow).2);exact ⟨l,rfl,by simpa [mL] using h1,hl⟩
theorem Fk : Tryz.prog.cellsOf 227 = 5:=by kernel_rfl
theorem NM {α : Type} {l : List α} (h : l.length = 5) : ∃ x0 x1 x2 x3 x4,l = [x0,x1,x2,x3,x4]:=by
 match l,h with
 | [x0,x1,x2,x3,x4],_=>exact ⟨x0,x1,x2,x3,x4,rfl⟩
theorem uU : Tryz.prog.cellsOf 9 = 1:=by kernel_rfl
theorem q4 : Tryz.prog.cellsOf 206 = 1:=by kernel_rfl
theorem Fl : Tryz.prog.cellsOf 225 = 1:=by kernel_rfl
theorem EI {D : Nat} {ds : List CD} (h : cY Tryz.prog D 227 ds) : ∃ x : Doc,ds = x.row/\x.fits:=by
 obtain ⟨hl,D',hf⟩:=ce Tryz.underlying227 h;rw [Fk] at hl;obtain ⟨d0,d1,d2,d3,d4,rfl⟩:=NM hl;simp [ij,uU,lE,q4,Fl] at hf;obtain ⟨h0,h1,h2,h3,h4⟩:=hf;obtain ⟨n0,e0,k0⟩:=iy Tryz.underlying9 h0;simp at e0;subst e0;obtain ⟨n1,e1,k1⟩:=bL h1;simp at e1;subst e1;obtain ⟨n2,e2,k2⟩:=gT h2;simp at e2;subst e2;obtain ⟨n3,e3,k3⟩:=kF h3;simp at e3;subst e3;obtain ⟨n4,e4,k4⟩:=yt h4;simp at e4;subst e4;exact ⟨⟨n0,n1,n2,n3,n4⟩,rfl,(by rw [mL] at k0;exact k0),k1,k2,k3,k4⟩
theorem Bd {D : Nat} {ds : List CD} (h : cY Tryz.prog D 22 ds) : ∃ l : List Doc,ds = [.s (l.map Doc.row)]/\l.length<=9223372036854775807/\∀ y∈l,y.fits:=by
 obtain ⟨rows,rfl,h1,D',h2⟩:=eD Tryz.underlying22 h;obtain ⟨l,rfl,hl⟩:=fG (f:=Doc.row) (ok:=Doc.fits) rows (λrow hrow=>EI (h2 row hrow).2);exact ⟨l,rfl,by simpa [mL] using h1,hl⟩
theorem wJ : Tryz.prog.cellsOf 230 = 4:=by kernel_rfl
theorem DW {α : Type} {l : List α} (h : l.length = 4) : ∃ x0 x1 x2 x3,l = [x0,x1,x2,x3]:=by
 match l,h with
 | [x0,x1,x2,x3],_=>exact ⟨x0,x1,x2,x3,rfl⟩
theorem Ff : Tryz.prog.cellsOf 4 = 1:=by kernel_rfl
theorem Bb {D : Nat} {ds : List CD} (h : cY Tryz.prog D 230 ds) : ∃ x : Ring,ds = x.row/\x.fits:=by
 obtain ⟨hl,D',hf⟩:=ce Tryz.underlying230 h;rw [wJ] at hl;obtain ⟨d0,d1,d2,d3,rfl⟩:=DW hl;simp [ij,Ff,q4] at hf;obtain ⟨h0,h1,h2,h3⟩:=hf;obtain ⟨n0,e0,k0⟩:=bL h0;simp at e0;subst e0;obtain ⟨n1,e1,k1⟩:=bL h1;simp at e1;subst e1;obtain ⟨n2,e2⟩:=ta Tryz.underlying4 h2;simp at e2;subst e2;obtain ⟨n3,e3,k3⟩:=kF h3;simp at e3;subst e3;exact ⟨⟨n0,n1,n2,n3⟩,rfl,k0,k1,trivial,k3⟩
theorem Fj : Tryz.prog.cellsOf 232 = 6:=by kernel_rfl
theorem NL {α : Type} {l : List α} (h : l.length = 6) : ∃ x0 x1 x2 x3 x4 x5,l = [x0,x1,x2,x3,x4,x5]:=by
 match l,h with
 | [x0,x1,x2,x3,x4,x5],_=>exact ⟨x0,x1,x2,x3,x4,x5,rfl⟩
theorem EH {D : Nat} {ds : List CD} (h : cY Tryz.prog D 232 ds) : ∃ x : Sub,ds = x.row/\x.fits:=by
 obtain ⟨hl,D',hf⟩:=ce Tryz.underlying232 h;rw [Fj] at hl;obtain ⟨d0,d1,d2,d3,d4,d5,rfl⟩:=NL hl;simp [ij,uU,wJ] at hf;obtain ⟨h0,h1,h2⟩:=hf;obtain ⟨n0,e0,k0⟩:=bL h0;simp at e0;subst e0;obtain ⟨n1,e1,k1⟩:=iy Tryz.underlying9 h1;simp at e1;subst e1;obtain ⟨n2,e2,k2⟩:=Bb h2;simp [Ring.row] at e2;obtain ⟨e2_0,e2_1,e2_2,e2_3⟩:=e2;subst e2_0 e2_1 e2_2 e2_3;exact ⟨⟨n0,n1,n2⟩,rfl,k0,(by rw [mL] at k1;exact k1),k2⟩
theorem A9 {D : Nat} {ds : List CD} (h : cY Tryz.prog D 23 ds) : ∃ l : List Sub,ds = [.s (l.map Sub.row)]/\l.length<=9223372036854775807/\∀ y∈l,y.fits:=by
 obtain ⟨rows,rfl,h1,D',h2⟩:=eD Tryz.underlying23 h;obtain ⟨l,rfl,hl⟩:=fG (f:=Sub.row) (ok:=Sub.fits) rows (λrow hrow=>EH (h2 row hrow).2);exact ⟨l,rfl,by simpa [mL] using h1,hl⟩
theorem uV : Tryz.prog.cellsOf 25 = 4:=by kernel_rfl
theorem Ho : Tryz.prog.cellsOf 22 = 1:=by kernel_rfl
theorem Hn : Tryz.prog.cellsOf 23 = 1:=by kernel_rfl
theorem wt {D : Nat} {ds : List CD} (h : cY Tryz.prog D 25 ds) : ∃ x : Hub,ds = x.row/\x.fits:=by
 obtain ⟨hl,D',hf⟩:=ce Tryz.underlying25 h;rw [uV] at hl;obtain ⟨d0,d1,d2,d3,rfl⟩:=DW hl;simp [ij,Ff,Ho,Hn] at hf;obtain ⟨h0,h1,h2,h3⟩:=hf;obtain ⟨n0,e0⟩:=ta Tryz.underlying4 h0;simp at e0;subst e0;obtain ⟨n1,e1,k1⟩:=Bd h1;simp at e1;subst e1;obtain ⟨n2,e2,k2⟩:=A9 h2;simp at e2;subst e2;obtain ⟨n3,e3,k3⟩:=bL h3;simp at e3;subst e3;exact ⟨⟨n0,n1,n2,n3⟩,rfl,trivial,k1,k2,k3⟩
theorem wL : Tryz.prog.cellsOf 205 = 7:=by kernel_rfl
theorem NK {α : Type} {l : List α} (h : l.length = 7) : ∃ x0 x1 x2 x3 x4 x5 x6,l = [x0,x1,x2,x3,x4,x5,x6]:=by
 match l,h with
 | [x0,x1,x2,x3,x4,x5,x6],_=>exact ⟨x0,x1,x2,x3,x4,x5,x6,rfl⟩
theorem Be {D : Nat} {ds : List CD} (h : cY Tryz.prog D 205 ds) : ∃ x : Call,ds = x.row/\x.fits:=by
 obtain ⟨hl,D',hf⟩:=ce Tryz.underlying205 h;rw [wL] at hl;obtain ⟨d0,d1,d2,d3,d4,d5,d6,rfl⟩:=NK hl;simp [ij,uU,lE,wM] at hf;obtain ⟨h0,h1,h2,h3,h4,h5,h6⟩:=hf;obtain ⟨n0,e0,k0⟩:=bL h0;simp at e0;subst e0;obtain ⟨n1,e1,k1⟩:=iy Tryz.underlying9 h1;simp at e1;subst e1;obtain ⟨n2,e2,k2⟩:=bL h2;simp at e2;subst e2;obtain ⟨n3,e3,k3⟩:=bL h3;simp at e3;subst e3;obtain ⟨n4,e4,k4⟩:=bL h4;simp at e4;subst e4;obtain ⟨n5,e5,k5⟩:=qB h5;simp at e5;subst e5;obtain ⟨n6,e6,k6⟩:=gT h6;simp at e6;subst e6;exact ⟨⟨n0,n1,n2,n3,n4,n5,n6⟩,rfl,k0,(by rw [mL] at k1;exact k1),k2,k3,k4,k5,k6⟩
theorem wK : Tryz.prog.cellsOf 208 = 4:=by kernel_rfl
theorem wu {D : Nat} {ds : List CD} (h : cY Tryz.prog D 208 ds) : ∃ x : Answer,ds = x.row/\x.fits:=by
 obtain ⟨hl,D',hf⟩:=ce Tryz.underlying208 h;rw [wK] at hl;obtain ⟨d0,d1,d2,d3,rfl⟩:=DW hl;simp [ij,lE,q4] at hf;obtain ⟨h0,h1,h2,h3⟩:=hf;obtain ⟨n0,e0,k0⟩:=bL h0;simp at e0;subst e0;obtain ⟨n1,e1,k1⟩:=bL h1;simp at e1;subst e1;obtain ⟨n2,e2,k2⟩:=gT h2;simp at e2;subst e2;obtain ⟨n3,e3,k3⟩:=kF h3;simp at e3;subst e3;exact ⟨⟨n0,n1,n2,n3⟩,rfl,k0,k1,k2,k3⟩
theorem Fm : Tryz.prog.cellsOf 210 = 15:=by kernel_rfl
theorem KB {α : Type} {l : List α} (h : l.length = 15) : ∃ x0 x1 x2 x3 x4 x5 x6 x7 x8 x9 x10 x11 x12 x13 x14,l = [x0,x1,x2,x3,x4,x5,x6,x7,x8,x9,x10,x11,x12,x13,x14]:=by
 match l,h with
 | [x0,x1,x2,x3,x4,x5,x6,x7,x8,x9,x10,x11,x12,x13,x14],_=>exact ⟨x0,x1,x2,x3,x4,x5,x6,x7,x8,x9,x10,x11,x12,x13,x14,rfl⟩
theorem A8 {D : Nat} {ds : List CD} (h : cY Tryz.prog D 210 ds) : ∃ x : Task,ds = x.row/\x.fits:=by
 obtain ⟨hl,D',hf⟩:=ce Tryz.underlying210 h;rw [Fm] at hl;obtain ⟨d0,d1,d2,d3,d4,d5,d6,d7,d8,d9,d10,d11,d12,d13,d14,rfl⟩:=KB hl;simp [ij,wL,wK] at hf;obtain ⟨h0,h1,h2,h3,h4,h5⟩:=hf;obtain ⟨n0,e0,k0⟩:=Be h0;simp [Call.row] at e0;obtain ⟨e0_0,e0_1,e0_2,e0_3,e0_4,e0_5,e0_6⟩:=e0;subst e0_0 e0_1 e0_2 e0_3 e0_4 e0_5 e0_6;obtain ⟨n1,e1,k1⟩:=bL h1;simp at e1;subst e1;obtain ⟨n2,e2,k2⟩:=bL h2;simp at e2;subst e2;obtain ⟨n3,e3,k3⟩:=bL h3;simp at e3;subst e3;obtain ⟨n4,e4,k4⟩:=bL h4;simp at e4;subst e4;obtain ⟨n5,e5,k5⟩:=wu h5;simp [Answer.row] at e5;obtain ⟨e5_0,e5_1,e5_2,e5_3⟩:=e5;subst e5_0 e5_1 e5_2 e5_3;exact ⟨⟨n0,n1,n2,n3,n4,n5⟩,rfl,k0,k1,k2,k3,k4,k5⟩
theorem yr {D : Nat} {ds : List CD} (h : cY Tryz.prog D 28 ds) : ∃ l : List Task,ds = [.s (l.map Task.row)]/\l.length<=9223372036854775807/\∀ y∈l,y.fits:=by
 obtain ⟨rows,rfl,h1,D',h2⟩:=eD Tryz.underlying28 h;obtain ⟨l,rfl,hl⟩:=fG (f:=Task.row) (ok:=Task.fits) rows (λrow hrow=>A8 (h2 row hrow).2);exact ⟨l,rfl,by simpa [mL] using h1,hl⟩
theorem Fn : Tryz.prog.cellsOf 201 = 2:=by kernel_rfl
theorem NN {α : Type} {l : List α} (h : l.length = 2) : ∃ x0 x1,l = [x0,x1]:=by
 match l,h with
 | [x0,x1],_=>exact ⟨x0,x1,rfl⟩
theorem yu {D : Nat} {ds : List CD} (h : cY Tryz.prog D 201 ds) : ∃ x : Queue,ds = x.row/\x.fits:=by
 obtain ⟨hl,D',hf⟩:=ce Tryz.underlying201 h;rw [Fn] at hl;obtain ⟨d0,d1,rfl⟩:=NN hl;simp [uU,lE] at hf;obtain ⟨h0,h1⟩:=hf;obtain ⟨n0,e0,k0⟩:=iy Tryz.underlying9 h0;simp at e0;subst e0;obtain ⟨n1,e1,k1⟩:=gT h1;simp at e1;subst e1;exact ⟨⟨n0,n1⟩,rfl,(by rw [mL] at k0;exact k0),k1⟩
theorem ws {D : Nat} {ds : List CD} (h : cY Tryz.prog D 27 ds) : ∃ l : List Queue,ds = [.s (l.map Queue.row)]/\l.length<=9223372036854775807/\∀ y∈l,y.fits:=by
 obtain ⟨rows,rfl,h1,D',h2⟩:=eD Tryz.underlying27 h;obtain ⟨l,rfl,hl⟩:=fG (f:=Queue.row) (ok:=Queue.fits) rows (λrow hrow=>yu (h2 row hrow).2);exact ⟨l,rfl,by simpa [mL] using h1,hl⟩
theorem zM : Tryz.prog.cellsOf 30 = 8:=by kernel_rfl
theorem NJ {α : Type} {l : List α} (h : l.length = 8) : ∃ x0 x1 x2 x3 x4 x5 x6 x7,l = [x0,x1,x2,x3,x4,x5,x6,x7]:=by
 match l,h with
 | [x0,x1,x2,x3,x4,x5,x6,x7],_=>exact ⟨x0,x1,x2,x3,x4,x5,x6,x7,rfl⟩
theorem Hm : Tryz.prog.cellsOf 27 = 1:=by kernel_rfl
theorem Hk : Tryz.prog.cellsOf 28 = 1:=by kernel_rfl
theorem yq {D : Nat} {ds : List CD} (h : cY Tryz.prog D 30 ds) : ∃ x : Wld,ds = x.row/\x.fits:=by
 obtain ⟨hl,D',hf⟩:=ce Tryz.underlying30 h;rw [zM] at hl;obtain ⟨d0,d1,d2,d3,d4,d5,d6,d7,rfl⟩:=NJ hl;simp [ij,uV,lE,Hm,Hk] at hf;obtain ⟨h0,h1,h2,h3,h4⟩:=hf;obtain ⟨n0,e0,k0⟩:=wt h0;simp [Hub.row] at e0;obtain ⟨e0_0,e0_1,e0_2,e0_3⟩:=e0;subst e0_0 e0_1 e0_2 e0_3;obtain ⟨n1,e1,k1⟩:=gT h1;simp at e1;subst e1;obtain ⟨n2,e2,k2⟩:=ws h2;simp at e2;subst e2;obtain ⟨n3,e3,k3⟩:=yr h3;simp at e3;subst e3;obtain ⟨n4,e4,k4⟩:=bL h4;simp at e4;subst e4;exact ⟨⟨n0,n1,n2,n3,n4⟩,rfl,k0,k1,k2,k3,k4⟩
theorem m8 {D : Nat} {t : TypeId} {vd : VD} {fs : Array Field} (hu : Tryz.prog.underlying t = some (.struct fs)) (hc : Tryz.prog.cellsOf t≠1) (h : xe Tryz.prog D t vd) : ∃ ds,vd = .agg ds/\cY Tryz.prog D t ds:=by
 cases vd with
 | c d =>
   have:=(ce hu h).1;exact absurd this.symm hc
 | agg ds=>exact ⟨ds,rfl,h.2⟩
end Go.Proofs.YtoldjebobgocpaaGreat
